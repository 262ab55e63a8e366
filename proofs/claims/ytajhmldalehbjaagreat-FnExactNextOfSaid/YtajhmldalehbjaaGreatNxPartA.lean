/- Merged out of smaller texts. -/
import Derived.Test.YtajhmldalehbjaaGreatCoreB
section
set_option linter.unusedVariables false
set_option linter.unusedSimpArgs false
set_option maxRecDepth 100000
namespace Go.Vx
open Go Go.Proofs Go.Shelf Go.Lib Go.RowKit
abbrev TBoundsError : Ty := .pair (.int .i64) (.pair (.int .i64) (.pair .bool (.pair (.int .u8) .unit)))
abbrev TErrorAddressString : Ty := .pair .str (.pair (.int .u64) .unit)
abbrev Entry := ByteArray × Int × Unit
abbrev TEntry : Ty := .pair .str (.pair (.int .i64) .unit)
abbrev Commit := (List Int) × (List Entry) × Unit
abbrev TCommit : Ty := .pair (.sl (.int .i64)) (.pair (.sl TEntry) .unit)
abbrev Ref := ByteArray × Int × Int × Bool × Unit
abbrev TRef : Ty := .pair .str (.pair (.int .i64) (.pair (.int .i64) (.pair .bool .unit)))
abbrev Base := (List Commit) × (List Ref) × Unit
abbrev TBase : Ty := .pair (.sl TCommit) (.pair (.sl TRef) .unit)
abbrev Edit := ByteArray × Int × Bool × Unit
abbrev TEdit : Ty := .pair .str (.pair (.int .i64) (.pair .bool .unit))
abbrev Wish := Int × ByteArray × ByteArray × ByteArray × (List Edit) × Unit
abbrev TWish : Ty := .pair (.int .i64) (.pair .str (.pair .str (.pair .str (.pair (.sl TEdit) .unit))))
abbrev Client := (List Wish) × Int × Int × Int × Int × Int × Int × Int × (List Entry) × Unit
abbrev TClient : Ty := .pair (.sl TWish) (.pair (.int .i64) (.pair (.int .i64) (.pair (.int .i64) (.pair (.int .i64) (.pair (.int .i64) (.pair (.int .i64) (.pair (.int .i64) (.pair (.sl TEntry) .unit))))))))
abbrev Event := Int × Int × Bool × Unit
abbrev TEvent : Ty := .pair (.int .i64) (.pair (.int .i64) (.pair .bool .unit))
abbrev Watch := ByteArray × Int × (List Event) × Unit
abbrev TWatch : Ty := .pair .str (.pair (.int .i64) (.pair (.sl TEvent) .unit))
abbrev Op := Int × Int × ByteArray × ByteArray × (List Edit) × Unit
abbrev TOp : Ty := .pair (.int .i64) (.pair (.int .i64) (.pair .str (.pair .str (.pair (.sl TEdit) .unit))))
abbrev Result := Int × Int × Int × (List ByteArray) × (List Entry) × Unit
abbrev TResult : Ty := .pair (.int .i64) (.pair (.int .i64) (.pair (.int .i64) (.pair (.sl .str) (.pair (.sl TEntry) .unit))))
abbrev Moment := Int × Int × Int × Op × Result × Unit
abbrev TMoment : Ty := .pair (.int .i64) (.pair (.int .i64) (.pair (.int .i64) (.pair TOp (.pair TResult .unit))))
abbrev World := Base × (List Client) × (List Watch) × (List Moment) × Int × Unit
abbrev TWorld : Ty := .pair TBase (.pair (.sl TClient) (.pair (.sl TWatch) (.pair (.sl TMoment) (.pair (.int .i64) .unit))))
abbrev TTally : Ty := .pair (.int .i64) (.pair (.int .i64) (.pair (.int .i64) (.pair (.int .i64) (.pair (.int .i64) (.pair (.int .i64) .unit)))))
abbrev Plan := Bool × (List Entry) × (List Int) × (List ByteArray) × Int × Unit
abbrev TPlan : Ty := .pair .bool (.pair (.sl TEntry) (.pair (.sl (.int .i64)) (.pair (.sl .str) (.pair (.int .i64) .unit))))
def laws_szEntry (x0 : Entry) (x1 : Int) : Option Int := cond (decide ((IntKind.i64.wrap (x1 - (x0.1.size : Int))) < (0:Int))) (some (-1:Int)) (some (IntKind.i64.wrap (x1 - (x0.1.size : Int))))
def laws_szEntryS.b5 {R : Type} (lp : Nat) (N : List Entry → Int → Int → Option R) (X : Int → Option R) (Q : Int → Option R) (x0 : List Entry) (x1 : Int) (x5 : Int) : Option R := cond (decide (x5 < (x0.length : Int))) (oget x0 x5 fun (e1 : Entry) => obind (laws_szEntry e1 x1) fun (t2 : Int) => cond (decide (t2 < (0:Int))) (Q (-1:Int)) (N x0 t2 (IntKind.i64.wrap (x5 + (1:Int))))) (X x1)
def laws_szEntryS.l5 (lp : Nat) : Nat → List Entry → Int → Int → Option (LE Int Int)
  | 0, _, _, _ => none
  | k + 1, x0, x1, x5 => laws_szEntryS.b5 lp (laws_szEntryS.l5 lp k) (fun y => some (.brk y)) (fun z => some (.ret z)) x0 x1 x5
def laws_szEntryS.a5 (lp : Nat) (y : Int) : Option Int := some y
def laws_szEntryS.q5 (lp : Nat) (z : Int) : Option Int := some z
def laws_szEntryS.e (lp : Nat) (L5 : List Entry → Int → Int → Option Int) (x0 : List Entry) (x1 : Int) : Option Int := cond (decide ((IntKind.i64.wrap (x1 - (x0.length : Int))) < (0:Int))) (some (-1:Int)) (L5 x0 (IntKind.i64.wrap (x1 - (x0.length : Int))) (0:Int))
def laws_szEntryS (lp : Nat) (x0 : List Entry) (x1 : Int) : Option Int := laws_szEntryS.e lp (fun x0 x1 x5 => obind (laws_szEntryS.l5 lp lp x0 x1 x5) (leF (fun z => laws_szEntryS.q5 lp z) (fun y => laws_szEntryS.a5 lp y))) x0 x1
def laws_szIntS (x0 : List Int) (x1 : Int) : Option Int := cond (decide ((IntKind.i64.wrap (x1 - (x0.length : Int))) < (0:Int))) (some (-1:Int)) (some (IntKind.i64.wrap (x1 - (x0.length : Int))))
def laws_szCommit (lp : Nat) (x0 : Commit) (x1 : Int) : Option Int := obind (laws_szIntS x0.1 x1) fun (t1 : Int) => cond (decide (t1 < (0:Int))) (some (-1:Int)) (obind (laws_szEntryS lp x0.2.1 t1) fun (t2 : Int) => cond (decide (t2 < (0:Int))) (some (-1:Int)) (some t2))
def laws_szCommitS.b5 {R : Type} (lp : Nat) (N : List Commit → Int → Int → Option R) (X : Int → Option R) (Q : Int → Option R) (x0 : List Commit) (x1 : Int) (x5 : Int) : Option R := cond (decide (x5 < (x0.length : Int))) (oget x0 x5 fun (e1 : Commit) => obind (laws_szCommit lp e1 x1) fun (t2 : Int) => cond (decide (t2 < (0:Int))) (Q (-1:Int)) (N x0 t2 (IntKind.i64.wrap (x5 + (1:Int))))) (X x1)
def laws_szCommitS.l5 (lp : Nat) : Nat → List Commit → Int → Int → Option (LE Int Int)
  | 0, _, _, _ => none
  | k + 1, x0, x1, x5 => laws_szCommitS.b5 lp (laws_szCommitS.l5 lp k) (fun y => some (.brk y)) (fun z => some (.ret z)) x0 x1 x5
def laws_szCommitS.a5 (lp : Nat) (y : Int) : Option Int := some y
def laws_szCommitS.q5 (lp : Nat) (z : Int) : Option Int := some z
def laws_szCommitS.e (lp : Nat) (L5 : List Commit → Int → Int → Option Int) (x0 : List Commit) (x1 : Int) : Option Int := cond (decide ((IntKind.i64.wrap (x1 - (x0.length : Int))) < (0:Int))) (some (-1:Int)) (L5 x0 (IntKind.i64.wrap (x1 - (x0.length : Int))) (0:Int))
def laws_szCommitS (lp : Nat) (x0 : List Commit) (x1 : Int) : Option Int := laws_szCommitS.e lp (fun x0 x1 x5 => obind (laws_szCommitS.l5 lp lp x0 x1 x5) (leF (fun z => laws_szCommitS.q5 lp z) (fun y => laws_szCommitS.a5 lp y))) x0 x1
def laws_szRef (x0 : Ref) (x1 : Int) : Option Int := cond (decide ((IntKind.i64.wrap (x1 - (x0.1.size : Int))) < (0:Int))) (some (-1:Int)) (some (IntKind.i64.wrap (x1 - (x0.1.size : Int))))
def laws_szRefS.b5 {R : Type} (lp : Nat) (N : List Ref → Int → Int → Option R) (X : Int → Option R) (Q : Int → Option R) (x0 : List Ref) (x1 : Int) (x5 : Int) : Option R := cond (decide (x5 < (x0.length : Int))) (oget x0 x5 fun (e1 : Ref) => obind (laws_szRef e1 x1) fun (t2 : Int) => cond (decide (t2 < (0:Int))) (Q (-1:Int)) (N x0 t2 (IntKind.i64.wrap (x5 + (1:Int))))) (X x1)
def laws_szRefS.l5 (lp : Nat) : Nat → List Ref → Int → Int → Option (LE Int Int)
  | 0, _, _, _ => none
  | k + 1, x0, x1, x5 => laws_szRefS.b5 lp (laws_szRefS.l5 lp k) (fun y => some (.brk y)) (fun z => some (.ret z)) x0 x1 x5
def laws_szRefS.a5 (lp : Nat) (y : Int) : Option Int := some y
def laws_szRefS.q5 (lp : Nat) (z : Int) : Option Int := some z
def laws_szRefS.e (lp : Nat) (L5 : List Ref → Int → Int → Option Int) (x0 : List Ref) (x1 : Int) : Option Int := cond (decide ((IntKind.i64.wrap (x1 - (x0.length : Int))) < (0:Int))) (some (-1:Int)) (L5 x0 (IntKind.i64.wrap (x1 - (x0.length : Int))) (0:Int))
def laws_szRefS (lp : Nat) (x0 : List Ref) (x1 : Int) : Option Int := laws_szRefS.e lp (fun x0 x1 x5 => obind (laws_szRefS.l5 lp lp x0 x1 x5) (leF (fun z => laws_szRefS.q5 lp z) (fun y => laws_szRefS.a5 lp y))) x0 x1
def laws_szBase (lp : Nat) (x0 : Base) (x1 : Int) : Option Int := obind (laws_szCommitS lp x0.1 x1) fun (t1 : Int) => cond (decide (t1 < (0:Int))) (some (-1:Int)) (obind (laws_szRefS lp x0.2.1 t1) fun (t2 : Int) => cond (decide (t2 < (0:Int))) (some (-1:Int)) (some t2))
def laws_szEdit (x0 : Edit) (x1 : Int) : Option Int := cond (decide ((IntKind.i64.wrap (x1 - (x0.1.size : Int))) < (0:Int))) (some (-1:Int)) (some (IntKind.i64.wrap (x1 - (x0.1.size : Int))))
def laws_szEditS.b5 {R : Type} (lp : Nat) (N : List Edit → Int → Int → Option R) (X : Int → Option R) (Q : Int → Option R) (x0 : List Edit) (x1 : Int) (x5 : Int) : Option R := cond (decide (x5 < (x0.length : Int))) (oget x0 x5 fun (e1 : Edit) => obind (laws_szEdit e1 x1) fun (t2 : Int) => cond (decide (t2 < (0:Int))) (Q (-1:Int)) (N x0 t2 (IntKind.i64.wrap (x5 + (1:Int))))) (X x1)
def laws_szEditS.l5 (lp : Nat) : Nat → List Edit → Int → Int → Option (LE Int Int)
  | 0, _, _, _ => none
  | k + 1, x0, x1, x5 => laws_szEditS.b5 lp (laws_szEditS.l5 lp k) (fun y => some (.brk y)) (fun z => some (.ret z)) x0 x1 x5
def laws_szEditS.a5 (lp : Nat) (y : Int) : Option Int := some y
def laws_szEditS.q5 (lp : Nat) (z : Int) : Option Int := some z
def laws_szEditS.e (lp : Nat) (L5 : List Edit → Int → Int → Option Int) (x0 : List Edit) (x1 : Int) : Option Int := cond (decide ((IntKind.i64.wrap (x1 - (x0.length : Int))) < (0:Int))) (some (-1:Int)) (L5 x0 (IntKind.i64.wrap (x1 - (x0.length : Int))) (0:Int))
def laws_szEditS (lp : Nat) (x0 : List Edit) (x1 : Int) : Option Int := laws_szEditS.e lp (fun x0 x1 x5 => obind (laws_szEditS.l5 lp lp x0 x1 x5) (leF (fun z => laws_szEditS.q5 lp z) (fun y => laws_szEditS.a5 lp y))) x0 x1
def laws_szWish (lp : Nat) (x0 : Wish) (x1 : Int) : Option Int := cond (decide ((IntKind.i64.wrap (x1 - (x0.2.1.size : Int))) < (0:Int))) (some (-1:Int)) (cond (decide ((IntKind.i64.wrap ((IntKind.i64.wrap (x1 - (x0.2.1.size : Int))) - (x0.2.2.1.size : Int))) < (0:Int))) (some (-1:Int)) (cond (decide ((IntKind.i64.wrap ((IntKind.i64.wrap ((IntKind.i64.wrap (x1 - (x0.2.1.size : Int))) - (x0.2.2.1.size : Int))) - (x0.2.2.2.1.size : Int))) < (0:Int))) (some (-1:Int)) (obind (laws_szEditS lp x0.2.2.2.2.1 (IntKind.i64.wrap ((IntKind.i64.wrap ((IntKind.i64.wrap (x1 - (x0.2.1.size : Int))) - (x0.2.2.1.size : Int))) - (x0.2.2.2.1.size : Int)))) fun (t1 : Int) => cond (decide (t1 < (0:Int))) (some (-1:Int)) (some t1))))
def laws_szWishS.b5 {R : Type} (lp : Nat) (N : List Wish → Int → Int → Option R) (X : Int → Option R) (Q : Int → Option R) (x0 : List Wish) (x1 : Int) (x5 : Int) : Option R := cond (decide (x5 < (x0.length : Int))) (oget x0 x5 fun (e1 : Wish) => obind (laws_szWish lp e1 x1) fun (t2 : Int) => cond (decide (t2 < (0:Int))) (Q (-1:Int)) (N x0 t2 (IntKind.i64.wrap (x5 + (1:Int))))) (X x1)
def laws_szWishS.l5 (lp : Nat) : Nat → List Wish → Int → Int → Option (LE Int Int)
  | 0, _, _, _ => none
  | k + 1, x0, x1, x5 => laws_szWishS.b5 lp (laws_szWishS.l5 lp k) (fun y => some (.brk y)) (fun z => some (.ret z)) x0 x1 x5
def laws_szWishS.a5 (lp : Nat) (y : Int) : Option Int := some y
def laws_szWishS.q5 (lp : Nat) (z : Int) : Option Int := some z
def laws_szWishS.e (lp : Nat) (L5 : List Wish → Int → Int → Option Int) (x0 : List Wish) (x1 : Int) : Option Int := cond (decide ((IntKind.i64.wrap (x1 - (x0.length : Int))) < (0:Int))) (some (-1:Int)) (L5 x0 (IntKind.i64.wrap (x1 - (x0.length : Int))) (0:Int))
def laws_szWishS (lp : Nat) (x0 : List Wish) (x1 : Int) : Option Int := laws_szWishS.e lp (fun x0 x1 x5 => obind (laws_szWishS.l5 lp lp x0 x1 x5) (leF (fun z => laws_szWishS.q5 lp z) (fun y => laws_szWishS.a5 lp y))) x0 x1
def laws_szClient (lp : Nat) (x0 : Client) (x1 : Int) : Option Int := obind (laws_szWishS lp x0.1 x1) fun (t1 : Int) => cond (decide (t1 < (0:Int))) (some (-1:Int)) (obind (laws_szEntryS lp x0.2.2.2.2.2.2.2.2.1 t1) fun (t2 : Int) => cond (decide (t2 < (0:Int))) (some (-1:Int)) (some t2))
def laws_szClientS.b5 {R : Type} (lp : Nat) (N : List Client → Int → Int → Option R) (X : Int → Option R) (Q : Int → Option R) (x0 : List Client) (x1 : Int) (x5 : Int) : Option R := cond (decide (x5 < (x0.length : Int))) (oget x0 x5 fun (e1 : Client) => obind (laws_szClient lp e1 x1) fun (t2 : Int) => cond (decide (t2 < (0:Int))) (Q (-1:Int)) (N x0 t2 (IntKind.i64.wrap (x5 + (1:Int))))) (X x1)
def laws_szClientS.l5 (lp : Nat) : Nat → List Client → Int → Int → Option (LE Int Int)
  | 0, _, _, _ => none
  | k + 1, x0, x1, x5 => laws_szClientS.b5 lp (laws_szClientS.l5 lp k) (fun y => some (.brk y)) (fun z => some (.ret z)) x0 x1 x5
def laws_szClientS.a5 (lp : Nat) (y : Int) : Option Int := some y
def laws_szClientS.q5 (lp : Nat) (z : Int) : Option Int := some z
def laws_szClientS.e (lp : Nat) (L5 : List Client → Int → Int → Option Int) (x0 : List Client) (x1 : Int) : Option Int := cond (decide ((IntKind.i64.wrap (x1 - (x0.length : Int))) < (0:Int))) (some (-1:Int)) (L5 x0 (IntKind.i64.wrap (x1 - (x0.length : Int))) (0:Int))
def laws_szClientS (lp : Nat) (x0 : List Client) (x1 : Int) : Option Int := laws_szClientS.e lp (fun x0 x1 x5 => obind (laws_szClientS.l5 lp lp x0 x1 x5) (leF (fun z => laws_szClientS.q5 lp z) (fun y => laws_szClientS.a5 lp y))) x0 x1
def laws_szEventS (x0 : List Event) (x1 : Int) : Option Int := cond (decide ((IntKind.i64.wrap (x1 - (x0.length : Int))) < (0:Int))) (some (-1:Int)) (some (IntKind.i64.wrap (x1 - (x0.length : Int))))
def laws_szWatch (x0 : Watch) (x1 : Int) : Option Int := cond (decide ((IntKind.i64.wrap (x1 - (x0.1.size : Int))) < (0:Int))) (some (-1:Int)) (obind (laws_szEventS x0.2.2.1 (IntKind.i64.wrap (x1 - (x0.1.size : Int)))) fun (t1 : Int) => cond (decide (t1 < (0:Int))) (some (-1:Int)) (some t1))
def laws_szWatchS.b5 {R : Type} (lp : Nat) (N : List Watch → Int → Int → Option R) (X : Int → Option R) (Q : Int → Option R) (x0 : List Watch) (x1 : Int) (x5 : Int) : Option R := cond (decide (x5 < (x0.length : Int))) (oget x0 x5 fun (e1 : Watch) => obind (laws_szWatch e1 x1) fun (t2 : Int) => cond (decide (t2 < (0:Int))) (Q (-1:Int)) (N x0 t2 (IntKind.i64.wrap (x5 + (1:Int))))) (X x1)
def laws_szWatchS.l5 (lp : Nat) : Nat → List Watch → Int → Int → Option (LE Int Int)
  | 0, _, _, _ => none
  | k + 1, x0, x1, x5 => laws_szWatchS.b5 lp (laws_szWatchS.l5 lp k) (fun y => some (.brk y)) (fun z => some (.ret z)) x0 x1 x5
def laws_szWatchS.a5 (lp : Nat) (y : Int) : Option Int := some y
def laws_szWatchS.q5 (lp : Nat) (z : Int) : Option Int := some z
def laws_szWatchS.e (lp : Nat) (L5 : List Watch → Int → Int → Option Int) (x0 : List Watch) (x1 : Int) : Option Int := cond (decide ((IntKind.i64.wrap (x1 - (x0.length : Int))) < (0:Int))) (some (-1:Int)) (L5 x0 (IntKind.i64.wrap (x1 - (x0.length : Int))) (0:Int))
def laws_szWatchS (lp : Nat) (x0 : List Watch) (x1 : Int) : Option Int := laws_szWatchS.e lp (fun x0 x1 x5 => obind (laws_szWatchS.l5 lp lp x0 x1 x5) (leF (fun z => laws_szWatchS.q5 lp z) (fun y => laws_szWatchS.a5 lp y))) x0 x1
def laws_szOp (lp : Nat) (x0 : Op) (x1 : Int) : Option Int := cond (decide ((IntKind.i64.wrap (x1 - (x0.2.2.1.size : Int))) < (0:Int))) (some (-1:Int)) (cond (decide ((IntKind.i64.wrap ((IntKind.i64.wrap (x1 - (x0.2.2.1.size : Int))) - (x0.2.2.2.1.size : Int))) < (0:Int))) (some (-1:Int)) (obind (laws_szEditS lp x0.2.2.2.2.1 (IntKind.i64.wrap ((IntKind.i64.wrap (x1 - (x0.2.2.1.size : Int))) - (x0.2.2.2.1.size : Int)))) fun (t1 : Int) => cond (decide (t1 < (0:Int))) (some (-1:Int)) (some t1)))
def laws_szStringS.b5 {R : Type} (lp : Nat) (N : List ByteArray → Int → Int → Option R) (X : Int → Option R) (Q : Int → Option R) (x0 : List ByteArray) (x1 : Int) (x5 : Int) : Option R := cond (decide (x5 < (x0.length : Int))) (oget x0 x5 fun (e1 : ByteArray) => cond (decide ((IntKind.i64.wrap (x1 - (e1.size : Int))) < (0:Int))) (Q (-1:Int)) (N x0 (IntKind.i64.wrap (x1 - (e1.size : Int))) (IntKind.i64.wrap (x5 + (1:Int))))) (X x1)
def laws_szStringS.l5 (lp : Nat) : Nat → List ByteArray → Int → Int → Option (LE Int Int)
  | 0, _, _, _ => none
  | k + 1, x0, x1, x5 => laws_szStringS.b5 lp (laws_szStringS.l5 lp k) (fun y => some (.brk y)) (fun z => some (.ret z)) x0 x1 x5
def laws_szStringS.a5 (lp : Nat) (y : Int) : Option Int := some y
def laws_szStringS.q5 (lp : Nat) (z : Int) : Option Int := some z
def laws_szStringS.e (lp : Nat) (L5 : List ByteArray → Int → Int → Option Int) (x0 : List ByteArray) (x1 : Int) : Option Int := cond (decide ((IntKind.i64.wrap (x1 - (x0.length : Int))) < (0:Int))) (some (-1:Int)) (L5 x0 (IntKind.i64.wrap (x1 - (x0.length : Int))) (0:Int))
def laws_szStringS (lp : Nat) (x0 : List ByteArray) (x1 : Int) : Option Int := laws_szStringS.e lp (fun x0 x1 x5 => obind (laws_szStringS.l5 lp lp x0 x1 x5) (leF (fun z => laws_szStringS.q5 lp z) (fun y => laws_szStringS.a5 lp y))) x0 x1
def laws_szResult (lp : Nat) (x0 : Result) (x1 : Int) : Option Int := obind (laws_szStringS lp x0.2.2.2.1 x1) fun (t1 : Int) => cond (decide (t1 < (0:Int))) (some (-1:Int)) (obind (laws_szEntryS lp x0.2.2.2.2.1 t1) fun (t2 : Int) => cond (decide (t2 < (0:Int))) (some (-1:Int)) (some t2))
def laws_szMoment (lp : Nat) (x0 : Moment) (x1 : Int) : Option Int := obind (laws_szOp lp x0.2.2.2.1 x1) fun (t1 : Int) => cond (decide (t1 < (0:Int))) (some (-1:Int)) (obind (laws_szResult lp x0.2.2.2.2.1 t1) fun (t2 : Int) => cond (decide (t2 < (0:Int))) (some (-1:Int)) (some t2))
def laws_szMomentS.b5 {R : Type} (lp : Nat) (N : List Moment → Int → Int → Option R) (X : Int → Option R) (Q : Int → Option R) (x0 : List Moment) (x1 : Int) (x5 : Int) : Option R := cond (decide (x5 < (x0.length : Int))) (oget x0 x5 fun (e1 : Moment) => obind (laws_szMoment lp e1 x1) fun (t2 : Int) => cond (decide (t2 < (0:Int))) (Q (-1:Int)) (N x0 t2 (IntKind.i64.wrap (x5 + (1:Int))))) (X x1)
def laws_szMomentS.l5 (lp : Nat) : Nat → List Moment → Int → Int → Option (LE Int Int)
  | 0, _, _, _ => none
  | k + 1, x0, x1, x5 => laws_szMomentS.b5 lp (laws_szMomentS.l5 lp k) (fun y => some (.brk y)) (fun z => some (.ret z)) x0 x1 x5
def laws_szMomentS.a5 (lp : Nat) (y : Int) : Option Int := some y
def laws_szMomentS.q5 (lp : Nat) (z : Int) : Option Int := some z
def laws_szMomentS.e (lp : Nat) (L5 : List Moment → Int → Int → Option Int) (x0 : List Moment) (x1 : Int) : Option Int := cond (decide ((IntKind.i64.wrap (x1 - (x0.length : Int))) < (0:Int))) (some (-1:Int)) (L5 x0 (IntKind.i64.wrap (x1 - (x0.length : Int))) (0:Int))
def laws_szMomentS (lp : Nat) (x0 : List Moment) (x1 : Int) : Option Int := laws_szMomentS.e lp (fun x0 x1 x5 => obind (laws_szMomentS.l5 lp lp x0 x1 x5) (leF (fun z => laws_szMomentS.q5 lp z) (fun y => laws_szMomentS.a5 lp y))) x0 x1
def laws_szWorld (lp : Nat) (x0 : World) (x1 : Int) : Option Int := obind (laws_szBase lp x0.1 x1) fun (t1 : Int) => cond (decide (t1 < (0:Int))) (some (-1:Int)) (obind (laws_szClientS lp x0.2.1 t1) fun (t2 : Int) => cond (decide (t2 < (0:Int))) (some (-1:Int)) (obind (laws_szWatchS lp x0.2.2.1 t2) fun (t3 : Int) => cond (decide (t3 < (0:Int))) (some (-1:Int)) (obind (laws_szMomentS lp x0.2.2.2.1 t3) fun (t4 : Int) => cond (decide (t4 < (0:Int))) (some (-1:Int)) (some t4))))
def laws_toEntry (x0 : Entry) : Option Entry := some x0
def laws_toEntryS.b3 {R : Type} (lp : Nat) (N : List Entry → Int → List Entry → Option R) (X : ((List Entry)) → Option R) (Q : Empty → Option R) (x0 : List Entry) (x4 : Int) (xo7 : List Entry) : Option R := cond (decide (x4 < (x0.length : Int))) (oget x0 x4 fun (e1 : Entry) => obind (laws_toEntry e1) fun (t2 : Entry) => oif (decide ((0:Int) ≤ x4)) (oif (decide (x4 < (xo7.length : Int))) (oget xo7 (x4.toNat : Int) fun (e3 : Entry) => N x0 (IntKind.i64.wrap (x4 + (1:Int))) (xo7.set x4.toNat t2)))) (X xo7)
def laws_toEntryS.l3 (lp : Nat) : Nat → List Entry → Int → List Entry → Option (LE Empty ((List Entry)))
  | 0, _, _, _ => none
  | k + 1, x0, x4, xo7 => laws_toEntryS.b3 lp (laws_toEntryS.l3 lp k) (fun y => some (.brk y)) (fun z => some (.ret z)) x0 x4 xo7
def laws_toEntryS.a3 (lp : Nat) (y : (List Entry)) : Option ((List Entry)) := some y
def laws_toEntryS.e (lp : Nat) (L3 : List Entry → Int → List Entry → Option ((List Entry))) (x0 : List Entry) : Option ((List Entry)) := oif (decide ((0:Int) ≤ (x0.length : Int))) (oif (decide ((x0.length : Int).toNat * 24 ≤ 140737488355328)) (L3 x0 (0:Int) (List.replicate (x0.length : Int).toNat (((⟨#[]⟩ : ByteArray), ((0:Int), ())) : Entry))))
def laws_toEntryS (lp : Nat) (x0 : List Entry) : Option ((List Entry)) := laws_toEntryS.e lp (fun x0 x4 xo7 => obind (laws_toEntryS.l3 lp lp x0 x4 xo7) (leF (fun z => z.elim) (fun y => laws_toEntryS.a3 lp y))) x0
def laws_toIntS.b3 {R : Type} (lp : Nat) (N : List Int → Int → List Int → Option R) (X : ((List Int)) → Option R) (Q : Empty → Option R) (x0 : List Int) (x4 : Int) (xo7 : List Int) : Option R := cond (decide (x4 < (x0.length : Int))) (oget x0 x4 fun (e1 : Int) => oif (decide ((0:Int) ≤ x4)) (oif (decide (x4 < (xo7.length : Int))) (oget xo7 (x4.toNat : Int) fun (e2 : Int) => N x0 (IntKind.i64.wrap (x4 + (1:Int))) (xo7.set x4.toNat e1)))) (X xo7)
def laws_toIntS.l3 (lp : Nat) : Nat → List Int → Int → List Int → Option (LE Empty ((List Int)))
  | 0, _, _, _ => none
  | k + 1, x0, x4, xo7 => laws_toIntS.b3 lp (laws_toIntS.l3 lp k) (fun y => some (.brk y)) (fun z => some (.ret z)) x0 x4 xo7
def laws_toIntS.a3 (lp : Nat) (y : (List Int)) : Option ((List Int)) := some y
def laws_toIntS.e (lp : Nat) (L3 : List Int → Int → List Int → Option ((List Int))) (x0 : List Int) : Option ((List Int)) := oif (decide ((0:Int) ≤ (x0.length : Int))) (oif (decide ((x0.length : Int).toNat * 8 ≤ 140737488355328)) (L3 x0 (0:Int) (List.replicate (x0.length : Int).toNat ((0:Int) : Int))))
def laws_toIntS (lp : Nat) (x0 : List Int) : Option ((List Int)) := laws_toIntS.e lp (fun x0 x4 xo7 => obind (laws_toIntS.l3 lp lp x0 x4 xo7) (leF (fun z => z.elim) (fun y => laws_toIntS.a3 lp y))) x0
def laws_toCommit (lp : Nat) (x0 : Commit) : Option Commit := obind (laws_toIntS lp x0.1) fun (t1 : (List Int)) => obind (laws_toEntryS lp x0.2.1) fun (t2 : (List Entry)) => some (t1, t2, ())
def laws_toCommitS.b3 {R : Type} (lp : Nat) (N : List Commit → Int → List Commit → Option R) (X : ((List Commit)) → Option R) (Q : Empty → Option R) (x0 : List Commit) (x4 : Int) (xo7 : List Commit) : Option R := cond (decide (x4 < (x0.length : Int))) (oget x0 x4 fun (e1 : Commit) => obind (laws_toCommit lp e1) fun (t2 : Commit) => oif (decide ((0:Int) ≤ x4)) (oif (decide (x4 < (xo7.length : Int))) (oget xo7 (x4.toNat : Int) fun (e3 : Commit) => N x0 (IntKind.i64.wrap (x4 + (1:Int))) (xo7.set x4.toNat t2)))) (X xo7)
def laws_toCommitS.l3 (lp : Nat) : Nat → List Commit → Int → List Commit → Option (LE Empty ((List Commit)))
  | 0, _, _, _ => none
  | k + 1, x0, x4, xo7 => laws_toCommitS.b3 lp (laws_toCommitS.l3 lp k) (fun y => some (.brk y)) (fun z => some (.ret z)) x0 x4 xo7
def laws_toCommitS.a3 (lp : Nat) (y : (List Commit)) : Option ((List Commit)) := some y
def laws_toCommitS.e (lp : Nat) (L3 : List Commit → Int → List Commit → Option ((List Commit))) (x0 : List Commit) : Option ((List Commit)) := oif (decide ((0:Int) ≤ (x0.length : Int))) (oif (decide ((x0.length : Int).toNat * 48 ≤ 140737488355328)) (L3 x0 (0:Int) (List.replicate (x0.length : Int).toNat ((([] : List Int), (([] : List Entry), ())) : Commit))))
def laws_toCommitS (lp : Nat) (x0 : List Commit) : Option ((List Commit)) := laws_toCommitS.e lp (fun x0 x4 xo7 => obind (laws_toCommitS.l3 lp lp x0 x4 xo7) (leF (fun z => z.elim) (fun y => laws_toCommitS.a3 lp y))) x0
def laws_toRef (x0 : Ref) : Option Ref := some x0
def laws_toRefS.b3 {R : Type} (lp : Nat) (N : List Ref → Int → List Ref → Option R) (X : ((List Ref)) → Option R) (Q : Empty → Option R) (x0 : List Ref) (x4 : Int) (xo7 : List Ref) : Option R := cond (decide (x4 < (x0.length : Int))) (oget x0 x4 fun (e1 : Ref) => obind (laws_toRef e1) fun (t2 : Ref) => oif (decide ((0:Int) ≤ x4)) (oif (decide (x4 < (xo7.length : Int))) (oget xo7 (x4.toNat : Int) fun (e3 : Ref) => N x0 (IntKind.i64.wrap (x4 + (1:Int))) (xo7.set x4.toNat t2)))) (X xo7)
def laws_toRefS.l3 (lp : Nat) : Nat → List Ref → Int → List Ref → Option (LE Empty ((List Ref)))
  | 0, _, _, _ => none
  | k + 1, x0, x4, xo7 => laws_toRefS.b3 lp (laws_toRefS.l3 lp k) (fun y => some (.brk y)) (fun z => some (.ret z)) x0 x4 xo7
def laws_toRefS.a3 (lp : Nat) (y : (List Ref)) : Option ((List Ref)) := some y
def laws_toRefS.e (lp : Nat) (L3 : List Ref → Int → List Ref → Option ((List Ref))) (x0 : List Ref) : Option ((List Ref)) := oif (decide ((0:Int) ≤ (x0.length : Int))) (oif (decide ((x0.length : Int).toNat * 40 ≤ 140737488355328)) (L3 x0 (0:Int) (List.replicate (x0.length : Int).toNat (((⟨#[]⟩ : ByteArray), ((0:Int), ((0:Int), (false, ())))) : Ref))))
def laws_toRefS (lp : Nat) (x0 : List Ref) : Option ((List Ref)) := laws_toRefS.e lp (fun x0 x4 xo7 => obind (laws_toRefS.l3 lp lp x0 x4 xo7) (leF (fun z => z.elim) (fun y => laws_toRefS.a3 lp y))) x0
def laws_toBase (lp : Nat) (x0 : Base) : Option Base := obind (laws_toCommitS lp x0.1) fun (t1 : (List Commit)) => obind (laws_toRefS lp x0.2.1) fun (t2 : (List Ref)) => some (t1, t2, ())
def laws_toEdit (x0 : Edit) : Option Edit := some x0
def laws_toEditS.b3 {R : Type} (lp : Nat) (N : List Edit → Int → List Edit → Option R) (X : ((List Edit)) → Option R) (Q : Empty → Option R) (x0 : List Edit) (x4 : Int) (xo7 : List Edit) : Option R := cond (decide (x4 < (x0.length : Int))) (oget x0 x4 fun (e1 : Edit) => obind (laws_toEdit e1) fun (t2 : Edit) => oif (decide ((0:Int) ≤ x4)) (oif (decide (x4 < (xo7.length : Int))) (oget xo7 (x4.toNat : Int) fun (e3 : Edit) => N x0 (IntKind.i64.wrap (x4 + (1:Int))) (xo7.set x4.toNat t2)))) (X xo7)
def laws_toEditS.l3 (lp : Nat) : Nat → List Edit → Int → List Edit → Option (LE Empty ((List Edit)))
  | 0, _, _, _ => none
  | k + 1, x0, x4, xo7 => laws_toEditS.b3 lp (laws_toEditS.l3 lp k) (fun y => some (.brk y)) (fun z => some (.ret z)) x0 x4 xo7
def laws_toEditS.a3 (lp : Nat) (y : (List Edit)) : Option ((List Edit)) := some y
def laws_toEditS.e (lp : Nat) (L3 : List Edit → Int → List Edit → Option ((List Edit))) (x0 : List Edit) : Option ((List Edit)) := oif (decide ((0:Int) ≤ (x0.length : Int))) (oif (decide ((x0.length : Int).toNat * 32 ≤ 140737488355328)) (L3 x0 (0:Int) (List.replicate (x0.length : Int).toNat (((⟨#[]⟩ : ByteArray), ((0:Int), (false, ()))) : Edit))))
def laws_toEditS (lp : Nat) (x0 : List Edit) : Option ((List Edit)) := laws_toEditS.e lp (fun x0 x4 xo7 => obind (laws_toEditS.l3 lp lp x0 x4 xo7) (leF (fun z => z.elim) (fun y => laws_toEditS.a3 lp y))) x0
def laws_toWish (lp : Nat) (x0 : Wish) : Option Wish := obind (laws_toEditS lp x0.2.2.2.2.1) fun (t1 : (List Edit)) => some (x0.1, x0.2.1, x0.2.2.1, x0.2.2.2.1, t1, ())
def laws_toWishS.b3 {R : Type} (lp : Nat) (N : List Wish → Int → List Wish → Option R) (X : ((List Wish)) → Option R) (Q : Empty → Option R) (x0 : List Wish) (x4 : Int) (xo7 : List Wish) : Option R := cond (decide (x4 < (x0.length : Int))) (oget x0 x4 fun (e1 : Wish) => obind (laws_toWish lp e1) fun (t2 : Wish) => oif (decide ((0:Int) ≤ x4)) (oif (decide (x4 < (xo7.length : Int))) (oget xo7 (x4.toNat : Int) fun (e3 : Wish) => N x0 (IntKind.i64.wrap (x4 + (1:Int))) (xo7.set x4.toNat t2)))) (X xo7)
def laws_toWishS.l3 (lp : Nat) : Nat → List Wish → Int → List Wish → Option (LE Empty ((List Wish)))
  | 0, _, _, _ => none
  | k + 1, x0, x4, xo7 => laws_toWishS.b3 lp (laws_toWishS.l3 lp k) (fun y => some (.brk y)) (fun z => some (.ret z)) x0 x4 xo7
def laws_toWishS.a3 (lp : Nat) (y : (List Wish)) : Option ((List Wish)) := some y
def laws_toWishS.e (lp : Nat) (L3 : List Wish → Int → List Wish → Option ((List Wish))) (x0 : List Wish) : Option ((List Wish)) := oif (decide ((0:Int) ≤ (x0.length : Int))) (oif (decide ((x0.length : Int).toNat * 80 ≤ 140737488355328)) (L3 x0 (0:Int) (List.replicate (x0.length : Int).toNat (((0:Int), ((⟨#[]⟩ : ByteArray), ((⟨#[]⟩ : ByteArray), ((⟨#[]⟩ : ByteArray), (([] : List Edit), ()))))) : Wish))))
def laws_toWishS (lp : Nat) (x0 : List Wish) : Option ((List Wish)) := laws_toWishS.e lp (fun x0 x4 xo7 => obind (laws_toWishS.l3 lp lp x0 x4 xo7) (leF (fun z => z.elim) (fun y => laws_toWishS.a3 lp y))) x0
def laws_toClient (lp : Nat) (x0 : Client) : Option Client := obind (laws_toWishS lp x0.1) fun (t1 : (List Wish)) => obind (laws_toEntryS lp x0.2.2.2.2.2.2.2.2.1) fun (t2 : (List Entry)) => some (t1, x0.2.1, x0.2.2.1, x0.2.2.2.1, x0.2.2.2.2.1, x0.2.2.2.2.2.1, x0.2.2.2.2.2.2.1, x0.2.2.2.2.2.2.2.1, t2, ())
def laws_toClientS.b3 {R : Type} (lp : Nat) (N : List Client → Int → List Client → Option R) (X : ((List Client)) → Option R) (Q : Empty → Option R) (x0 : List Client) (x4 : Int) (xo7 : List Client) : Option R := cond (decide (x4 < (x0.length : Int))) (oget x0 x4 fun (e1 : Client) => obind (laws_toClient lp e1) fun (t2 : Client) => oif (decide ((0:Int) ≤ x4)) (oif (decide (x4 < (xo7.length : Int))) (oget xo7 (x4.toNat : Int) fun (e3 : Client) => N x0 (IntKind.i64.wrap (x4 + (1:Int))) (xo7.set x4.toNat t2)))) (X xo7)
def laws_toClientS.l3 (lp : Nat) : Nat → List Client → Int → List Client → Option (LE Empty ((List Client)))
  | 0, _, _, _ => none
  | k + 1, x0, x4, xo7 => laws_toClientS.b3 lp (laws_toClientS.l3 lp k) (fun y => some (.brk y)) (fun z => some (.ret z)) x0 x4 xo7
def laws_toClientS.a3 (lp : Nat) (y : (List Client)) : Option ((List Client)) := some y
def laws_toClientS.e (lp : Nat) (L3 : List Client → Int → List Client → Option ((List Client))) (x0 : List Client) : Option ((List Client)) := oif (decide ((0:Int) ≤ (x0.length : Int))) (oif (decide ((x0.length : Int).toNat * 104 ≤ 140737488355328)) (L3 x0 (0:Int) (List.replicate (x0.length : Int).toNat ((([] : List Wish), ((0:Int), ((0:Int), ((0:Int), ((0:Int), ((0:Int), ((0:Int), ((0:Int), (([] : List Entry), ()))))))))) : Client))))
def laws_toClientS (lp : Nat) (x0 : List Client) : Option ((List Client)) := laws_toClientS.e lp (fun x0 x4 xo7 => obind (laws_toClientS.l3 lp lp x0 x4 xo7) (leF (fun z => z.elim) (fun y => laws_toClientS.a3 lp y))) x0
def laws_toEvent (x0 : Event) : Option Event := some x0
def laws_toEventS.b3 {R : Type} (lp : Nat) (N : List Event → Int → List Event → Option R) (X : ((List Event)) → Option R) (Q : Empty → Option R) (x0 : List Event) (x4 : Int) (xo7 : List Event) : Option R := cond (decide (x4 < (x0.length : Int))) (oget x0 x4 fun (e1 : Event) => obind (laws_toEvent e1) fun (t2 : Event) => oif (decide ((0:Int) ≤ x4)) (oif (decide (x4 < (xo7.length : Int))) (oget xo7 (x4.toNat : Int) fun (e3 : Event) => N x0 (IntKind.i64.wrap (x4 + (1:Int))) (xo7.set x4.toNat t2)))) (X xo7)
def laws_toEventS.l3 (lp : Nat) : Nat → List Event → Int → List Event → Option (LE Empty ((List Event)))
  | 0, _, _, _ => none
  | k + 1, x0, x4, xo7 => laws_toEventS.b3 lp (laws_toEventS.l3 lp k) (fun y => some (.brk y)) (fun z => some (.ret z)) x0 x4 xo7
def laws_toEventS.a3 (lp : Nat) (y : (List Event)) : Option ((List Event)) := some y
def laws_toEventS.e (lp : Nat) (L3 : List Event → Int → List Event → Option ((List Event))) (x0 : List Event) : Option ((List Event)) := oif (decide ((0:Int) ≤ (x0.length : Int))) (oif (decide ((x0.length : Int).toNat * 24 ≤ 140737488355328)) (L3 x0 (0:Int) (List.replicate (x0.length : Int).toNat (((0:Int), ((0:Int), (false, ()))) : Event))))
def laws_toEventS (lp : Nat) (x0 : List Event) : Option ((List Event)) := laws_toEventS.e lp (fun x0 x4 xo7 => obind (laws_toEventS.l3 lp lp x0 x4 xo7) (leF (fun z => z.elim) (fun y => laws_toEventS.a3 lp y))) x0
def laws_toWatch (lp : Nat) (x0 : Watch) : Option Watch := obind (laws_toEventS lp x0.2.2.1) fun (t1 : (List Event)) => some (x0.1, x0.2.1, t1, ())
def laws_toWatchS.b3 {R : Type} (lp : Nat) (N : List Watch → Int → List Watch → Option R) (X : ((List Watch)) → Option R) (Q : Empty → Option R) (x0 : List Watch) (x4 : Int) (xo7 : List Watch) : Option R := cond (decide (x4 < (x0.length : Int))) (oget x0 x4 fun (e1 : Watch) => obind (laws_toWatch lp e1) fun (t2 : Watch) => oif (decide ((0:Int) ≤ x4)) (oif (decide (x4 < (xo7.length : Int))) (oget xo7 (x4.toNat : Int) fun (e3 : Watch) => N x0 (IntKind.i64.wrap (x4 + (1:Int))) (xo7.set x4.toNat t2)))) (X xo7)
def laws_toWatchS.l3 (lp : Nat) : Nat → List Watch → Int → List Watch → Option (LE Empty ((List Watch)))
  | 0, _, _, _ => none
  | k + 1, x0, x4, xo7 => laws_toWatchS.b3 lp (laws_toWatchS.l3 lp k) (fun y => some (.brk y)) (fun z => some (.ret z)) x0 x4 xo7
def laws_toWatchS.a3 (lp : Nat) (y : (List Watch)) : Option ((List Watch)) := some y
def laws_toWatchS.e (lp : Nat) (L3 : List Watch → Int → List Watch → Option ((List Watch))) (x0 : List Watch) : Option ((List Watch)) := oif (decide ((0:Int) ≤ (x0.length : Int))) (oif (decide ((x0.length : Int).toNat * 48 ≤ 140737488355328)) (L3 x0 (0:Int) (List.replicate (x0.length : Int).toNat (((⟨#[]⟩ : ByteArray), ((0:Int), (([] : List Event), ()))) : Watch))))
def laws_toWatchS (lp : Nat) (x0 : List Watch) : Option ((List Watch)) := laws_toWatchS.e lp (fun x0 x4 xo7 => obind (laws_toWatchS.l3 lp lp x0 x4 xo7) (leF (fun z => z.elim) (fun y => laws_toWatchS.a3 lp y))) x0
def laws_toOp (lp : Nat) (x0 : Op) : Option Op := obind (laws_toEditS lp x0.2.2.2.2.1) fun (t1 : (List Edit)) => some (x0.1, x0.2.1, x0.2.2.1, x0.2.2.2.1, t1, ())
def laws_toStringS.b3 {R : Type} (lp : Nat) (N : List ByteArray → Int → List ByteArray → Option R) (X : ((List ByteArray)) → Option R) (Q : Empty → Option R) (x0 : List ByteArray) (x4 : Int) (xo7 : List ByteArray) : Option R := cond (decide (x4 < (x0.length : Int))) (oget x0 x4 fun (e1 : ByteArray) => oif (decide ((0:Int) ≤ x4)) (oif (decide (x4 < (xo7.length : Int))) (oget xo7 (x4.toNat : Int) fun (e2 : ByteArray) => N x0 (IntKind.i64.wrap (x4 + (1:Int))) (xo7.set x4.toNat e1)))) (X xo7)
def laws_toStringS.l3 (lp : Nat) : Nat → List ByteArray → Int → List ByteArray → Option (LE Empty ((List ByteArray)))
  | 0, _, _, _ => none
  | k + 1, x0, x4, xo7 => laws_toStringS.b3 lp (laws_toStringS.l3 lp k) (fun y => some (.brk y)) (fun z => some (.ret z)) x0 x4 xo7
def laws_toStringS.a3 (lp : Nat) (y : (List ByteArray)) : Option ((List ByteArray)) := some y
def laws_toStringS.e (lp : Nat) (L3 : List ByteArray → Int → List ByteArray → Option ((List ByteArray))) (x0 : List ByteArray) : Option ((List ByteArray)) := oif (decide ((0:Int) ≤ (x0.length : Int))) (oif (decide ((x0.length : Int).toNat * 16 ≤ 140737488355328)) (L3 x0 (0:Int) (List.replicate (x0.length : Int).toNat ((⟨#[]⟩ : ByteArray) : ByteArray))))
def laws_toStringS (lp : Nat) (x0 : List ByteArray) : Option ((List ByteArray)) := laws_toStringS.e lp (fun x0 x4 xo7 => obind (laws_toStringS.l3 lp lp x0 x4 xo7) (leF (fun z => z.elim) (fun y => laws_toStringS.a3 lp y))) x0
def laws_toResult (lp : Nat) (x0 : Result) : Option Result := obind (laws_toStringS lp x0.2.2.2.1) fun (t1 : (List ByteArray)) => obind (laws_toEntryS lp x0.2.2.2.2.1) fun (t2 : (List Entry)) => some (x0.1, x0.2.1, x0.2.2.1, t1, t2, ())
def laws_toMoment (lp : Nat) (x0 : Moment) : Option Moment := obind (laws_toOp lp x0.2.2.2.1) fun (t1 : Op) => obind (laws_toResult lp x0.2.2.2.2.1) fun (t2 : Result) => some (x0.1, x0.2.1, x0.2.2.1, t1, t2, ())
def laws_toMomentS.b3 {R : Type} (lp : Nat) (N : List Moment → Int → List Moment → Option R) (X : ((List Moment)) → Option R) (Q : Empty → Option R) (x0 : List Moment) (x4 : Int) (xo7 : List Moment) : Option R := cond (decide (x4 < (x0.length : Int))) (oget x0 x4 fun (e1 : Moment) => obind (laws_toMoment lp e1) fun (t2 : Moment) => oif (decide ((0:Int) ≤ x4)) (oif (decide (x4 < (xo7.length : Int))) (oget xo7 (x4.toNat : Int) fun (e3 : Moment) => N x0 (IntKind.i64.wrap (x4 + (1:Int))) (xo7.set x4.toNat t2)))) (X xo7)
def laws_toMomentS.l3 (lp : Nat) : Nat → List Moment → Int → List Moment → Option (LE Empty ((List Moment)))
  | 0, _, _, _ => none
  | k + 1, x0, x4, xo7 => laws_toMomentS.b3 lp (laws_toMomentS.l3 lp k) (fun y => some (.brk y)) (fun z => some (.ret z)) x0 x4 xo7
def laws_toMomentS.a3 (lp : Nat) (y : (List Moment)) : Option ((List Moment)) := some y
def laws_toMomentS.e (lp : Nat) (L3 : List Moment → Int → List Moment → Option ((List Moment))) (x0 : List Moment) : Option ((List Moment)) := oif (decide ((0:Int) ≤ (x0.length : Int))) (oif (decide ((x0.length : Int).toNat * 168 ≤ 140737488355328)) (L3 x0 (0:Int) (List.replicate (x0.length : Int).toNat (((0:Int), ((0:Int), ((0:Int), (((0:Int), ((0:Int), ((⟨#[]⟩ : ByteArray), ((⟨#[]⟩ : ByteArray), (([] : List Edit), ()))))), (((0:Int), ((0:Int), ((0:Int), (([] : List ByteArray), (([] : List Entry), ()))))), ()))))) : Moment))))
def laws_toMomentS (lp : Nat) (x0 : List Moment) : Option ((List Moment)) := laws_toMomentS.e lp (fun x0 x4 xo7 => obind (laws_toMomentS.l3 lp lp x0 x4 xo7) (leF (fun z => z.elim) (fun y => laws_toMomentS.a3 lp y))) x0
def laws_toWorld (lp : Nat) (x0 : World) : Option World := obind (laws_toBase lp x0.1) fun (t1 : Base) => obind (laws_toClientS lp x0.2.1) fun (t2 : (List Client)) => obind (laws_toWatchS lp x0.2.2.1) fun (t3 : (List Watch)) => obind (laws_toMomentS lp x0.2.2.2.1) fun (t4 : (List Moment)) => some (t1, t2, t3, t4, x0.2.2.2.2)
def laws_eqEntry (x0 : Entry) (x1 : Entry) : Option Bool := cond (!(x0.1.toList == x1.1.toList)) (some false) (cond (x0.2.1 != x1.2.1) (some false) (some true))
def laws_eqEntryS.b4 {R : Type} (lp : Nat) (N : List Entry → List Entry → Int → Option R) (X : Unit → Option R) (Q : Bool → Option R) (x0 : List Entry) (x1 : List Entry) (x5 : Int) : Option R := cond (decide (x5 < (x0.length : Int))) (oget x0 x5 fun (e1 : Entry) => oget x1 x5 fun (e2 : Entry) => obind (laws_eqEntry e1 e2) fun (t3 : Bool) => cond (!t3) (Q false) (N x0 x1 (IntKind.i64.wrap (x5 + (1:Int))))) (X ())
def laws_eqEntryS.l4 (lp : Nat) : Nat → List Entry → List Entry → Int → Option (LE Bool Unit)
  | 0, _, _, _ => none
  | k + 1, x0, x1, x5 => laws_eqEntryS.b4 lp (laws_eqEntryS.l4 lp k) (fun y => some (.brk y)) (fun z => some (.ret z)) x0 x1 x5
def laws_eqEntryS.a4 (lp : Nat) (y : Unit) : Option Bool := some true
def laws_eqEntryS.q4 (lp : Nat) (z : Bool) : Option Bool := some z
def laws_eqEntryS.e (lp : Nat) (L4 : List Entry → List Entry → Int → Option Bool) (x0 : List Entry) (x1 : List Entry) : Option Bool := cond ((x0.length : Int) != (x1.length : Int)) (some false) (L4 x0 x1 (0:Int))
def laws_eqEntryS (lp : Nat) (x0 : List Entry) (x1 : List Entry) : Option Bool := laws_eqEntryS.e lp (fun x0 x1 x5 => obind (laws_eqEntryS.l4 lp lp x0 x1 x5) (leF (fun z => laws_eqEntryS.q4 lp z) (fun y => laws_eqEntryS.a4 lp y))) x0 x1
def laws_eqIntS.b4 {R : Type} (lp : Nat) (N : List Int → List Int → Int → Option R) (X : Unit → Option R) (Q : Bool → Option R) (x0 : List Int) (x1 : List Int) (x5 : Int) : Option R := cond (decide (x5 < (x0.length : Int))) (oget x0 x5 fun (e1 : Int) => oget x1 x5 fun (e2 : Int) => cond (e1 != e2) (Q false) (N x0 x1 (IntKind.i64.wrap (x5 + (1:Int))))) (X ())
def laws_eqIntS.l4 (lp : Nat) : Nat → List Int → List Int → Int → Option (LE Bool Unit)
  | 0, _, _, _ => none
  | k + 1, x0, x1, x5 => laws_eqIntS.b4 lp (laws_eqIntS.l4 lp k) (fun y => some (.brk y)) (fun z => some (.ret z)) x0 x1 x5
def laws_eqIntS.a4 (lp : Nat) (y : Unit) : Option Bool := some true
def laws_eqIntS.q4 (lp : Nat) (z : Bool) : Option Bool := some z
def laws_eqIntS.e (lp : Nat) (L4 : List Int → List Int → Int → Option Bool) (x0 : List Int) (x1 : List Int) : Option Bool := cond ((x0.length : Int) != (x1.length : Int)) (some false) (L4 x0 x1 (0:Int))
def laws_eqIntS (lp : Nat) (x0 : List Int) (x1 : List Int) : Option Bool := laws_eqIntS.e lp (fun x0 x1 x5 => obind (laws_eqIntS.l4 lp lp x0 x1 x5) (leF (fun z => laws_eqIntS.q4 lp z) (fun y => laws_eqIntS.a4 lp y))) x0 x1
def laws_eqCommit (lp : Nat) (x0 : Commit) (x1 : Commit) : Option Bool := obind (laws_eqIntS lp x0.1 x1.1) fun (t1 : Bool) => cond (!t1) (some false) (obind (laws_eqEntryS lp x0.2.1 x1.2.1) fun (t2 : Bool) => cond (!t2) (some false) (some true))
def laws_eqCommitS.b4 {R : Type} (lp : Nat) (N : List Commit → List Commit → Int → Option R) (X : Unit → Option R) (Q : Bool → Option R) (x0 : List Commit) (x1 : List Commit) (x5 : Int) : Option R := cond (decide (x5 < (x0.length : Int))) (oget x0 x5 fun (e1 : Commit) => oget x1 x5 fun (e2 : Commit) => obind (laws_eqCommit lp e1 e2) fun (t3 : Bool) => cond (!t3) (Q false) (N x0 x1 (IntKind.i64.wrap (x5 + (1:Int))))) (X ())
def laws_eqCommitS.l4 (lp : Nat) : Nat → List Commit → List Commit → Int → Option (LE Bool Unit)
  | 0, _, _, _ => none
  | k + 1, x0, x1, x5 => laws_eqCommitS.b4 lp (laws_eqCommitS.l4 lp k) (fun y => some (.brk y)) (fun z => some (.ret z)) x0 x1 x5
def laws_eqCommitS.a4 (lp : Nat) (y : Unit) : Option Bool := some true
def laws_eqCommitS.q4 (lp : Nat) (z : Bool) : Option Bool := some z
def laws_eqCommitS.e (lp : Nat) (L4 : List Commit → List Commit → Int → Option Bool) (x0 : List Commit) (x1 : List Commit) : Option Bool := cond ((x0.length : Int) != (x1.length : Int)) (some false) (L4 x0 x1 (0:Int))
def laws_eqCommitS (lp : Nat) (x0 : List Commit) (x1 : List Commit) : Option Bool := laws_eqCommitS.e lp (fun x0 x1 x5 => obind (laws_eqCommitS.l4 lp lp x0 x1 x5) (leF (fun z => laws_eqCommitS.q4 lp z) (fun y => laws_eqCommitS.a4 lp y))) x0 x1
def laws_eqRef (x0 : Ref) (x1 : Ref) : Option Bool := cond (!(x0.1.toList == x1.1.toList)) (some false) (cond (x0.2.1 != x1.2.1) (some false) (cond (x0.2.2.1 != x1.2.2.1) (some false) (cond (x0.2.2.2.1 != x1.2.2.2.1) (some false) (some true))))
def laws_eqRefS.b4 {R : Type} (lp : Nat) (N : List Ref → List Ref → Int → Option R) (X : Unit → Option R) (Q : Bool → Option R) (x0 : List Ref) (x1 : List Ref) (x5 : Int) : Option R := cond (decide (x5 < (x0.length : Int))) (oget x0 x5 fun (e1 : Ref) => oget x1 x5 fun (e2 : Ref) => obind (laws_eqRef e1 e2) fun (t3 : Bool) => cond (!t3) (Q false) (N x0 x1 (IntKind.i64.wrap (x5 + (1:Int))))) (X ())
def laws_eqRefS.l4 (lp : Nat) : Nat → List Ref → List Ref → Int → Option (LE Bool Unit)
  | 0, _, _, _ => none
  | k + 1, x0, x1, x5 => laws_eqRefS.b4 lp (laws_eqRefS.l4 lp k) (fun y => some (.brk y)) (fun z => some (.ret z)) x0 x1 x5
def laws_eqRefS.a4 (lp : Nat) (y : Unit) : Option Bool := some true
def laws_eqRefS.q4 (lp : Nat) (z : Bool) : Option Bool := some z
def laws_eqRefS.e (lp : Nat) (L4 : List Ref → List Ref → Int → Option Bool) (x0 : List Ref) (x1 : List Ref) : Option Bool := cond ((x0.length : Int) != (x1.length : Int)) (some false) (L4 x0 x1 (0:Int))
def laws_eqRefS (lp : Nat) (x0 : List Ref) (x1 : List Ref) : Option Bool := laws_eqRefS.e lp (fun x0 x1 x5 => obind (laws_eqRefS.l4 lp lp x0 x1 x5) (leF (fun z => laws_eqRefS.q4 lp z) (fun y => laws_eqRefS.a4 lp y))) x0 x1
def laws_eqBase (lp : Nat) (x0 : Base) (x1 : Base) : Option Bool := obind (laws_eqCommitS lp x0.1 x1.1) fun (t1 : Bool) => cond (!t1) (some false) (obind (laws_eqRefS lp x0.2.1 x1.2.1) fun (t2 : Bool) => cond (!t2) (some false) (some true))
def laws_eqEdit (x0 : Edit) (x1 : Edit) : Option Bool := cond (!(x0.1.toList == x1.1.toList)) (some false) (cond (x0.2.1 != x1.2.1) (some false) (cond (x0.2.2.1 != x1.2.2.1) (some false) (some true)))
def laws_eqEditS.b4 {R : Type} (lp : Nat) (N : List Edit → List Edit → Int → Option R) (X : Unit → Option R) (Q : Bool → Option R) (x0 : List Edit) (x1 : List Edit) (x5 : Int) : Option R := cond (decide (x5 < (x0.length : Int))) (oget x0 x5 fun (e1 : Edit) => oget x1 x5 fun (e2 : Edit) => obind (laws_eqEdit e1 e2) fun (t3 : Bool) => cond (!t3) (Q false) (N x0 x1 (IntKind.i64.wrap (x5 + (1:Int))))) (X ())
def laws_eqEditS.l4 (lp : Nat) : Nat → List Edit → List Edit → Int → Option (LE Bool Unit)
  | 0, _, _, _ => none
  | k + 1, x0, x1, x5 => laws_eqEditS.b4 lp (laws_eqEditS.l4 lp k) (fun y => some (.brk y)) (fun z => some (.ret z)) x0 x1 x5
def laws_eqEditS.a4 (lp : Nat) (y : Unit) : Option Bool := some true
def laws_eqEditS.q4 (lp : Nat) (z : Bool) : Option Bool := some z
def laws_eqEditS.e (lp : Nat) (L4 : List Edit → List Edit → Int → Option Bool) (x0 : List Edit) (x1 : List Edit) : Option Bool := cond ((x0.length : Int) != (x1.length : Int)) (some false) (L4 x0 x1 (0:Int))
def laws_eqEditS (lp : Nat) (x0 : List Edit) (x1 : List Edit) : Option Bool := laws_eqEditS.e lp (fun x0 x1 x5 => obind (laws_eqEditS.l4 lp lp x0 x1 x5) (leF (fun z => laws_eqEditS.q4 lp z) (fun y => laws_eqEditS.a4 lp y))) x0 x1
def laws_eqWish (lp : Nat) (x0 : Wish) (x1 : Wish) : Option Bool := cond (x0.1 != x1.1) (some false) (cond (!(x0.2.1.toList == x1.2.1.toList)) (some false) (cond (!(x0.2.2.1.toList == x1.2.2.1.toList)) (some false) (cond (!(x0.2.2.2.1.toList == x1.2.2.2.1.toList)) (some false) (obind (laws_eqEditS lp x0.2.2.2.2.1 x1.2.2.2.2.1) fun (t1 : Bool) => cond (!t1) (some false) (some true)))))
def laws_eqWishS.b4 {R : Type} (lp : Nat) (N : List Wish → List Wish → Int → Option R) (X : Unit → Option R) (Q : Bool → Option R) (x0 : List Wish) (x1 : List Wish) (x5 : Int) : Option R := cond (decide (x5 < (x0.length : Int))) (oget x0 x5 fun (e1 : Wish) => oget x1 x5 fun (e2 : Wish) => obind (laws_eqWish lp e1 e2) fun (t3 : Bool) => cond (!t3) (Q false) (N x0 x1 (IntKind.i64.wrap (x5 + (1:Int))))) (X ())
def laws_eqWishS.l4 (lp : Nat) : Nat → List Wish → List Wish → Int → Option (LE Bool Unit)
  | 0, _, _, _ => none
  | k + 1, x0, x1, x5 => laws_eqWishS.b4 lp (laws_eqWishS.l4 lp k) (fun y => some (.brk y)) (fun z => some (.ret z)) x0 x1 x5
def laws_eqWishS.a4 (lp : Nat) (y : Unit) : Option Bool := some true
def laws_eqWishS.q4 (lp : Nat) (z : Bool) : Option Bool := some z
def laws_eqWishS.e (lp : Nat) (L4 : List Wish → List Wish → Int → Option Bool) (x0 : List Wish) (x1 : List Wish) : Option Bool := cond ((x0.length : Int) != (x1.length : Int)) (some false) (L4 x0 x1 (0:Int))
def laws_eqWishS (lp : Nat) (x0 : List Wish) (x1 : List Wish) : Option Bool := laws_eqWishS.e lp (fun x0 x1 x5 => obind (laws_eqWishS.l4 lp lp x0 x1 x5) (leF (fun z => laws_eqWishS.q4 lp z) (fun y => laws_eqWishS.a4 lp y))) x0 x1
def laws_eqClient (lp : Nat) (x0 : Client) (x1 : Client) : Option Bool := obind (laws_eqWishS lp x0.1 x1.1) fun (t1 : Bool) => cond (!t1) (some false) (cond (x0.2.1 != x1.2.1) (some false) (cond (x0.2.2.1 != x1.2.2.1) (some false) (cond (x0.2.2.2.1 != x1.2.2.2.1) (some false) (cond (x0.2.2.2.2.1 != x1.2.2.2.2.1) (some false) (cond (x0.2.2.2.2.2.1 != x1.2.2.2.2.2.1) (some false) (cond (x0.2.2.2.2.2.2.1 != x1.2.2.2.2.2.2.1) (some false) (cond (x0.2.2.2.2.2.2.2.1 != x1.2.2.2.2.2.2.2.1) (some false) (obind (laws_eqEntryS lp x0.2.2.2.2.2.2.2.2.1 x1.2.2.2.2.2.2.2.2.1) fun (t2 : Bool) => cond (!t2) (some false) (some true)))))))))
def laws_eqClientS.b4 {R : Type} (lp : Nat) (N : List Client → List Client → Int → Option R) (X : Unit → Option R) (Q : Bool → Option R) (x0 : List Client) (x1 : List Client) (x5 : Int) : Option R := cond (decide (x5 < (x0.length : Int))) (oget x0 x5 fun (e1 : Client) => oget x1 x5 fun (e2 : Client) => obind (laws_eqClient lp e1 e2) fun (t3 : Bool) => cond (!t3) (Q false) (N x0 x1 (IntKind.i64.wrap (x5 + (1:Int))))) (X ())
def laws_eqClientS.l4 (lp : Nat) : Nat → List Client → List Client → Int → Option (LE Bool Unit)
  | 0, _, _, _ => none
  | k + 1, x0, x1, x5 => laws_eqClientS.b4 lp (laws_eqClientS.l4 lp k) (fun y => some (.brk y)) (fun z => some (.ret z)) x0 x1 x5
def laws_eqClientS.a4 (lp : Nat) (y : Unit) : Option Bool := some true
def laws_eqClientS.q4 (lp : Nat) (z : Bool) : Option Bool := some z
def laws_eqClientS.e (lp : Nat) (L4 : List Client → List Client → Int → Option Bool) (x0 : List Client) (x1 : List Client) : Option Bool := cond ((x0.length : Int) != (x1.length : Int)) (some false) (L4 x0 x1 (0:Int))
def laws_eqClientS (lp : Nat) (x0 : List Client) (x1 : List Client) : Option Bool := laws_eqClientS.e lp (fun x0 x1 x5 => obind (laws_eqClientS.l4 lp lp x0 x1 x5) (leF (fun z => laws_eqClientS.q4 lp z) (fun y => laws_eqClientS.a4 lp y))) x0 x1
def laws_eqEvent (x0 : Event) (x1 : Event) : Option Bool := cond (x0.1 != x1.1) (some false) (cond (x0.2.1 != x1.2.1) (some false) (cond (x0.2.2.1 != x1.2.2.1) (some false) (some true)))
def laws_eqEventS.b4 {R : Type} (lp : Nat) (N : List Event → List Event → Int → Option R) (X : Unit → Option R) (Q : Bool → Option R) (x0 : List Event) (x1 : List Event) (x5 : Int) : Option R := cond (decide (x5 < (x0.length : Int))) (oget x0 x5 fun (e1 : Event) => oget x1 x5 fun (e2 : Event) => obind (laws_eqEvent e1 e2) fun (t3 : Bool) => cond (!t3) (Q false) (N x0 x1 (IntKind.i64.wrap (x5 + (1:Int))))) (X ())
def laws_eqEventS.l4 (lp : Nat) : Nat → List Event → List Event → Int → Option (LE Bool Unit)
  | 0, _, _, _ => none
  | k + 1, x0, x1, x5 => laws_eqEventS.b4 lp (laws_eqEventS.l4 lp k) (fun y => some (.brk y)) (fun z => some (.ret z)) x0 x1 x5
def laws_eqEventS.a4 (lp : Nat) (y : Unit) : Option Bool := some true
def laws_eqEventS.q4 (lp : Nat) (z : Bool) : Option Bool := some z
def laws_eqEventS.e (lp : Nat) (L4 : List Event → List Event → Int → Option Bool) (x0 : List Event) (x1 : List Event) : Option Bool := cond ((x0.length : Int) != (x1.length : Int)) (some false) (L4 x0 x1 (0:Int))
def laws_eqEventS (lp : Nat) (x0 : List Event) (x1 : List Event) : Option Bool := laws_eqEventS.e lp (fun x0 x1 x5 => obind (laws_eqEventS.l4 lp lp x0 x1 x5) (leF (fun z => laws_eqEventS.q4 lp z) (fun y => laws_eqEventS.a4 lp y))) x0 x1
def laws_eqWatch (lp : Nat) (x0 : Watch) (x1 : Watch) : Option Bool := cond (!(x0.1.toList == x1.1.toList)) (some false) (cond (x0.2.1 != x1.2.1) (some false) (obind (laws_eqEventS lp x0.2.2.1 x1.2.2.1) fun (t1 : Bool) => cond (!t1) (some false) (some true)))
def laws_eqWatchS.b4 {R : Type} (lp : Nat) (N : List Watch → List Watch → Int → Option R) (X : Unit → Option R) (Q : Bool → Option R) (x0 : List Watch) (x1 : List Watch) (x5 : Int) : Option R := cond (decide (x5 < (x0.length : Int))) (oget x0 x5 fun (e1 : Watch) => oget x1 x5 fun (e2 : Watch) => obind (laws_eqWatch lp e1 e2) fun (t3 : Bool) => cond (!t3) (Q false) (N x0 x1 (IntKind.i64.wrap (x5 + (1:Int))))) (X ())
def laws_eqWatchS.l4 (lp : Nat) : Nat → List Watch → List Watch → Int → Option (LE Bool Unit)
  | 0, _, _, _ => none
  | k + 1, x0, x1, x5 => laws_eqWatchS.b4 lp (laws_eqWatchS.l4 lp k) (fun y => some (.brk y)) (fun z => some (.ret z)) x0 x1 x5
def laws_eqWatchS.a4 (lp : Nat) (y : Unit) : Option Bool := some true
def laws_eqWatchS.q4 (lp : Nat) (z : Bool) : Option Bool := some z
def laws_eqWatchS.e (lp : Nat) (L4 : List Watch → List Watch → Int → Option Bool) (x0 : List Watch) (x1 : List Watch) : Option Bool := cond ((x0.length : Int) != (x1.length : Int)) (some false) (L4 x0 x1 (0:Int))
def laws_eqWatchS (lp : Nat) (x0 : List Watch) (x1 : List Watch) : Option Bool := laws_eqWatchS.e lp (fun x0 x1 x5 => obind (laws_eqWatchS.l4 lp lp x0 x1 x5) (leF (fun z => laws_eqWatchS.q4 lp z) (fun y => laws_eqWatchS.a4 lp y))) x0 x1
def laws_eqOp (lp : Nat) (x0 : Op) (x1 : Op) : Option Bool := cond (x0.1 != x1.1) (some false) (cond (x0.2.1 != x1.2.1) (some false) (cond (!(x0.2.2.1.toList == x1.2.2.1.toList)) (some false) (cond (!(x0.2.2.2.1.toList == x1.2.2.2.1.toList)) (some false) (obind (laws_eqEditS lp x0.2.2.2.2.1 x1.2.2.2.2.1) fun (t1 : Bool) => cond (!t1) (some false) (some true)))))
def laws_eqStringS.b4 {R : Type} (lp : Nat) (N : List ByteArray → List ByteArray → Int → Option R) (X : Unit → Option R) (Q : Bool → Option R) (x0 : List ByteArray) (x1 : List ByteArray) (x5 : Int) : Option R := cond (decide (x5 < (x0.length : Int))) (oget x0 x5 fun (e1 : ByteArray) => oget x1 x5 fun (e2 : ByteArray) => cond (!(e1.toList == e2.toList)) (Q false) (N x0 x1 (IntKind.i64.wrap (x5 + (1:Int))))) (X ())
def laws_eqStringS.l4 (lp : Nat) : Nat → List ByteArray → List ByteArray → Int → Option (LE Bool Unit)
  | 0, _, _, _ => none
  | k + 1, x0, x1, x5 => laws_eqStringS.b4 lp (laws_eqStringS.l4 lp k) (fun y => some (.brk y)) (fun z => some (.ret z)) x0 x1 x5
def laws_eqStringS.a4 (lp : Nat) (y : Unit) : Option Bool := some true
def laws_eqStringS.q4 (lp : Nat) (z : Bool) : Option Bool := some z
def laws_eqStringS.e (lp : Nat) (L4 : List ByteArray → List ByteArray → Int → Option Bool) (x0 : List ByteArray) (x1 : List ByteArray) : Option Bool := cond ((x0.length : Int) != (x1.length : Int)) (some false) (L4 x0 x1 (0:Int))
def laws_eqStringS (lp : Nat) (x0 : List ByteArray) (x1 : List ByteArray) : Option Bool := laws_eqStringS.e lp (fun x0 x1 x5 => obind (laws_eqStringS.l4 lp lp x0 x1 x5) (leF (fun z => laws_eqStringS.q4 lp z) (fun y => laws_eqStringS.a4 lp y))) x0 x1
def laws_eqResult (lp : Nat) (x0 : Result) (x1 : Result) : Option Bool := cond (x0.1 != x1.1) (some false) (cond (x0.2.1 != x1.2.1) (some false) (cond (x0.2.2.1 != x1.2.2.1) (some false) (obind (laws_eqStringS lp x0.2.2.2.1 x1.2.2.2.1) fun (t1 : Bool) => cond (!t1) (some false) (obind (laws_eqEntryS lp x0.2.2.2.2.1 x1.2.2.2.2.1) fun (t2 : Bool) => cond (!t2) (some false) (some true)))))
def laws_eqMoment (lp : Nat) (x0 : Moment) (x1 : Moment) : Option Bool := cond (x0.1 != x1.1) (some false) (cond (x0.2.1 != x1.2.1) (some false) (cond (x0.2.2.1 != x1.2.2.1) (some false) (obind (laws_eqOp lp x0.2.2.2.1 x1.2.2.2.1) fun (t1 : Bool) => cond (!t1) (some false) (obind (laws_eqResult lp x0.2.2.2.2.1 x1.2.2.2.2.1) fun (t2 : Bool) => cond (!t2) (some false) (some true)))))
def laws_eqMomentS.b4 {R : Type} (lp : Nat) (N : List Moment → List Moment → Int → Option R) (X : Unit → Option R) (Q : Bool → Option R) (x0 : List Moment) (x1 : List Moment) (x5 : Int) : Option R := cond (decide (x5 < (x0.length : Int))) (oget x0 x5 fun (e1 : Moment) => oget x1 x5 fun (e2 : Moment) => obind (laws_eqMoment lp e1 e2) fun (t3 : Bool) => cond (!t3) (Q false) (N x0 x1 (IntKind.i64.wrap (x5 + (1:Int))))) (X ())
def laws_eqMomentS.l4 (lp : Nat) : Nat → List Moment → List Moment → Int → Option (LE Bool Unit)
  | 0, _, _, _ => none
  | k + 1, x0, x1, x5 => laws_eqMomentS.b4 lp (laws_eqMomentS.l4 lp k) (fun y => some (.brk y)) (fun z => some (.ret z)) x0 x1 x5
def laws_eqMomentS.a4 (lp : Nat) (y : Unit) : Option Bool := some true
def laws_eqMomentS.q4 (lp : Nat) (z : Bool) : Option Bool := some z
def laws_eqMomentS.e (lp : Nat) (L4 : List Moment → List Moment → Int → Option Bool) (x0 : List Moment) (x1 : List Moment) : Option Bool := cond ((x0.length : Int) != (x1.length : Int)) (some false) (L4 x0 x1 (0:Int))
def laws_eqMomentS (lp : Nat) (x0 : List Moment) (x1 : List Moment) : Option Bool := laws_eqMomentS.e lp (fun x0 x1 x5 => obind (laws_eqMomentS.l4 lp lp x0 x1 x5) (leF (fun z => laws_eqMomentS.q4 lp z) (fun y => laws_eqMomentS.a4 lp y))) x0 x1
def laws_eqWorld (lp : Nat) (x0 : World) (x1 : World) : Option Bool := obind (laws_eqBase lp x0.1 x1.1) fun (t1 : Bool) => cond (!t1) (some false) (obind (laws_eqClientS lp x0.2.1 x1.2.1) fun (t2 : Bool) => cond (!t2) (some false) (obind (laws_eqWatchS lp x0.2.2.1 x1.2.2.1) fun (t3 : Bool) => cond (!t3) (some false) (obind (laws_eqMomentS lp x0.2.2.2.1 x1.2.2.2.1) fun (t4 : Bool) => cond (!t4) (some false) (cond (x0.2.2.2.2.1 != x1.2.2.2.2.1) (some false) (some true)))))
def spec_l01In (x0 : Int) (x1 : Int) (x2 : Int) : Option Bool := cond (decide (x0 ≥ x1)) (some (decide (x0 ≤ x2))) (some false)
def spec_l00Letter (x0 : Int) : Option Bool := cond (decide (x0 ≥ (97:Int))) (cond (decide (x0 ≤ (122:Int))) (some true) (cond (decide (x0 ≥ (65:Int))) (cond (decide (x0 ≤ (90:Int))) (some true) (some (x0 == (95:Int)))) (some (x0 == (95:Int))))) (cond (decide (x0 ≥ (65:Int))) (cond (decide (x0 ≤ (90:Int))) (some true) (some (x0 == (95:Int)))) (some (x0 == (95:Int))))
def spec_l00Digit (x0 : Int) : Option Bool := cond (decide (x0 ≥ (48:Int))) (some (decide (x0 ≤ (57:Int)))) (some false)
def spec_l00Word.b4 {R : Type} (lp : Nat) (N : ByteArray → Int → Option R) (X : Unit → Option R) (Q : Bool → Option R) (x0 : ByteArray) (x3 : Int) : Option R := cond (decide (x3 < (x0.size : Int))) (oif (decide ((0:Int) ≤ x3)) (oif (decide (x3 < (x0.size : Int))) (obind (spec_l00Letter (byteAt x0 x3)) fun (t2 : Bool) => cond (!t2) (oif (decide ((0:Int) ≤ x3)) (oif (decide (x3 < (x0.size : Int))) (obind (spec_l00Digit (byteAt x0 x3)) fun (t3 : Bool) => cond (!t3) (Q false) (N x0 (IntKind.i64.wrap (x3 + (1:Int))))))) (N x0 (IntKind.i64.wrap (x3 + (1:Int))))))) (X ())
def spec_l00Word.l4 (lp : Nat) : Nat → ByteArray → Int → Option (LE Bool Unit)
  | 0, _, _ => none
  | k + 1, x0, x3 => spec_l00Word.b4 lp (spec_l00Word.l4 lp k) (fun y => some (.brk y)) (fun z => some (.ret z)) x0 x3
def spec_l00Word.a4 (lp : Nat) (y : Unit) : Option Bool := some true
def spec_l00Word.q4 (lp : Nat) (z : Bool) : Option Bool := some z
def spec_l00Word.e (lp : Nat) (L4 : ByteArray → Int → Option Bool) (x0 : ByteArray) : Option Bool := cond (decide ((x0.size : Int) < (1:Int))) (some false) (cond (decide ((x0.size : Int) > (12:Int))) (some false) (oif (decide ((0:Int) ≤ (0:Int))) (oif (decide ((0:Int) < (x0.size : Int))) (obind (spec_l00Letter (byteAt x0 (0:Int))) fun (t1 : Bool) => cond (!t1) (some false) (L4 x0 (1:Int))))))
def spec_l00Word (lp : Nat) (x0 : ByteArray) : Option Bool := spec_l00Word.e lp (fun x0 x3 => obind (spec_l00Word.l4 lp lp x0 x3) (leF (fun z => spec_l00Word.q4 lp z) (fun y => spec_l00Word.a4 lp y))) x0
def spec_l01OK.b4 {R : Type} (lp : Nat) (N : List Entry → Int → Option R) (X : Unit → Option R) (Q : Bool → Option R) (x0 : List Entry) (x3 : Int) : Option R := cond (decide (x3 < (x0.length : Int))) (oget x0 x3 fun (e1 : Entry) => obind (spec_l00Word lp e1.1) fun (t2 : Bool) => cond (!t2) (Q false) (oget x0 x3 fun (e3 : Entry) => obind (spec_l01In e3.2.1 (-1000000:Int) (1000000:Int)) fun (t4 : Bool) => cond (!t4) (Q false) (cond (decide (x3 > (0:Int))) (oget x0 x3 fun (e5 : Entry) => oget x0 (IntKind.i64.wrap (x3 - (1:Int))) fun (e6 : Entry) => cond (Op.bytesLess e5.1.toList e6.1.toList || (e5.1.toList == e6.1.toList)) (Q false) (N x0 (IntKind.i64.wrap (x3 + (1:Int))))) (N x0 (IntKind.i64.wrap (x3 + (1:Int))))))) (X ())
def spec_l01OK.l4 (lp : Nat) : Nat → List Entry → Int → Option (LE Bool Unit)
  | 0, _, _ => none
  | k + 1, x0, x3 => spec_l01OK.b4 lp (spec_l01OK.l4 lp k) (fun y => some (.brk y)) (fun z => some (.ret z)) x0 x3
def spec_l01OK.a4 (lp : Nat) (y : Unit) : Option Bool := some true
def spec_l01OK.q4 (lp : Nat) (z : Bool) : Option Bool := some z
def spec_l01OK.e (lp : Nat) (L4 : List Entry → Int → Option Bool) (x0 : List Entry) : Option Bool := cond (decide ((x0.length : Int) > (12:Int))) (some false) (L4 x0 (0:Int))
def spec_l01OK (lp : Nat) (x0 : List Entry) : Option Bool := spec_l01OK.e lp (fun x0 x3 => obind (spec_l01OK.l4 lp lp x0 x3) (leF (fun z => spec_l01OK.q4 lp z) (fun y => spec_l01OK.a4 lp y))) x0
def spec_l03Commit.b5 {R : Type} (lp : Nat) (N : List Commit → List Int → List Entry → Int → Int → Option R) (X : Unit → Option R) (Q : Bool → Option R) (x0 : List Commit) (x3_0 : List Int) (x3_1 : List Entry) (x5 : Int) (x6 : Int) : Option R := cond (decide (x6 < x5)) (oget x3_0 x6 fun (e2 : Int) => obind (spec_l01In e2 (1:Int) (x0.length : Int)) fun (t3 : Bool) => cond (!t3) (Q false) (cond (decide (x6 > (0:Int))) (oget x3_0 x6 fun (e4 : Int) => oget x3_0 (0:Int) fun (e5 : Int) => cond (e4 == e5) (Q false) (N x0 x3_0 x3_1 x5 (IntKind.i64.wrap (x6 + (1:Int))))) (N x0 x3_0 x3_1 x5 (IntKind.i64.wrap (x6 + (1:Int)))))) (X ())
def spec_l03Commit.l5 (lp : Nat) : Nat → List Commit → List Int → List Entry → Int → Int → Option (LE Bool Unit)
  | 0, _, _, _, _, _ => none
  | k + 1, x0, x3_0, x3_1, x5, x6 => spec_l03Commit.b5 lp (spec_l03Commit.l5 lp k) (fun y => some (.brk y)) (fun z => some (.ret z)) x0 x3_0 x3_1 x5 x6
def spec_l03Commit.a5 (lp : Nat) (y : Unit) : Option Bool := some true
def spec_l03Commit.q5 (lp : Nat) (z : Bool) : Option Bool := some z
def spec_l03Commit.e (lp : Nat) (L5 : List Commit → List Int → List Entry → Int → Int → Option Bool) (x0 : List Commit) (x1 : Commit) : Option Bool := obind (spec_l01OK lp x1.2.1) fun (t1 : Bool) => cond (!t1) (some false) (cond (decide ((x1.1.length : Int) > (2:Int))) (some false) (cond (((x1.1.length : Int) == (0:Int)) != ((x0.length : Int) == (0:Int))) (some false) (L5 x0 x1.1 x1.2.1 (x1.1.length : Int) (0:Int))))
def spec_l03Commit (lp : Nat) (x0 : List Commit) (x1 : Commit) : Option Bool := spec_l03Commit.e lp (fun x0 x3_0 x3_1 x5 x6 => obind (spec_l03Commit.l5 lp lp x0 x3_0 x3_1 x5 x6) (leF (fun z => spec_l03Commit.q5 lp z) (fun y => spec_l03Commit.a5 lp y))) x0 x1
def spec_l03OK.b4 {R : Type} (lp : Nat) (N : List Commit → Int → Option R) (X : Unit → Option R) (Q : Bool → Option R) (x0 : List Commit) (x3 : Int) : Option R := cond (decide (x3 < (x0.length : Int))) (oif (decide ((0:Int) ≤ x3)) (oif (decide (x3 ≤ (x0.length : Int))) (oget x0 x3 fun (e2 : Commit) => obind (spec_l03Commit lp (x0.take x3.toNat) e2) fun (t3 : Bool) => cond (!t3) (Q false) (N x0 (IntKind.i64.wrap (x3 + (1:Int))))))) (X ())
def spec_l03OK.l4 (lp : Nat) : Nat → List Commit → Int → Option (LE Bool Unit)
  | 0, _, _ => none
  | k + 1, x0, x3 => spec_l03OK.b4 lp (spec_l03OK.l4 lp k) (fun y => some (.brk y)) (fun z => some (.ret z)) x0 x3
def spec_l03OK.a4 (lp : Nat) (y : Unit) : Option Bool := some true
def spec_l03OK.q4 (lp : Nat) (z : Bool) : Option Bool := some z
def spec_l03OK.e (lp : Nat) (L4 : List Commit → Int → Option Bool) (x0 : List Commit) : Option Bool := obind (spec_l01In (x0.length : Int) (1:Int) (60:Int)) fun (t1 : Bool) => cond (!t1) (some false) (L4 x0 (0:Int))
def spec_l03OK (lp : Nat) (x0 : List Commit) : Option Bool := spec_l03OK.e lp (fun x0 x3 => obind (spec_l03OK.l4 lp lp x0 x3) (leF (fun z => spec_l03OK.q4 lp z) (fun y => spec_l03OK.a4 lp y))) x0
def spec_l04At.b2 {R : Type} (lp : Nat) (N : List Ref → ByteArray → Int → Option R) (X : Unit → Option R) (Q : Int → Option R) (x0 : List Ref) (x1 : ByteArray) (x5 : Int) : Option R := cond (decide (x5 < (x0.length : Int))) (oget x0 x5 fun (e1 : Ref) => cond (e1.1.toList == x1.toList) (Q x5) (N x0 x1 (IntKind.i64.wrap (x5 + (1:Int))))) (X ())
def spec_l04At.l2 (lp : Nat) : Nat → List Ref → ByteArray → Int → Option (LE Int Unit)
  | 0, _, _, _ => none
  | k + 1, x0, x1, x5 => spec_l04At.b2 lp (spec_l04At.l2 lp k) (fun y => some (.brk y)) (fun z => some (.ret z)) x0 x1 x5
def spec_l04At.a2 (lp : Nat) (y : Unit) : Option Int := some (-1:Int)
def spec_l04At.q2 (lp : Nat) (z : Int) : Option Int := some z
def spec_l04At.e (lp : Nat) (L2 : List Ref → ByteArray → Int → Option Int) (x0 : List Ref) (x1 : ByteArray) : Option Int := L2 x0 x1 (0:Int)
def spec_l04At (lp : Nat) (x0 : List Ref) (x1 : ByteArray) : Option Int := spec_l04At.e lp (fun x0 x1 x5 => obind (spec_l04At.l2 lp lp x0 x1 x5) (leF (fun z => spec_l04At.q2 lp z) (fun y => spec_l04At.a2 lp y))) x0 x1
def spec_l04OK.b4 {R : Type} (lp : Nat) (N : List Ref → Int → Option R) (X : Unit → Option R) (Q : Bool → Option R) (x0 : List Ref) (x3 : Int) : Option R := cond (decide (x3 < (x0.length : Int))) (oget x0 x3 fun (e1 : Ref) => obind (spec_l00Word lp e1.1) fun (t2 : Bool) => cond (!t2) (Q false) (obind (spec_l01In e1.2.2.1 (1:Int) (1000000:Int)) fun (t3 : Bool) => cond (!t3) (Q false) (obind (spec_l04At lp x0 e1.1) fun (t4 : Int) => cond (t4 != x3) (Q false) (cond e1.2.2.2.1 (cond (e1.2.1 != (0:Int)) (Q false) (cond (!e1.2.2.2.1) (obind (spec_l01In e1.2.1 (1:Int) (60:Int)) fun (t5 : Bool) => cond (!t5) (Q false) (N x0 (IntKind.i64.wrap (x3 + (1:Int))))) (N x0 (IntKind.i64.wrap (x3 + (1:Int)))))) (cond (!e1.2.2.2.1) (obind (spec_l01In e1.2.1 (1:Int) (60:Int)) fun (t6 : Bool) => cond (!t6) (Q false) (N x0 (IntKind.i64.wrap (x3 + (1:Int))))) (N x0 (IntKind.i64.wrap (x3 + (1:Int))))))))) (X ())
def spec_l04OK.l4 (lp : Nat) : Nat → List Ref → Int → Option (LE Bool Unit)
  | 0, _, _ => none
  | k + 1, x0, x3 => spec_l04OK.b4 lp (spec_l04OK.l4 lp k) (fun y => some (.brk y)) (fun z => some (.ret z)) x0 x3
def spec_l04OK.a4 (lp : Nat) (y : Unit) : Option Bool := some true
def spec_l04OK.q4 (lp : Nat) (z : Bool) : Option Bool := some z
def spec_l04OK.e (lp : Nat) (L4 : List Ref → Int → Option Bool) (x0 : List Ref) : Option Bool := cond (decide ((x0.length : Int) > (8:Int))) (some false) (L4 x0 (0:Int))
def spec_l04OK (lp : Nat) (x0 : List Ref) : Option Bool := spec_l04OK.e lp (fun x0 x3 => obind (spec_l04OK.l4 lp lp x0 x3) (leF (fun z => spec_l04OK.q4 lp z) (fun y => spec_l04OK.a4 lp y))) x0
def spec_l05OK.b4 {R : Type} (lp : Nat) (N : List Commit → List Ref → Int → Option R) (X : Unit → Option R) (Q : Bool → Option R) (x1_0 : List Commit) (x1_1 : List Ref) (x3 : Int) : Option R := cond (decide (x3 < (x1_1.length : Int))) (oget x1_1 x3 fun (e3 : Ref) => cond (decide (e3.2.1 > (x1_0.length : Int))) (Q false) (N x1_0 x1_1 (IntKind.i64.wrap (x3 + (1:Int))))) (X ())
def spec_l05OK.l4 (lp : Nat) : Nat → List Commit → List Ref → Int → Option (LE Bool Unit)
  | 0, _, _, _ => none
  | k + 1, x1_0, x1_1, x3 => spec_l05OK.b4 lp (spec_l05OK.l4 lp k) (fun y => some (.brk y)) (fun z => some (.ret z)) x1_0 x1_1 x3
def spec_l05OK.a4 (lp : Nat) (y : Unit) : Option Bool := some true
def spec_l05OK.q4 (lp : Nat) (z : Bool) : Option Bool := some z
def spec_l05OK.e (lp : Nat) (L4 : List Commit → List Ref → Int → Option Bool) (x0 : Base) : Option Bool := obind (spec_l03OK lp x0.1) fun (t1 : Bool) => cond (!t1) (some false) (obind (spec_l04OK lp x0.2.1) fun (t2 : Bool) => cond (!t2) (some false) (L4 x0.1 x0.2.1 (0:Int)))
def spec_l05OK (lp : Nat) (x0 : Base) : Option Bool := spec_l05OK.e lp (fun x1_0 x1_1 x3 => obind (spec_l05OK.l4 lp lp x1_0 x1_1 x3) (leF (fun z => spec_l05OK.q4 lp z) (fun y => spec_l05OK.a4 lp y))) x0
def spec_l01Edits.b4 {R : Type} (lp : Nat) (N : List Edit → Int → Option R) (X : Unit → Option R) (Q : Bool → Option R) (x0 : List Edit) (x3 : Int) : Option R := cond (decide (x3 < (x0.length : Int))) (oget x0 x3 fun (e1 : Edit) => obind (spec_l00Word lp e1.1) fun (t2 : Bool) => cond (!t2) (Q false) (obind (spec_l01In e1.2.1 (-1000000:Int) (1000000:Int)) fun (t3 : Bool) => cond (!t3) (Q false) (cond e1.2.2.1 (cond (e1.2.1 != (0:Int)) (Q false) (cond (decide (x3 > (0:Int))) (oget x0 (IntKind.i64.wrap (x3 - (1:Int))) fun (e4 : Edit) => cond (Op.bytesLess e1.1.toList e4.1.toList || (e1.1.toList == e4.1.toList)) (Q false) (N x0 (IntKind.i64.wrap (x3 + (1:Int))))) (N x0 (IntKind.i64.wrap (x3 + (1:Int)))))) (cond (decide (x3 > (0:Int))) (oget x0 (IntKind.i64.wrap (x3 - (1:Int))) fun (e5 : Edit) => cond (Op.bytesLess e1.1.toList e5.1.toList || (e1.1.toList == e5.1.toList)) (Q false) (N x0 (IntKind.i64.wrap (x3 + (1:Int))))) (N x0 (IntKind.i64.wrap (x3 + (1:Int)))))))) (X ())
def spec_l01Edits.l4 (lp : Nat) : Nat → List Edit → Int → Option (LE Bool Unit)
  | 0, _, _ => none
  | k + 1, x0, x3 => spec_l01Edits.b4 lp (spec_l01Edits.l4 lp k) (fun y => some (.brk y)) (fun z => some (.ret z)) x0 x3
def spec_l01Edits.a4 (lp : Nat) (y : Unit) : Option Bool := some true
def spec_l01Edits.q4 (lp : Nat) (z : Bool) : Option Bool := some z
def spec_l01Edits.e (lp : Nat) (L4 : List Edit → Int → Option Bool) (x0 : List Edit) : Option Bool := cond (decide ((x0.length : Int) > (6:Int))) (some false) (L4 x0 (0:Int))
def spec_l01Edits (lp : Nat) (x0 : List Edit) : Option Bool := spec_l01Edits.e lp (fun x0 x3 => obind (spec_l01Edits.l4 lp lp x0 x3) (leF (fun z => spec_l01Edits.q4 lp z) (fun y => spec_l01Edits.a4 lp y))) x0
def spec_l07Wish (lp : Nat) (x0 : Wish) : Option Bool := obind (spec_l00Word lp x0.2.1) fun (t1 : Bool) => cond (!t1) (some false) (obind (spec_l01In x0.1 (1:Int) (6:Int)) fun (t2 : Bool) => cond (!t2) (some false) (obind (spec_l01Edits lp x0.2.2.2.2.1) fun (t3 : Bool) => cond (!t3) (some false) (cond (x0.1 != (3:Int)) (cond (decide ((x0.2.2.2.2.1.length : Int) > (0:Int))) (some false) (cond (x0.1 == (1:Int)) (obind (spec_l00Word lp x0.2.2.1) fun (t4 : Bool) => cond t4 (cond (x0.1 == (5:Int)) (obind (spec_l00Word lp x0.2.2.2.1) fun (t5 : Bool) => cond t5 (some true) (cond (!(x0.1 == (5:Int))) (some (x0.2.2.2.1.toList == (⟨#[]⟩ : ByteArray).toList)) (some false))) (cond (!(x0.1 == (5:Int))) (some (x0.2.2.2.1.toList == (⟨#[]⟩ : ByteArray).toList)) (some false))) (some false)) (cond (x0.1 == (4:Int)) (obind (spec_l00Word lp x0.2.2.1) fun (t6 : Bool) => cond t6 (cond (x0.1 == (5:Int)) (obind (spec_l00Word lp x0.2.2.2.1) fun (t7 : Bool) => cond t7 (some true) (cond (!(x0.1 == (5:Int))) (some (x0.2.2.2.1.toList == (⟨#[]⟩ : ByteArray).toList)) (some false))) (cond (!(x0.1 == (5:Int))) (some (x0.2.2.2.1.toList == (⟨#[]⟩ : ByteArray).toList)) (some false))) (cond (!(x0.1 == (4:Int))) (cond (x0.2.2.1.toList == (⟨#[]⟩ : ByteArray).toList) (cond (x0.1 == (5:Int)) (obind (spec_l00Word lp x0.2.2.2.1) fun (t8 : Bool) => cond t8 (some true) (cond (!(x0.1 == (5:Int))) (some (x0.2.2.2.1.toList == (⟨#[]⟩ : ByteArray).toList)) (some false))) (cond (!(x0.1 == (5:Int))) (some (x0.2.2.2.1.toList == (⟨#[]⟩ : ByteArray).toList)) (some false))) (some false)) (some false))) (cond (!(x0.1 == (4:Int))) (cond (x0.2.2.1.toList == (⟨#[]⟩ : ByteArray).toList) (cond (x0.1 == (5:Int)) (obind (spec_l00Word lp x0.2.2.2.1) fun (t9 : Bool) => cond t9 (some true) (cond (!(x0.1 == (5:Int))) (some (x0.2.2.2.1.toList == (⟨#[]⟩ : ByteArray).toList)) (some false))) (cond (!(x0.1 == (5:Int))) (some (x0.2.2.2.1.toList == (⟨#[]⟩ : ByteArray).toList)) (some false))) (some false)) (some false))))) (cond (x0.1 == (1:Int)) (obind (spec_l00Word lp x0.2.2.1) fun (t10 : Bool) => cond t10 (cond (x0.1 == (5:Int)) (obind (spec_l00Word lp x0.2.2.2.1) fun (t11 : Bool) => cond t11 (some true) (cond (!(x0.1 == (5:Int))) (some (x0.2.2.2.1.toList == (⟨#[]⟩ : ByteArray).toList)) (some false))) (cond (!(x0.1 == (5:Int))) (some (x0.2.2.2.1.toList == (⟨#[]⟩ : ByteArray).toList)) (some false))) (some false)) (cond (x0.1 == (4:Int)) (obind (spec_l00Word lp x0.2.2.1) fun (t12 : Bool) => cond t12 (cond (x0.1 == (5:Int)) (obind (spec_l00Word lp x0.2.2.2.1) fun (t13 : Bool) => cond t13 (some true) (cond (!(x0.1 == (5:Int))) (some (x0.2.2.2.1.toList == (⟨#[]⟩ : ByteArray).toList)) (some false))) (cond (!(x0.1 == (5:Int))) (some (x0.2.2.2.1.toList == (⟨#[]⟩ : ByteArray).toList)) (some false))) (cond (!(x0.1 == (4:Int))) (cond (x0.2.2.1.toList == (⟨#[]⟩ : ByteArray).toList) (cond (x0.1 == (5:Int)) (obind (spec_l00Word lp x0.2.2.2.1) fun (t14 : Bool) => cond t14 (some true) (cond (!(x0.1 == (5:Int))) (some (x0.2.2.2.1.toList == (⟨#[]⟩ : ByteArray).toList)) (some false))) (cond (!(x0.1 == (5:Int))) (some (x0.2.2.2.1.toList == (⟨#[]⟩ : ByteArray).toList)) (some false))) (some false)) (some false))) (cond (!(x0.1 == (4:Int))) (cond (x0.2.2.1.toList == (⟨#[]⟩ : ByteArray).toList) (cond (x0.1 == (5:Int)) (obind (spec_l00Word lp x0.2.2.2.1) fun (t15 : Bool) => cond t15 (some true) (cond (!(x0.1 == (5:Int))) (some (x0.2.2.2.1.toList == (⟨#[]⟩ : ByteArray).toList)) (some false))) (cond (!(x0.1 == (5:Int))) (some (x0.2.2.2.1.toList == (⟨#[]⟩ : ByteArray).toList)) (some false))) (some false)) (some false)))))))
def spec_l07Wishes.b4 {R : Type} (lp : Nat) (N : List Wish → Int → Option R) (X : Unit → Option R) (Q : Bool → Option R) (x0 : List Wish) (x3 : Int) : Option R := cond (decide (x3 < (x0.length : Int))) (oget x0 x3 fun (e1 : Wish) => obind (spec_l07Wish lp e1) fun (t2 : Bool) => cond (!t2) (Q false) (N x0 (IntKind.i64.wrap (x3 + (1:Int))))) (X ())
def spec_l07Wishes.l4 (lp : Nat) : Nat → List Wish → Int → Option (LE Bool Unit)
  | 0, _, _ => none
  | k + 1, x0, x3 => spec_l07Wishes.b4 lp (spec_l07Wishes.l4 lp k) (fun y => some (.brk y)) (fun z => some (.ret z)) x0 x3
def spec_l07Wishes.a4 (lp : Nat) (y : Unit) : Option Bool := some true
def spec_l07Wishes.q4 (lp : Nat) (z : Bool) : Option Bool := some z
def spec_l07Wishes.e (lp : Nat) (L4 : List Wish → Int → Option Bool) (x0 : List Wish) : Option Bool := cond (decide ((x0.length : Int) > (6:Int))) (some false) (L4 x0 (0:Int))
def spec_l07Wishes (lp : Nat) (x0 : List Wish) : Option Bool := spec_l07Wishes.e lp (fun x0 x3 => obind (spec_l07Wishes.l4 lp lp x0 x3) (leF (fun z => spec_l07Wishes.q4 lp z) (fun y => spec_l07Wishes.a4 lp y))) x0
def spec_l03Reach.b8 {R : Type} (lp : Nat) (N : List Commit → Int → Int → List Bool → Option R) (X : ((List Commit) × Int × (List Bool)) → Option R) (Q : Empty → Option R) (x0 : List Commit) (x6 : Int) (x7 : Int) (xo11 : List Bool) : Option R := oget x0 (IntKind.i64.wrap (x6 - (1:Int))) fun (e3 : Commit) => cond (decide (x7 < (e3.1.length : Int))) (oget x0 (IntKind.i64.wrap (x6 - (1:Int))) fun (e4 : Commit) => oget e4.1 x7 fun (e5 : Int) => oif (decide ((0:Int) ≤ e5)) (oif (decide (e5 < (xo11.length : Int))) (oget xo11 (e5.toNat : Int) fun (e6 : Bool) => N x0 x6 (IntKind.i64.wrap (x7 + (1:Int))) (xo11.set e5.toNat true)))) (X (x0, x6, xo11))
def spec_l03Reach.l8 (lp : Nat) : Nat → List Commit → Int → Int → List Bool → Option (LE Empty ((List Commit) × Int × (List Bool)))
  | 0, _, _, _, _ => none
  | k + 1, x0, x6, x7, xo11 => spec_l03Reach.b8 lp (spec_l03Reach.l8 lp k) (fun y => some (.brk y)) (fun z => some (.ret z)) x0 x6 x7 xo11
def spec_l03Reach.a8 {R : Type} (lp : Nat) (N : List Commit → Int → List Bool → Option R) (X : ((List Bool)) → Option R) (Q : Empty → Option R) (y : (List Commit) × Int × (List Bool)) : Option R := N y.1 (IntKind.i64.wrap (y.2.1 - (1:Int))) y.2.2
def spec_l03Reach.b4 {R : Type} (lp : Nat) (N : List Commit → Int → List Bool → Option R) (X : ((List Bool)) → Option R) (Q : Empty → Option R) (L8 : List Commit → Int → Int → List Bool → Option R) (x0 : List Commit) (x6 : Int) (xo11 : List Bool) : Option R := cond (decide (x6 > (0:Int))) (oif (decide ((0:Int) ≤ x6)) (oif (decide (x6 < (xo11.length : Int))) (oget xo11 (x6.toNat : Int) fun (e2 : Bool) => cond (!e2) (N x0 (IntKind.i64.wrap (x6 - (1:Int))) xo11) (L8 x0 x6 (0:Int) xo11)))) (X xo11)
def spec_l03Reach.l4 (lp : Nat) : Nat → List Commit → Int → List Bool → Option (LE Empty ((List Bool)))
  | 0, _, _, _ => none
  | k + 1, x0, x6, xo11 => spec_l03Reach.b4 lp (spec_l03Reach.l4 lp k) (fun y => some (.brk y)) (fun z => some (.ret z)) (fun x0 x6 x7 xo11 => obind (spec_l03Reach.l8 lp lp x0 x6 x7 xo11) (leF (fun z => z.elim) (fun y => spec_l03Reach.a8 lp (spec_l03Reach.l4 lp k) (fun y => some (.brk y)) (fun z => some (.ret z)) y))) x0 x6 xo11
def spec_l03Reach.a4 (lp : Nat) (y : (List Bool)) : Option ((List Bool)) := some y
def spec_l03Reach.e (lp : Nat) (L4 : List Commit → Int → List Bool → Option ((List Bool))) (x0 : List Commit) (x1 : Int) : Option ((List Bool)) := oif (decide ((0:Int) ≤ IntKind.i64.wrap ((x0.length : Int) + (1:Int)))) (oif (decide ((IntKind.i64.wrap ((x0.length : Int) + (1:Int))).toNat * 1 ≤ 140737488355328)) (oif (decide ((0:Int) ≤ x1)) (oif (decide (x1 < ((List.replicate (IntKind.i64.wrap ((x0.length : Int) + (1:Int))).toNat (false : Bool)).length : Int))) (oget (List.replicate (IntKind.i64.wrap ((x0.length : Int) + (1:Int))).toNat (false : Bool)) (x1.toNat : Int) fun (e1 : Bool) => L4 x0 x1 ((List.replicate (IntKind.i64.wrap ((x0.length : Int) + (1:Int))).toNat (false : Bool)).set x1.toNat true)))))
def spec_l03Reach (lp : Nat) (x0 : List Commit) (x1 : Int) : Option ((List Bool)) := spec_l03Reach.e lp (fun x0 x6 xo11 => obind (spec_l03Reach.l4 lp lp x0 x6 xo11) (leF (fun z => z.elim) (fun y => spec_l03Reach.a4 lp y))) x0 x1
def spec_l03Base.b4 {R : Type} (lp : Nat) (N : List Bool → List Bool → Int → Option R) (X : Int → Option R) (Q : Empty → Option R) (x7 : List Bool) (x8 : List Bool) (x9 : Int) : Option R := oget x7 x9 fun (e3 : Bool) => cond (!e3) (N x7 x8 (IntKind.i64.wrap (x9 - (1:Int)))) (oget x8 x9 fun (e4 : Bool) => cond (!e4) (N x7 x8 (IntKind.i64.wrap (x9 - (1:Int)))) (X x9))
def spec_l03Base.l4 (lp : Nat) : Nat → List Bool → List Bool → Int → Option (LE Empty Int)
  | 0, _, _, _ => none
  | k + 1, x7, x8, x9 => spec_l03Base.b4 lp (spec_l03Base.l4 lp k) (fun y => some (.brk y)) (fun z => some (.ret z)) x7 x8 x9
def spec_l03Base.a4 (lp : Nat) (y : Int) : Option Int := some y
def spec_l03Base.e (lp : Nat) (L4 : List Bool → List Bool → Int → Option Int) (x0 : List Commit) (x1 : Int) (x2 : Int) : Option Int := obind (spec_l03Reach lp x0 x1) fun (t1 : (List Bool)) => obind (spec_l03Reach lp x0 x2) fun (t2 : (List Bool)) => L4 t1 t2 (cond (decide (x2 < x1)) x2 x1)
def spec_l03Base (lp : Nat) (x0 : List Commit) (x1 : Int) (x2 : Int) : Option Int := spec_l03Base.e lp (fun x7 x8 x9 => obind (spec_l03Base.l4 lp lp x7 x8 x9) (leF (fun z => z.elim) (fun y => spec_l03Base.a4 lp y))) x0 x1 x2
def spec_l05Fail (x0 : Int) (x1 : List ByteArray) : Option Result := some (x0, (0:Int), (0:Int), x1, ([] : List Entry), ())
def spec_l02Told (x0 : List Entry) (x1 : List ByteArray) : Option ((List Entry) × (List ByteArray) × Int) := cond (decide ((x1.length : Int) > (0:Int))) (some (([] : List Entry), x1, (11:Int))) (cond (decide ((x0.length : Int) > (12:Int))) (some (([] : List Entry), ([] : List ByteArray), (7:Int))) (some (x0, ([] : List ByteArray), (0:Int))))
def spec_l01Remove.b3 {R : Type} (lp : Nat) (N : List Entry → ByteArray → Int → List Entry → Option R) (X : ((List Entry)) → Option R) (Q : Empty → Option R) (x0 : List Entry) (x1 : ByteArray) (x6 : Int) (xo7 : List Entry) : Option R := cond (decide (x6 < (x0.length : Int))) (oget x0 x6 fun (e1 : Entry) => cond (!(e1.1.toList == x1.toList)) (oget x0 x6 fun (e2 : Entry) => oif (decide ((xo7.length + ([e2] : List Entry).length) * 24 ≤ 140737488355328)) (N x0 x1 (IntKind.i64.wrap (x6 + (1:Int))) (xo7 ++ ([e2] : List Entry)))) (N x0 x1 (IntKind.i64.wrap (x6 + (1:Int))) xo7)) (X xo7)
def spec_l01Remove.l3 (lp : Nat) : Nat → List Entry → ByteArray → Int → List Entry → Option (LE Empty ((List Entry)))
  | 0, _, _, _, _ => none
  | k + 1, x0, x1, x6, xo7 => spec_l01Remove.b3 lp (spec_l01Remove.l3 lp k) (fun y => some (.brk y)) (fun z => some (.ret z)) x0 x1 x6 xo7
def spec_l01Remove.a3 (lp : Nat) (y : (List Entry)) : Option ((List Entry)) := some y
def spec_l01Remove.e (lp : Nat) (L3 : List Entry → ByteArray → Int → List Entry → Option ((List Entry))) (x0 : List Entry) (x1 : ByteArray) : Option ((List Entry)) := L3 x0 x1 (0:Int) ([] : List Entry)
def spec_l01Remove (lp : Nat) (x0 : List Entry) (x1 : ByteArray) : Option ((List Entry)) := spec_l01Remove.e lp (fun x0 x1 x6 xo7 => obind (spec_l01Remove.l3 lp lp x0 x1 x6 xo7) (leF (fun z => z.elim) (fun y => spec_l01Remove.a3 lp y))) x0 x1
def spec_l01Put.b4 {R : Type} (lp : Nat) (N : List Entry → ByteArray → Int → Bool → Int → List Entry → Option R) (X : (ByteArray × Int × Bool × (List Entry)) → Option R) (Q : Empty → Option R) (x0 : List Entry) (x1 : ByteArray) (x2 : Int) (x8 : Bool) (x9 : Int) (xo10 : List Entry) : Option R := cond (decide (x9 < (x0.length : Int))) (cond (!x8) (oget x0 x9 fun (e1 : Entry) => cond (!Op.bytesLess e1.1.toList x1.toList) (oif (decide ((xo10.length + ([(x1, x2, ())] : List Entry).length) * 24 ≤ 140737488355328)) (oget x0 x9 fun (e2 : Entry) => cond (!(e2.1.toList == x1.toList)) (oget x0 x9 fun (e3 : Entry) => oif (decide (((xo10 ++ ([(x1, x2, ())] : List Entry)).length + ([e3] : List Entry).length) * 24 ≤ 140737488355328)) (N x0 x1 x2 true (IntKind.i64.wrap (x9 + (1:Int))) ((xo10 ++ ([(x1, x2, ())] : List Entry)) ++ ([e3] : List Entry)))) (N x0 x1 x2 true (IntKind.i64.wrap (x9 + (1:Int))) (xo10 ++ ([(x1, x2, ())] : List Entry))))) (oget x0 x9 fun (e4 : Entry) => cond (!(e4.1.toList == x1.toList)) (oget x0 x9 fun (e5 : Entry) => oif (decide ((xo10.length + ([e5] : List Entry).length) * 24 ≤ 140737488355328)) (N x0 x1 x2 x8 (IntKind.i64.wrap (x9 + (1:Int))) (xo10 ++ ([e5] : List Entry)))) (N x0 x1 x2 x8 (IntKind.i64.wrap (x9 + (1:Int))) xo10))) (oget x0 x9 fun (e6 : Entry) => cond (!(e6.1.toList == x1.toList)) (oget x0 x9 fun (e7 : Entry) => oif (decide ((xo10.length + ([e7] : List Entry).length) * 24 ≤ 140737488355328)) (N x0 x1 x2 x8 (IntKind.i64.wrap (x9 + (1:Int))) (xo10 ++ ([e7] : List Entry)))) (N x0 x1 x2 x8 (IntKind.i64.wrap (x9 + (1:Int))) xo10))) (X (x1, x2, x8, xo10))
def spec_l01Put.l4 (lp : Nat) : Nat → List Entry → ByteArray → Int → Bool → Int → List Entry → Option (LE Empty (ByteArray × Int × Bool × (List Entry)))
  | 0, _, _, _, _, _, _ => none
  | k + 1, x0, x1, x2, x8, x9, xo10 => spec_l01Put.b4 lp (spec_l01Put.l4 lp k) (fun y => some (.brk y)) (fun z => some (.ret z)) x0 x1 x2 x8 x9 xo10
def spec_l01Put.a4 (lp : Nat) (y : ByteArray × Int × Bool × (List Entry)) : Option ((List Entry)) := cond (!y.2.2.1) (oif (decide ((y.2.2.2.length + ([(y.1, y.2.1, ())] : List Entry).length) * 24 ≤ 140737488355328)) (some (y.2.2.2 ++ ([(y.1, y.2.1, ())] : List Entry)))) (some y.2.2.2)
def spec_l01Put.e (lp : Nat) (L4 : List Entry → ByteArray → Int → Bool → Int → List Entry → Option ((List Entry))) (x0 : List Entry) (x1 : ByteArray) (x2 : Int) : Option ((List Entry)) := L4 x0 x1 x2 false (0:Int) ([] : List Entry)
def spec_l01Put (lp : Nat) (x0 : List Entry) (x1 : ByteArray) (x2 : Int) : Option ((List Entry)) := spec_l01Put.e lp (fun x0 x1 x2 x8 x9 xo10 => obind (spec_l01Put.l4 lp lp x0 x1 x2 x8 x9 xo10) (leF (fun z => z.elim) (fun y => spec_l01Put.a4 lp y))) x0 x1 x2
def spec_l01Apply.b3 {R : Type} (lp : Nat) (N : List Entry → List Edit → Int → Option R) (X : ((List Entry)) → Option R) (Q : Empty → Option R) (x0 : List Entry) (x1 : List Edit) (x5 : Int) : Option R := cond (decide (x5 < (x1.length : Int))) (oget x1 x5 fun (e1 : Edit) => cond e1.2.2.1 (oget x1 x5 fun (e2 : Edit) => obind (spec_l01Remove lp x0 e2.1) fun (t3 : (List Entry)) => N t3 x1 (IntKind.i64.wrap (x5 + (1:Int)))) (oget x1 x5 fun (e4 : Edit) => oget x1 x5 fun (e5 : Edit) => obind (spec_l01Put lp x0 e4.1 e5.2.1) fun (t6 : (List Entry)) => N t6 x1 (IntKind.i64.wrap (x5 + (1:Int))))) (X x0)
def spec_l01Apply.l3 (lp : Nat) : Nat → List Entry → List Edit → Int → Option (LE Empty ((List Entry)))
  | 0, _, _, _ => none
  | k + 1, x0, x1, x5 => spec_l01Apply.b3 lp (spec_l01Apply.l3 lp k) (fun y => some (.brk y)) (fun z => some (.ret z)) x0 x1 x5
def spec_l01Apply.a3 (lp : Nat) (y : (List Entry)) : Option ((List Entry)) := some y
def spec_l01Apply.e (lp : Nat) (L3 : List Entry → List Edit → Int → Option ((List Entry))) (x0 : List Entry) (x1 : List Edit) : Option ((List Entry)) := oif (decide ((([] : List Entry).length + x0.length) * 24 ≤ 140737488355328)) (L3 (([] : List Entry) ++ x0) x1 (0:Int))
def spec_l01Apply (lp : Nat) (x0 : List Entry) (x1 : List Edit) : Option ((List Entry)) := spec_l01Apply.e lp (fun x0 x1 x5 => obind (spec_l01Apply.l3 lp lp x0 x1 x5) (leF (fun z => z.elim) (fun y => spec_l01Apply.a3 lp y))) x0 x1
def spec_l01Diff.b4 {R : Type} (lp : Nat) (N : List Entry → List Entry → Int → Int → List Edit → Option R) (X : ((List Edit)) → Option R) (Q : Empty → Option R) (x0 : List Entry) (x1 : List Entry) (x6 : Int) (x7 : Int) (xo8 : List Edit) : Option R := cond (decide (x6 < (x0.length : Int))) (cond (x7 == (x1.length : Int)) (oget x0 x6 fun (e1 : Entry) => oif (decide ((xo8.length + ([(e1.1, (0:Int), true, ())] : List Edit).length) * 32 ≤ 140737488355328)) (N x0 x1 (IntKind.i64.wrap (x6 + (1:Int))) x7 (xo8 ++ ([(e1.1, (0:Int), true, ())] : List Edit)))) (cond (decide (x6 < (x0.length : Int))) (oget x0 x6 fun (e2 : Entry) => oget x1 x7 fun (e3 : Entry) => cond (Op.bytesLess e2.1.toList e3.1.toList) (oget x0 x6 fun (e4 : Entry) => oif (decide ((xo8.length + ([(e4.1, (0:Int), true, ())] : List Edit).length) * 32 ≤ 140737488355328)) (N x0 x1 (IntKind.i64.wrap (x6 + (1:Int))) x7 (xo8 ++ ([(e4.1, (0:Int), true, ())] : List Edit)))) (cond (x6 == (x0.length : Int)) (oget x1 x7 fun (e5 : Entry) => oget x1 x7 fun (e6 : Entry) => oif (decide ((xo8.length + ([(e5.1, e6.2.1, false, ())] : List Edit).length) * 32 ≤ 140737488355328)) (N x0 x1 x6 (IntKind.i64.wrap (x7 + (1:Int))) (xo8 ++ ([(e5.1, e6.2.1, false, ())] : List Edit)))) (oget x1 x7 fun (e7 : Entry) => oget x0 x6 fun (e8 : Entry) => cond (Op.bytesLess e7.1.toList e8.1.toList) (oget x1 x7 fun (e9 : Entry) => oget x1 x7 fun (e10 : Entry) => oif (decide ((xo8.length + ([(e9.1, e10.2.1, false, ())] : List Edit).length) * 32 ≤ 140737488355328)) (N x0 x1 x6 (IntKind.i64.wrap (x7 + (1:Int))) (xo8 ++ ([(e9.1, e10.2.1, false, ())] : List Edit)))) (oget x0 x6 fun (e11 : Entry) => oget x1 x7 fun (e12 : Entry) => cond (e11.2.1 != e12.2.1) (oget x1 x7 fun (e13 : Entry) => oget x1 x7 fun (e14 : Entry) => oif (decide ((xo8.length + ([(e13.1, e14.2.1, false, ())] : List Edit).length) * 32 ≤ 140737488355328)) (N x0 x1 (IntKind.i64.wrap (x6 + (1:Int))) (IntKind.i64.wrap (x7 + (1:Int))) (xo8 ++ ([(e13.1, e14.2.1, false, ())] : List Edit)))) (N x0 x1 (IntKind.i64.wrap (x6 + (1:Int))) (IntKind.i64.wrap (x7 + (1:Int))) xo8))))) (cond (x6 == (x0.length : Int)) (oget x1 x7 fun (e15 : Entry) => oget x1 x7 fun (e16 : Entry) => oif (decide ((xo8.length + ([(e15.1, e16.2.1, false, ())] : List Edit).length) * 32 ≤ 140737488355328)) (N x0 x1 x6 (IntKind.i64.wrap (x7 + (1:Int))) (xo8 ++ ([(e15.1, e16.2.1, false, ())] : List Edit)))) (oget x1 x7 fun (e17 : Entry) => oget x0 x6 fun (e18 : Entry) => cond (Op.bytesLess e17.1.toList e18.1.toList) (oget x1 x7 fun (e19 : Entry) => oget x1 x7 fun (e20 : Entry) => oif (decide ((xo8.length + ([(e19.1, e20.2.1, false, ())] : List Edit).length) * 32 ≤ 140737488355328)) (N x0 x1 x6 (IntKind.i64.wrap (x7 + (1:Int))) (xo8 ++ ([(e19.1, e20.2.1, false, ())] : List Edit)))) (oget x0 x6 fun (e21 : Entry) => oget x1 x7 fun (e22 : Entry) => cond (e21.2.1 != e22.2.1) (oget x1 x7 fun (e23 : Entry) => oget x1 x7 fun (e24 : Entry) => oif (decide ((xo8.length + ([(e23.1, e24.2.1, false, ())] : List Edit).length) * 32 ≤ 140737488355328)) (N x0 x1 (IntKind.i64.wrap (x6 + (1:Int))) (IntKind.i64.wrap (x7 + (1:Int))) (xo8 ++ ([(e23.1, e24.2.1, false, ())] : List Edit)))) (N x0 x1 (IntKind.i64.wrap (x6 + (1:Int))) (IntKind.i64.wrap (x7 + (1:Int))) xo8)))))) (cond (decide (x7 < (x1.length : Int))) (cond (x7 == (x1.length : Int)) (oget x0 x6 fun (e25 : Entry) => oif (decide ((xo8.length + ([(e25.1, (0:Int), true, ())] : List Edit).length) * 32 ≤ 140737488355328)) (N x0 x1 (IntKind.i64.wrap (x6 + (1:Int))) x7 (xo8 ++ ([(e25.1, (0:Int), true, ())] : List Edit)))) (cond (decide (x6 < (x0.length : Int))) (oget x0 x6 fun (e26 : Entry) => oget x1 x7 fun (e27 : Entry) => cond (Op.bytesLess e26.1.toList e27.1.toList) (oget x0 x6 fun (e28 : Entry) => oif (decide ((xo8.length + ([(e28.1, (0:Int), true, ())] : List Edit).length) * 32 ≤ 140737488355328)) (N x0 x1 (IntKind.i64.wrap (x6 + (1:Int))) x7 (xo8 ++ ([(e28.1, (0:Int), true, ())] : List Edit)))) (cond (x6 == (x0.length : Int)) (oget x1 x7 fun (e29 : Entry) => oget x1 x7 fun (e30 : Entry) => oif (decide ((xo8.length + ([(e29.1, e30.2.1, false, ())] : List Edit).length) * 32 ≤ 140737488355328)) (N x0 x1 x6 (IntKind.i64.wrap (x7 + (1:Int))) (xo8 ++ ([(e29.1, e30.2.1, false, ())] : List Edit)))) (oget x1 x7 fun (e31 : Entry) => oget x0 x6 fun (e32 : Entry) => cond (Op.bytesLess e31.1.toList e32.1.toList) (oget x1 x7 fun (e33 : Entry) => oget x1 x7 fun (e34 : Entry) => oif (decide ((xo8.length + ([(e33.1, e34.2.1, false, ())] : List Edit).length) * 32 ≤ 140737488355328)) (N x0 x1 x6 (IntKind.i64.wrap (x7 + (1:Int))) (xo8 ++ ([(e33.1, e34.2.1, false, ())] : List Edit)))) (oget x0 x6 fun (e35 : Entry) => oget x1 x7 fun (e36 : Entry) => cond (e35.2.1 != e36.2.1) (oget x1 x7 fun (e37 : Entry) => oget x1 x7 fun (e38 : Entry) => oif (decide ((xo8.length + ([(e37.1, e38.2.1, false, ())] : List Edit).length) * 32 ≤ 140737488355328)) (N x0 x1 (IntKind.i64.wrap (x6 + (1:Int))) (IntKind.i64.wrap (x7 + (1:Int))) (xo8 ++ ([(e37.1, e38.2.1, false, ())] : List Edit)))) (N x0 x1 (IntKind.i64.wrap (x6 + (1:Int))) (IntKind.i64.wrap (x7 + (1:Int))) xo8))))) (cond (x6 == (x0.length : Int)) (oget x1 x7 fun (e39 : Entry) => oget x1 x7 fun (e40 : Entry) => oif (decide ((xo8.length + ([(e39.1, e40.2.1, false, ())] : List Edit).length) * 32 ≤ 140737488355328)) (N x0 x1 x6 (IntKind.i64.wrap (x7 + (1:Int))) (xo8 ++ ([(e39.1, e40.2.1, false, ())] : List Edit)))) (oget x1 x7 fun (e41 : Entry) => oget x0 x6 fun (e42 : Entry) => cond (Op.bytesLess e41.1.toList e42.1.toList) (oget x1 x7 fun (e43 : Entry) => oget x1 x7 fun (e44 : Entry) => oif (decide ((xo8.length + ([(e43.1, e44.2.1, false, ())] : List Edit).length) * 32 ≤ 140737488355328)) (N x0 x1 x6 (IntKind.i64.wrap (x7 + (1:Int))) (xo8 ++ ([(e43.1, e44.2.1, false, ())] : List Edit)))) (oget x0 x6 fun (e45 : Entry) => oget x1 x7 fun (e46 : Entry) => cond (e45.2.1 != e46.2.1) (oget x1 x7 fun (e47 : Entry) => oget x1 x7 fun (e48 : Entry) => oif (decide ((xo8.length + ([(e47.1, e48.2.1, false, ())] : List Edit).length) * 32 ≤ 140737488355328)) (N x0 x1 (IntKind.i64.wrap (x6 + (1:Int))) (IntKind.i64.wrap (x7 + (1:Int))) (xo8 ++ ([(e47.1, e48.2.1, false, ())] : List Edit)))) (N x0 x1 (IntKind.i64.wrap (x6 + (1:Int))) (IntKind.i64.wrap (x7 + (1:Int))) xo8)))))) (X xo8))
def spec_l01Diff.l4 (lp : Nat) : Nat → List Entry → List Entry → Int → Int → List Edit → Option (LE Empty ((List Edit)))
  | 0, _, _, _, _, _ => none
  | k + 1, x0, x1, x6, x7, xo8 => spec_l01Diff.b4 lp (spec_l01Diff.l4 lp k) (fun y => some (.brk y)) (fun z => some (.ret z)) x0 x1 x6 x7 xo8
def spec_l01Diff.a4 (lp : Nat) (y : (List Edit)) : Option ((List Edit)) := some y
def spec_l01Diff.e (lp : Nat) (L4 : List Entry → List Entry → Int → Int → List Edit → Option ((List Edit))) (x0 : List Entry) (x1 : List Entry) : Option ((List Edit)) := L4 x0 x1 (0:Int) (0:Int) ([] : List Edit)
def spec_l01Diff (lp : Nat) (x0 : List Entry) (x1 : List Entry) : Option ((List Edit)) := spec_l01Diff.e lp (fun x0 x1 x6 x7 xo8 => obind (spec_l01Diff.l4 lp lp x0 x1 x6 x7 xo8) (leF (fun z => z.elim) (fun y => spec_l01Diff.a4 lp y))) x0 x1
def spec_l02Find.b2 {R : Type} (lp : Nat) (N : List Edit → ByteArray → Int → ByteArray → Int → Bool → Option R) (X : (ByteArray × Int × Bool) → Option R) (Q : (Bool × ByteArray × Int × Bool) → Option R) (x0 : List Edit) (x1 : ByteArray) (x6 : Int) (xb4_0 : ByteArray) (xb4_1 : Int) (xb4_2 : Bool) : Option R := cond (decide (x6 < (x0.length : Int))) (oget x0 x6 fun (e1 : Edit) => cond (e1.1.toList == x1.toList) (oget x0 x6 fun (e2 : Edit) => Q (true, e2.1, e2.2.1, e2.2.2.1)) (N x0 x1 (IntKind.i64.wrap (x6 + (1:Int))) xb4_0 xb4_1 xb4_2)) (X (xb4_0, xb4_1, xb4_2))
def spec_l02Find.l2 (lp : Nat) : Nat → List Edit → ByteArray → Int → ByteArray → Int → Bool → Option (LE (Bool × ByteArray × Int × Bool) (ByteArray × Int × Bool))
  | 0, _, _, _, _, _, _ => none
  | k + 1, x0, x1, x6, xb4_0, xb4_1, xb4_2 => spec_l02Find.b2 lp (spec_l02Find.l2 lp k) (fun y => some (.brk y)) (fun z => some (.ret z)) x0 x1 x6 xb4_0 xb4_1 xb4_2
def spec_l02Find.a2 (lp : Nat) (y : ByteArray × Int × Bool) : Option (Edit × Bool) := some (((⟨#[]⟩ : ByteArray), (0:Int), false, ()), false)
def spec_l02Find.q2 (lp : Nat) (z : Bool × ByteArray × Int × Bool) : Option (Edit × Bool) := some ((z.2.1, z.2.2.1, z.2.2.2, ()), z.1)
def spec_l02Find.e (lp : Nat) (L2 : List Edit → ByteArray → Int → ByteArray → Int → Bool → Option (Edit × Bool)) (x0 : List Edit) (x1 : ByteArray) : Option (Edit × Bool) := L2 x0 x1 (0:Int) (⟨#[]⟩ : ByteArray) (0:Int) false
def spec_l02Find (lp : Nat) (x0 : List Edit) (x1 : ByteArray) : Option (Edit × Bool) := spec_l02Find.e lp (fun x0 x1 x6 xb4_0 xb4_1 xb4_2 => obind (spec_l02Find.l2 lp lp x0 x1 x6 xb4_0 xb4_1 xb4_2) (leF (fun z => spec_l02Find.q2 lp z) (fun y => spec_l02Find.a2 lp y))) x0 x1
def spec_l02Merge.b6 {R : Type} (lp : Nat) (N : List Entry → List Edit → List Edit → Int → List ByteArray → List Edit → Option R) (X : ((List Entry) × (List ByteArray) × (List Edit)) → Option R) (Q : Empty → Option R) (x1 : List Entry) (x8 : List Edit) (x9 : List Edit) (x12 : Int) (xo21 : List ByteArray) (xo22 : List Edit) : Option R := cond (decide (x12 < (x9.length : Int))) (oget x9 x12 fun (e3 : Edit) => obind (spec_l02Find lp x8 e3.1) fun (t4 : Edit × Bool) => cond (!t4.2) (oget x9 x12 fun (e5 : Edit) => oif (decide ((xo22.length + ([e5] : List Edit).length) * 32 ≤ 140737488355328)) (N x1 x8 x9 (IntKind.i64.wrap (x12 + (1:Int))) xo21 (xo22 ++ ([e5] : List Edit)))) (oget x9 x12 fun (e6 : Edit) => cond (!((t4.1.1 == e6.1) && ((t4.1.2.1 == e6.2.1) && (t4.1.2.2.1 == e6.2.2.1)))) (oget x9 x12 fun (e7 : Edit) => oif (decide ((xo21.length + ([e7.1] : List ByteArray).length) * 16 ≤ 140737488355328)) (N x1 x8 x9 (IntKind.i64.wrap (x12 + (1:Int))) (xo21 ++ ([e7.1] : List ByteArray)) xo22)) (N x1 x8 x9 (IntKind.i64.wrap (x12 + (1:Int))) xo21 xo22))) (X (x1, xo21, xo22))
def spec_l02Merge.l6 (lp : Nat) : Nat → List Entry → List Edit → List Edit → Int → List ByteArray → List Edit → Option (LE Empty ((List Entry) × (List ByteArray) × (List Edit)))
  | 0, _, _, _, _, _, _ => none
  | k + 1, x1, x8, x9, x12, xo21, xo22 => spec_l02Merge.b6 lp (spec_l02Merge.l6 lp k) (fun y => some (.brk y)) (fun z => some (.ret z)) x1 x8 x9 x12 xo21 xo22
def spec_l02Merge.a6 (lp : Nat) (y : (List Entry) × (List ByteArray) × (List Edit)) : Option ((List Entry) × (List ByteArray)) := obind (spec_l01Apply lp y.1 y.2.2) fun (t8 : (List Entry)) => some (t8, y.2.1)
def spec_l02Merge.e (lp : Nat) (L6 : List Entry → List Edit → List Edit → Int → List ByteArray → List Edit → Option ((List Entry) × (List ByteArray))) (x0 : List Entry) (x1 : List Entry) (x2 : List Entry) : Option ((List Entry) × (List ByteArray)) := obind (spec_l01Diff lp x0 x1) fun (t1 : (List Edit)) => obind (spec_l01Diff lp x0 x2) fun (t2 : (List Edit)) => L6 x1 t1 t2 (0:Int) ([] : List ByteArray) ([] : List Edit)
def spec_l02Merge (lp : Nat) (x0 : List Entry) (x1 : List Entry) (x2 : List Entry) : Option ((List Entry) × (List ByteArray)) := spec_l02Merge.e lp (fun x1 x8 x9 x12 xo21 xo22 => obind (spec_l02Merge.l6 lp lp x1 x8 x9 x12 xo21 xo22) (leF (fun z => z.elim) (fun y => spec_l02Merge.a6 lp y))) x0 x1 x2
def spec_l05Join (lp : Nat) (x0 : List Commit) (x1 : Int) (x2 : Int) : Option (Bool × (List Entry) × Result) := obind (spec_l03Base lp x0 x1 x2) fun (t1 : Int) => cond (t1 == x2) (obind (spec_l05Fail (18:Int) ([] : List ByteArray)) fun (t2 : Result) => some (false, ([] : List Entry), t2)) (cond (t1 == x1) (some (true, ([] : List Entry), ((0:Int), (0:Int), (0:Int), ([] : List ByteArray), ([] : List Entry), ()))) (oget x0 (IntKind.i64.wrap (t1 - (1:Int))) fun (e3 : Commit) => oget x0 (IntKind.i64.wrap (x1 - (1:Int))) fun (e4 : Commit) => oget x0 (IntKind.i64.wrap (x2 - (1:Int))) fun (e5 : Commit) => obind (spec_l02Merge lp e3.2.1 e4.2.1 e5.2.1) fun (t6 : (List Entry) × (List ByteArray)) => obind (spec_l02Told t6.1 t6.2) fun (t7 : (List Entry) × (List ByteArray) × Int) => obind (spec_l05Fail t7.2.2 t7.2.1) fun (t8 : Result) => some (false, t7.1, t8)))
def spec_l01Same.b4 {R : Type} (lp : Nat) (N : List Entry → List Entry → Int → Option R) (X : Unit → Option R) (Q : Bool → Option R) (x0 : List Entry) (x1 : List Entry) (x5 : Int) : Option R := cond (decide (x5 < (x0.length : Int))) (oget x0 x5 fun (e1 : Entry) => oget x1 x5 fun (e2 : Entry) => cond (!((e1.1 == e2.1) && (e1.2.1 == e2.2.1))) (Q false) (N x0 x1 (IntKind.i64.wrap (x5 + (1:Int))))) (X ())
def spec_l01Same.l4 (lp : Nat) : Nat → List Entry → List Entry → Int → Option (LE Bool Unit)
  | 0, _, _, _ => none
  | k + 1, x0, x1, x5 => spec_l01Same.b4 lp (spec_l01Same.l4 lp k) (fun y => some (.brk y)) (fun z => some (.ret z)) x0 x1 x5
def spec_l01Same.a4 (lp : Nat) (y : Unit) : Option Bool := some true
def spec_l01Same.q4 (lp : Nat) (z : Bool) : Option Bool := some z
def spec_l01Same.e (lp : Nat) (L4 : List Entry → List Entry → Int → Option Bool) (x0 : List Entry) (x1 : List Entry) : Option Bool := cond ((x0.length : Int) != (x1.length : Int)) (some false) (L4 x0 x1 (0:Int))
def spec_l01Same (lp : Nat) (x0 : List Entry) (x1 : List Entry) : Option Bool := spec_l01Same.e lp (fun x0 x1 x5 => obind (spec_l01Same.l4 lp lp x0 x1 x5) (leF (fun z => spec_l01Same.q4 lp z) (fun y => spec_l01Same.a4 lp y))) x0 x1
def spec_l05Plan (lp : Nat) (x0 : List Commit) (x1 : Int) (x2 : Int) (x3 : List Edit) : Option ((List Entry) × Result) := oget x0 (IntKind.i64.wrap (x1 - (1:Int))) fun (e1 : Commit) => obind (spec_l01Apply lp e1.2.1 x3) fun (t2 : (List Entry)) => cond (decide ((t2.length : Int) > (12:Int))) (obind (spec_l05Fail (7:Int) ([] : List ByteArray)) fun (t3 : Result) => some (([] : List Entry), t3)) (oget x0 (IntKind.i64.wrap (x1 - (1:Int))) fun (e4 : Commit) => oget x0 (IntKind.i64.wrap (x2 - (1:Int))) fun (e5 : Commit) => obind (spec_l02Merge lp e4.2.1 t2 e5.2.1) fun (t6 : (List Entry) × (List ByteArray)) => obind (spec_l02Told t6.1 t6.2) fun (t7 : (List Entry) × (List ByteArray) × Int) => cond (t7.2.2 == (0:Int)) (oget x0 (IntKind.i64.wrap (x2 - (1:Int))) fun (e8 : Commit) => obind (spec_l01Same lp t7.1 e8.2.1) fun (t9 : Bool) => cond t9 (obind (spec_l05Fail (18:Int) t7.2.1) fun (t10 : Result) => some (t7.1, t10)) (obind (spec_l05Fail t7.2.2 t7.2.1) fun (t11 : Result) => some (t7.1, t11))) (obind (spec_l05Fail t7.2.2 t7.2.1) fun (t12 : Result) => some (t7.1, t12)))
def spec_l07Plan (lp : Nat) (x0 : List Commit) (x1 : Wish) (x2 : Int) (x3 : Int) : Option (Bool × (List Entry) × Result) := cond (x1.1 == (4:Int)) (obind (spec_l05Join lp x0 x3 x2) fun (t1 : Bool × (List Entry) × Result) => some (t1.1, t1.2.1, t1.2.2)) (obind (spec_l05Plan lp x0 x2 x3 x1.2.2.2.2.1) fun (t2 : (List Entry) × Result) => some (false, t2.1, t2.2))
def spec_l07Fast (x0 : Client) : Option Bool := some (x0.2.2.2.2.2.2.2.1 == (1:Int))
def spec_l07Phase (lp : Nat) (x0 : Base) (x1 : Client) : Option Bool := cond (x1.2.2.2.2.1 == (0:Int)) (cond (x1.2.2.2.2.2.1 == (0:Int)) (cond (x1.2.2.2.2.2.2.2.1 == (0:Int)) (cond (x1.2.2.1 == (0:Int)) (cond ((x1.2.2.2.2.2.2.2.2.1.length : Int) == (0:Int)) (cond (x1.2.2.2.1 == (0:Int)) (some (x1.2.2.2.2.2.2.1 == (0:Int))) (some false)) (some false)) (oget x1.1 x1.2.1 fun (e1 : Wish) => cond (decide (e1.1 > (4:Int))) (some false) (cond (e1.1 == (2:Int)) (some false) (obind (spec_l01In x1.2.2.2.1 (1:Int) (x0.1.length : Int)) fun (t2 : Bool) => cond (!t2) (some false) (obind (spec_l01In x1.2.2.2.2.2.2.1 (0:Int) (3:Int)) fun (t3 : Bool) => cond (!t3) (some false) (cond (x1.2.2.1 == (1:Int)) (cond ((x1.2.2.2.2.2.2.2.2.1.length : Int) == (0:Int)) (cond (decide (x1.2.2.2.2.2.2.1 > (0:Int))) (cond (x1.2.2.2.2.2.2.1 == (0:Int)) (some true) (some (e1.1 != (1:Int)))) (cond (e1.1 != (3:Int)) (cond (x1.2.2.2.2.2.2.1 == (0:Int)) (some true) (some (e1.1 != (1:Int)))) (some false))) (some false)) (cond (x1.2.2.1 != (2:Int)) (some false) (cond (e1.1 == (1:Int)) (some false) (obind (spec_l01In x1.2.2.2.2.1 (1:Int) (x0.1.length : Int)) fun (t4 : Bool) => cond (!t4) (some false) (obind (spec_l01In x1.2.2.2.2.2.1 (1:Int) (1000000:Int)) fun (t5 : Bool) => cond (!t5) (some false) (obind (spec_l07Plan lp x0.1 e1 x1.2.2.2.1 x1.2.2.2.2.1) fun (t6 : Bool × (List Entry) × Result) => cond (t6.2.2.1 == (0:Int)) (obind (spec_l07Fast x1) fun (t7 : Bool) => cond (t7 == t6.1) (obind (spec_l01In x1.2.2.2.2.2.2.2.1 (0:Int) (1:Int)) fun (t8 : Bool) => cond t8 (obind (spec_l01Same lp t6.2.1 x1.2.2.2.2.2.2.2.2.1) fun (t9 : Bool) => some t9) (some false)) (some false)) (some false)))))))))))) (cond (x1.2.2.1 == (0:Int)) (some false) (oget x1.1 x1.2.1 fun (e10 : Wish) => cond (decide (e10.1 > (4:Int))) (some false) (cond (e10.1 == (2:Int)) (some false) (obind (spec_l01In x1.2.2.2.1 (1:Int) (x0.1.length : Int)) fun (t11 : Bool) => cond (!t11) (some false) (obind (spec_l01In x1.2.2.2.2.2.2.1 (0:Int) (3:Int)) fun (t12 : Bool) => cond (!t12) (some false) (cond (x1.2.2.1 == (1:Int)) (some false) (cond (x1.2.2.1 != (2:Int)) (some false) (cond (e10.1 == (1:Int)) (some false) (obind (spec_l01In x1.2.2.2.2.1 (1:Int) (x0.1.length : Int)) fun (t13 : Bool) => cond (!t13) (some false) (obind (spec_l01In x1.2.2.2.2.2.1 (1:Int) (1000000:Int)) fun (t14 : Bool) => cond (!t14) (some false) (obind (spec_l07Plan lp x0.1 e10 x1.2.2.2.1 x1.2.2.2.2.1) fun (t15 : Bool × (List Entry) × Result) => cond (t15.2.2.1 == (0:Int)) (obind (spec_l07Fast x1) fun (t16 : Bool) => cond (t16 == t15.1) (obind (spec_l01In x1.2.2.2.2.2.2.2.1 (0:Int) (1:Int)) fun (t17 : Bool) => cond t17 (obind (spec_l01Same lp t15.2.1 x1.2.2.2.2.2.2.2.2.1) fun (t18 : Bool) => some t18) (some false)) (some false)) (some false))))))))))))) (cond (x1.2.2.1 == (0:Int)) (some false) (oget x1.1 x1.2.1 fun (e19 : Wish) => cond (decide (e19.1 > (4:Int))) (some false) (cond (e19.1 == (2:Int)) (some false) (obind (spec_l01In x1.2.2.2.1 (1:Int) (x0.1.length : Int)) fun (t20 : Bool) => cond (!t20) (some false) (obind (spec_l01In x1.2.2.2.2.2.2.1 (0:Int) (3:Int)) fun (t21 : Bool) => cond (!t21) (some false) (cond (x1.2.2.1 == (1:Int)) (some false) (cond (x1.2.2.1 != (2:Int)) (some false) (cond (e19.1 == (1:Int)) (some false) (obind (spec_l01In x1.2.2.2.2.1 (1:Int) (x0.1.length : Int)) fun (t22 : Bool) => cond (!t22) (some false) (obind (spec_l01In x1.2.2.2.2.2.1 (1:Int) (1000000:Int)) fun (t23 : Bool) => cond (!t23) (some false) (obind (spec_l07Plan lp x0.1 e19 x1.2.2.2.1 x1.2.2.2.2.1) fun (t24 : Bool × (List Entry) × Result) => cond (t24.2.2.1 == (0:Int)) (obind (spec_l07Fast x1) fun (t25 : Bool) => cond (t25 == t24.1) (obind (spec_l01In x1.2.2.2.2.2.2.2.1 (0:Int) (1:Int)) fun (t26 : Bool) => cond t26 (obind (spec_l01Same lp t24.2.1 x1.2.2.2.2.2.2.2.2.1) fun (t27 : Bool) => some t27) (some false)) (some false)) (some false))))))))))))) (cond (x1.2.2.1 == (0:Int)) (some false) (oget x1.1 x1.2.1 fun (e28 : Wish) => cond (decide (e28.1 > (4:Int))) (some false) (cond (e28.1 == (2:Int)) (some false) (obind (spec_l01In x1.2.2.2.1 (1:Int) (x0.1.length : Int)) fun (t29 : Bool) => cond (!t29) (some false) (obind (spec_l01In x1.2.2.2.2.2.2.1 (0:Int) (3:Int)) fun (t30 : Bool) => cond (!t30) (some false) (cond (x1.2.2.1 == (1:Int)) (some false) (cond (x1.2.2.1 != (2:Int)) (some false) (cond (e28.1 == (1:Int)) (some false) (obind (spec_l01In x1.2.2.2.2.1 (1:Int) (x0.1.length : Int)) fun (t31 : Bool) => cond (!t31) (some false) (obind (spec_l01In x1.2.2.2.2.2.1 (1:Int) (1000000:Int)) fun (t32 : Bool) => cond (!t32) (some false) (obind (spec_l07Plan lp x0.1 e28 x1.2.2.2.1 x1.2.2.2.2.1) fun (t33 : Bool × (List Entry) × Result) => cond (t33.2.2.1 == (0:Int)) (obind (spec_l07Fast x1) fun (t34 : Bool) => cond (t34 == t33.1) (obind (spec_l01In x1.2.2.2.2.2.2.2.1 (0:Int) (1:Int)) fun (t35 : Bool) => cond t35 (obind (spec_l01Same lp t33.2.1 x1.2.2.2.2.2.2.2.2.1) fun (t36 : Bool) => some t36) (some false)) (some false)) (some false))))))))))))
def spec_l07OK (lp : Nat) (x0 : Base) (x1 : Client) : Option Bool := obind (spec_l07Wishes lp x1.1) fun (t1 : Bool) => cond (!t1) (some false) (obind (spec_l01In x1.2.1 (0:Int) (x1.1.length : Int)) fun (t2 : Bool) => cond (!t2) (some false) (obind (spec_l01In x1.2.2.1 (0:Int) (2:Int)) fun (t3 : Bool) => cond (!t3) (some false) (cond (x1.2.1 == (x1.1.length : Int)) (cond (decide (x1.2.2.1 > (0:Int))) (some false) (obind (spec_l07Phase lp x0 x1) fun (t4 : Bool) => some t4)) (obind (spec_l07Phase lp x0 x1) fun (t5 : Bool) => some t5))))
def spec_l06Events.b2 {R : Type} (lp : Nat) (N : List Event → Int → Option R) (X : Unit → Option R) (Q : Bool → Option R) (x0 : List Event) (x3 : Int) : Option R := cond (decide (x3 < (x0.length : Int))) (oget x0 x3 fun (e1 : Event) => obind (spec_l01In e1.1 (1:Int) (1000000:Int)) fun (t2 : Bool) => cond (!t2) (Q false) (obind (spec_l01In e1.2.1 (0:Int) (60:Int)) fun (t3 : Bool) => cond (!t3) (Q false) (cond (decide (x3 > (0:Int))) (oget x0 (IntKind.i64.wrap (x3 - (1:Int))) fun (e4 : Event) => cond (decide (e1.1 ≤ e4.1)) (Q false) (cond (decide (x3 > (0:Int))) (cond (!e1.2.2.1) (oget x0 (IntKind.i64.wrap (x3 - (1:Int))) fun (e5 : Event) => cond (e1.1 != (IntKind.i64.wrap (e5.1 + (1:Int)))) (Q false) (N x0 (IntKind.i64.wrap (x3 + (1:Int))))) (N x0 (IntKind.i64.wrap (x3 + (1:Int))))) (N x0 (IntKind.i64.wrap (x3 + (1:Int)))))) (cond (decide (x3 > (0:Int))) (cond (!e1.2.2.1) (oget x0 (IntKind.i64.wrap (x3 - (1:Int))) fun (e6 : Event) => cond (e1.1 != (IntKind.i64.wrap (e6.1 + (1:Int)))) (Q false) (N x0 (IntKind.i64.wrap (x3 + (1:Int))))) (N x0 (IntKind.i64.wrap (x3 + (1:Int))))) (N x0 (IntKind.i64.wrap (x3 + (1:Int)))))))) (X ())
def spec_l06Events.l2 (lp : Nat) : Nat → List Event → Int → Option (LE Bool Unit)
  | 0, _, _ => none
  | k + 1, x0, x3 => spec_l06Events.b2 lp (spec_l06Events.l2 lp k) (fun y => some (.brk y)) (fun z => some (.ret z)) x0 x3
def spec_l06Events.a2 (lp : Nat) (y : Unit) : Option Bool := some true
def spec_l06Events.q2 (lp : Nat) (z : Bool) : Option Bool := some z
def spec_l06Events.e (lp : Nat) (L2 : List Event → Int → Option Bool) (x0 : List Event) : Option Bool := L2 x0 (0:Int)
def spec_l06Events (lp : Nat) (x0 : List Event) : Option Bool := spec_l06Events.e lp (fun x0 x3 => obind (spec_l06Events.l2 lp lp x0 x3) (leF (fun z => spec_l06Events.q2 lp z) (fun y => spec_l06Events.a2 lp y))) x0
def spec_l06OK.b5 {R : Type} (lp : Nat) (N : ByteArray → Int → List Event → Int → Int → Option R) (X : Unit → Option R) (Q : Bool → Option R) (x1_0 : ByteArray) (x1_1 : Int) (x1_2 : List Event) (x3 : Int) (x4 : Int) : Option R := cond (decide (x4 < x3)) (oget x1_2 x4 fun (e5 : Event) => cond e5.2.2.1 (Q false) (N x1_0 x1_1 x1_2 x3 (IntKind.i64.wrap (x4 + (1:Int))))) (X ())
def spec_l06OK.l5 (lp : Nat) : Nat → ByteArray → Int → List Event → Int → Int → Option (LE Bool Unit)
  | 0, _, _, _, _, _ => none
  | k + 1, x1_0, x1_1, x1_2, x3, x4 => spec_l06OK.b5 lp (spec_l06OK.l5 lp k) (fun y => some (.brk y)) (fun z => some (.ret z)) x1_0 x1_1 x1_2 x3 x4
def spec_l06OK.a5 (lp : Nat) (y : Unit) : Option Bool := some true
def spec_l06OK.q5 (lp : Nat) (z : Bool) : Option Bool := some z
def spec_l06OK.e (lp : Nat) (L5 : ByteArray → Int → List Event → Int → Int → Option Bool) (x0 : Watch) : Option Bool := obind (spec_l00Word lp x0.1) fun (t1 : Bool) => cond (!t1) (some false) (obind (spec_l01In x0.2.1 (0:Int) (1000000:Int)) fun (t2 : Bool) => cond (!t2) (some false) (cond (decide ((x0.2.2.1.length : Int) > (4:Int))) (some false) (obind (spec_l06Events lp x0.2.2.1) fun (t3 : Bool) => cond (!t3) (some false) (cond (decide ((x0.2.2.1.length : Int) > (0:Int))) (oget x0.2.2.1 (IntKind.i64.wrap ((x0.2.2.1.length : Int) - (1:Int))) fun (e4 : Event) => cond (e4.1 != x0.2.1) (some false) (L5 x0.1 x0.2.1 x0.2.2.1 (x0.2.2.1.length : Int) (1:Int))) (L5 x0.1 x0.2.1 x0.2.2.1 (x0.2.2.1.length : Int) (1:Int))))))
def spec_l06OK (lp : Nat) (x0 : Watch) : Option Bool := spec_l06OK.e lp (fun x1_0 x1_1 x1_2 x3 x4 => obind (spec_l06OK.l5 lp lp x1_0 x1_1 x1_2 x3 x4) (leF (fun z => spec_l06OK.q5 lp z) (fun y => spec_l06OK.a5 lp y))) x0
def spec_l06New (lp : Nat) (x0 : List Ref) (x1 : ByteArray) : Option Watch := obind (spec_l04At lp x0 x1) fun (t1 : Int) => cond (decide (t1 ≥ (0:Int))) (oget x0 t1 fun (e2 : Ref) => some (x1, e2.2.2.1, ([] : List Event), ())) (some (x1, (0:Int), ([] : List Event), ()))
def spec_l05Op (lp : Nat) (x0 : Op) : Option Bool := obind (spec_l00Word lp x0.2.2.1) fun (t1 : Bool) => cond (!t1) (some false) (obind (spec_l01In x0.1 (1:Int) (6:Int)) fun (t2 : Bool) => cond (!t2) (some false) (obind (spec_l01Edits lp x0.2.2.2.2.1) fun (t3 : Bool) => cond (!t3) (some false) (cond (x0.1 != (3:Int)) (cond (decide ((x0.2.2.2.2.1.length : Int) > (0:Int))) (some false) (cond (x0.1 == (5:Int)) (obind (spec_l00Word lp x0.2.2.2.1) fun (t4 : Bool) => cond (!t4) (some false) (cond (x0.1 != (5:Int)) (cond (!(x0.2.2.2.1.toList == (⟨#[]⟩ : ByteArray).toList)) (some false) (cond (x0.1 == (1:Int)) (obind (spec_l01In x0.2.1 (1:Int) (60:Int)) fun (t5 : Bool) => some t5) (cond (x0.1 == (4:Int)) (obind (spec_l01In x0.2.1 (1:Int) (60:Int)) fun (t6 : Bool) => some t6) (cond (x0.1 == (3:Int)) (obind (spec_l01In x0.2.1 (0:Int) (60:Int)) fun (t7 : Bool) => some t7) (some (x0.2.1 == (0:Int))))))) (cond (x0.1 == (1:Int)) (obind (spec_l01In x0.2.1 (1:Int) (60:Int)) fun (t8 : Bool) => some t8) (cond (x0.1 == (4:Int)) (obind (spec_l01In x0.2.1 (1:Int) (60:Int)) fun (t9 : Bool) => some t9) (cond (x0.1 == (3:Int)) (obind (spec_l01In x0.2.1 (0:Int) (60:Int)) fun (t10 : Bool) => some t10) (some (x0.2.1 == (0:Int)))))))) (cond (x0.1 != (5:Int)) (cond (!(x0.2.2.2.1.toList == (⟨#[]⟩ : ByteArray).toList)) (some false) (cond (x0.1 == (1:Int)) (obind (spec_l01In x0.2.1 (1:Int) (60:Int)) fun (t11 : Bool) => some t11) (cond (x0.1 == (4:Int)) (obind (spec_l01In x0.2.1 (1:Int) (60:Int)) fun (t12 : Bool) => some t12) (cond (x0.1 == (3:Int)) (obind (spec_l01In x0.2.1 (0:Int) (60:Int)) fun (t13 : Bool) => some t13) (some (x0.2.1 == (0:Int))))))) (cond (x0.1 == (1:Int)) (obind (spec_l01In x0.2.1 (1:Int) (60:Int)) fun (t14 : Bool) => some t14) (cond (x0.1 == (4:Int)) (obind (spec_l01In x0.2.1 (1:Int) (60:Int)) fun (t15 : Bool) => some t15) (cond (x0.1 == (3:Int)) (obind (spec_l01In x0.2.1 (0:Int) (60:Int)) fun (t16 : Bool) => some t16) (some (x0.2.1 == (0:Int))))))))) (cond (x0.1 == (5:Int)) (obind (spec_l00Word lp x0.2.2.2.1) fun (t17 : Bool) => cond (!t17) (some false) (cond (x0.1 != (5:Int)) (cond (!(x0.2.2.2.1.toList == (⟨#[]⟩ : ByteArray).toList)) (some false) (cond (x0.1 == (1:Int)) (obind (spec_l01In x0.2.1 (1:Int) (60:Int)) fun (t18 : Bool) => some t18) (cond (x0.1 == (4:Int)) (obind (spec_l01In x0.2.1 (1:Int) (60:Int)) fun (t19 : Bool) => some t19) (cond (x0.1 == (3:Int)) (obind (spec_l01In x0.2.1 (0:Int) (60:Int)) fun (t20 : Bool) => some t20) (some (x0.2.1 == (0:Int))))))) (cond (x0.1 == (1:Int)) (obind (spec_l01In x0.2.1 (1:Int) (60:Int)) fun (t21 : Bool) => some t21) (cond (x0.1 == (4:Int)) (obind (spec_l01In x0.2.1 (1:Int) (60:Int)) fun (t22 : Bool) => some t22) (cond (x0.1 == (3:Int)) (obind (spec_l01In x0.2.1 (0:Int) (60:Int)) fun (t23 : Bool) => some t23) (some (x0.2.1 == (0:Int)))))))) (cond (x0.1 != (5:Int)) (cond (!(x0.2.2.2.1.toList == (⟨#[]⟩ : ByteArray).toList)) (some false) (cond (x0.1 == (1:Int)) (obind (spec_l01In x0.2.1 (1:Int) (60:Int)) fun (t24 : Bool) => some t24) (cond (x0.1 == (4:Int)) (obind (spec_l01In x0.2.1 (1:Int) (60:Int)) fun (t25 : Bool) => some t25) (cond (x0.1 == (3:Int)) (obind (spec_l01In x0.2.1 (0:Int) (60:Int)) fun (t26 : Bool) => some t26) (some (x0.2.1 == (0:Int))))))) (cond (x0.1 == (1:Int)) (obind (spec_l01In x0.2.1 (1:Int) (60:Int)) fun (t27 : Bool) => some t27) (cond (x0.1 == (4:Int)) (obind (spec_l01In x0.2.1 (1:Int) (60:Int)) fun (t28 : Bool) => some t28) (cond (x0.1 == (3:Int)) (obind (spec_l01In x0.2.1 (0:Int) (60:Int)) fun (t29 : Bool) => some t29) (some (x0.2.1 == (0:Int)))))))))))
def spec_l08Moment (lp : Nat) (x0 : World) (x1 : Moment) : Option Bool := obind (spec_l01In x1.1 (1:Int) (x0.2.1.length : Int)) fun (t1 : Bool) => cond t1 (oget x0.2.1 (IntKind.i64.wrap (x1.1 - (1:Int))) fun (e2 : Client) => obind (spec_l01In x1.2.1 (1:Int) e2.2.1) fun (t3 : Bool) => cond t3 (obind (spec_l01In x1.2.2.1 (1:Int) x0.2.2.2.2.1) fun (t4 : Bool) => cond t4 (cond (x1.2.2.2.1.1 == (0:Int)) (cond (x1.2.2.2.1.2.2.1.toList == (⟨#[]⟩ : ByteArray).toList) (cond (x1.2.2.2.1.2.1 == (0:Int)) (cond (x1.2.2.2.1.2.2.2.1.toList == (⟨#[]⟩ : ByteArray).toList) (cond ((x1.2.2.2.1.2.2.2.2.1.length : Int) == (0:Int)) (obind (spec_l01In x1.2.2.2.2.1.1 (0:Int) (18:Int)) fun (t5 : Bool) => cond t5 (obind (spec_l01In x1.2.2.2.2.1.2.1 (0:Int) (x0.1.1.length : Int)) fun (t6 : Bool) => cond t6 (obind (spec_l01In x1.2.2.2.2.1.2.2.1 (-1000000:Int) (1000000:Int)) fun (t7 : Bool) => cond t7 (cond (decide ((x1.2.2.2.2.1.2.2.2.1.length : Int) ≤ (24:Int))) (obind (spec_l01OK lp x1.2.2.2.2.1.2.2.2.2.1) fun (t8 : Bool) => some t8) (some false)) (some false)) (some false)) (some false)) (obind (spec_l05Op lp x1.2.2.2.1) fun (t9 : Bool) => cond t9 (obind (spec_l01In x1.2.2.2.2.1.1 (0:Int) (18:Int)) fun (t10 : Bool) => cond t10 (obind (spec_l01In x1.2.2.2.2.1.2.1 (0:Int) (x0.1.1.length : Int)) fun (t11 : Bool) => cond t11 (obind (spec_l01In x1.2.2.2.2.1.2.2.1 (-1000000:Int) (1000000:Int)) fun (t12 : Bool) => cond t12 (cond (decide ((x1.2.2.2.2.1.2.2.2.1.length : Int) ≤ (24:Int))) (obind (spec_l01OK lp x1.2.2.2.2.1.2.2.2.2.1) fun (t13 : Bool) => some t13) (some false)) (some false)) (some false)) (some false)) (some false))) (obind (spec_l05Op lp x1.2.2.2.1) fun (t14 : Bool) => cond t14 (obind (spec_l01In x1.2.2.2.2.1.1 (0:Int) (18:Int)) fun (t15 : Bool) => cond t15 (obind (spec_l01In x1.2.2.2.2.1.2.1 (0:Int) (x0.1.1.length : Int)) fun (t16 : Bool) => cond t16 (obind (spec_l01In x1.2.2.2.2.1.2.2.1 (-1000000:Int) (1000000:Int)) fun (t17 : Bool) => cond t17 (cond (decide ((x1.2.2.2.2.1.2.2.2.1.length : Int) ≤ (24:Int))) (obind (spec_l01OK lp x1.2.2.2.2.1.2.2.2.2.1) fun (t18 : Bool) => some t18) (some false)) (some false)) (some false)) (some false)) (some false))) (obind (spec_l05Op lp x1.2.2.2.1) fun (t19 : Bool) => cond t19 (obind (spec_l01In x1.2.2.2.2.1.1 (0:Int) (18:Int)) fun (t20 : Bool) => cond t20 (obind (spec_l01In x1.2.2.2.2.1.2.1 (0:Int) (x0.1.1.length : Int)) fun (t21 : Bool) => cond t21 (obind (spec_l01In x1.2.2.2.2.1.2.2.1 (-1000000:Int) (1000000:Int)) fun (t22 : Bool) => cond t22 (cond (decide ((x1.2.2.2.2.1.2.2.2.1.length : Int) ≤ (24:Int))) (obind (spec_l01OK lp x1.2.2.2.2.1.2.2.2.2.1) fun (t23 : Bool) => some t23) (some false)) (some false)) (some false)) (some false)) (some false))) (obind (spec_l05Op lp x1.2.2.2.1) fun (t24 : Bool) => cond t24 (obind (spec_l01In x1.2.2.2.2.1.1 (0:Int) (18:Int)) fun (t25 : Bool) => cond t25 (obind (spec_l01In x1.2.2.2.2.1.2.1 (0:Int) (x0.1.1.length : Int)) fun (t26 : Bool) => cond t26 (obind (spec_l01In x1.2.2.2.2.1.2.2.1 (-1000000:Int) (1000000:Int)) fun (t27 : Bool) => cond t27 (cond (decide ((x1.2.2.2.2.1.2.2.2.1.length : Int) ≤ (24:Int))) (obind (spec_l01OK lp x1.2.2.2.2.1.2.2.2.2.1) fun (t28 : Bool) => some t28) (some false)) (some false)) (some false)) (some false)) (some false))) (obind (spec_l05Op lp x1.2.2.2.1) fun (t29 : Bool) => cond t29 (obind (spec_l01In x1.2.2.2.2.1.1 (0:Int) (18:Int)) fun (t30 : Bool) => cond t30 (obind (spec_l01In x1.2.2.2.2.1.2.1 (0:Int) (x0.1.1.length : Int)) fun (t31 : Bool) => cond t31 (obind (spec_l01In x1.2.2.2.2.1.2.2.1 (-1000000:Int) (1000000:Int)) fun (t32 : Bool) => cond t32 (cond (decide ((x1.2.2.2.2.1.2.2.2.1.length : Int) ≤ (24:Int))) (obind (spec_l01OK lp x1.2.2.2.2.1.2.2.2.2.1) fun (t33 : Bool) => some t33) (some false)) (some false)) (some false)) (some false)) (some false))) (some false)) (some false)) (some false)
def spec_l08OK.b19 {R : Type} (lp : Nat) (N : List Commit → List Ref → List Client → List Watch → List Moment → Int → Int → Option R) (X : Unit → Option R) (Q : Bool → Option R) (x1_0 : List Commit) (x1_1 : List Ref) (x1_2 : List Client) (x1_3 : List Watch) (x1_4 : List Moment) (x1_5 : Int) (x7 : Int) : Option R := cond (decide (x7 < (x1_4.length : Int))) (oget x1_4 x7 fun (e9 : Moment) => obind (spec_l08Moment lp ((x1_0, x1_1, ()), x1_2, x1_3, x1_4, x1_5, ()) e9) fun (t10 : Bool) => cond (!t10) (Q false) (cond (decide (x7 > (0:Int))) (oget x1_4 x7 fun (e11 : Moment) => oget x1_4 (IntKind.i64.wrap (x7 - (1:Int))) fun (e12 : Moment) => cond (decide (e11.2.2.1 ≤ e12.2.2.1)) (Q false) (N x1_0 x1_1 x1_2 x1_3 x1_4 x1_5 (IntKind.i64.wrap (x7 + (1:Int))))) (N x1_0 x1_1 x1_2 x1_3 x1_4 x1_5 (IntKind.i64.wrap (x7 + (1:Int)))))) (X ())
def spec_l08OK.l19 (lp : Nat) : Nat → List Commit → List Ref → List Client → List Watch → List Moment → Int → Int → Option (LE Bool Unit)
  | 0, _, _, _, _, _, _, _ => none
  | k + 1, x1_0, x1_1, x1_2, x1_3, x1_4, x1_5, x7 => spec_l08OK.b19 lp (spec_l08OK.l19 lp k) (fun y => some (.brk y)) (fun z => some (.ret z)) x1_0 x1_1 x1_2 x1_3 x1_4 x1_5 x7
def spec_l08OK.b11 {R : Type} (lp : Nat) (N : List Commit → List Ref → List Client → List Watch → List Moment → Int → Int → Int → Option R) (X : ((List Commit) × (List Ref) × (List Client) × (List Watch) × (List Moment) × Int × Int) → Option R) (Q : Bool → Option R) (x1_0 : List Commit) (x1_1 : List Ref) (x1_2 : List Client) (x1_3 : List Watch) (x1_4 : List Moment) (x1_5 : Int) (x3 : Int) (x5 : Int) : Option R := cond (decide (x5 < (x1_3.length : Int))) (oget x1_3 x5 fun (e6 : Watch) => obind (spec_l06OK lp e6) fun (t7 : Bool) => cond (!t7) (Q false) (obind (spec_l06New lp x1_1 e6.1) fun (t8 : Watch) => cond (t8.2.1 != e6.2.1) (Q false) (N x1_0 x1_1 x1_2 x1_3 x1_4 x1_5 x3 (IntKind.i64.wrap (x5 + (1:Int)))))) (X (x1_0, x1_1, x1_2, x1_3, x1_4, x1_5, x3))
def spec_l08OK.l11 (lp : Nat) : Nat → List Commit → List Ref → List Client → List Watch → List Moment → Int → Int → Int → Option (LE Bool ((List Commit) × (List Ref) × (List Client) × (List Watch) × (List Moment) × Int × Int))
  | 0, _, _, _, _, _, _, _, _ => none
  | k + 1, x1_0, x1_1, x1_2, x1_3, x1_4, x1_5, x3, x5 => spec_l08OK.b11 lp (spec_l08OK.l11 lp k) (fun y => some (.brk y)) (fun z => some (.ret z)) x1_0 x1_1 x1_2 x1_3 x1_4 x1_5 x3 x5
def spec_l08OK.b5 {R : Type} (lp : Nat) (N : List Commit → List Ref → List Client → List Watch → List Moment → Int → Int → Int → Option R) (X : ((List Commit) × (List Ref) × (List Client) × (List Watch) × (List Moment) × Int × Int) → Option R) (Q : Bool → Option R) (x1_0 : List Commit) (x1_1 : List Ref) (x1_2 : List Client) (x1_3 : List Watch) (x1_4 : List Moment) (x1_5 : Int) (x3 : Int) (x4 : Int) : Option R := cond (decide (x4 < (x1_2.length : Int))) (oget x1_2 x4 fun (e3 : Client) => obind (spec_l07OK lp (x1_0, x1_1, ()) e3) fun (t4 : Bool) => cond (!t4) (Q false) (oget x1_2 x4 fun (e5 : Client) => N x1_0 x1_1 x1_2 x1_3 x1_4 x1_5 (IntKind.i64.wrap (x3 + e5.2.1)) (IntKind.i64.wrap (x4 + (1:Int))))) (X (x1_0, x1_1, x1_2, x1_3, x1_4, x1_5, x3))
def spec_l08OK.l5 (lp : Nat) : Nat → List Commit → List Ref → List Client → List Watch → List Moment → Int → Int → Int → Option (LE Bool ((List Commit) × (List Ref) × (List Client) × (List Watch) × (List Moment) × Int × Int))
  | 0, _, _, _, _, _, _, _, _ => none
  | k + 1, x1_0, x1_1, x1_2, x1_3, x1_4, x1_5, x3, x4 => spec_l08OK.b5 lp (spec_l08OK.l5 lp k) (fun y => some (.brk y)) (fun z => some (.ret z)) x1_0 x1_1 x1_2 x1_3 x1_4 x1_5 x3 x4
def spec_l08OK.a19 (lp : Nat) (y : Unit) : Option Bool := some true
def spec_l08OK.q19 (lp : Nat) (z : Bool) : Option Bool := some z
def spec_l08OK.a11 (lp : Nat) (L19 : List Commit → List Ref → List Client → List Watch → List Moment → Int → Int → Option Bool) (y : (List Commit) × (List Ref) × (List Client) × (List Watch) × (List Moment) × Int × Int) : Option Bool := cond ((y.2.2.2.2.1.length : Int) != y.2.2.2.2.2.2) (some false) (L19 y.1 y.2.1 y.2.2.1 y.2.2.2.1 y.2.2.2.2.1 y.2.2.2.2.2.1 (0:Int))
def spec_l08OK.q11 (lp : Nat) (z : Bool) : Option Bool := some z
def spec_l08OK.a5 (lp : Nat) (L11 : List Commit → List Ref → List Client → List Watch → List Moment → Int → Int → Int → Option Bool) (y : (List Commit) × (List Ref) × (List Client) × (List Watch) × (List Moment) × Int × Int) : Option Bool := L11 y.1 y.2.1 y.2.2.1 y.2.2.2.1 y.2.2.2.2.1 y.2.2.2.2.2.1 y.2.2.2.2.2.2 (0:Int)
def spec_l08OK.q5 (lp : Nat) (z : Bool) : Option Bool := some z
def spec_l08OK.e (lp : Nat) (L5 : List Commit → List Ref → List Client → List Watch → List Moment → Int → Int → Int → Option Bool) (x0 : World) : Option Bool := obind (spec_l05OK lp x0.1) fun (t1 : Bool) => cond (!t1) (some false) (cond (decide ((x0.2.1.length : Int) > (5:Int))) (some false) (cond (decide ((x0.2.2.1.length : Int) > (3:Int))) (some false) (obind (spec_l01In x0.2.2.2.2.1 (0:Int) (1000000:Int)) fun (t2 : Bool) => cond (!t2) (some false) (L5 x0.1.1 x0.1.2.1 x0.2.1 x0.2.2.1 x0.2.2.2.1 x0.2.2.2.2.1 (0:Int) (0:Int)))))
def spec_l08OK (lp : Nat) (x0 : World) : Option Bool := spec_l08OK.e lp (fun x1_0 x1_1 x1_2 x1_3 x1_4 x1_5 x3 x4 => obind (spec_l08OK.l5 lp lp x1_0 x1_1 x1_2 x1_3 x1_4 x1_5 x3 x4) (leF (fun z => spec_l08OK.q5 lp z) (fun y => spec_l08OK.a5 lp (fun x1_0 x1_1 x1_2 x1_3 x1_4 x1_5 x3 x5 => obind (spec_l08OK.l11 lp lp x1_0 x1_1 x1_2 x1_3 x1_4 x1_5 x3 x5) (leF (fun z => spec_l08OK.q11 lp z) (fun y => spec_l08OK.a11 lp (fun x1_0 x1_1 x1_2 x1_3 x1_4 x1_5 x7 => obind (spec_l08OK.l19 lp lp x1_0 x1_1 x1_2 x1_3 x1_4 x1_5 x7) (leF (fun z => spec_l08OK.q19 lp z) (fun y => spec_l08OK.a19 lp y))) y))) y))) x0
def spec_l08Done (x0 : Client) : Option Bool := some (x0.2.1 == (x0.1.length : Int))
def spec_NextOf (lp : Nat) (x0 : World) (x1 : Int) : Option (ByteArray × Int) := obind (spec_l08OK lp x0) fun (t1 : Bool) => cond (!t1) (some ((⟨#[]⟩ : ByteArray), (1:Int))) (obind (spec_l01In x1 (1:Int) (x0.2.1.length : Int)) fun (t2 : Bool) => cond (!t2) (some ((⟨#[]⟩ : ByteArray), (5:Int))) (oget x0.2.1 (IntKind.i64.wrap (x1 - (1:Int))) fun (e3 : Client) => obind (spec_l08Done e3) fun (t4 : Bool) => cond t4 (some ((⟨#[100, 111, 110, 101]⟩ : ByteArray), (0:Int))) (oget e3.1 e3.2.1 fun (e5 : Wish) => cond (e3.2.2.1 == (2:Int)) (some ((⟨#[115, 119, 97, 112]⟩ : ByteArray), (0:Int))) (cond (e3.2.2.1 == (1:Int)) (cond (e5.1 != (1:Int)) (some ((⟨#[108, 111, 111, 107]⟩ : ByteArray), (0:Int))) (cond (e3.2.2.1 == (0:Int)) (cond (e5.1 == (3:Int)) (some ((⟨#[108, 111, 111, 107]⟩ : ByteArray), (0:Int))) (cond (e3.2.2.1 == (0:Int)) (cond (e5.1 == (1:Int)) (some ((⟨#[115, 111, 117, 114, 99, 101]⟩ : ByteArray), (0:Int))) (cond (e5.1 == (4:Int)) (some ((⟨#[115, 111, 117, 114, 99, 101]⟩ : ByteArray), (0:Int))) (some ((⟨#[97, 99, 116]⟩ : ByteArray), (0:Int))))) (some ((⟨#[97, 99, 116]⟩ : ByteArray), (0:Int))))) (cond (e3.2.2.1 == (0:Int)) (cond (e5.1 == (1:Int)) (some ((⟨#[115, 111, 117, 114, 99, 101]⟩ : ByteArray), (0:Int))) (cond (e5.1 == (4:Int)) (some ((⟨#[115, 111, 117, 114, 99, 101]⟩ : ByteArray), (0:Int))) (some ((⟨#[97, 99, 116]⟩ : ByteArray), (0:Int))))) (some ((⟨#[97, 99, 116]⟩ : ByteArray), (0:Int)))))) (cond (e3.2.2.1 == (0:Int)) (cond (e5.1 == (3:Int)) (some ((⟨#[108, 111, 111, 107]⟩ : ByteArray), (0:Int))) (cond (e3.2.2.1 == (0:Int)) (cond (e5.1 == (1:Int)) (some ((⟨#[115, 111, 117, 114, 99, 101]⟩ : ByteArray), (0:Int))) (cond (e5.1 == (4:Int)) (some ((⟨#[115, 111, 117, 114, 99, 101]⟩ : ByteArray), (0:Int))) (some ((⟨#[97, 99, 116]⟩ : ByteArray), (0:Int))))) (some ((⟨#[97, 99, 116]⟩ : ByteArray), (0:Int))))) (cond (e3.2.2.1 == (0:Int)) (cond (e5.1 == (1:Int)) (some ((⟨#[115, 111, 117, 114, 99, 101]⟩ : ByteArray), (0:Int))) (cond (e5.1 == (4:Int)) (some ((⟨#[115, 111, 117, 114, 99, 101]⟩ : ByteArray), (0:Int))) (some ((⟨#[97, 99, 116]⟩ : ByteArray), (0:Int))))) (some ((⟨#[97, 99, 116]⟩ : ByteArray), (0:Int)))))))))
def impl_isList_Commit (x0 : List Commit) : Option Bool := some (decide ((x0.length : Int) ≤ (4096:Int)))
def impl_within (x0 : Int) (x1 : Int) (x2 : Int) : Option Bool := cond (decide (x1 ≤ x0)) (some (decide (x0 ≤ x2))) (some false)
def impl_isLetter (x0 : Int) : Option Bool := cond (decide (x0 ≥ (97:Int))) (cond (decide (x0 ≤ (122:Int))) (some true) (cond (decide (x0 ≥ (65:Int))) (cond (decide (x0 ≤ (90:Int))) (some true) (some (x0 == (95:Int)))) (some (x0 == (95:Int))))) (cond (decide (x0 ≥ (65:Int))) (cond (decide (x0 ≤ (90:Int))) (some true) (some (x0 == (95:Int)))) (some (x0 == (95:Int))))
def slices_IndexFunc_byte.b2 {R : Type} (lp : Nat) (N : List Int → ((Int × Unit) → Option Bool) → Int → Int → Option R) (X : Unit → Option R) (Q : Int → Option R) (x0 : List Int) (x1 : (Int × Unit) → Option Bool) (x7 : Int) (x8 : Int) : Option R := cond (decide (x8 < x7)) (oget x0 x8 fun (e1 : Int) => obind (x1 (e1, ())) fun (t2 : Bool) => cond t2 (Q x8) (N x0 x1 x7 (IntKind.i64.wrap (x8 + (1:Int))))) (X ())
def slices_IndexFunc_byte.l2 (lp : Nat) : Nat → List Int → ((Int × Unit) → Option Bool) → Int → Int → Option (LE Int Unit)
  | 0, _, _, _, _ => none
  | k + 1, x0, x1, x7, x8 => slices_IndexFunc_byte.b2 lp (slices_IndexFunc_byte.l2 lp k) (fun y => some (.brk y)) (fun z => some (.ret z)) x0 x1 x7 x8
def slices_IndexFunc_byte.a2 (lp : Nat) (y : Unit) : Option Int := some (-1:Int)
def slices_IndexFunc_byte.q2 (lp : Nat) (z : Int) : Option Int := some z
def slices_IndexFunc_byte.e (lp : Nat) (L2 : List Int → ((Int × Unit) → Option Bool) → Int → Int → Option Int) (x0 : List Int) (x1 : (Int × Unit) → Option Bool) : Option Int := L2 x0 x1 (x0.length : Int) (0:Int)
def slices_IndexFunc_byte (lp : Nat) (x0 : List Int) (x1 : (Int × Unit) → Option Bool) : Option Int := slices_IndexFunc_byte.e lp (fun x0 x1 x7 x8 => obind (slices_IndexFunc_byte.l2 lp lp x0 x1 x7 x8) (leF (fun z => slices_IndexFunc_byte.q2 lp z) (fun y => slices_IndexFunc_byte.a2 lp y))) x0 x1
def slices_ContainsFunc_byte (lp : Nat) (x0 : List Int) (x1 : (Int × Unit) → Option Bool) : Option Bool := obind (slices_IndexFunc_byte lp x0 x1) fun (t1 : Int) => some (decide (t1 ≥ (0:Int)))
def impl_areAll_byte_c1 (x0 : Int) (x1 : (Int × Unit) → Option Bool) : Option Bool := obind (x1 (x0, ())) fun (t1 : Bool) => some (!t1)
def impl_areAll_byte (lp : Nat) (x0 : List Int) (x1 : (Int × Unit) → Option Bool) : Option Bool := obind (slices_ContainsFunc_byte lp x0 (fun w => impl_areAll_byte_c1 w.1 x1)) fun (t1 : Bool) => some (!t1)
def impl_isDigit (x0 : Int) : Option Bool := cond (decide (x0 ≥ (48:Int))) (some (decide (x0 ≤ (57:Int)))) (some false)
def impl_NameOK_c1 (x0 : Int) : Option Bool := obind (impl_isLetter x0) fun (t1 : Bool) => cond t1 (some true) (obind (impl_isDigit x0) fun (t2 : Bool) => some t2)
def impl_NameOK (lp : Nat) (x0 : ByteArray) : Option Bool := obind (impl_within (x0.size : Int) (1:Int) (12:Int)) fun (t1 : Bool) => cond t1 (oif (decide ((0:Int) ≤ (0:Int))) (oif (decide ((0:Int) < (x0.size : Int))) (obind (impl_isLetter (byteAt x0 (0:Int))) fun (t2 : Bool) => cond t2 (obind (impl_areAll_byte lp (bytesOf x0) (fun w => impl_NameOK_c1 w.1)) fun (t3 : Bool) => some t3) (some false)))) (some false)
def impl_isValue (x0 : Int) : Option Bool := obind (impl_within x0 (-1000000:Int) (1000000:Int)) fun (t1 : Bool) => some t1
def impl_MapOK.b2 {R : Type} (lp : Nat) (N : List Entry → List Entry → Int → Int → Option R) (X : ((List Entry)) → Option R) (Q : Bool → Option R) (x0 : List Entry) (x5 : List Entry) (x6 : Int) (x7 : Int) : Option R := cond (decide (x7 < x6)) (oget x5 x7 fun (e1 : Entry) => obind (impl_NameOK lp e1.1) fun (t2 : Bool) => cond (!t2) (Q false) (obind (impl_isValue e1.2.1) fun (t3 : Bool) => cond (!t3) (Q false) (cond (decide (x7 > (0:Int))) (oget x0 (IntKind.i64.wrap (x7 - (1:Int))) fun (e4 : Entry) => cond (!Op.bytesLess e4.1.toList e1.1.toList) (Q false) (N x0 x5 x6 (IntKind.i64.wrap (x7 + (1:Int))))) (N x0 x5 x6 (IntKind.i64.wrap (x7 + (1:Int))))))) (X x0)
def impl_MapOK.l2 (lp : Nat) : Nat → List Entry → List Entry → Int → Int → Option (LE Bool ((List Entry)))
  | 0, _, _, _, _ => none
  | k + 1, x0, x5, x6, x7 => impl_MapOK.b2 lp (impl_MapOK.l2 lp k) (fun y => some (.brk y)) (fun z => some (.ret z)) x0 x5 x6 x7
def impl_MapOK.a2 (lp : Nat) (y : (List Entry)) : Option Bool := some (decide ((y.length : Int) ≤ (12:Int)))
def impl_MapOK.q2 (lp : Nat) (z : Bool) : Option Bool := some z
def impl_MapOK.e (lp : Nat) (L2 : List Entry → List Entry → Int → Int → Option Bool) (x0 : List Entry) : Option Bool := L2 x0 x0 (x0.length : Int) (0:Int)
def impl_MapOK (lp : Nat) (x0 : List Entry) : Option Bool := impl_MapOK.e lp (fun x0 x5 x6 x7 => obind (impl_MapOK.l2 lp lp x0 x5 x6 x7) (leF (fun z => impl_MapOK.q2 lp z) (fun y => impl_MapOK.a2 lp y))) x0
def slices_IndexFunc_int.b2 {R : Type} (lp : Nat) (N : List Int → ((Int × Unit) → Option Bool) → Int → Int → Option R) (X : Unit → Option R) (Q : Int → Option R) (x0 : List Int) (x1 : (Int × Unit) → Option Bool) (x7 : Int) (x8 : Int) : Option R := cond (decide (x8 < x7)) (oget x0 x8 fun (e1 : Int) => obind (x1 (e1, ())) fun (t2 : Bool) => cond t2 (Q x8) (N x0 x1 x7 (IntKind.i64.wrap (x8 + (1:Int))))) (X ())
def slices_IndexFunc_int.l2 (lp : Nat) : Nat → List Int → ((Int × Unit) → Option Bool) → Int → Int → Option (LE Int Unit)
  | 0, _, _, _, _ => none
  | k + 1, x0, x1, x7, x8 => slices_IndexFunc_int.b2 lp (slices_IndexFunc_int.l2 lp k) (fun y => some (.brk y)) (fun z => some (.ret z)) x0 x1 x7 x8
def slices_IndexFunc_int.a2 (lp : Nat) (y : Unit) : Option Int := some (-1:Int)
def slices_IndexFunc_int.q2 (lp : Nat) (z : Int) : Option Int := some z
def slices_IndexFunc_int.e (lp : Nat) (L2 : List Int → ((Int × Unit) → Option Bool) → Int → Int → Option Int) (x0 : List Int) (x1 : (Int × Unit) → Option Bool) : Option Int := L2 x0 x1 (x0.length : Int) (0:Int)
def slices_IndexFunc_int (lp : Nat) (x0 : List Int) (x1 : (Int × Unit) → Option Bool) : Option Int := slices_IndexFunc_int.e lp (fun x0 x1 x7 x8 => obind (slices_IndexFunc_int.l2 lp lp x0 x1 x7 x8) (leF (fun z => slices_IndexFunc_int.q2 lp z) (fun y => slices_IndexFunc_int.a2 lp y))) x0 x1
def slices_ContainsFunc_int (lp : Nat) (x0 : List Int) (x1 : (Int × Unit) → Option Bool) : Option Bool := obind (slices_IndexFunc_int lp x0 x1) fun (t1 : Int) => some (decide (t1 ≥ (0:Int)))
def impl_areAll_int_c1 (x0 : Int) (x1 : (Int × Unit) → Option Bool) : Option Bool := obind (x1 (x0, ())) fun (t1 : Bool) => some (!t1)
def impl_areAll_int (lp : Nat) (x0 : List Int) (x1 : (Int × Unit) → Option Bool) : Option Bool := obind (slices_ContainsFunc_int lp x0 (fun w => impl_areAll_int_c1 w.1 x1)) fun (t1 : Bool) => some (!t1)
def impl_Commit_isAt_c1 (x0 : Int) (x1 : Int) : Option Bool := obind (impl_within x0 (1:Int) (IntKind.i64.wrap (x1 - (1:Int)))) fun (t1 : Bool) => some t1
def impl_Commit_isAt (lp : Nat) (x0 : Commit) (x1 : Int) : Option Bool := obind (impl_MapOK lp x0.2.1) fun (t1 : Bool) => cond (!t1) (some false) (cond (decide ((x0.1.length : Int) > (2:Int))) (some false) (cond (((x0.1.length : Int) == (0:Int)) != (x1 == (1:Int))) (some false) (cond ((x0.1.length : Int) == (2:Int)) (oget x0.1 (0:Int) fun (e2 : Int) => oget x0.1 (1:Int) fun (e3 : Int) => cond (e2 == e3) (some false) (obind (impl_areAll_int lp x0.1 (fun w => impl_Commit_isAt_c1 w.1 x1)) fun (t4 : Bool) => some t4)) (obind (impl_areAll_int lp x0.1 (fun w => impl_Commit_isAt_c1 w.1 x1)) fun (t5 : Bool) => some t5))))
def impl_areCommits.b2 {R : Type} (lp : Nat) (N : List Commit → List Commit → Int → Int → Option R) (X : ((List Commit)) → Option R) (Q : Bool → Option R) (x0 : List Commit) (x5 : List Commit) (x6 : Int) (x7 : Int) : Option R := cond (decide (x7 < x6)) (oget x5 x7 fun (e1 : Commit) => obind (impl_Commit_isAt lp e1 (IntKind.i64.wrap (x7 + (1:Int)))) fun (t2 : Bool) => cond (!t2) (Q false) (N x0 x5 x6 (IntKind.i64.wrap (x7 + (1:Int))))) (X x0)
def impl_areCommits.l2 (lp : Nat) : Nat → List Commit → List Commit → Int → Int → Option (LE Bool ((List Commit)))
  | 0, _, _, _, _ => none
  | k + 1, x0, x5, x6, x7 => impl_areCommits.b2 lp (impl_areCommits.l2 lp k) (fun y => some (.brk y)) (fun z => some (.ret z)) x0 x5 x6 x7
def impl_areCommits.a2 (lp : Nat) (y : (List Commit)) : Option Bool := some (decide ((y.length : Int) ≤ (60:Int)))
def impl_areCommits.q2 (lp : Nat) (z : Bool) : Option Bool := some z
def impl_areCommits.e (lp : Nat) (L2 : List Commit → List Commit → Int → Int → Option Bool) (x0 : List Commit) : Option Bool := L2 x0 x0 (x0.length : Int) (0:Int)
def impl_areCommits (lp : Nat) (x0 : List Commit) : Option Bool := impl_areCommits.e lp (fun x0 x5 x6 x7 => obind (impl_areCommits.l2 lp lp x0 x5 x6 x7) (leF (fun z => impl_areCommits.q2 lp z) (fun y => impl_areCommits.a2 lp y))) x0
def impl_StoreOK (lp : Nat) (x0 : List Commit) : Option Bool := cond (decide ((x0.length : Int) > (0:Int))) (obind (impl_isList_Commit x0) fun (t1 : Bool) => cond t1 (obind (impl_areCommits lp x0) fun (t2 : Bool) => some t2) (some false)) (some false)
def slices_IndexFunc_Ref.b2 {R : Type} (lp : Nat) (N : List Ref → ((Ref × Unit) → Option Bool) → Int → Int → Option R) (X : Unit → Option R) (Q : Int → Option R) (x0 : List Ref) (x1 : (Ref × Unit) → Option Bool) (x7 : Int) (x8 : Int) : Option R := cond (decide (x8 < x7)) (oget x0 x8 fun (e1 : Ref) => obind (x1 (e1, ())) fun (t2 : Bool) => cond t2 (Q x8) (N x0 x1 x7 (IntKind.i64.wrap (x8 + (1:Int))))) (X ())
def slices_IndexFunc_Ref.l2 (lp : Nat) : Nat → List Ref → ((Ref × Unit) → Option Bool) → Int → Int → Option (LE Int Unit)
  | 0, _, _, _, _ => none
  | k + 1, x0, x1, x7, x8 => slices_IndexFunc_Ref.b2 lp (slices_IndexFunc_Ref.l2 lp k) (fun y => some (.brk y)) (fun z => some (.ret z)) x0 x1 x7 x8
def slices_IndexFunc_Ref.a2 (lp : Nat) (y : Unit) : Option Int := some (-1:Int)
def slices_IndexFunc_Ref.q2 (lp : Nat) (z : Int) : Option Int := some z
def slices_IndexFunc_Ref.e (lp : Nat) (L2 : List Ref → ((Ref × Unit) → Option Bool) → Int → Int → Option Int) (x0 : List Ref) (x1 : (Ref × Unit) → Option Bool) : Option Int := L2 x0 x1 (x0.length : Int) (0:Int)
def slices_IndexFunc_Ref (lp : Nat) (x0 : List Ref) (x1 : (Ref × Unit) → Option Bool) : Option Int := slices_IndexFunc_Ref.e lp (fun x0 x1 x7 x8 => obind (slices_IndexFunc_Ref.l2 lp lp x0 x1 x7 x8) (leF (fun z => slices_IndexFunc_Ref.q2 lp z) (fun y => slices_IndexFunc_Ref.a2 lp y))) x0 x1
def slices_ContainsFunc_Ref (lp : Nat) (x0 : List Ref) (x1 : (Ref × Unit) → Option Bool) : Option Bool := obind (slices_IndexFunc_Ref lp x0 x1) fun (t1 : Int) => some (decide (t1 ≥ (0:Int)))
def impl_areAll_Ref_c1 (x0 : Ref) (x1 : (Ref × Unit) → Option Bool) : Option Bool := obind (x1 (x0, ())) fun (t1 : Bool) => some (!t1)
def impl_areAll_Ref (lp : Nat) (x0 : List Ref) (x1 : (Ref × Unit) → Option Bool) : Option Bool := obind (slices_ContainsFunc_Ref lp x0 (fun w => impl_areAll_Ref_c1 w.1 x1)) fun (t1 : Bool) => some (!t1)
def impl_place_c1 (x0 : Ref) (x1 : ByteArray) : Option Bool := some (x0.1.toList == x1.toList)
def impl_place (lp : Nat) (x0 : List Ref) (x1 : ByteArray) : Option Int := obind (slices_IndexFunc_Ref lp x0 (fun w => impl_place_c1 w.1 x1)) fun (t1 : Int) => some t1
def impl_isHead (x0 : Int) : Option Bool := obind (impl_within x0 (1:Int) (60:Int)) fun (t1 : Bool) => some t1
def impl_isRef (lp : Nat) (x0 : Ref) : Option Bool := obind (impl_NameOK lp x0.1) fun (t1 : Bool) => cond t1 (obind (impl_within x0.2.2.1 (1:Int) (1000000:Int)) fun (t2 : Bool) => cond t2 (cond x0.2.2.2.1 (cond (x0.2.1 == (0:Int)) (some true) (cond (!x0.2.2.2.1) (obind (impl_isHead x0.2.1) fun (t3 : Bool) => some t3) (some false))) (cond (!x0.2.2.2.1) (obind (impl_isHead x0.2.1) fun (t4 : Bool) => some t4) (some false))) (some false)) (some false)
def impl_RefsOK.b4 {R : Type} (lp : Nat) (N : List Ref → List Ref → Int → Int → Option R) (X : Unit → Option R) (Q : Bool → Option R) (x0 : List Ref) (x13 : List Ref) (x14 : Int) (x15 : Int) : Option R := cond (decide (x15 < x14)) (oget x13 x15 fun (e2 : Ref) => oif (decide ((0:Int) ≤ x15)) (oif (decide (x15 ≤ (x0.length : Int))) (obind (impl_place lp (x0.take x15.toNat) e2.1) fun (t3 : Int) => cond (decide (t3 ≥ (0:Int))) (Q false) (N x0 x13 x14 (IntKind.i64.wrap (x15 + (1:Int))))))) (X ())
def impl_RefsOK.l4 (lp : Nat) : Nat → List Ref → List Ref → Int → Int → Option (LE Bool Unit)
  | 0, _, _, _, _ => none
  | k + 1, x0, x13, x14, x15 => impl_RefsOK.b4 lp (impl_RefsOK.l4 lp k) (fun y => some (.brk y)) (fun z => some (.ret z)) x0 x13 x14 x15
def impl_RefsOK.a4 (lp : Nat) (y : Unit) : Option Bool := some true
def impl_RefsOK.q4 (lp : Nat) (z : Bool) : Option Bool := some z
def impl_RefsOK.e (lp : Nat) (L4 : List Ref → List Ref → Int → Int → Option Bool) (x0 : List Ref) : Option Bool := cond (decide ((x0.length : Int) > (8:Int))) (some false) (obind (impl_areAll_Ref lp x0 (fun w => impl_isRef lp w.1)) fun (t1 : Bool) => cond (!t1) (some false) (L4 x0 x0 (x0.length : Int) (0:Int)))
def impl_RefsOK (lp : Nat) (x0 : List Ref) : Option Bool := impl_RefsOK.e lp (fun x0 x13 x14 x15 => obind (impl_RefsOK.l4 lp lp x0 x13 x14 x15) (leF (fun z => impl_RefsOK.q4 lp z) (fun y => impl_RefsOK.a4 lp y))) x0
def impl_BaseOK_c1 (x0 : Ref) (x1 : Base) : Option Bool := some (decide (x0.2.1 ≤ (x1.1.length : Int)))
def impl_BaseOK (lp : Nat) (x0 : Base) : Option Bool := obind (impl_StoreOK lp x0.1) fun (t1 : Bool) => cond t1 (obind (impl_RefsOK lp x0.2.1) fun (t2 : Bool) => cond t2 (obind (impl_areAll_Ref lp x0.2.1 (fun w => impl_BaseOK_c1 w.1 x0)) fun (t3 : Bool) => some t3) (some false)) (some false)
def slices_IndexFunc_Wish.b2 {R : Type} (lp : Nat) (N : List Wish → ((Wish × Unit) → Option Bool) → Int → Int → Option R) (X : Unit → Option R) (Q : Int → Option R) (x0 : List Wish) (x1 : (Wish × Unit) → Option Bool) (x7 : Int) (x8 : Int) : Option R := cond (decide (x8 < x7)) (oget x0 x8 fun (e1 : Wish) => obind (x1 (e1, ())) fun (t2 : Bool) => cond t2 (Q x8) (N x0 x1 x7 (IntKind.i64.wrap (x8 + (1:Int))))) (X ())
def slices_IndexFunc_Wish.l2 (lp : Nat) : Nat → List Wish → ((Wish × Unit) → Option Bool) → Int → Int → Option (LE Int Unit)
  | 0, _, _, _, _ => none
  | k + 1, x0, x1, x7, x8 => slices_IndexFunc_Wish.b2 lp (slices_IndexFunc_Wish.l2 lp k) (fun y => some (.brk y)) (fun z => some (.ret z)) x0 x1 x7 x8
def slices_IndexFunc_Wish.a2 (lp : Nat) (y : Unit) : Option Int := some (-1:Int)
def slices_IndexFunc_Wish.q2 (lp : Nat) (z : Int) : Option Int := some z
def slices_IndexFunc_Wish.e (lp : Nat) (L2 : List Wish → ((Wish × Unit) → Option Bool) → Int → Int → Option Int) (x0 : List Wish) (x1 : (Wish × Unit) → Option Bool) : Option Int := L2 x0 x1 (x0.length : Int) (0:Int)
def slices_IndexFunc_Wish (lp : Nat) (x0 : List Wish) (x1 : (Wish × Unit) → Option Bool) : Option Int := slices_IndexFunc_Wish.e lp (fun x0 x1 x7 x8 => obind (slices_IndexFunc_Wish.l2 lp lp x0 x1 x7 x8) (leF (fun z => slices_IndexFunc_Wish.q2 lp z) (fun y => slices_IndexFunc_Wish.a2 lp y))) x0 x1
def slices_ContainsFunc_Wish (lp : Nat) (x0 : List Wish) (x1 : (Wish × Unit) → Option Bool) : Option Bool := obind (slices_IndexFunc_Wish lp x0 x1) fun (t1 : Int) => some (decide (t1 ≥ (0:Int)))
def impl_areAll_Wish_c1 (x0 : Wish) (x1 : (Wish × Unit) → Option Bool) : Option Bool := obind (x1 (x0, ())) fun (t1 : Bool) => some (!t1)
def impl_areAll_Wish (lp : Nat) (x0 : List Wish) (x1 : (Wish × Unit) → Option Bool) : Option Bool := obind (slices_ContainsFunc_Wish lp x0 (fun w => impl_areAll_Wish_c1 w.1 x1)) fun (t1 : Bool) => some (!t1)
def impl_hasSource (x0 : Int) : Option Bool := cond (x0 == (1:Int)) (some true) (some (x0 == (4:Int)))
def impl_EditsOK.b2 {R : Type} (lp : Nat) (N : List Edit → List Edit → Int → Int → Option R) (X : ((List Edit)) → Option R) (Q : Bool → Option R) (x0 : List Edit) (x5 : List Edit) (x6 : Int) (x7 : Int) : Option R := cond (decide (x7 < x6)) (oget x5 x7 fun (e1 : Edit) => obind (impl_NameOK lp e1.1) fun (t2 : Bool) => cond (!t2) (Q false) (obind (impl_isValue e1.2.1) fun (t3 : Bool) => cond (!t3) (Q false) (cond e1.2.2.1 (cond (e1.2.1 != (0:Int)) (Q false) (cond (decide (x7 > (0:Int))) (oget x0 (IntKind.i64.wrap (x7 - (1:Int))) fun (e4 : Edit) => cond (!Op.bytesLess e4.1.toList e1.1.toList) (Q false) (N x0 x5 x6 (IntKind.i64.wrap (x7 + (1:Int))))) (N x0 x5 x6 (IntKind.i64.wrap (x7 + (1:Int)))))) (cond (decide (x7 > (0:Int))) (oget x0 (IntKind.i64.wrap (x7 - (1:Int))) fun (e5 : Edit) => cond (!Op.bytesLess e5.1.toList e1.1.toList) (Q false) (N x0 x5 x6 (IntKind.i64.wrap (x7 + (1:Int))))) (N x0 x5 x6 (IntKind.i64.wrap (x7 + (1:Int)))))))) (X x0)
def impl_EditsOK.l2 (lp : Nat) : Nat → List Edit → List Edit → Int → Int → Option (LE Bool ((List Edit)))
  | 0, _, _, _, _ => none
  | k + 1, x0, x5, x6, x7 => impl_EditsOK.b2 lp (impl_EditsOK.l2 lp k) (fun y => some (.brk y)) (fun z => some (.ret z)) x0 x5 x6 x7
def impl_EditsOK.a2 (lp : Nat) (y : (List Edit)) : Option Bool := some (decide ((y.length : Int) ≤ (6:Int)))
def impl_EditsOK.q2 (lp : Nat) (z : Bool) : Option Bool := some z
def impl_EditsOK.e (lp : Nat) (L2 : List Edit → List Edit → Int → Int → Option Bool) (x0 : List Edit) : Option Bool := L2 x0 x0 (x0.length : Int) (0:Int)
def impl_EditsOK (lp : Nat) (x0 : List Edit) : Option Bool := impl_EditsOK.e lp (fun x0 x5 x6 x7 => obind (impl_EditsOK.l2 lp lp x0 x5 x6 x7) (leF (fun z => impl_EditsOK.q2 lp z) (fun y => impl_EditsOK.a2 lp y))) x0
def impl_OpOK (lp : Nat) (x0 : Op) : Option Bool := obind (impl_NameOK lp x0.2.2.1) fun (t1 : Bool) => cond (!t1) (some false) (cond (x0.1 != (5:Int)) (cond (!(x0.2.2.2.1.toList == (⟨#[]⟩ : ByteArray).toList)) (some false) (cond (x0.1 != (3:Int)) (cond (decide ((x0.2.2.2.2.1.length : Int) > (0:Int))) (some false) (cond (x0.1 == (1:Int)) (obind (impl_isHead x0.2.1) fun (t2 : Bool) => some t2) (cond (x0.1 == (4:Int)) (obind (impl_isHead x0.2.1) fun (t3 : Bool) => some t3) (cond (x0.1 == (2:Int)) (some (x0.2.1 == (0:Int))) (cond (x0.1 == (6:Int)) (some (x0.2.1 == (0:Int))) (cond (x0.1 == (3:Int)) (obind (impl_within x0.2.1 (0:Int) (60:Int)) fun (t4 : Bool) => cond t4 (obind (impl_EditsOK lp x0.2.2.2.2.1) fun (t5 : Bool) => some t5) (some false)) (cond (x0.1 == (5:Int)) (cond (x0.2.1 == (0:Int)) (obind (impl_NameOK lp x0.2.2.2.1) fun (t6 : Bool) => some t6) (some false)) (some false)))))))) (cond (x0.1 == (1:Int)) (obind (impl_isHead x0.2.1) fun (t7 : Bool) => some t7) (cond (x0.1 == (4:Int)) (obind (impl_isHead x0.2.1) fun (t8 : Bool) => some t8) (cond (x0.1 == (2:Int)) (some (x0.2.1 == (0:Int))) (cond (x0.1 == (6:Int)) (some (x0.2.1 == (0:Int))) (cond (x0.1 == (3:Int)) (obind (impl_within x0.2.1 (0:Int) (60:Int)) fun (t9 : Bool) => cond t9 (obind (impl_EditsOK lp x0.2.2.2.2.1) fun (t10 : Bool) => some t10) (some false)) (cond (x0.1 == (5:Int)) (cond (x0.2.1 == (0:Int)) (obind (impl_NameOK lp x0.2.2.2.1) fun (t11 : Bool) => some t11) (some false)) (some false))))))))) (cond (x0.1 != (3:Int)) (cond (decide ((x0.2.2.2.2.1.length : Int) > (0:Int))) (some false) (cond (x0.1 == (1:Int)) (obind (impl_isHead x0.2.1) fun (t12 : Bool) => some t12) (cond (x0.1 == (4:Int)) (obind (impl_isHead x0.2.1) fun (t13 : Bool) => some t13) (cond (x0.1 == (2:Int)) (some (x0.2.1 == (0:Int))) (cond (x0.1 == (6:Int)) (some (x0.2.1 == (0:Int))) (cond (x0.1 == (3:Int)) (obind (impl_within x0.2.1 (0:Int) (60:Int)) fun (t14 : Bool) => cond t14 (obind (impl_EditsOK lp x0.2.2.2.2.1) fun (t15 : Bool) => some t15) (some false)) (cond (x0.1 == (5:Int)) (cond (x0.2.1 == (0:Int)) (obind (impl_NameOK lp x0.2.2.2.1) fun (t16 : Bool) => some t16) (some false)) (some false)))))))) (cond (x0.1 == (1:Int)) (obind (impl_isHead x0.2.1) fun (t17 : Bool) => some t17) (cond (x0.1 == (4:Int)) (obind (impl_isHead x0.2.1) fun (t18 : Bool) => some t18) (cond (x0.1 == (2:Int)) (some (x0.2.1 == (0:Int))) (cond (x0.1 == (6:Int)) (some (x0.2.1 == (0:Int))) (cond (x0.1 == (3:Int)) (obind (impl_within x0.2.1 (0:Int) (60:Int)) fun (t19 : Bool) => cond t19 (obind (impl_EditsOK lp x0.2.2.2.2.1) fun (t20 : Bool) => some t20) (some false)) (cond (x0.1 == (5:Int)) (cond (x0.2.1 == (0:Int)) (obind (impl_NameOK lp x0.2.2.2.1) fun (t21 : Bool) => some t21) (some false)) (some false)))))))))
def slices_Clone_Edit (x0 : List Edit) : Option (List Edit) := oif (decide (x0.length * 32 ≤ 140737488355328)) (some x0)
def impl_Wish_op (x0 : Wish) (x1 : Int) : Option Op := obind (slices_Clone_Edit x0.2.2.2.2.1) fun (t1 : (List Edit)) => some (x0.1, x1, x0.2.1, x0.2.2.2.1, t1, ())
def impl_WishOK (lp : Nat) (x0 : Wish) : Option Bool := obind (impl_hasSource x0.1) fun (t1 : Bool) => cond (!t1) (cond (x0.2.2.1.toList == (⟨#[]⟩ : ByteArray).toList) (obind (impl_Wish_op x0 (0:Int)) fun (t2 : Op) => obind (impl_OpOK lp t2) fun (t3 : Bool) => some t3) (some false)) (obind (impl_NameOK lp x0.2.2.1) fun (t4 : Bool) => cond t4 (obind (impl_Wish_op x0 (1:Int)) fun (t5 : Op) => obind (impl_OpOK lp t5) fun (t6 : Bool) => some t6) (some false))
def impl_Client_isDone (x0 : Client) : Option Bool := some (x0.2.1 == (x0.1.length : Int))
def impl_Client_wish (x0 : Client) : Option Wish := oget x0.1 x0.2.1 fun (e1 : Wish) => some e1
def impl_Client_isFresh (x0 : Client) : Option Bool := cond (x0.2.2.2.1 == (0:Int)) (cond (x0.2.2.2.2.1 == (0:Int)) (cond (x0.2.2.2.2.2.1 == (0:Int)) (cond (x0.2.2.2.2.2.2.1 == (0:Int)) (cond (x0.2.2.2.2.2.2.2.1 == (0:Int)) (some ((x0.2.2.2.2.2.2.2.2.1.length : Int) == (0:Int))) (some false)) (some false)) (some false)) (some false)) (some false)
def slices_Equal_Entry.b4 {R : Type} (lp : Nat) (N : List Entry → List Entry → Int → Int → Option R) (X : Unit → Option R) (Q : Bool → Option R) (x0 : List Entry) (x1 : List Entry) (x12 : Int) (x13 : Int) : Option R := cond (decide (x13 < x12)) (oget x0 x13 fun (e1 : Entry) => oget x1 x13 fun (e2 : Entry) => cond (!((e1.1 == e2.1) && (e1.2.1 == e2.2.1))) (Q false) (N x0 x1 x12 (IntKind.i64.wrap (x13 + (1:Int))))) (X ())
def slices_Equal_Entry.l4 (lp : Nat) : Nat → List Entry → List Entry → Int → Int → Option (LE Bool Unit)
  | 0, _, _, _, _ => none
  | k + 1, x0, x1, x12, x13 => slices_Equal_Entry.b4 lp (slices_Equal_Entry.l4 lp k) (fun y => some (.brk y)) (fun z => some (.ret z)) x0 x1 x12 x13
def slices_Equal_Entry.a4 (lp : Nat) (y : Unit) : Option Bool := some true
def slices_Equal_Entry.q4 (lp : Nat) (z : Bool) : Option Bool := some z
def slices_Equal_Entry.e (lp : Nat) (L4 : List Entry → List Entry → Int → Int → Option Bool) (x0 : List Entry) (x1 : List Entry) : Option Bool := cond ((x0.length : Int) != (x1.length : Int)) (some false) (L4 x0 x1 (x0.length : Int) (0:Int))
def slices_Equal_Entry (lp : Nat) (x0 : List Entry) (x1 : List Entry) : Option Bool := slices_Equal_Entry.e lp (fun x0 x1 x12 x13 => obind (slices_Equal_Entry.l4 lp lp x0 x1 x12 x13) (leF (fun z => slices_Equal_Entry.q4 lp z) (fun y => slices_Equal_Entry.a4 lp y))) x0 x1
def impl_planned (x0 : List Entry) (x1 : List ByteArray) (x2 : Int) (x3 : List Int) : Option Plan := cond (x2 != (0:Int)) (some (false, ([] : List Entry), ([] : List Int), x1, x2, ())) (some (false, x0, x3, ([] : List ByteArray), (0:Int), ()))
def impl_limited (x0 : List Entry) : Option ((List Entry) × Int) := cond (decide ((x0.length : Int) > (12:Int))) (some (([] : List Entry), (7:Int))) (some (x0, (0:Int)))
def slices_Clone_Entry (x0 : List Entry) : Option (List Entry) := oif (decide (x0.length * 24 ≤ 140737488355328)) (some x0)
def slices_BinarySearchFunc_Entry.b3 {R : Type} (lp : Nat) (N : List Entry → ByteArray → ((Entry × ByteArray × Unit) → Option Int) → Int → Int → Int → Option R) (X : ((List Entry) × ByteArray × ((Entry × ByteArray × Unit) → Option Int) × Int × Int) → Option R) (Q : Empty → Option R) (x0 : List Entry) (x1 : ByteArray) (x2 : (Entry × ByteArray × Unit) → Option Int) (x8 : Int) (x9 : Int) (x10 : Int) : Option R := cond (decide (x9 < x10)) (oif (decide (0 ≤ (1:Int))) (oget x0 (IntKind.i64.wrap ((IntKind.u64.wrap (IntKind.i64.wrap (x9 + x10))).fdiv (2 ^ min (1:Int).toNat (IntKind.u64).bits))) fun (e1 : Entry) => obind (x2 (e1, x1, ())) fun (t2 : Int) => cond (decide (t2 < (0:Int))) (N x0 x1 x2 x8 (IntKind.i64.wrap ((IntKind.i64.wrap ((IntKind.u64.wrap (IntKind.i64.wrap (x9 + x10))).fdiv (2 ^ min (1:Int).toNat (IntKind.u64).bits))) + (1:Int))) x10) (N x0 x1 x2 x8 x9 (IntKind.i64.wrap ((IntKind.u64.wrap (IntKind.i64.wrap (x9 + x10))).fdiv (2 ^ min (1:Int).toNat (IntKind.u64).bits)))))) (X (x0, x1, x2, x8, x9))
def slices_BinarySearchFunc_Entry.l3 (lp : Nat) : Nat → List Entry → ByteArray → ((Entry × ByteArray × Unit) → Option Int) → Int → Int → Int → Option (LE Empty ((List Entry) × ByteArray × ((Entry × ByteArray × Unit) → Option Int) × Int × Int))
  | 0, _, _, _, _, _, _ => none
  | k + 1, x0, x1, x2, x8, x9, x10 => slices_BinarySearchFunc_Entry.b3 lp (slices_BinarySearchFunc_Entry.l3 lp k) (fun y => some (.brk y)) (fun z => some (.ret z)) x0 x1 x2 x8 x9 x10
def slices_BinarySearchFunc_Entry.a3 (lp : Nat) (y : (List Entry) × ByteArray × ((Entry × ByteArray × Unit) → Option Int) × Int × Int) : Option (Int × Bool) := cond (decide (y.2.2.2.2 < y.2.2.2.1)) (oget y.1 y.2.2.2.2 fun (e3 : Entry) => obind (y.2.2.1 (e3, y.2.1, ())) fun (t4 : Int) => some (y.2.2.2.2, (t4 == (0:Int)))) (some (y.2.2.2.2, false))
def slices_BinarySearchFunc_Entry.e (lp : Nat) (L3 : List Entry → ByteArray → ((Entry × ByteArray × Unit) → Option Int) → Int → Int → Int → Option (Int × Bool)) (x0 : List Entry) (x1 : ByteArray) (x2 : (Entry × ByteArray × Unit) → Option Int) : Option (Int × Bool) := L3 x0 x1 x2 (x0.length : Int) (0:Int) (x0.length : Int)
def slices_BinarySearchFunc_Entry (lp : Nat) (x0 : List Entry) (x1 : ByteArray) (x2 : (Entry × ByteArray × Unit) → Option Int) : Option (Int × Bool) := slices_BinarySearchFunc_Entry.e lp (fun x0 x1 x2 x8 x9 x10 => obind (slices_BinarySearchFunc_Entry.l3 lp lp x0 x1 x2 x8 x9 x10) (leF (fun z => z.elim) (fun y => slices_BinarySearchFunc_Entry.a3 lp y))) x0 x1 x2
def strings_Compare (x0 x1 : ByteArray) : Option Int := some (Lib.compareBytes x0.data.toList x1.data.toList)
def impl_find_c1 (x0 : Entry) (x1 : ByteArray) : Option Int := obind (strings_Compare x0.1 x1) fun (t1 : Int) => some t1
def impl_find (lp : Nat) (x0 : List Entry) (x1 : ByteArray) : Option (Int × Bool) := obind (slices_BinarySearchFunc_Entry lp x0 x1 (fun w => impl_find_c1 w.1 w.2.1)) fun (t1 : Int × Bool) => some (t1.1, t1.2)
def slices_Delete_Entry (l : List Entry) (i : Int) (x : Int) : Option (List Entry) := delF (t := TEntry) l i x
def slices_Insert_Entry (l : List Entry) (i : Int) (x : List Entry) : Option (List Entry) := insF (t := TEntry) 24 l i x
def impl_edited.b3 {R : Type} (lp : Nat) (N : List Edit → Int → Int → List Entry → Option R) (X : ((List Entry)) → Option R) (Q : Empty → Option R) (x12 : List Edit) (x13 : Int) (x14 : Int) (xo11 : List Entry) : Option R := cond (decide (x14 < x13)) (oget x12 x14 fun (e2 : Edit) => obind (impl_find lp xo11 e2.1) fun (t3 : Int × Bool) => cond t3.2 (obind (slices_Delete_Entry xo11 t3.1 (IntKind.i64.wrap (t3.1 + (1:Int)))) fun (t4 : List Entry) => cond (!e2.2.2.1) (obind (slices_Insert_Entry t4 t3.1 ([(e2.1, e2.2.1, ())] : List Entry)) fun (t5 : List Entry) => N x12 x13 (IntKind.i64.wrap (x14 + (1:Int))) t5) (N x12 x13 (IntKind.i64.wrap (x14 + (1:Int))) t4)) (cond (!e2.2.2.1) (obind (slices_Insert_Entry xo11 t3.1 ([(e2.1, e2.2.1, ())] : List Entry)) fun (t6 : List Entry) => N x12 x13 (IntKind.i64.wrap (x14 + (1:Int))) t6) (N x12 x13 (IntKind.i64.wrap (x14 + (1:Int))) xo11))) (X xo11)
def impl_edited.l3 (lp : Nat) : Nat → List Edit → Int → Int → List Entry → Option (LE Empty ((List Entry)))
  | 0, _, _, _, _ => none
  | k + 1, x12, x13, x14, xo11 => impl_edited.b3 lp (impl_edited.l3 lp k) (fun y => some (.brk y)) (fun z => some (.ret z)) x12 x13 x14 xo11
def impl_edited.a3 (lp : Nat) (y : (List Entry)) : Option ((List Entry)) := some y
def impl_edited.e (lp : Nat) (L3 : List Edit → Int → Int → List Entry → Option ((List Entry))) (x0 : List Entry) (x1 : List Edit) : Option ((List Entry)) := obind (slices_Clone_Entry x0) fun (t1 : List Entry) => L3 x1 (x1.length : Int) (0:Int) t1
def impl_edited (lp : Nat) (x0 : List Entry) (x1 : List Edit) : Option ((List Entry)) := impl_edited.e lp (fun x12 x13 x14 xo11 => obind (impl_edited.l3 lp lp x12 x13 x14 xo11) (leF (fun z => z.elim) (fun y => impl_edited.a3 lp y))) x0 x1
def slices_SortFunc_Edit (l : List Edit) : Option (List Edit) := sortF (t := TEdit) (cmpBy fun z : Edit => z.1) l
def impl_diff_c1 (x0 : Edit) (x1 : Edit) : Option Int := obind (strings_Compare x0.1 x1.1) fun (t1 : Int) => some t1
def impl_diff.b10 {R : Type} (lp : Nat) (N : List Entry → List Entry → Int → Int → List Edit → Option R) (X : ((List Edit)) → Option R) (Q : Empty → Option R) (x1 : List Entry) (x48 : List Entry) (x49 : Int) (x50 : Int) (xo46 : List Edit) : Option R := cond (decide (x50 < x49)) (oget x48 x50 fun (e4 : Entry) => obind (impl_find lp x1 e4.1) fun (t5 : Int × Bool) => cond (!t5.2) (oif (decide ((xo46.length + ([(e4.1, (0:Int), true, ())] : List Edit).length) * 32 ≤ 140737488355328)) (N x1 x48 x49 (IntKind.i64.wrap (x50 + (1:Int))) (xo46 ++ ([(e4.1, (0:Int), true, ())] : List Edit)))) (N x1 x48 x49 (IntKind.i64.wrap (x50 + (1:Int))) xo46)) (X xo46)
def impl_diff.l10 (lp : Nat) : Nat → List Entry → List Entry → Int → Int → List Edit → Option (LE Empty ((List Edit)))
  | 0, _, _, _, _, _ => none
  | k + 1, x1, x48, x49, x50, xo46 => impl_diff.b10 lp (impl_diff.l10 lp k) (fun y => some (.brk y)) (fun z => some (.ret z)) x1 x48 x49 x50 xo46
def impl_diff.b3 {R : Type} (lp : Nat) (N : List Entry → List Entry → List Entry → Int → Int → List Edit → Option R) (X : ((List Entry) × (List Entry) × (List Edit)) → Option R) (Q : Empty → Option R) (x0 : List Entry) (x1 : List Entry) (x14 : List Entry) (x15 : Int) (x16 : Int) (xo46 : List Edit) : Option R := cond (decide (x16 < x15)) (oget x14 x16 fun (e1 : Entry) => obind (impl_find lp x0 e1.1) fun (t2 : Int × Bool) => cond (!t2.2) (oif (decide ((xo46.length + ([(e1.1, e1.2.1, false, ())] : List Edit).length) * 32 ≤ 140737488355328)) (N x0 x1 x14 x15 (IntKind.i64.wrap (x16 + (1:Int))) (xo46 ++ ([(e1.1, e1.2.1, false, ())] : List Edit)))) (oget x0 t2.1 fun (e3 : Entry) => cond (e3.2.1 != e1.2.1) (oif (decide ((xo46.length + ([(e1.1, e1.2.1, false, ())] : List Edit).length) * 32 ≤ 140737488355328)) (N x0 x1 x14 x15 (IntKind.i64.wrap (x16 + (1:Int))) (xo46 ++ ([(e1.1, e1.2.1, false, ())] : List Edit)))) (N x0 x1 x14 x15 (IntKind.i64.wrap (x16 + (1:Int))) xo46))) (X (x0, x1, xo46))
def impl_diff.l3 (lp : Nat) : Nat → List Entry → List Entry → List Entry → Int → Int → List Edit → Option (LE Empty ((List Entry) × (List Entry) × (List Edit)))
  | 0, _, _, _, _, _, _ => none
  | k + 1, x0, x1, x14, x15, x16, xo46 => impl_diff.b3 lp (impl_diff.l3 lp k) (fun y => some (.brk y)) (fun z => some (.ret z)) x0 x1 x14 x15 x16 xo46
def impl_diff.a10 (lp : Nat) (y : (List Edit)) : Option ((List Edit)) := obind (slices_SortFunc_Edit y) fun (t6 : List Edit) => oif (Nat.beq t6.length y.length) (some t6)
def impl_diff.a3 (lp : Nat) (L10 : List Entry → List Entry → Int → Int → List Edit → Option ((List Edit))) (y : (List Entry) × (List Entry) × (List Edit)) : Option ((List Edit)) := L10 y.2.1 y.1 (y.1.length : Int) (0:Int) y.2.2
def impl_diff.e (lp : Nat) (L3 : List Entry → List Entry → List Entry → Int → Int → List Edit → Option ((List Edit))) (x0 : List Entry) (x1 : List Entry) : Option ((List Edit)) := L3 x0 x1 x1 (x1.length : Int) (0:Int) ([] : List Edit)
def impl_diff (lp : Nat) (x0 : List Entry) (x1 : List Entry) : Option ((List Edit)) := impl_diff.e lp (fun x0 x1 x14 x15 x16 xo46 => obind (impl_diff.l3 lp lp x0 x1 x14 x15 x16 xo46) (leF (fun z => z.elim) (fun y => impl_diff.a3 lp (fun x1 x48 x49 x50 xo46 => obind (impl_diff.l10 lp lp x1 x48 x49 x50 xo46) (leF (fun z => z.elim) (fun y => impl_diff.a10 lp y))) y))) x0 x1
def impl_merge.b10 {R : Type} (lp : Nat) (N : List Entry → List Edit → Int → Int → (List (ByteArray × Edit)) → List Edit → List ByteArray → Option R) (X : ((List Entry) × (List Edit) × (List ByteArray)) → Option R) (Q : Empty → Option R) (x1 : List Entry) (x36 : List Edit) (x37 : Int) (x38 : Int) (xm20 : List (ByteArray × Edit)) (xo55 : List Edit) (xo64 : List ByteArray) : Option R := cond (decide (x38 < x37)) (oget x36 x38 fun (e4 : Edit) => cond (!((mapGet xm20 e4.1).isSome)) (oif (decide ((xo55.length + ([e4] : List Edit).length) * 32 ≤ 140737488355328)) (N x1 x36 x37 (IntKind.i64.wrap (x38 + (1:Int))) xm20 (xo55 ++ ([e4] : List Edit)) xo64)) (cond (!(((((mapGet xm20 e4.1).getD (zeroD TEdit)).1) == e4.1) && ((((((mapGet xm20 e4.1).getD (zeroD TEdit)).2).1) == e4.2.1) && ((((((mapGet xm20 e4.1).getD (zeroD TEdit)).2).2).1) == e4.2.2.1)))) (oif (decide ((xo64.length + ([e4.1] : List ByteArray).length) * 16 ≤ 140737488355328)) (N x1 x36 x37 (IntKind.i64.wrap (x38 + (1:Int))) xm20 xo55 (xo64 ++ ([e4.1] : List ByteArray)))) (N x1 x36 x37 (IntKind.i64.wrap (x38 + (1:Int))) xm20 xo55 xo64))) (X (x1, xo55, xo64))
def impl_merge.l10 (lp : Nat) : Nat → List Entry → List Edit → Int → Int → (List (ByteArray × Edit)) → List Edit → List ByteArray → Option (LE Empty ((List Entry) × (List Edit) × (List ByteArray)))
  | 0, _, _, _, _, _, _, _ => none
  | k + 1, x1, x36, x37, x38, xm20, xo55, xo64 => impl_merge.b10 lp (impl_merge.l10 lp k) (fun y => some (.brk y)) (fun z => some (.ret z)) x1 x36 x37 x38 xm20 xo55 xo64
def impl_merge.b3 {R : Type} (lp : Nat) (N : List Entry → List Entry → List Entry → List Edit → Int → Int → (List (ByteArray × Edit)) → Option R) (X : ((List Entry) × (List Entry) × (List Entry) × (List (ByteArray × Edit))) → Option R) (Q : Empty → Option R) (x0 : List Entry) (x1 : List Entry) (x2 : List Entry) (x23 : List Edit) (x24 : Int) (x25 : Int) (xm20 : List (ByteArray × Edit)) : Option R := cond (decide (x25 < x24)) (oget x23 x25 fun (e2 : Edit) => N x0 x1 x2 x23 x24 (IntKind.i64.wrap (x25 + (1:Int))) (mapPut xm20 e2.1 e2)) (X (x0, x1, x2, xm20))
def impl_merge.l3 (lp : Nat) : Nat → List Entry → List Entry → List Entry → List Edit → Int → Int → (List (ByteArray × Edit)) → Option (LE Empty ((List Entry) × (List Entry) × (List Entry) × (List (ByteArray × Edit))))
  | 0, _, _, _, _, _, _, _ => none
  | k + 1, x0, x1, x2, x23, x24, x25, xm20 => impl_merge.b3 lp (impl_merge.l3 lp k) (fun y => some (.brk y)) (fun z => some (.ret z)) x0 x1 x2 x23 x24 x25 xm20
def impl_merge.a10 (lp : Nat) (y : (List Entry) × (List Edit) × (List ByteArray)) : Option ((List Entry) × (List ByteArray) × Int) := cond (decide ((y.2.2.length : Int) > (0:Int))) (some (([] : List Entry), y.2.2, (11:Int))) (obind (impl_edited lp y.1 y.2.1) fun (t5 : (List Entry)) => obind (impl_limited t5) fun (t6 : (List Entry) × Int) => some (t6.1, ([] : List ByteArray), t6.2))
def impl_merge.a3 (lp : Nat) (L10 : List Entry → List Edit → Int → Int → (List (ByteArray × Edit)) → List Edit → List ByteArray → Option ((List Entry) × (List ByteArray) × Int)) (y : (List Entry) × (List Entry) × (List Entry) × (List (ByteArray × Edit))) : Option ((List Entry) × (List ByteArray) × Int) := obind (impl_diff lp y.1 y.2.2.1) fun (t3 : (List Edit)) => L10 y.2.1 t3 (t3.length : Int) (0:Int) y.2.2.2 ([] : List Edit) ([] : List ByteArray)
def impl_merge.e (lp : Nat) (L3 : List Entry → List Entry → List Entry → List Edit → Int → Int → (List (ByteArray × Edit)) → Option ((List Entry) × (List ByteArray) × Int)) (x0 : List Entry) (x1 : List Entry) (x2 : List Entry) : Option ((List Entry) × (List ByteArray) × Int) := obind (impl_diff lp x0 x1) fun (t1 : (List Edit)) => L3 x0 x1 x2 t1 (t1.length : Int) (0:Int) ([] : List (ByteArray × Edit))
def impl_merge (lp : Nat) (x0 : List Entry) (x1 : List Entry) (x2 : List Entry) : Option ((List Entry) × (List ByteArray) × Int) := impl_merge.e lp (fun x0 x1 x2 x23 x24 x25 xm20 => obind (impl_merge.l3 lp lp x0 x1 x2 x23 x24 x25 xm20) (leF (fun z => z.elim) (fun y => impl_merge.a3 lp (fun x1 x36 x37 x38 xm20 xo55 xo64 => obind (impl_merge.l10 lp lp x1 x36 x37 x38 xm20 xo55 xo64) (leF (fun z => z.elim) (fun y => impl_merge.a10 lp y))) y))) x0 x1 x2
def impl_Base_commitAt (lp : Nat) (x0 : Base) (x1 : Op) (x2 : Int) : Option Plan := cond (x1.2.1 == (0:Int)) (oget x0.1 (IntKind.i64.wrap (x2 - (1:Int))) fun (e1 : Commit) => obind (impl_edited lp e1.2.1 x1.2.2.2.2.1) fun (t2 : (List Entry)) => obind (impl_limited t2) fun (t3 : (List Entry) × Int) => cond (t3.2 != (0:Int)) (some (false, ([] : List Entry), ([] : List Int), ([] : List ByteArray), t3.2, ())) (oget x0.1 (IntKind.i64.wrap (x2 - (1:Int))) fun (e4 : Commit) => obind (impl_merge lp e1.2.1 t3.1 e4.2.1) fun (t5 : (List Entry) × (List ByteArray) × Int) => cond (t5.2.2 == (0:Int)) (obind (slices_Equal_Entry lp t5.1 e4.2.1) fun (t6 : Bool) => cond t6 (obind (impl_planned t5.1 t5.2.1 (18:Int) ([x2] : List Int)) fun (t7 : Plan) => some t7) (obind (impl_planned t5.1 t5.2.1 t5.2.2 ([x2] : List Int)) fun (t8 : Plan) => some t8)) (obind (impl_planned t5.1 t5.2.1 t5.2.2 ([x2] : List Int)) fun (t9 : Plan) => some t9))) (oget x0.1 (IntKind.i64.wrap (x1.2.1 - (1:Int))) fun (e10 : Commit) => obind (impl_edited lp e10.2.1 x1.2.2.2.2.1) fun (t11 : (List Entry)) => obind (impl_limited t11) fun (t12 : (List Entry) × Int) => cond (t12.2 != (0:Int)) (some (false, ([] : List Entry), ([] : List Int), ([] : List ByteArray), t12.2, ())) (oget x0.1 (IntKind.i64.wrap (x2 - (1:Int))) fun (e13 : Commit) => obind (impl_merge lp e10.2.1 t12.1 e13.2.1) fun (t14 : (List Entry) × (List ByteArray) × Int) => cond (t14.2.2 == (0:Int)) (obind (slices_Equal_Entry lp t14.1 e13.2.1) fun (t15 : Bool) => cond t15 (obind (impl_planned t14.1 t14.2.1 (18:Int) ([x2] : List Int)) fun (t16 : Plan) => some t16) (obind (impl_planned t14.1 t14.2.1 t14.2.2 ([x2] : List Int)) fun (t17 : Plan) => some t17)) (obind (impl_planned t14.1 t14.2.1 t14.2.2 ([x2] : List Int)) fun (t18 : Plan) => some t18)))
def impl_ancestors.b8 {R : Type} (lp : Nat) (N : List Commit → Int → List Int → Int → Int → List Bool → Option R) (X : ((List Commit) × Int × (List Bool)) → Option R) (Q : Empty → Option R) (x0 : List Commit) (x6 : Int) (x30 : List Int) (x31 : Int) (x32 : Int) (xo12 : List Bool) : Option R := cond (decide (x32 < x31)) (oget x30 x32 fun (e4 : Int) => oif (decide ((0:Int) ≤ e4)) (oif (decide (e4 < (xo12.length : Int))) (oget xo12 (e4.toNat : Int) fun (e5 : Bool) => N x0 x6 x30 x31 (IntKind.i64.wrap (x32 + (1:Int))) (xo12.set e4.toNat true)))) (X (x0, x6, xo12))
def impl_ancestors.l8 (lp : Nat) : Nat → List Commit → Int → List Int → Int → Int → List Bool → Option (LE Empty ((List Commit) × Int × (List Bool)))
  | 0, _, _, _, _, _, _ => none
  | k + 1, x0, x6, x30, x31, x32, xo12 => impl_ancestors.b8 lp (impl_ancestors.l8 lp k) (fun y => some (.brk y)) (fun z => some (.ret z)) x0 x6 x30 x31 x32 xo12
def impl_ancestors.a8 {R : Type} (lp : Nat) (N : List Commit → Int → List Bool → Option R) (X : ((List Bool)) → Option R) (Q : Empty → Option R) (y : (List Commit) × Int × (List Bool)) : Option R := N y.1 (IntKind.i64.wrap (y.2.1 - (1:Int))) y.2.2
def impl_ancestors.b4 {R : Type} (lp : Nat) (N : List Commit → Int → List Bool → Option R) (X : ((List Bool)) → Option R) (Q : Empty → Option R) (L8 : List Commit → Int → List Int → Int → Int → List Bool → Option R) (x0 : List Commit) (x6 : Int) (xo12 : List Bool) : Option R := cond (decide (x6 > (0:Int))) (oif (decide ((0:Int) ≤ x6)) (oif (decide (x6 < (xo12.length : Int))) (oget xo12 (x6.toNat : Int) fun (e2 : Bool) => cond e2 (oget x0 (IntKind.i64.wrap (x6 - (1:Int))) fun (e3 : Commit) => L8 x0 x6 e3.1 (e3.1.length : Int) (0:Int) xo12) (N x0 (IntKind.i64.wrap (x6 - (1:Int))) xo12)))) (X xo12)
def impl_ancestors.l4 (lp : Nat) : Nat → List Commit → Int → List Bool → Option (LE Empty ((List Bool)))
  | 0, _, _, _ => none
  | k + 1, x0, x6, xo12 => impl_ancestors.b4 lp (impl_ancestors.l4 lp k) (fun y => some (.brk y)) (fun z => some (.ret z)) (fun x0 x6 x30 x31 x32 xo12 => obind (impl_ancestors.l8 lp lp x0 x6 x30 x31 x32 xo12) (leF (fun z => z.elim) (fun y => impl_ancestors.a8 lp (impl_ancestors.l4 lp k) (fun y => some (.brk y)) (fun z => some (.ret z)) y))) x0 x6 xo12
def impl_ancestors.a4 (lp : Nat) (y : (List Bool)) : Option ((List Bool)) := some y
def impl_ancestors.e (lp : Nat) (L4 : List Commit → Int → List Bool → Option ((List Bool))) (x0 : List Commit) (x1 : Int) : Option ((List Bool)) := oif (decide ((0:Int) ≤ IntKind.i64.wrap ((x0.length : Int) + (1:Int)))) (oif (decide ((IntKind.i64.wrap ((x0.length : Int) + (1:Int))).toNat * 1 ≤ 140737488355328)) (oif (decide ((0:Int) ≤ x1)) (oif (decide (x1 < ((List.replicate (IntKind.i64.wrap ((x0.length : Int) + (1:Int))).toNat (false : Bool)).length : Int))) (oget (List.replicate (IntKind.i64.wrap ((x0.length : Int) + (1:Int))).toNat (false : Bool)) (x1.toNat : Int) fun (e1 : Bool) => L4 x0 x1 ((List.replicate (IntKind.i64.wrap ((x0.length : Int) + (1:Int))).toNat (false : Bool)).set x1.toNat true)))))
def impl_ancestors (lp : Nat) (x0 : List Commit) (x1 : Int) : Option ((List Bool)) := impl_ancestors.e lp (fun x0 x6 xo12 => obind (impl_ancestors.l4 lp lp x0 x6 xo12) (leF (fun z => z.elim) (fun y => impl_ancestors.a4 lp y))) x0 x1
def impl_baseOf.b3 {R : Type} (lp : Nat) (N : List Bool → List Bool → Int → Option R) (X : Int → Option R) (Q : Empty → Option R) (x7 : List Bool) (x8 : List Bool) (x9 : Int) : Option R := oget x7 x9 fun (e3 : Bool) => cond (!e3) (N x7 x8 (IntKind.i64.wrap (x9 - (1:Int)))) (oget x8 x9 fun (e4 : Bool) => cond (!e4) (N x7 x8 (IntKind.i64.wrap (x9 - (1:Int)))) (X x9))
def impl_baseOf.l3 (lp : Nat) : Nat → List Bool → List Bool → Int → Option (LE Empty Int)
  | 0, _, _, _ => none
  | k + 1, x7, x8, x9 => impl_baseOf.b3 lp (impl_baseOf.l3 lp k) (fun y => some (.brk y)) (fun z => some (.ret z)) x7 x8 x9
def impl_baseOf.a3 (lp : Nat) (y : Int) : Option Int := some y
def impl_baseOf.e (lp : Nat) (L3 : List Bool → List Bool → Int → Option Int) (x0 : List Commit) (x1 : Int) (x2 : Int) : Option Int := obind (impl_ancestors lp x0 x1) fun (t1 : (List Bool)) => obind (impl_ancestors lp x0 x2) fun (t2 : (List Bool)) => L3 t1 t2 (cond (decide (x2 < x1)) x2 x1)
def impl_baseOf (lp : Nat) (x0 : List Commit) (x1 : Int) (x2 : Int) : Option Int := impl_baseOf.e lp (fun x7 x8 x9 => obind (impl_baseOf.l3 lp lp x7 x8 x9) (leF (fun z => z.elim) (fun y => impl_baseOf.a3 lp y))) x0 x1 x2
def impl_mergeCommits (lp : Nat) (x0 : List Commit) (x1 : Int) (x2 : Int) : Option ((List Entry) × (List ByteArray) × Int) := obind (impl_baseOf lp x0 x1 x2) fun (t1 : Int) => oget x0 (IntKind.i64.wrap (t1 - (1:Int))) fun (e2 : Commit) => oget x0 (IntKind.i64.wrap (x1 - (1:Int))) fun (e3 : Commit) => oget x0 (IntKind.i64.wrap (x2 - (1:Int))) fun (e4 : Commit) => obind (impl_merge lp e2.2.1 e3.2.1 e4.2.1) fun (t5 : (List Entry) × (List ByteArray) × Int) => some (t5.1, t5.2.1, t5.2.2)
def impl_Base_planAt (lp : Nat) (x0 : Base) (x1 : Op) (x2 : Int) : Option Plan := cond (x1.1 == (3:Int)) (obind (impl_Base_commitAt lp x0 x1 x2) fun (t1 : Plan) => some t1) (obind (impl_baseOf lp x0.1 x2 x1.2.1) fun (t2 : Int) => cond (t2 == x1.2.1) (some (false, ([] : List Entry), ([] : List Int), ([] : List ByteArray), (18:Int), ())) (cond (t2 == x2) (some (true, ([] : List Entry), ([] : List Int), ([] : List ByteArray), (0:Int), ())) (obind (impl_mergeCommits lp x0.1 x2 x1.2.1) fun (t3 : (List Entry) × (List ByteArray) × Int) => obind (impl_planned t3.1 t3.2.1 t3.2.2 ([x2, x1.2.1] : List Int)) fun (t4 : Plan) => some t4)))
def impl_flag (x0 : Bool) : Option Int := cond x0 (some (1:Int)) (some (0:Int))
def impl_Client_isPossible (lp : Nat) (x0 : Client) (x1 : Base) : Option Bool := cond (x0.2.2.1 == (0:Int)) (obind (impl_Client_isFresh x0) fun (t1 : Bool) => some t1) (obind (impl_within x0.2.2.1 (1:Int) (2:Int)) fun (t2 : Bool) => cond (!t2) (some false) (obind (impl_Client_isDone x0) fun (t3 : Bool) => cond t3 (some false) (obind (impl_Client_wish x0) fun (t4 : Wish) => obind (impl_hasSource t4.1) fun (t5 : Bool) => cond (!t5) (cond (t4.1 != (3:Int)) (some false) (obind (impl_within x0.2.2.2.1 (1:Int) (x1.1.length : Int)) fun (t6 : Bool) => cond (!t6) (some false) (obind (impl_within x0.2.2.2.2.2.2.1 (0:Int) (3:Int)) fun (t7 : Bool) => cond (!t7) (some false) (cond (x0.2.2.1 == (1:Int)) (cond (x0.2.2.2.2.1 == (0:Int)) (cond (x0.2.2.2.2.2.1 == (0:Int)) (cond (x0.2.2.2.2.2.2.2.1 == (0:Int)) (cond ((x0.2.2.2.2.2.2.2.2.1.length : Int) == (0:Int)) (cond (t4.1 != (3:Int)) (cond (t4.1 != (1:Int)) (some true) (some (x0.2.2.2.2.2.2.1 == (0:Int)))) (cond (decide (x0.2.2.2.2.2.2.1 > (0:Int))) (cond (t4.1 != (1:Int)) (some true) (some (x0.2.2.2.2.2.2.1 == (0:Int)))) (some false))) (some false)) (some false)) (some false)) (some false)) (cond (t4.1 == (1:Int)) (some false) (obind (impl_within x0.2.2.2.2.1 (1:Int) (x1.1.length : Int)) fun (t8 : Bool) => cond (!t8) (some false) (obind (impl_within x0.2.2.2.2.2.1 (1:Int) (1000000:Int)) fun (t9 : Bool) => cond (!t9) (some false) (obind (impl_Client_wish x0) fun (t10 : Wish) => obind (impl_Wish_op t10 x0.2.2.2.1) fun (t11 : Op) => obind (impl_Base_planAt lp x1 t11 x0.2.2.2.2.1) fun (t12 : Plan) => cond (t12.2.2.2.2.1 == (0:Int)) (obind (impl_flag t12.1) fun (t13 : Int) => cond (x0.2.2.2.2.2.2.2.1 == t13) (obind (slices_Equal_Entry lp x0.2.2.2.2.2.2.2.2.1 t12.2.1) fun (t14 : Bool) => some t14) (some false)) (some false))))))))) (obind (impl_within x0.2.2.2.1 (1:Int) (x1.1.length : Int)) fun (t15 : Bool) => cond (!t15) (some false) (obind (impl_within x0.2.2.2.2.2.2.1 (0:Int) (3:Int)) fun (t16 : Bool) => cond (!t16) (some false) (cond (x0.2.2.1 == (1:Int)) (cond (x0.2.2.2.2.1 == (0:Int)) (cond (x0.2.2.2.2.2.1 == (0:Int)) (cond (x0.2.2.2.2.2.2.2.1 == (0:Int)) (cond ((x0.2.2.2.2.2.2.2.2.1.length : Int) == (0:Int)) (cond (t4.1 != (3:Int)) (cond (t4.1 != (1:Int)) (some true) (some (x0.2.2.2.2.2.2.1 == (0:Int)))) (cond (decide (x0.2.2.2.2.2.2.1 > (0:Int))) (cond (t4.1 != (1:Int)) (some true) (some (x0.2.2.2.2.2.2.1 == (0:Int)))) (some false))) (some false)) (some false)) (some false)) (some false)) (cond (t4.1 == (1:Int)) (some false) (obind (impl_within x0.2.2.2.2.1 (1:Int) (x1.1.length : Int)) fun (t17 : Bool) => cond (!t17) (some false) (obind (impl_within x0.2.2.2.2.2.1 (1:Int) (1000000:Int)) fun (t18 : Bool) => cond (!t18) (some false) (obind (impl_Client_wish x0) fun (t19 : Wish) => obind (impl_Wish_op t19 x0.2.2.2.1) fun (t20 : Op) => obind (impl_Base_planAt lp x1 t20 x0.2.2.2.2.1) fun (t21 : Plan) => cond (t21.2.2.2.2.1 == (0:Int)) (obind (impl_flag t21.1) fun (t22 : Int) => cond (x0.2.2.2.2.2.2.2.1 == t22) (obind (slices_Equal_Entry lp x0.2.2.2.2.2.2.2.2.1 t21.2.1) fun (t23 : Bool) => some t23) (some false)) (some false)))))))))))
def impl_Client_isFor (lp : Nat) (x0 : Client) (x1 : Base) : Option Bool := cond (decide ((x0.1.length : Int) ≤ (6:Int))) (obind (impl_areAll_Wish lp x0.1 (fun w => impl_WishOK lp w.1)) fun (t1 : Bool) => cond t1 (obind (impl_within x0.2.1 (0:Int) (x0.1.length : Int)) fun (t2 : Bool) => cond t2 (obind (impl_Client_isPossible lp x0 x1) fun (t3 : Bool) => some t3) (some false)) (some false)) (some false)
def slices_IndexFunc_Moment.b2 {R : Type} (lp : Nat) (N : List Moment → ((Moment × Unit) → Option Bool) → Int → Int → Option R) (X : Unit → Option R) (Q : Int → Option R) (x0 : List Moment) (x1 : (Moment × Unit) → Option Bool) (x7 : Int) (x8 : Int) : Option R := cond (decide (x8 < x7)) (oget x0 x8 fun (e1 : Moment) => obind (x1 (e1, ())) fun (t2 : Bool) => cond t2 (Q x8) (N x0 x1 x7 (IntKind.i64.wrap (x8 + (1:Int))))) (X ())
def slices_IndexFunc_Moment.l2 (lp : Nat) : Nat → List Moment → ((Moment × Unit) → Option Bool) → Int → Int → Option (LE Int Unit)
  | 0, _, _, _, _ => none
  | k + 1, x0, x1, x7, x8 => slices_IndexFunc_Moment.b2 lp (slices_IndexFunc_Moment.l2 lp k) (fun y => some (.brk y)) (fun z => some (.ret z)) x0 x1 x7 x8
def slices_IndexFunc_Moment.a2 (lp : Nat) (y : Unit) : Option Int := some (-1:Int)
def slices_IndexFunc_Moment.q2 (lp : Nat) (z : Int) : Option Int := some z
def slices_IndexFunc_Moment.e (lp : Nat) (L2 : List Moment → ((Moment × Unit) → Option Bool) → Int → Int → Option Int) (x0 : List Moment) (x1 : (Moment × Unit) → Option Bool) : Option Int := L2 x0 x1 (x0.length : Int) (0:Int)
def slices_IndexFunc_Moment (lp : Nat) (x0 : List Moment) (x1 : (Moment × Unit) → Option Bool) : Option Int := slices_IndexFunc_Moment.e lp (fun x0 x1 x7 x8 => obind (slices_IndexFunc_Moment.l2 lp lp x0 x1 x7 x8) (leF (fun z => slices_IndexFunc_Moment.q2 lp z) (fun y => slices_IndexFunc_Moment.a2 lp y))) x0 x1
def slices_ContainsFunc_Moment (lp : Nat) (x0 : List Moment) (x1 : (Moment × Unit) → Option Bool) : Option Bool := obind (slices_IndexFunc_Moment lp x0 x1) fun (t1 : Int) => some (decide (t1 ≥ (0:Int)))
def impl_areAll_Moment_c1 (x0 : Moment) (x1 : (Moment × Unit) → Option Bool) : Option Bool := obind (x1 (x0, ())) fun (t1 : Bool) => some (!t1)
def impl_areAll_Moment (lp : Nat) (x0 : List Moment) (x1 : (Moment × Unit) → Option Bool) : Option Bool := obind (slices_ContainsFunc_Moment lp x0 (fun w => impl_areAll_Moment_c1 w.1 x1)) fun (t1 : Bool) => some (!t1)
def impl_Op_isZero (x0 : Op) : Option Bool := cond (x0.1 == (0:Int)) (cond (x0.2.1 == (0:Int)) (cond (x0.2.2.1.toList == (⟨#[]⟩ : ByteArray).toList) (cond (x0.2.2.2.1.toList == (⟨#[]⟩ : ByteArray).toList) (some ((x0.2.2.2.2.1.length : Int) == (0:Int))) (some false)) (some false)) (some false)) (some false)
def impl_isCode (x0 : Int) : Option Bool := obind (impl_within x0 (0:Int) (18:Int)) fun (t1 : Bool) => some t1
def impl_isResult (lp : Nat) (x0 : Result) (x1 : Int) : Option Bool := obind (impl_isCode x0.1) fun (t1 : Bool) => cond t1 (obind (impl_within x0.2.1 (0:Int) x1) fun (t2 : Bool) => cond t2 (obind (impl_isValue x0.2.2.1) fun (t3 : Bool) => cond t3 (cond (decide ((x0.2.2.2.1.length : Int) ≤ (24:Int))) (obind (impl_MapOK lp x0.2.2.2.2.1) fun (t4 : Bool) => some t4) (some false)) (some false)) (some false)) (some false)
def impl_World_isMoment (lp : Nat) (x0 : World) (x1 : Moment) : Option Bool := obind (impl_within x1.1 (1:Int) (x0.2.1.length : Int)) fun (t1 : Bool) => cond t1 (oget x0.2.1 (IntKind.i64.wrap (x1.1 - (1:Int))) fun (e2 : Client) => obind (impl_within x1.2.1 (1:Int) e2.2.1) fun (t3 : Bool) => cond t3 (obind (impl_within x1.2.2.1 (1:Int) x0.2.2.2.2.1) fun (t4 : Bool) => cond t4 (obind (impl_Op_isZero x1.2.2.2.1) fun (t5 : Bool) => cond t5 (obind (impl_isResult lp x1.2.2.2.2.1 (x0.1.1.length : Int)) fun (t6 : Bool) => some t6) (obind (impl_OpOK lp x1.2.2.2.1) fun (t7 : Bool) => cond t7 (obind (impl_isResult lp x1.2.2.2.2.1 (x0.1.1.length : Int)) fun (t8 : Bool) => some t8) (some false))) (some false)) (some false)) (some false)
def slices_IndexFunc_Watch.b2 {R : Type} (lp : Nat) (N : List Watch → ((Watch × Unit) → Option Bool) → Int → Int → Option R) (X : Unit → Option R) (Q : Int → Option R) (x0 : List Watch) (x1 : (Watch × Unit) → Option Bool) (x7 : Int) (x8 : Int) : Option R := cond (decide (x8 < x7)) (oget x0 x8 fun (e1 : Watch) => obind (x1 (e1, ())) fun (t2 : Bool) => cond t2 (Q x8) (N x0 x1 x7 (IntKind.i64.wrap (x8 + (1:Int))))) (X ())
def slices_IndexFunc_Watch.l2 (lp : Nat) : Nat → List Watch → ((Watch × Unit) → Option Bool) → Int → Int → Option (LE Int Unit)
  | 0, _, _, _, _ => none
  | k + 1, x0, x1, x7, x8 => slices_IndexFunc_Watch.b2 lp (slices_IndexFunc_Watch.l2 lp k) (fun y => some (.brk y)) (fun z => some (.ret z)) x0 x1 x7 x8
def slices_IndexFunc_Watch.a2 (lp : Nat) (y : Unit) : Option Int := some (-1:Int)
def slices_IndexFunc_Watch.q2 (lp : Nat) (z : Int) : Option Int := some z
def slices_IndexFunc_Watch.e (lp : Nat) (L2 : List Watch → ((Watch × Unit) → Option Bool) → Int → Int → Option Int) (x0 : List Watch) (x1 : (Watch × Unit) → Option Bool) : Option Int := L2 x0 x1 (x0.length : Int) (0:Int)
def slices_IndexFunc_Watch (lp : Nat) (x0 : List Watch) (x1 : (Watch × Unit) → Option Bool) : Option Int := slices_IndexFunc_Watch.e lp (fun x0 x1 x7 x8 => obind (slices_IndexFunc_Watch.l2 lp lp x0 x1 x7 x8) (leF (fun z => slices_IndexFunc_Watch.q2 lp z) (fun y => slices_IndexFunc_Watch.a2 lp y))) x0 x1
def slices_ContainsFunc_Watch (lp : Nat) (x0 : List Watch) (x1 : (Watch × Unit) → Option Bool) : Option Bool := obind (slices_IndexFunc_Watch lp x0 x1) fun (t1 : Int) => some (decide (t1 ≥ (0:Int)))
def impl_areAll_Watch_c1 (x0 : Watch) (x1 : (Watch × Unit) → Option Bool) : Option Bool := obind (x1 (x0, ())) fun (t1 : Bool) => some (!t1)
def impl_areAll_Watch (lp : Nat) (x0 : List Watch) (x1 : (Watch × Unit) → Option Bool) : Option Bool := obind (slices_ContainsFunc_Watch lp x0 (fun w => impl_areAll_Watch_c1 w.1 x1)) fun (t1 : Bool) => some (!t1)
def impl_isList_Event (x0 : List Event) : Option Bool := some (decide ((x0.length : Int) ≤ (4096:Int)))
def impl_EventsOK.b2 {R : Type} (lp : Nat) (N : List Event → List Event → Int → Int → Option R) (X : ((List Event)) → Option R) (Q : Bool → Option R) (x0 : List Event) (x5 : List Event) (x6 : Int) (x7 : Int) : Option R := cond (decide (x7 < x6)) (oget x5 x7 fun (e1 : Event) => obind (impl_within e1.1 (1:Int) (1000000:Int)) fun (t2 : Bool) => cond (!t2) (Q false) (obind (impl_within e1.2.1 (0:Int) (60:Int)) fun (t3 : Bool) => cond (!t3) (Q false) (cond (decide (x7 > (0:Int))) (oget x0 (IntKind.i64.wrap (x7 - (1:Int))) fun (e4 : Event) => cond (decide (e1.1 ≤ e4.1)) (Q false) (oget x0 (IntKind.i64.wrap (x7 - (1:Int))) fun (e5 : Event) => cond (decide (e1.1 > (IntKind.i64.wrap (e5.1 + (1:Int))))) (cond (!e1.2.2.1) (Q false) (N x0 x5 x6 (IntKind.i64.wrap (x7 + (1:Int))))) (N x0 x5 x6 (IntKind.i64.wrap (x7 + (1:Int)))))) (N x0 x5 x6 (IntKind.i64.wrap (x7 + (1:Int))))))) (X x0)
def impl_EventsOK.l2 (lp : Nat) : Nat → List Event → List Event → Int → Int → Option (LE Bool ((List Event)))
  | 0, _, _, _, _ => none
  | k + 1, x0, x5, x6, x7 => impl_EventsOK.b2 lp (impl_EventsOK.l2 lp k) (fun y => some (.brk y)) (fun z => some (.ret z)) x0 x5 x6 x7
def impl_EventsOK.a2 (lp : Nat) (y : (List Event)) : Option Bool := obind (impl_isList_Event y) fun (t6 : Bool) => some t6
def impl_EventsOK.q2 (lp : Nat) (z : Bool) : Option Bool := some z
def impl_EventsOK.e (lp : Nat) (L2 : List Event → List Event → Int → Int → Option Bool) (x0 : List Event) : Option Bool := L2 x0 x0 (x0.length : Int) (0:Int)
def impl_EventsOK (lp : Nat) (x0 : List Event) : Option Bool := impl_EventsOK.e lp (fun x0 x5 x6 x7 => obind (impl_EventsOK.l2 lp lp x0 x5 x6 x7) (leF (fun z => impl_EventsOK.q2 lp z) (fun y => impl_EventsOK.a2 lp y))) x0
def slices_IndexFunc_Event.b2 {R : Type} (lp : Nat) (N : List Event → ((Event × Unit) → Option Bool) → Int → Int → Option R) (X : Unit → Option R) (Q : Int → Option R) (x0 : List Event) (x1 : (Event × Unit) → Option Bool) (x7 : Int) (x8 : Int) : Option R := cond (decide (x8 < x7)) (oget x0 x8 fun (e1 : Event) => obind (x1 (e1, ())) fun (t2 : Bool) => cond t2 (Q x8) (N x0 x1 x7 (IntKind.i64.wrap (x8 + (1:Int))))) (X ())
def slices_IndexFunc_Event.l2 (lp : Nat) : Nat → List Event → ((Event × Unit) → Option Bool) → Int → Int → Option (LE Int Unit)
  | 0, _, _, _, _ => none
  | k + 1, x0, x1, x7, x8 => slices_IndexFunc_Event.b2 lp (slices_IndexFunc_Event.l2 lp k) (fun y => some (.brk y)) (fun z => some (.ret z)) x0 x1 x7 x8
def slices_IndexFunc_Event.a2 (lp : Nat) (y : Unit) : Option Int := some (-1:Int)
def slices_IndexFunc_Event.q2 (lp : Nat) (z : Int) : Option Int := some z
def slices_IndexFunc_Event.e (lp : Nat) (L2 : List Event → ((Event × Unit) → Option Bool) → Int → Int → Option Int) (x0 : List Event) (x1 : (Event × Unit) → Option Bool) : Option Int := L2 x0 x1 (x0.length : Int) (0:Int)
def slices_IndexFunc_Event (lp : Nat) (x0 : List Event) (x1 : (Event × Unit) → Option Bool) : Option Int := slices_IndexFunc_Event.e lp (fun x0 x1 x7 x8 => obind (slices_IndexFunc_Event.l2 lp lp x0 x1 x7 x8) (leF (fun z => slices_IndexFunc_Event.q2 lp z) (fun y => slices_IndexFunc_Event.a2 lp y))) x0 x1
def slices_ContainsFunc_Event (lp : Nat) (x0 : List Event) (x1 : (Event × Unit) → Option Bool) : Option Bool := obind (slices_IndexFunc_Event lp x0 x1) fun (t1 : Int) => some (decide (t1 ≥ (0:Int)))
def impl_areAll_Event_c1 (x0 : Event) (x1 : (Event × Unit) → Option Bool) : Option Bool := obind (x1 (x0, ())) fun (t1 : Bool) => some (!t1)
def impl_areAll_Event (lp : Nat) (x0 : List Event) (x1 : (Event × Unit) → Option Bool) : Option Bool := obind (slices_ContainsFunc_Event lp x0 (fun w => impl_areAll_Event_c1 w.1 x1)) fun (t1 : Bool) => some (!t1)
def impl_WatchOK_c1 (x0 : Event) : Option Bool := some (!x0.2.2.1)
def impl_WatchOK (lp : Nat) (x0 : Watch) : Option Bool := obind (impl_NameOK lp x0.1) fun (t1 : Bool) => cond (!t1) (some false) (obind (impl_within x0.2.1 (0:Int) (1000000:Int)) fun (t2 : Bool) => cond (!t2) (some false) (cond (decide ((x0.2.2.1.length : Int) > (4:Int))) (some false) (obind (impl_EventsOK lp x0.2.2.1) fun (t3 : Bool) => cond (!t3) (some false) (cond ((x0.2.2.1.length : Int) == (0:Int)) (some true) (oget x0.2.2.1 (IntKind.i64.wrap ((x0.2.2.1.length : Int) - (1:Int))) fun (e4 : Event) => cond (e4.1 == x0.2.1) (oif (decide ((0:Int) ≤ (1:Int))) (oif (decide ((1:Int) ≤ (x0.2.2.1.length : Int))) (obind (impl_areAll_Event lp (x0.2.2.1.drop (1:Int).toNat) (fun w => impl_WatchOK_c1 w.1)) fun (t5 : Bool) => some t5))) (some false))))))
def impl_versionOf (lp : Nat) (x0 : List Ref) (x1 : ByteArray) : Option Int := obind (impl_place lp x0 x1) fun (t1 : Int) => cond (decide (t1 ≥ (0:Int))) (oget x0 t1 fun (e2 : Ref) => some e2.2.2.1) (some (0:Int))
def impl_WorldOK_c1 (lp : Nat) (x0 : Watch) (x1 : World) : Option Bool := obind (impl_WatchOK lp x0) fun (t1 : Bool) => cond t1 (obind (impl_versionOf lp x1.1.2.1 x0.1) fun (t2 : Int) => some (x0.2.1 == t2)) (some false)
def impl_WorldOK.b14 {R : Type} (lp : Nat) (N : List Commit → List Ref → List Client → List Watch → List Moment → Int → Int → Option R) (X : ((List Commit) × (List Ref) × (List Client) × (List Watch) × (List Moment) × Int) → Option R) (Q : Bool → Option R) (x1_0 : List Commit) (x1_1 : List Ref) (x1_2 : List Client) (x1_3 : List Watch) (x1_4 : List Moment) (x1_5 : Int) (x6 : Int) : Option R := cond (decide (x6 < (x1_4.length : Int))) (oget x1_4 x6 fun (e6 : Moment) => oget x1_4 (IntKind.i64.wrap (x6 - (1:Int))) fun (e7 : Moment) => cond (decide (e6.2.2.1 ≤ e7.2.2.1)) (Q false) (N x1_0 x1_1 x1_2 x1_3 x1_4 x1_5 (IntKind.i64.wrap (x6 + (1:Int))))) (X (x1_0, x1_1, x1_2, x1_3, x1_4, x1_5))
def impl_WorldOK.l14 (lp : Nat) : Nat → List Commit → List Ref → List Client → List Watch → List Moment → Int → Int → Option (LE Bool ((List Commit) × (List Ref) × (List Client) × (List Watch) × (List Moment) × Int))
  | 0, _, _, _, _, _, _, _ => none
  | k + 1, x1_0, x1_1, x1_2, x1_3, x1_4, x1_5, x6 => impl_WorldOK.b14 lp (impl_WorldOK.l14 lp k) (fun y => some (.brk y)) (fun z => some (.ret z)) x1_0 x1_1 x1_2 x1_3 x1_4 x1_5 x6
def impl_WorldOK.b5 {R : Type} (lp : Nat) (N : List Commit → List Ref → List Client → List Watch → List Moment → Int → Int → List Client → Int → Int → Option R) (X : ((List Commit) × (List Ref) × (List Client) × (List Watch) × (List Moment) × Int × Int) → Option R) (Q : Bool → Option R) (x1_0 : List Commit) (x1_1 : List Ref) (x1_2 : List Client) (x1_3 : List Watch) (x1_4 : List Moment) (x1_5 : Int) (x3 : Int) (x30 : List Client) (x31 : Int) (x32 : Int) : Option R := cond (decide (x32 < x31)) (oget x30 x32 fun (e3 : Client) => obind (impl_Client_isFor lp e3 (x1_0, x1_1, ())) fun (t4 : Bool) => cond (!t4) (Q false) (N x1_0 x1_1 x1_2 x1_3 x1_4 x1_5 (IntKind.i64.wrap (x3 + e3.2.1)) x30 x31 (IntKind.i64.wrap (x32 + (1:Int))))) (X (x1_0, x1_1, x1_2, x1_3, x1_4, x1_5, x3))
def impl_WorldOK.l5 (lp : Nat) : Nat → List Commit → List Ref → List Client → List Watch → List Moment → Int → Int → List Client → Int → Int → Option (LE Bool ((List Commit) × (List Ref) × (List Client) × (List Watch) × (List Moment) × Int × Int))
  | 0, _, _, _, _, _, _, _, _, _, _ => none
  | k + 1, x1_0, x1_1, x1_2, x1_3, x1_4, x1_5, x3, x30, x31, x32 => impl_WorldOK.b5 lp (impl_WorldOK.l5 lp k) (fun y => some (.brk y)) (fun z => some (.ret z)) x1_0 x1_1 x1_2 x1_3 x1_4 x1_5 x3 x30 x31 x32
def impl_WorldOK.a14 (lp : Nat) (y : (List Commit) × (List Ref) × (List Client) × (List Watch) × (List Moment) × Int) : Option Bool := obind (impl_areAll_Watch lp y.2.2.2.1 (fun w => impl_WorldOK_c1 lp w.1 ((y.1, y.2.1, ()), y.2.2.1, y.2.2.2.1, y.2.2.2.2.1, y.2.2.2.2.2, ()))) fun (t8 : Bool) => some t8
def impl_WorldOK.q14 (lp : Nat) (z : Bool) : Option Bool := some z
def impl_WorldOK.a5 (lp : Nat) (L14 : List Commit → List Ref → List Client → List Watch → List Moment → Int → Int → Option Bool) (y : (List Commit) × (List Ref) × (List Client) × (List Watch) × (List Moment) × Int × Int) : Option Bool := cond ((y.2.2.2.2.1.length : Int) != y.2.2.2.2.2.2) (some false) (obind (impl_areAll_Moment lp y.2.2.2.2.1 (fun w => impl_World_isMoment lp ((y.1, y.2.1, ()), y.2.2.1, y.2.2.2.1, y.2.2.2.2.1, y.2.2.2.2.2.1, ()) w.1)) fun (t5 : Bool) => cond (!t5) (some false) (L14 y.1 y.2.1 y.2.2.1 y.2.2.2.1 y.2.2.2.2.1 y.2.2.2.2.2.1 (1:Int)))
def impl_WorldOK.q5 (lp : Nat) (z : Bool) : Option Bool := some z
def impl_WorldOK.e (lp : Nat) (L5 : List Commit → List Ref → List Client → List Watch → List Moment → Int → Int → List Client → Int → Int → Option Bool) (x0 : World) : Option Bool := obind (impl_BaseOK lp x0.1) fun (t1 : Bool) => cond (!t1) (some false) (cond (decide ((x0.2.1.length : Int) > (5:Int))) (some false) (cond (decide ((x0.2.2.1.length : Int) > (3:Int))) (some false) (obind (impl_within x0.2.2.2.2.1 (0:Int) (1000000:Int)) fun (t2 : Bool) => cond (!t2) (some false) (L5 x0.1.1 x0.1.2.1 x0.2.1 x0.2.2.1 x0.2.2.2.1 x0.2.2.2.2.1 (0:Int) x0.2.1 (x0.2.1.length : Int) (0:Int)))))
def impl_WorldOK (lp : Nat) (x0 : World) : Option Bool := impl_WorldOK.e lp (fun x1_0 x1_1 x1_2 x1_3 x1_4 x1_5 x3 x30 x31 x32 => obind (impl_WorldOK.l5 lp lp x1_0 x1_1 x1_2 x1_3 x1_4 x1_5 x3 x30 x31 x32) (leF (fun z => impl_WorldOK.q5 lp z) (fun y => impl_WorldOK.a5 lp (fun x1_0 x1_1 x1_2 x1_3 x1_4 x1_5 x6 => obind (impl_WorldOK.l14 lp lp x1_0 x1_1 x1_2 x1_3 x1_4 x1_5 x6) (leF (fun z => impl_WorldOK.q14 lp z) (fun y => impl_WorldOK.a14 lp y))) y))) x0
def impl_World_whoCode (lp : Nat) (x0 : World) (x1 : Int) : Option Int := obind (impl_WorldOK lp x0) fun (t1 : Bool) => cond (!t1) (some (1:Int)) (obind (impl_within x1 (1:Int) (x0.2.1.length : Int)) fun (t2 : Bool) => cond (!t2) (some (5:Int)) (some (0:Int)))
def impl_Client_next (x0 : Client) : Option ByteArray := obind (impl_Client_isDone x0) fun (t1 : Bool) => cond t1 (some (⟨#[100, 111, 110, 101]⟩ : ByteArray)) (obind (impl_Client_wish x0) fun (t2 : Wish) => cond (x0.2.2.1 == (2:Int)) (some (⟨#[115, 119, 97, 112]⟩ : ByteArray)) (cond (t2.1 == (3:Int)) (some (⟨#[108, 111, 111, 107]⟩ : ByteArray)) (cond (t2.1 == (4:Int)) (cond (x0.2.2.1 == (1:Int)) (some (⟨#[108, 111, 111, 107]⟩ : ByteArray)) (obind (impl_hasSource t2.1) fun (t3 : Bool) => cond t3 (cond (x0.2.2.1 == (0:Int)) (some (⟨#[115, 111, 117, 114, 99, 101]⟩ : ByteArray)) (some (⟨#[97, 99, 116]⟩ : ByteArray))) (some (⟨#[97, 99, 116]⟩ : ByteArray)))) (obind (impl_hasSource t2.1) fun (t4 : Bool) => cond t4 (cond (x0.2.2.1 == (0:Int)) (some (⟨#[115, 111, 117, 114, 99, 101]⟩ : ByteArray)) (some (⟨#[97, 99, 116]⟩ : ByteArray))) (some (⟨#[97, 99, 116]⟩ : ByteArray))))))
def impl_NextOf (lp : Nat) (x0 : World) (x1 : Int) : Option (ByteArray × Int) := obind (impl_World_whoCode lp x0 x1) fun (t1 : Int) => cond (t1 != (0:Int)) (some ((⟨#[]⟩ : ByteArray), t1)) (oget x0.2.1 (IntKind.i64.wrap (x1 - (1:Int))) fun (e2 : Client) => obind (impl_Client_next e2) fun (t3 : ByteArray) => some (t3, (0:Int)))
def laws_FnExactNextOf (lp : Nat) (x0 : World) (x1 : Int) : Option Bool := obind (laws_szWorld lp x0 (1048576:Int)) fun (t1 : Int) => cond (decide (t1 < (0:Int))) (some true) (obind (laws_toWorld lp x0) fun (t2 : World) => obind (spec_NextOf lp t2 x1) fun (t3 : ByteArray × Int) => obind (laws_toWorld lp x0) fun (t4 : World) => obind (impl_NextOf lp t4 x1) fun (t5 : ByteArray × Int) => cond (!(t5.1.toList == t3.1.toList)) (some false) (cond (t5.2 != t3.2) (some false) (obind (laws_toWorld lp x0) fun (t6 : World) => obind (laws_eqWorld lp t4 t6) fun (t7 : Bool) => cond (!t7) (some false) (some true))))
end Go.Vx

end
section
set_option linter.unusedVariables false
set_option linter.unusedSimpArgs false
namespace Go.Vx
open Go Go.Proofs Go.RowKit Go.Lib

theorem lp_ex : ∃ n : Nat, 9223372036854775808 ≤ n := ⟨_, Nat.le_refl _⟩
noncomputable def LP : Nat := Classical.choose lp_ex
theorem LP_ge : 9223372036854775808 ≤ LP := Classical.choose_spec lp_ex

noncomputable def Tr (p : Prop) : Bool := @decide p (Classical.propDecidable p)
theorem Tr_true {p : Prop} (h : p) : Tr p = true := by unfold Tr; exact @decide_eq_true p (Classical.propDecidable p) h
theorem Tr_false {p : Prop} (h : ¬ p) : Tr p = false := by unfold Tr; exact @decide_eq_false p (Classical.propDecidable p) h
@[simp] theorem Tr_iff {p : Prop} : Tr p = true ↔ p := by
  constructor
  · intro h; unfold Tr at h; exact @of_decide_eq_true p (Classical.propDecidable p) h
  · exact Tr_true
@[simp] theorem Tr_iff' {p : Prop} : Tr p = false ↔ ¬ p := by
  constructor
  · intro h hp; rw [Tr_true hp] at h; cases h
  · exact Tr_false
theorem Tr_congr {p q : Prop} (h : p ↔ q) : Tr p = Tr q := by
  by_cases hp : p
  · rw [Tr_true hp, Tr_true (h.1 hp)]
  · rw [Tr_false hp, Tr_false (fun hq => hp (h.2 hq))]
theorem Tr_eq {p : Prop} {b : Bool} (h : b = true ↔ p) : b = Tr p := by
  cases hb : b with
  | true => rw [Tr_true (h.1 hb)]
  | false => rw [Tr_false (fun hp => by rw [h.2 hp] at hb; cases hb)]
theorem Tr_dec {p : Prop} [Decidable p] : decide p = Tr p := Tr_eq (by simp)
theorem Tr_not {p : Prop} : (!Tr p) = Tr (¬ p) := Tr_eq (by simp)
theorem Tr_and {p q : Prop} : (Tr p && Tr q) = Tr (p ∧ q) := Tr_eq (by simp)
theorem Tr_or {p q : Prop} : (Tr p || Tr q) = Tr (p ∨ q) := Tr_eq (by simp)
theorem Tr_T : Tr True = true := Tr_true trivial
theorem Tr_F : Tr False = false := Tr_false id
section
variable {R α : Type}
@[simp] theorem oif_true (k : Option R) : oif true k = k := rfl
@[simp] theorem oif_false (k : Option R) : oif false k = none := rfl
@[simp] theorem obind_some' (x : α) (k : α → Option R) : obind (some x) k = k x := rfl
theorem oget_lt {xs : List α} {i : Nat} (h : i < xs.length) (K : α → Option R) : oget xs (i : Int) K = K xs[i] := by
  unfold oget
  simp [h]
theorem oget_at {xs : List α} {i : Int} (h0 : 0 ≤ i) (h : i.toNat < xs.length) (K : α → Option R) : oget xs i K = K xs[i.toNat] := by
  unfold oget
  simp [h, h0]
theorem wrap_id {x : Int} (h1 : -9223372036854775808 ≤ x) (h2 : x ≤ 9223372036854775807) : IntKind.i64.wrap x = x := by
  rw [IntKind.wrap_i64]; omega
end
@[simp] theorem neq_int (a b : Int) : (a != b) = !(a == b) := rfl
theorem ba_ext {a b : ByteArray} (h : a.data.toList = b.data.toList) : a = b := by
  cases a with
  | mk x => cases b with
    | mk y =>
      have : x = y := Array.toList_inj.1 h
      rw [this]

theorem loop_ind {σ ρ β : Type} (l : Nat → Int → σ → Option (LE ρ β)) (n : Nat) (I : Nat → σ → Prop) (res : Nat → σ → LE ρ β)
    (h0 : ∀ k s, I n s → l (k + 1) (n : Int) s = some (res n s))
    (h1 : ∀ (k i : Nat) s, i < n → I i s → (∀ s', I (i + 1) s' → l k ((i + 1 : Nat) : Int) s' = some (res (i + 1) s')) → l (k + 1) (i : Int) s = some (res i s)) :
    ∀ (k i : Nat) (s : σ), i ≤ n → n < k + i → I i s → l k (i : Int) s = some (res i s) := by
  intro k
  induction k with
  | zero => intro i s hi hk; omega
  | succ k ih =>
    intro i s hi hk hI
    by_cases h : i = n
    · subst h; exact h0 k s hI
    · exact h1 k i s (by omega) hI (fun s' hs' => ih (i + 1) s' (by omega) (by omega) hs')
theorem loop_all {ρ β : Type} (l : Nat → Int → Option (LE ρ β)) (n : Nat) (P : Nat → Prop) (r0 : ρ) (y0 : β)
    (h0 : ∀ k, l (k + 1) (n : Int) = some (.brk y0))
    (h1 : ∀ (k i : Nat), i < n → l (k + 1) (i : Int) = cond (Tr (P i)) (l k ((i + 1 : Nat) : Int)) (some (.ret r0))) :
    ∀ (k i : Nat), i ≤ n → n < k + i → l k (i : Int) = some (cond (Tr (∀ j, i ≤ j → j < n → P j)) (.brk y0) (.ret r0)) := by
  intro k
  induction k with
  | zero => intro i hi hk; omega
  | succ k ih =>
    intro i hi hk
    by_cases h : i = n
    · subst h
      rw [h0, Tr_true (fun j h1 h2 => by omega)]
      rfl
    · rw [h1 k i (by omega)]
      by_cases hp : P i
      · rw [Tr_true hp]
        simp only [cond_true]
        rw [ih (i + 1) (by omega) (by omega)]
        rw [Tr_congr (q := ∀ j, i ≤ j → j < n → P j) ⟨fun ha j h1 h2 => by
          by_cases e : j = i
          · subst e; exact hp
          · exact ha j (by omega) h2, fun ha j h1 h2 => ha j (by omega) h2⟩]
      · rw [Tr_false hp, Tr_false (fun ha => hp (ha i (Nat.le_refl _) (by omega)))]
        rfl
theorem loop_find {ρ β : Type} (l : Nat → Int → Option (LE ρ β)) (n : Nat) (P : Nat → Prop) (r0 : Nat → ρ) (y0 : β)
    (h0 : ∀ k, l (k + 1) (n : Int) = some (.brk y0))
    (h1 : ∀ (k i : Nat), i < n → l (k + 1) (i : Int) = cond (Tr (P i)) (some (.ret (r0 i))) (l k ((i + 1 : Nat) : Int))) :
    ∀ (k i : Nat), i ≤ n → n < k + i → (∃ j, i ≤ j ∧ j < n ∧ P j ∧ (∀ q, i ≤ q → q < j → ¬ P q) ∧ l k (i : Int) = some (.ret (r0 j))) ∨ ((∀ j, i ≤ j → j < n → ¬ P j) ∧ l k (i : Int) = some (.brk y0)) := by
  intro k
  induction k with
  | zero => intro i hi hk; omega
  | succ k ih =>
    intro i hi hk
    by_cases h : i = n
    · subst h
      exact .inr ⟨fun j h1 h2 => by omega, h0 k⟩
    · rw [h1 k i (by omega)]
      by_cases hp : P i
      · rw [Tr_true hp]
        exact .inl ⟨i, Nat.le_refl _, by omega, hp, fun q h1 h2 => by omega, rfl⟩
      · rw [Tr_false hp]
        rcases ih (i + 1) (by omega) (by omega) with ⟨j, q1, q2, q3, q4, q5⟩ | ⟨q1, q2⟩
        · refine .inl ⟨j, by omega, q2, q3, fun q w1 w2 => ?_, q5⟩
          by_cases e : q = i
          · subst e; exact hp
          · exact q4 q (by omega) w2
        · refine .inr ⟨fun j w1 w2 => ?_, q2⟩
          by_cases e : j = i
          · subst e; exact hp
          · exact q1 j (by omega) w2
theorem drop_cons {α : Type} {xs : List α} {i : Nat} (h : i < xs.length) : xs.drop i = xs[i] :: xs.drop (i + 1) := List.drop_eq_getElem_cons h

def tot : (t : Ty) → Den t → Nat
  | .int _, _ => 0
  | .bool, _ => 0
  | .str, s => (s : ByteArray).size
  | .unit, _ => 0
  | .pair a b, x => tot a x.1 + tot b x.2
  | .sl t, xs => xs.length + (xs.map (tot t)).sum
def Sm : (t : Ty) → Den t → Prop
  | .int _, _ => True
  | .bool, _ => True
  | .str, s => (s : ByteArray).size ≤ 1048576
  | .unit, _ => True
  | .pair a b, x => Sm a x.1 ∧ Sm b x.2
  | .sl t, xs => xs.length ≤ 1048576 ∧ ∀ x ∈ xs, Sm t x
theorem le_sum {xs : List Nat} {x : Nat} (h : x ∈ xs) : x ≤ xs.sum := by
  induction xs with
  | nil => cases h
  | cons y ys ih =>
    rw [List.sum_cons]
    cases h with
    | head => omega
    | tail _ h => have := ih h; omega
theorem sm_of_tot : ∀ {t : Ty} {x : Den t}, tot t x ≤ 1048576 → Sm t x
  | .int _, _, _ => trivial
  | .bool, _, _ => trivial
  | .str, s, h => h
  | .unit, _, _ => trivial
  | .pair a b, x, h => by
    have h : tot a x.1 + tot b x.2 ≤ 1048576 := h
    exact ⟨sm_of_tot (by omega), sm_of_tot (by omega)⟩
  | .sl t, xs, h => by
    have h : xs.length + (xs.map (tot t)).sum ≤ 1048576 := h
    refine ⟨by omega, fun x hx => sm_of_tot ?_⟩
    have := le_sum (List.mem_map_of_mem (f := tot t) hx)
    omega
def dec (left : Int) (n : Nat) : Int := if (n : Int) ≤ left then left - n else -1
theorem dec_zero {left : Int} (h : 0 ≤ left) : dec left 0 = left := by unfold dec; rw [if_pos (by omega)]; omega
theorem dec_le {left : Int} {n : Nat} (h : (n : Int) ≤ left) : dec left n = left - n := if_pos h
theorem dec_gt {left : Int} {n : Nat} (h : left < (n : Int)) : dec left n = -1 := if_neg (by omega)
theorem dec_dec {left : Int} {n m : Nat} (h : (n : Int) ≤ left) : dec (left - n) m = dec left (n + m) := by
  unfold dec
  by_cases h2 : (m : Int) ≤ left - n
  · rw [if_pos h2, if_pos (by omega)]; omega
  · rw [if_neg h2, if_neg (by omega)]
def In20 (left : Int) : Prop := 0 ≤ left ∧ left ≤ 1048576
theorem In20.sub {left : Int} {n : Nat} (h : In20 left) (hn : (n : Int) ≤ left) : In20 (left - n) := ⟨by omega, by have := h.2; omega⟩
theorem sz_prim {left : Int} {n m : Nat} (hl : In20 left) (hn : n ≤ maxLen) {K : Int → Option Int} (hK : (n : Int) ≤ left → K (left - n) = some (dec (left - n) m)) :
    (cond (decide (IntKind.i64.wrap (left - n) < (0:Int))) (some (-1:Int)) (K (IntKind.i64.wrap (left - n)))) = some (dec left (n + m)) := by
  obtain ⟨h0, h1⟩ := hl
  have hm : n ≤ 9223372036854775807 := by simpa [maxLen] using hn
  rw [wrap_id (by omega) (by omega)]
  by_cases h : (n : Int) ≤ left
  · rw [decide_eq_false (by omega), ← dec_dec h]
    exact hK h
  · rw [decide_eq_true (by omega), dec_gt (by omega)]
    rfl
theorem sz_done {left : Int} (hl : In20 left) : some left = some (dec left 0) := by rw [dec_zero hl.1]
theorem sz_list {t : Ty} {xs : List (Den t)} {l : Nat → Int → Int → Option (LE Int Int)} (hx : xs.length ≤ maxLen)
    (h0 : ∀ k s, In20 s → l (k + 1) (xs.length : Int) s = some (.brk s))
    (h1 : ∀ (k i : Nat) (s : Int) (hi : i < xs.length), In20 s → l (k + 1) (i : Int) s = cond (decide (dec s (tot t xs[i]) < (0:Int))) (some (.ret (-1))) (l k ((i + 1 : Nat) : Int) (dec s (tot t xs[i])))) :
    ∀ (k : Nat) (s : Int), xs.length < k → In20 s → l k 0 s = some (if (((xs.map (tot t)).sum : Nat) : Int) ≤ s then .brk (s - ((xs.map (tot t)).sum : Nat)) else .ret (-1)) := by
  intro k s hk hs
  have := loop_ind l xs.length (fun _ s => In20 s) (fun i s => if ((((xs.drop i).map (tot t)).sum : Nat) : Int) ≤ s then .brk (s - (((xs.drop i).map (tot t)).sum : Nat)) else .ret (-1))
    (fun k s hs => by
      rw [h0 k s hs, List.drop_length]
      have := hs.1
      simp [this]) (fun k i s hi hs ih => by
      rw [h1 k i s hi hs, drop_cons hi, List.map_cons, List.sum_cons]
      by_cases h : ((tot t xs[i] : Nat) : Int) ≤ s
      · rw [dec_le h, decide_eq_false (by omega)]
        simp only [cond_false]
        rw [ih _ (hs.sub h)]
        congr 1
        by_cases h2 : ((((xs.drop (i + 1)).map (tot t)).sum : Nat) : Int) ≤ s - (tot t xs[i] : Nat)
        · rw [if_pos h2, if_pos (by omega)]
          congr 1
          omega
        · rw [if_neg h2, if_neg (by omega)]
      · rw [dec_gt (by omega)]
        rw [if_neg (by omega)]
        rfl) k 0 s (Nat.zero_le _) (by omega) hs
  simpa using this
end Go.Vx

end
section
set_option linter.unusedVariables false
set_option linter.unusedSimpArgs false
namespace Go.Vx
open Go Go.Proofs Go.RowKit Go.Lib
theorem sum_zero {α : Type} {f : α → Nat} (h : ∀ x, f x = 0) : ∀ xs : List α, (xs.map f).sum = 0
  | [] => rfl
  | x :: xs => by rw [List.map_cons, List.sum_cons, h, sum_zero h xs]
theorem max_i64 : (maxLen : Nat) = 9223372036854775807 := by simp [maxLen]
theorem str_ne (a b : ByteArray) : (!(a.toList == b.toList)) = !(Tr (a = b)) := by
  congr 1
  refine Tr_eq ?_
  rw [beq_iff_eq, Go.ByteArray.toList_eq, Go.ByteArray.toList_eq]
  exact ⟨fun h => ba_ext h, fun h => by rw [h]⟩
theorem int_ne (a b : Int) : (a != b) = !(Tr (a = b)) := by
  rw [neq_int]
  congr 1
  exact Tr_eq (by simp)
theorem bool_ne (a b : Bool) : (a != b) = !(Tr (a = b)) := by
  cases a <;> cases b <;> simp [Tr_T, Tr_F]
theorem eq_step {p q : Prop} {K : Option Bool} (hK : p → K = some (Tr q)) : cond (!(Tr p)) (some false) K = some (Tr (p ∧ q)) := by
  by_cases h : p
  · rw [Tr_true h, hK h]
    simp only [Bool.not_true, cond_false]
    rw [Tr_congr (q := p ∧ q) ⟨fun hq => ⟨h, hq⟩, fun hq => hq.2⟩]
  · rw [Tr_false h, Tr_false (fun hq => h hq.1)]
    rfl
theorem to_list {α : Type} {xs : List α} (l : Nat → Int → List α → Option (LE Empty (List α))) (h0 : ∀ k (s : List α), s.length = xs.length → l (k + 1) (xs.length : Int) s = some (.brk s))
    (h1 : ∀ (k i : Nat) (s : List α) (hi : i < xs.length), s.length = xs.length → l (k + 1) (i : Int) s = l k ((i + 1 : Nat) : Int) (s.set i xs[i])) : ∀ (k : Nat) (s : List α), xs.length < k → s.length = xs.length → l k 0 s = some (.brk xs) := by
  intro k s hk hs
  have := loop_ind l xs.length (fun _ s => s.length = xs.length) (fun i s => .brk (s.take i ++ xs.drop i))
    (fun k s hs => by
      rw [h0 k s hs, List.drop_length, List.append_nil, ← hs, List.take_length]) (fun k i s hi hs ih => by
      rw [h1 k i s hi hs, ih _ (by rw [List.length_set]; exact hs)]
      congr 2
      have hi' : i < s.length := by omega
      rw [drop_cons hi, List.take_set, List.take_add_one, List.set_append]
      simp [hi', List.length_take, Nat.min_eq_left (Nat.le_of_lt hi')]) k 0 s (Nat.zero_le _) (by omega) hs
  simpa using this
theorem eq_list {α : Type} {xs ys : List α} (hlen : xs.length = ys.length) (l : Nat → Int → Option (LE Bool Unit)) (h0 : ∀ k, l (k + 1) (xs.length : Int) = some (.brk ()))
    (h1 : ∀ (k i : Nat) (hi : i < xs.length) (hj : i < ys.length), l (k + 1) (i : Int) = cond (Tr (xs[i] = ys[i])) (l k ((i + 1 : Nat) : Int)) (some (.ret false))) : ∀ (k : Nat), xs.length < k → obind (l k 0) (leF (fun z => some z) (fun _ => some true)) = some (Tr (xs = ys)) := by
  intro k hk
  have := loop_all l xs.length (fun i => xs[i]? = ys[i]?) false () h0 (fun k i hi => by
    rw [h1 k i hi (by omega)]
    rw [Tr_congr (q := xs[i]? = ys[i]?)]
    rw [List.getElem?_eq_getElem hi, List.getElem?_eq_getElem (show i < ys.length by omega)]
    simp) k 0 (Nat.zero_le _) (by omega)
  have hc : (∀ j, 0 ≤ j → j < xs.length → xs[j]? = ys[j]?) ↔ xs = ys := by
    constructor
    · intro h
      apply List.ext_getElem?
      intro j
      by_cases hj : j < xs.length
      · exact h j (Nat.zero_le _) hj
      · rw [List.getElem?_eq_none (by omega), List.getElem?_eq_none (by omega)]
    · rintro rfl j _ _; rfl
  rw [Tr_congr hc] at this
  rw [show (0 : Int) = ((0 : Nat) : Int) from rfl, this]
  by_cases h : xs = ys
  · rw [Tr_true h]; rfl
  · rw [Tr_false h]; rfl
theorem laws_szEntry_eq (x : Entry) (left : Int) (hw : Wf TEntry x) (hl : In20 left) : laws_szEntry x left = some (dec left (tot TEntry x)) := by
  have e : tot TEntry x = x.1.size + 0 := by
    show x.1.size + (0 + (0)) = _
    omega
  rw [e]
  unfold laws_szEntry
  by_cases h0 : (x.1.size : Int) ≤ left
  rotate_left
  · have hm := max_i64
    have hs : x.1.size ≤ maxLen := hw.1
    have q0 := hl.1
    have q1 := hl.2
    rw [wrap_id (x := left - (x.1.size : Int)) (by omega) (by omega), decide_eq_true (by omega), dec_gt (by omega)]
    rfl
  have hl0 := In20.sub (n := x.1.size) hl h0
  rw [wrap_id (x := left - (x.1.size : Int)) (by have := hl0.1; omega) (by have := hl0.2; omega), decide_eq_false (by have := hl0.1; omega), cond_false, ← dec_dec h0]
  exact sz_done hl0
theorem laws_szEntryS_eq (x : List Entry) (left : Int) (hw : Wf (.sl TEntry) x) (hl : In20 left) : laws_szEntryS LP x left = some (dec left (tot (.sl TEntry) x)) := by
  have hm := hw.1
  have hmx := max_i64
  have hLP := LP_ge
  have hloop := sz_list (t := TEntry) (xs := x) (l := fun k i s => laws_szEntryS.l5 LP k x s i) hm
    (fun k s hs => by
      simp only [laws_szEntryS.l5, laws_szEntryS.b5]
      rw [decide_eq_false (by omega)]
      rfl)
    (fun k i s hi hs => by
      simp only [laws_szEntryS.l5, laws_szEntryS.b5]
      rw [decide_eq_true (by omega), cond_true, oget_lt hi, laws_szEntry_eq _ _ (hw.2 _ (List.getElem_mem hi)) hs, obind_some', wrap_id (by omega) (by omega)]
      rfl)
  refine sz_prim hl hm (K := fun t => obind (laws_szEntryS.l5 LP LP x t 0) (leF (fun z => some z) (fun y => some y))) (fun h => ?_)
  have h2 := hloop LP (left - x.length) (by omega) (hl.sub h)
  show obind (laws_szEntryS.l5 LP LP x (left - x.length) 0) _ = _
  rw [show laws_szEntryS.l5 LP LP x (left - x.length) 0 = _ from h2]
  unfold dec
  split <;> rfl
theorem laws_szIntS_eq (x : List Int) (left : Int) (hw : Wf (.sl (.int .i64)) x) (hl : In20 left) : laws_szIntS x left = some (dec left (tot (.sl (.int .i64)) x)) := by
  have e : tot (.sl (.int .i64)) x = x.length + 0 := by
    show x.length + (x.map (tot (.int .i64))).sum = _
    rw [sum_zero (f := tot (.int .i64)) (fun _ => rfl)]
  rw [e]
  exact sz_prim hl hw.1 (K := fun t => some t) (fun h => sz_done (hl.sub h))
theorem laws_szCommit_eq (x : Commit) (left : Int) (hw : Wf TCommit x) (hl : In20 left) : laws_szCommit LP x left = some (dec left (tot TCommit x)) := by
  have e : tot TCommit x = tot (.sl (.int .i64)) x.1 + (tot (.sl TEntry) x.2.1 + 0) := by
    show tot (.sl (.int .i64)) x.1 + (tot (.sl TEntry) x.2.1 + (0)) = _
    omega
  rw [e]
  unfold laws_szCommit
  rw [laws_szIntS_eq _ _ hw.1 hl, obind_some']
  by_cases h0 : ((tot (.sl (.int .i64)) x.1 : Nat) : Int) ≤ left
  rotate_left
  · rw [dec_gt (by omega), dec_gt (by omega)]
    rfl
  have hl0 := In20.sub hl h0
  rw [dec_le h0, decide_eq_false (by have := hl0.1; omega), cond_false, ← dec_dec h0]
  rw [laws_szEntryS_eq _ _ hw.2.1 hl0, obind_some']
  by_cases h1 : ((tot (.sl TEntry) x.2.1 : Nat) : Int) ≤ (left - (tot (.sl (.int .i64)) x.1 : Nat))
  rotate_left
  · rw [dec_gt (by omega), dec_gt (by omega)]
    rfl
  have hl1 := In20.sub hl0 h1
  rw [dec_le h1, decide_eq_false (by have := hl1.1; omega), cond_false, ← dec_dec h1]
  exact sz_done hl1
theorem laws_szCommitS_eq (x : List Commit) (left : Int) (hw : Wf (.sl TCommit) x) (hl : In20 left) : laws_szCommitS LP x left = some (dec left (tot (.sl TCommit) x)) := by
  have hm := hw.1
  have hmx := max_i64
  have hLP := LP_ge
  have hloop := sz_list (t := TCommit) (xs := x) (l := fun k i s => laws_szCommitS.l5 LP k x s i) hm
    (fun k s hs => by
      simp only [laws_szCommitS.l5, laws_szCommitS.b5]
      rw [decide_eq_false (by omega)]
      rfl)
    (fun k i s hi hs => by
      simp only [laws_szCommitS.l5, laws_szCommitS.b5]
      rw [decide_eq_true (by omega), cond_true, oget_lt hi, laws_szCommit_eq _ _ (hw.2 _ (List.getElem_mem hi)) hs, obind_some', wrap_id (by omega) (by omega)]
      rfl)
  refine sz_prim hl hm (K := fun t => obind (laws_szCommitS.l5 LP LP x t 0) (leF (fun z => some z) (fun y => some y))) (fun h => ?_)
  have h2 := hloop LP (left - x.length) (by omega) (hl.sub h)
  show obind (laws_szCommitS.l5 LP LP x (left - x.length) 0) _ = _
  rw [show laws_szCommitS.l5 LP LP x (left - x.length) 0 = _ from h2]
  unfold dec
  split <;> rfl
theorem laws_szRef_eq (x : Ref) (left : Int) (hw : Wf TRef x) (hl : In20 left) : laws_szRef x left = some (dec left (tot TRef x)) := by
  have e : tot TRef x = x.1.size + 0 := by
    show x.1.size + (0 + (0 + (0 + (0)))) = _
    omega
  rw [e]
  unfold laws_szRef
  by_cases h0 : (x.1.size : Int) ≤ left
  rotate_left
  · have hm := max_i64
    have hs : x.1.size ≤ maxLen := hw.1
    have q0 := hl.1
    have q1 := hl.2
    rw [wrap_id (x := left - (x.1.size : Int)) (by omega) (by omega), decide_eq_true (by omega), dec_gt (by omega)]
    rfl
  have hl0 := In20.sub (n := x.1.size) hl h0
  rw [wrap_id (x := left - (x.1.size : Int)) (by have := hl0.1; omega) (by have := hl0.2; omega), decide_eq_false (by have := hl0.1; omega), cond_false, ← dec_dec h0]
  exact sz_done hl0
theorem laws_szRefS_eq (x : List Ref) (left : Int) (hw : Wf (.sl TRef) x) (hl : In20 left) : laws_szRefS LP x left = some (dec left (tot (.sl TRef) x)) := by
  have hm := hw.1
  have hmx := max_i64
  have hLP := LP_ge
  have hloop := sz_list (t := TRef) (xs := x) (l := fun k i s => laws_szRefS.l5 LP k x s i) hm
    (fun k s hs => by
      simp only [laws_szRefS.l5, laws_szRefS.b5]
      rw [decide_eq_false (by omega)]
      rfl)
    (fun k i s hi hs => by
      simp only [laws_szRefS.l5, laws_szRefS.b5]
      rw [decide_eq_true (by omega), cond_true, oget_lt hi, laws_szRef_eq _ _ (hw.2 _ (List.getElem_mem hi)) hs, obind_some', wrap_id (by omega) (by omega)]
      rfl)
  refine sz_prim hl hm (K := fun t => obind (laws_szRefS.l5 LP LP x t 0) (leF (fun z => some z) (fun y => some y))) (fun h => ?_)
  have h2 := hloop LP (left - x.length) (by omega) (hl.sub h)
  show obind (laws_szRefS.l5 LP LP x (left - x.length) 0) _ = _
  rw [show laws_szRefS.l5 LP LP x (left - x.length) 0 = _ from h2]
  unfold dec
  split <;> rfl
theorem laws_szBase_eq (x : Base) (left : Int) (hw : Wf TBase x) (hl : In20 left) : laws_szBase LP x left = some (dec left (tot TBase x)) := by
  have e : tot TBase x = tot (.sl TCommit) x.1 + (tot (.sl TRef) x.2.1 + 0) := by
    show tot (.sl TCommit) x.1 + (tot (.sl TRef) x.2.1 + (0)) = _
    omega
  rw [e]
  unfold laws_szBase
  rw [laws_szCommitS_eq _ _ hw.1 hl, obind_some']
  by_cases h0 : ((tot (.sl TCommit) x.1 : Nat) : Int) ≤ left
  rotate_left
  · rw [dec_gt (by omega), dec_gt (by omega)]
    rfl
  have hl0 := In20.sub hl h0
  rw [dec_le h0, decide_eq_false (by have := hl0.1; omega), cond_false, ← dec_dec h0]
  rw [laws_szRefS_eq _ _ hw.2.1 hl0, obind_some']
  by_cases h1 : ((tot (.sl TRef) x.2.1 : Nat) : Int) ≤ (left - (tot (.sl TCommit) x.1 : Nat))
  rotate_left
  · rw [dec_gt (by omega), dec_gt (by omega)]
    rfl
  have hl1 := In20.sub hl0 h1
  rw [dec_le h1, decide_eq_false (by have := hl1.1; omega), cond_false, ← dec_dec h1]
  exact sz_done hl1
theorem laws_szEdit_eq (x : Edit) (left : Int) (hw : Wf TEdit x) (hl : In20 left) : laws_szEdit x left = some (dec left (tot TEdit x)) := by
  have e : tot TEdit x = x.1.size + 0 := by
    show x.1.size + (0 + (0 + (0))) = _
    omega
  rw [e]
  unfold laws_szEdit
  by_cases h0 : (x.1.size : Int) ≤ left
  rotate_left
  · have hm := max_i64
    have hs : x.1.size ≤ maxLen := hw.1
    have q0 := hl.1
    have q1 := hl.2
    rw [wrap_id (x := left - (x.1.size : Int)) (by omega) (by omega), decide_eq_true (by omega), dec_gt (by omega)]
    rfl
  have hl0 := In20.sub (n := x.1.size) hl h0
  rw [wrap_id (x := left - (x.1.size : Int)) (by have := hl0.1; omega) (by have := hl0.2; omega), decide_eq_false (by have := hl0.1; omega), cond_false, ← dec_dec h0]
  exact sz_done hl0
theorem laws_szEditS_eq (x : List Edit) (left : Int) (hw : Wf (.sl TEdit) x) (hl : In20 left) : laws_szEditS LP x left = some (dec left (tot (.sl TEdit) x)) := by
  have hm := hw.1
  have hmx := max_i64
  have hLP := LP_ge
  have hloop := sz_list (t := TEdit) (xs := x) (l := fun k i s => laws_szEditS.l5 LP k x s i) hm
    (fun k s hs => by
      simp only [laws_szEditS.l5, laws_szEditS.b5]
      rw [decide_eq_false (by omega)]
      rfl)
    (fun k i s hi hs => by
      simp only [laws_szEditS.l5, laws_szEditS.b5]
      rw [decide_eq_true (by omega), cond_true, oget_lt hi, laws_szEdit_eq _ _ (hw.2 _ (List.getElem_mem hi)) hs, obind_some', wrap_id (by omega) (by omega)]
      rfl)
  refine sz_prim hl hm (K := fun t => obind (laws_szEditS.l5 LP LP x t 0) (leF (fun z => some z) (fun y => some y))) (fun h => ?_)
  have h2 := hloop LP (left - x.length) (by omega) (hl.sub h)
  show obind (laws_szEditS.l5 LP LP x (left - x.length) 0) _ = _
  rw [show laws_szEditS.l5 LP LP x (left - x.length) 0 = _ from h2]
  unfold dec
  split <;> rfl
theorem laws_szWish_eq (x : Wish) (left : Int) (hw : Wf TWish x) (hl : In20 left) : laws_szWish LP x left = some (dec left (tot TWish x)) := by
  have e : tot TWish x = x.2.1.size + (x.2.2.1.size + (x.2.2.2.1.size + (tot (.sl TEdit) x.2.2.2.2.1 + 0))) := by
    show 0 + (x.2.1.size + (x.2.2.1.size + (x.2.2.2.1.size + (tot (.sl TEdit) x.2.2.2.2.1 + (0))))) = _
    omega
  rw [e]
  unfold laws_szWish
  by_cases h0 : (x.2.1.size : Int) ≤ left
  rotate_left
  · have hm := max_i64
    have hs : x.2.1.size ≤ maxLen := hw.2.1
    have q0 := hl.1
    have q1 := hl.2
    rw [wrap_id (x := left - (x.2.1.size : Int)) (by omega) (by omega), decide_eq_true (by omega), dec_gt (by omega)]
    rfl
  have hl0 := In20.sub (n := x.2.1.size) hl h0
  rw [wrap_id (x := left - (x.2.1.size : Int)) (by have := hl0.1; omega) (by have := hl0.2; omega), decide_eq_false (by have := hl0.1; omega), cond_false, ← dec_dec h0]
  by_cases h1 : (x.2.2.1.size : Int) ≤ (left - (x.2.1.size : Int))
  rotate_left
  · have hm := max_i64
    have hs : x.2.2.1.size ≤ maxLen := hw.2.2.1
    have q0 := hl0.1
    have q1 := hl0.2
    rw [wrap_id (x := (left - (x.2.1.size : Int)) - (x.2.2.1.size : Int)) (by omega) (by omega), decide_eq_true (by omega), dec_gt (by omega)]
    rfl
  have hl1 := In20.sub (n := x.2.2.1.size) hl0 h1
  rw [wrap_id (x := (left - (x.2.1.size : Int)) - (x.2.2.1.size : Int)) (by have := hl1.1; omega) (by have := hl1.2; omega), decide_eq_false (by have := hl1.1; omega), cond_false, ← dec_dec h1]
  by_cases h2 : (x.2.2.2.1.size : Int) ≤ ((left - (x.2.1.size : Int)) - (x.2.2.1.size : Int))
  rotate_left
  · have hm := max_i64
    have hs : x.2.2.2.1.size ≤ maxLen := hw.2.2.2.1
    have q0 := hl1.1
    have q1 := hl1.2
    rw [wrap_id (x := ((left - (x.2.1.size : Int)) - (x.2.2.1.size : Int)) - (x.2.2.2.1.size : Int)) (by omega) (by omega), decide_eq_true (by omega), dec_gt (by omega)]
    rfl
  have hl2 := In20.sub (n := x.2.2.2.1.size) hl1 h2
  rw [wrap_id (x := ((left - (x.2.1.size : Int)) - (x.2.2.1.size : Int)) - (x.2.2.2.1.size : Int)) (by have := hl2.1; omega) (by have := hl2.2; omega), decide_eq_false (by have := hl2.1; omega), cond_false, ← dec_dec h2]
  rw [laws_szEditS_eq _ _ hw.2.2.2.2.1 hl2, obind_some']
  by_cases h3 : ((tot (.sl TEdit) x.2.2.2.2.1 : Nat) : Int) ≤ (((left - (x.2.1.size : Int)) - (x.2.2.1.size : Int)) - (x.2.2.2.1.size : Int))
  rotate_left
  · rw [dec_gt (by omega), dec_gt (by omega)]
    rfl
  have hl3 := In20.sub hl2 h3
  rw [dec_le h3, decide_eq_false (by have := hl3.1; omega), cond_false, ← dec_dec h3]
  exact sz_done hl3
theorem laws_szWishS_eq (x : List Wish) (left : Int) (hw : Wf (.sl TWish) x) (hl : In20 left) : laws_szWishS LP x left = some (dec left (tot (.sl TWish) x)) := by
  have hm := hw.1
  have hmx := max_i64
  have hLP := LP_ge
  have hloop := sz_list (t := TWish) (xs := x) (l := fun k i s => laws_szWishS.l5 LP k x s i) hm
    (fun k s hs => by
      simp only [laws_szWishS.l5, laws_szWishS.b5]
      rw [decide_eq_false (by omega)]
      rfl)
    (fun k i s hi hs => by
      simp only [laws_szWishS.l5, laws_szWishS.b5]
      rw [decide_eq_true (by omega), cond_true, oget_lt hi, laws_szWish_eq _ _ (hw.2 _ (List.getElem_mem hi)) hs, obind_some', wrap_id (by omega) (by omega)]
      rfl)
  refine sz_prim hl hm (K := fun t => obind (laws_szWishS.l5 LP LP x t 0) (leF (fun z => some z) (fun y => some y))) (fun h => ?_)
  have h2 := hloop LP (left - x.length) (by omega) (hl.sub h)
  show obind (laws_szWishS.l5 LP LP x (left - x.length) 0) _ = _
  rw [show laws_szWishS.l5 LP LP x (left - x.length) 0 = _ from h2]
  unfold dec
  split <;> rfl
theorem laws_szClient_eq (x : Client) (left : Int) (hw : Wf TClient x) (hl : In20 left) : laws_szClient LP x left = some (dec left (tot TClient x)) := by
  have e : tot TClient x = tot (.sl TWish) x.1 + (tot (.sl TEntry) x.2.2.2.2.2.2.2.2.1 + 0) := by
    show tot (.sl TWish) x.1 + (0 + (0 + (0 + (0 + (0 + (0 + (0 + (tot (.sl TEntry) x.2.2.2.2.2.2.2.2.1 + (0))))))))) = _
    omega
  rw [e]
  unfold laws_szClient
  rw [laws_szWishS_eq _ _ hw.1 hl, obind_some']
  by_cases h0 : ((tot (.sl TWish) x.1 : Nat) : Int) ≤ left
  rotate_left
  · rw [dec_gt (by omega), dec_gt (by omega)]
    rfl
  have hl0 := In20.sub hl h0
  rw [dec_le h0, decide_eq_false (by have := hl0.1; omega), cond_false, ← dec_dec h0]
  rw [laws_szEntryS_eq _ _ hw.2.2.2.2.2.2.2.2.1 hl0, obind_some']
  by_cases h1 : ((tot (.sl TEntry) x.2.2.2.2.2.2.2.2.1 : Nat) : Int) ≤ (left - (tot (.sl TWish) x.1 : Nat))
  rotate_left
  · rw [dec_gt (by omega), dec_gt (by omega)]
    rfl
  have hl1 := In20.sub hl0 h1
  rw [dec_le h1, decide_eq_false (by have := hl1.1; omega), cond_false, ← dec_dec h1]
  exact sz_done hl1
theorem laws_szClientS_eq (x : List Client) (left : Int) (hw : Wf (.sl TClient) x) (hl : In20 left) : laws_szClientS LP x left = some (dec left (tot (.sl TClient) x)) := by
  have hm := hw.1
  have hmx := max_i64
  have hLP := LP_ge
  have hloop := sz_list (t := TClient) (xs := x) (l := fun k i s => laws_szClientS.l5 LP k x s i) hm
    (fun k s hs => by
      simp only [laws_szClientS.l5, laws_szClientS.b5]
      rw [decide_eq_false (by omega)]
      rfl)
    (fun k i s hi hs => by
      simp only [laws_szClientS.l5, laws_szClientS.b5]
      rw [decide_eq_true (by omega), cond_true, oget_lt hi, laws_szClient_eq _ _ (hw.2 _ (List.getElem_mem hi)) hs, obind_some', wrap_id (by omega) (by omega)]
      rfl)
  refine sz_prim hl hm (K := fun t => obind (laws_szClientS.l5 LP LP x t 0) (leF (fun z => some z) (fun y => some y))) (fun h => ?_)
  have h2 := hloop LP (left - x.length) (by omega) (hl.sub h)
  show obind (laws_szClientS.l5 LP LP x (left - x.length) 0) _ = _
  rw [show laws_szClientS.l5 LP LP x (left - x.length) 0 = _ from h2]
  unfold dec
  split <;> rfl
theorem laws_szEventS_eq (x : List Event) (left : Int) (hw : Wf (.sl TEvent) x) (hl : In20 left) : laws_szEventS x left = some (dec left (tot (.sl TEvent) x)) := by
  have e : tot (.sl TEvent) x = x.length + 0 := by
    show x.length + (x.map (tot TEvent)).sum = _
    rw [sum_zero (f := tot TEvent) (fun _ => rfl)]
  rw [e]
  exact sz_prim hl hw.1 (K := fun t => some t) (fun h => sz_done (hl.sub h))
theorem laws_szWatch_eq (x : Watch) (left : Int) (hw : Wf TWatch x) (hl : In20 left) : laws_szWatch x left = some (dec left (tot TWatch x)) := by
  have e : tot TWatch x = x.1.size + (tot (.sl TEvent) x.2.2.1 + 0) := by
    show x.1.size + (0 + (tot (.sl TEvent) x.2.2.1 + (0))) = _
    omega
  rw [e]
  unfold laws_szWatch
  by_cases h0 : (x.1.size : Int) ≤ left
  rotate_left
  · have hm := max_i64
    have hs : x.1.size ≤ maxLen := hw.1
    have q0 := hl.1
    have q1 := hl.2
    rw [wrap_id (x := left - (x.1.size : Int)) (by omega) (by omega), decide_eq_true (by omega), dec_gt (by omega)]
    rfl
  have hl0 := In20.sub (n := x.1.size) hl h0
  rw [wrap_id (x := left - (x.1.size : Int)) (by have := hl0.1; omega) (by have := hl0.2; omega), decide_eq_false (by have := hl0.1; omega), cond_false, ← dec_dec h0]
  rw [laws_szEventS_eq _ _ hw.2.2.1 hl0, obind_some']
  by_cases h1 : ((tot (.sl TEvent) x.2.2.1 : Nat) : Int) ≤ (left - (x.1.size : Int))
  rotate_left
  · rw [dec_gt (by omega), dec_gt (by omega)]
    rfl
  have hl1 := In20.sub hl0 h1
  rw [dec_le h1, decide_eq_false (by have := hl1.1; omega), cond_false, ← dec_dec h1]
  exact sz_done hl1
theorem laws_szWatchS_eq (x : List Watch) (left : Int) (hw : Wf (.sl TWatch) x) (hl : In20 left) : laws_szWatchS LP x left = some (dec left (tot (.sl TWatch) x)) := by
  have hm := hw.1
  have hmx := max_i64
  have hLP := LP_ge
  have hloop := sz_list (t := TWatch) (xs := x) (l := fun k i s => laws_szWatchS.l5 LP k x s i) hm
    (fun k s hs => by
      simp only [laws_szWatchS.l5, laws_szWatchS.b5]
      rw [decide_eq_false (by omega)]
      rfl)
    (fun k i s hi hs => by
      simp only [laws_szWatchS.l5, laws_szWatchS.b5]
      rw [decide_eq_true (by omega), cond_true, oget_lt hi, laws_szWatch_eq _ _ (hw.2 _ (List.getElem_mem hi)) hs, obind_some', wrap_id (by omega) (by omega)]
      rfl)
  refine sz_prim hl hm (K := fun t => obind (laws_szWatchS.l5 LP LP x t 0) (leF (fun z => some z) (fun y => some y))) (fun h => ?_)
  have h2 := hloop LP (left - x.length) (by omega) (hl.sub h)
  show obind (laws_szWatchS.l5 LP LP x (left - x.length) 0) _ = _
  rw [show laws_szWatchS.l5 LP LP x (left - x.length) 0 = _ from h2]
  unfold dec
  split <;> rfl
theorem laws_szOp_eq (x : Op) (left : Int) (hw : Wf TOp x) (hl : In20 left) : laws_szOp LP x left = some (dec left (tot TOp x)) := by
  have e : tot TOp x = x.2.2.1.size + (x.2.2.2.1.size + (tot (.sl TEdit) x.2.2.2.2.1 + 0)) := by
    show 0 + (0 + (x.2.2.1.size + (x.2.2.2.1.size + (tot (.sl TEdit) x.2.2.2.2.1 + (0))))) = _
    omega
  rw [e]
  unfold laws_szOp
  by_cases h0 : (x.2.2.1.size : Int) ≤ left
  rotate_left
  · have hm := max_i64
    have hs : x.2.2.1.size ≤ maxLen := hw.2.2.1
    have q0 := hl.1
    have q1 := hl.2
    rw [wrap_id (x := left - (x.2.2.1.size : Int)) (by omega) (by omega), decide_eq_true (by omega), dec_gt (by omega)]
    rfl
  have hl0 := In20.sub (n := x.2.2.1.size) hl h0
  rw [wrap_id (x := left - (x.2.2.1.size : Int)) (by have := hl0.1; omega) (by have := hl0.2; omega), decide_eq_false (by have := hl0.1; omega), cond_false, ← dec_dec h0]
  by_cases h1 : (x.2.2.2.1.size : Int) ≤ (left - (x.2.2.1.size : Int))
  rotate_left
  · have hm := max_i64
    have hs : x.2.2.2.1.size ≤ maxLen := hw.2.2.2.1
    have q0 := hl0.1
    have q1 := hl0.2
    rw [wrap_id (x := (left - (x.2.2.1.size : Int)) - (x.2.2.2.1.size : Int)) (by omega) (by omega), decide_eq_true (by omega), dec_gt (by omega)]
    rfl
  have hl1 := In20.sub (n := x.2.2.2.1.size) hl0 h1
  rw [wrap_id (x := (left - (x.2.2.1.size : Int)) - (x.2.2.2.1.size : Int)) (by have := hl1.1; omega) (by have := hl1.2; omega), decide_eq_false (by have := hl1.1; omega), cond_false, ← dec_dec h1]
  rw [laws_szEditS_eq _ _ hw.2.2.2.2.1 hl1, obind_some']
  by_cases h2 : ((tot (.sl TEdit) x.2.2.2.2.1 : Nat) : Int) ≤ ((left - (x.2.2.1.size : Int)) - (x.2.2.2.1.size : Int))
  rotate_left
  · rw [dec_gt (by omega), dec_gt (by omega)]
    rfl
  have hl2 := In20.sub hl1 h2
  rw [dec_le h2, decide_eq_false (by have := hl2.1; omega), cond_false, ← dec_dec h2]
  exact sz_done hl2
theorem laws_szStringS_eq (x : List ByteArray) (left : Int) (hw : Wf (.sl .str) x) (hl : In20 left) : laws_szStringS LP x left = some (dec left (tot (.sl .str) x)) := by
  have hm := hw.1
  have hmx := max_i64
  have hLP := LP_ge
  have hloop := sz_list (t := .str) (xs := x) (l := fun k i s => laws_szStringS.l5 LP k x s i) hm
    (fun k s hs => by
      simp only [laws_szStringS.l5, laws_szStringS.b5]
      rw [decide_eq_false (by omega)]
      rfl)
    (fun k i s hi hs => by
      have hwi := hw.2 x[i] (List.getElem_mem hi)
      have hwi : x[i].size ≤ maxLen := hwi
      have h0 := hs.1
      have h1 := hs.2
      simp only [laws_szStringS.l5, laws_szStringS.b5]
      rw [decide_eq_true (by omega), cond_true, oget_lt hi, wrap_id (x := s - (x[i].size : Int)) (by omega) (by omega), wrap_id (x := (i : Int) + 1) (by omega) (by omega)]
      show _ = cond (decide (dec s x[i].size < (0:Int))) _ (laws_szStringS.l5 LP k x (dec s x[i].size) _)
      by_cases h : (x[i].size : Int) ≤ s
      · rw [dec_le h]; rfl
      · rw [dec_gt (by omega), decide_eq_true (by omega)]; rfl)
  refine sz_prim hl hm (K := fun t => obind (laws_szStringS.l5 LP LP x t 0) (leF (fun z => some z) (fun y => some y))) (fun h => ?_)
  have h2 := hloop LP (left - x.length) (by omega) (hl.sub h)
  show obind (laws_szStringS.l5 LP LP x (left - x.length) 0) _ = _
  rw [show laws_szStringS.l5 LP LP x (left - x.length) 0 = _ from h2]
  unfold dec
  split <;> rfl
theorem laws_szResult_eq (x : Result) (left : Int) (hw : Wf TResult x) (hl : In20 left) : laws_szResult LP x left = some (dec left (tot TResult x)) := by
  have e : tot TResult x = tot (.sl .str) x.2.2.2.1 + (tot (.sl TEntry) x.2.2.2.2.1 + 0) := by
    show 0 + (0 + (0 + (tot (.sl .str) x.2.2.2.1 + (tot (.sl TEntry) x.2.2.2.2.1 + (0))))) = _
    omega
  rw [e]
  unfold laws_szResult
  rw [laws_szStringS_eq _ _ hw.2.2.2.1 hl, obind_some']
  by_cases h0 : ((tot (.sl .str) x.2.2.2.1 : Nat) : Int) ≤ left
  rotate_left
  · rw [dec_gt (by omega), dec_gt (by omega)]
    rfl
  have hl0 := In20.sub hl h0
  rw [dec_le h0, decide_eq_false (by have := hl0.1; omega), cond_false, ← dec_dec h0]
  rw [laws_szEntryS_eq _ _ hw.2.2.2.2.1 hl0, obind_some']
  by_cases h1 : ((tot (.sl TEntry) x.2.2.2.2.1 : Nat) : Int) ≤ (left - (tot (.sl .str) x.2.2.2.1 : Nat))
  rotate_left
  · rw [dec_gt (by omega), dec_gt (by omega)]
    rfl
  have hl1 := In20.sub hl0 h1
  rw [dec_le h1, decide_eq_false (by have := hl1.1; omega), cond_false, ← dec_dec h1]
  exact sz_done hl1
theorem laws_szMoment_eq (x : Moment) (left : Int) (hw : Wf TMoment x) (hl : In20 left) : laws_szMoment LP x left = some (dec left (tot TMoment x)) := by
  have e : tot TMoment x = tot TOp x.2.2.2.1 + (tot TResult x.2.2.2.2.1 + 0) := by
    show 0 + (0 + (0 + (tot TOp x.2.2.2.1 + (tot TResult x.2.2.2.2.1 + (0))))) = _
    omega
  rw [e]
  unfold laws_szMoment
  rw [laws_szOp_eq _ _ hw.2.2.2.1 hl, obind_some']
  by_cases h0 : ((tot TOp x.2.2.2.1 : Nat) : Int) ≤ left
  rotate_left
  · rw [dec_gt (by omega), dec_gt (by omega)]
    rfl
  have hl0 := In20.sub hl h0
  rw [dec_le h0, decide_eq_false (by have := hl0.1; omega), cond_false, ← dec_dec h0]
  rw [laws_szResult_eq _ _ hw.2.2.2.2.1 hl0, obind_some']
  by_cases h1 : ((tot TResult x.2.2.2.2.1 : Nat) : Int) ≤ (left - (tot TOp x.2.2.2.1 : Nat))
  rotate_left
  · rw [dec_gt (by omega), dec_gt (by omega)]
    rfl
  have hl1 := In20.sub hl0 h1
  rw [dec_le h1, decide_eq_false (by have := hl1.1; omega), cond_false, ← dec_dec h1]
  exact sz_done hl1
theorem laws_szMomentS_eq (x : List Moment) (left : Int) (hw : Wf (.sl TMoment) x) (hl : In20 left) : laws_szMomentS LP x left = some (dec left (tot (.sl TMoment) x)) := by
  have hm := hw.1
  have hmx := max_i64
  have hLP := LP_ge
  have hloop := sz_list (t := TMoment) (xs := x) (l := fun k i s => laws_szMomentS.l5 LP k x s i) hm
    (fun k s hs => by
      simp only [laws_szMomentS.l5, laws_szMomentS.b5]
      rw [decide_eq_false (by omega)]
      rfl)
    (fun k i s hi hs => by
      simp only [laws_szMomentS.l5, laws_szMomentS.b5]
      rw [decide_eq_true (by omega), cond_true, oget_lt hi, laws_szMoment_eq _ _ (hw.2 _ (List.getElem_mem hi)) hs, obind_some', wrap_id (by omega) (by omega)]
      rfl)
  refine sz_prim hl hm (K := fun t => obind (laws_szMomentS.l5 LP LP x t 0) (leF (fun z => some z) (fun y => some y))) (fun h => ?_)
  have h2 := hloop LP (left - x.length) (by omega) (hl.sub h)
  show obind (laws_szMomentS.l5 LP LP x (left - x.length) 0) _ = _
  rw [show laws_szMomentS.l5 LP LP x (left - x.length) 0 = _ from h2]
  unfold dec
  split <;> rfl
theorem laws_szWorld_eq (x : World) (left : Int) (hw : Wf TWorld x) (hl : In20 left) : laws_szWorld LP x left = some (dec left (tot TWorld x)) := by
  have e : tot TWorld x = tot TBase x.1 + (tot (.sl TClient) x.2.1 + (tot (.sl TWatch) x.2.2.1 + (tot (.sl TMoment) x.2.2.2.1 + 0))) := by
    show tot TBase x.1 + (tot (.sl TClient) x.2.1 + (tot (.sl TWatch) x.2.2.1 + (tot (.sl TMoment) x.2.2.2.1 + (0 + (0))))) = _
    omega
  rw [e]
  unfold laws_szWorld
  rw [laws_szBase_eq _ _ hw.1 hl, obind_some']
  by_cases h0 : ((tot TBase x.1 : Nat) : Int) ≤ left
  rotate_left
  · rw [dec_gt (by omega), dec_gt (by omega)]
    rfl
  have hl0 := In20.sub hl h0
  rw [dec_le h0, decide_eq_false (by have := hl0.1; omega), cond_false, ← dec_dec h0]
  rw [laws_szClientS_eq _ _ hw.2.1 hl0, obind_some']
  by_cases h1 : ((tot (.sl TClient) x.2.1 : Nat) : Int) ≤ (left - (tot TBase x.1 : Nat))
  rotate_left
  · rw [dec_gt (by omega), dec_gt (by omega)]
    rfl
  have hl1 := In20.sub hl0 h1
  rw [dec_le h1, decide_eq_false (by have := hl1.1; omega), cond_false, ← dec_dec h1]
  rw [laws_szWatchS_eq _ _ hw.2.2.1 hl1, obind_some']
  by_cases h2 : ((tot (.sl TWatch) x.2.2.1 : Nat) : Int) ≤ ((left - (tot TBase x.1 : Nat)) - (tot (.sl TClient) x.2.1 : Nat))
  rotate_left
  · rw [dec_gt (by omega), dec_gt (by omega)]
    rfl
  have hl2 := In20.sub hl1 h2
  rw [dec_le h2, decide_eq_false (by have := hl2.1; omega), cond_false, ← dec_dec h2]
  rw [laws_szMomentS_eq _ _ hw.2.2.2.1 hl2, obind_some']
  by_cases h3 : ((tot (.sl TMoment) x.2.2.2.1 : Nat) : Int) ≤ (((left - (tot TBase x.1 : Nat)) - (tot (.sl TClient) x.2.1 : Nat)) - (tot (.sl TWatch) x.2.2.1 : Nat))
  rotate_left
  · rw [dec_gt (by omega), dec_gt (by omega)]
    rfl
  have hl3 := In20.sub hl2 h3
  rw [dec_le h3, decide_eq_false (by have := hl3.1; omega), cond_false, ← dec_dec h3]
  exact sz_done hl3
theorem laws_toEntry_eq (x : Entry) (hs : Sm TEntry x) : laws_toEntry x = some x := by
  unfold laws_toEntry
  rfl
theorem laws_toEntryS_eq (x : List Entry) (hs : Sm (.sl TEntry) x) : laws_toEntryS LP x = some x := by
  have hm := hs.1
  have hLP := LP_ge
  have hloop := to_list (xs := x) (fun k i s => laws_toEntryS.l3 LP k x i s)
    (fun k s h => by
      simp only [laws_toEntryS.l3, laws_toEntryS.b3]
      rw [decide_eq_false (by omega)]
      rfl)
    (fun k i s hi h => by
      simp only [laws_toEntryS.l3, laws_toEntryS.b3]
      rw [decide_eq_true (by omega), cond_true, oget_lt hi, laws_toEntry_eq _ (hs.2 _ (List.getElem_mem hi)), obind_some', decide_eq_true (by omega), oif_true, decide_eq_true (by omega), oif_true, oget_at (by omega) (by omega), wrap_id (by omega) (by omega)]
      rfl)
  unfold laws_toEntryS laws_toEntryS.e
  rw [decide_eq_true (by omega), oif_true, decide_eq_true (by omega), oif_true]
  show obind (laws_toEntryS.l3 LP LP x 0 _) _ = _
  rw [show laws_toEntryS.l3 LP LP x 0 _ = _ from hloop LP _ (by omega) (by simp)]
  rfl
theorem laws_toIntS_eq (x : List Int) (hs : Sm (.sl (.int .i64)) x) : laws_toIntS LP x = some x := by
  have hm := hs.1
  have hLP := LP_ge
  have hloop := to_list (xs := x) (fun k i s => laws_toIntS.l3 LP k x i s)
    (fun k s h => by
      simp only [laws_toIntS.l3, laws_toIntS.b3]
      rw [decide_eq_false (by omega)]
      rfl)
    (fun k i s hi h => by
      simp only [laws_toIntS.l3, laws_toIntS.b3]
      rw [decide_eq_true (by omega), cond_true, oget_lt hi, decide_eq_true (by omega), oif_true, decide_eq_true (by omega), oif_true, oget_at (by omega) (by omega), wrap_id (by omega) (by omega)]
      rfl)
  unfold laws_toIntS laws_toIntS.e
  rw [decide_eq_true (by omega), oif_true, decide_eq_true (by omega), oif_true]
  show obind (laws_toIntS.l3 LP LP x 0 _) _ = _
  rw [show laws_toIntS.l3 LP LP x 0 _ = _ from hloop LP _ (by omega) (by simp)]
  rfl
theorem laws_toCommit_eq (x : Commit) (hs : Sm TCommit x) : laws_toCommit LP x = some x := by
  unfold laws_toCommit
  rw [laws_toIntS_eq _ hs.1, obind_some']
  rw [laws_toEntryS_eq _ hs.2.1, obind_some']
theorem laws_toCommitS_eq (x : List Commit) (hs : Sm (.sl TCommit) x) : laws_toCommitS LP x = some x := by
  have hm := hs.1
  have hLP := LP_ge
  have hloop := to_list (xs := x) (fun k i s => laws_toCommitS.l3 LP k x i s)
    (fun k s h => by
      simp only [laws_toCommitS.l3, laws_toCommitS.b3]
      rw [decide_eq_false (by omega)]
      rfl)
    (fun k i s hi h => by
      simp only [laws_toCommitS.l3, laws_toCommitS.b3]
      rw [decide_eq_true (by omega), cond_true, oget_lt hi, laws_toCommit_eq _ (hs.2 _ (List.getElem_mem hi)), obind_some', decide_eq_true (by omega), oif_true, decide_eq_true (by omega), oif_true, oget_at (by omega) (by omega), wrap_id (by omega) (by omega)]
      rfl)
  unfold laws_toCommitS laws_toCommitS.e
  rw [decide_eq_true (by omega), oif_true, decide_eq_true (by omega), oif_true]
  show obind (laws_toCommitS.l3 LP LP x 0 _) _ = _
  rw [show laws_toCommitS.l3 LP LP x 0 _ = _ from hloop LP _ (by omega) (by simp)]
  rfl
theorem laws_toRef_eq (x : Ref) (hs : Sm TRef x) : laws_toRef x = some x := by
  unfold laws_toRef
  rfl
theorem laws_toRefS_eq (x : List Ref) (hs : Sm (.sl TRef) x) : laws_toRefS LP x = some x := by
  have hm := hs.1
  have hLP := LP_ge
  have hloop := to_list (xs := x) (fun k i s => laws_toRefS.l3 LP k x i s)
    (fun k s h => by
      simp only [laws_toRefS.l3, laws_toRefS.b3]
      rw [decide_eq_false (by omega)]
      rfl)
    (fun k i s hi h => by
      simp only [laws_toRefS.l3, laws_toRefS.b3]
      rw [decide_eq_true (by omega), cond_true, oget_lt hi, laws_toRef_eq _ (hs.2 _ (List.getElem_mem hi)), obind_some', decide_eq_true (by omega), oif_true, decide_eq_true (by omega), oif_true, oget_at (by omega) (by omega), wrap_id (by omega) (by omega)]
      rfl)
  unfold laws_toRefS laws_toRefS.e
  rw [decide_eq_true (by omega), oif_true, decide_eq_true (by omega), oif_true]
  show obind (laws_toRefS.l3 LP LP x 0 _) _ = _
  rw [show laws_toRefS.l3 LP LP x 0 _ = _ from hloop LP _ (by omega) (by simp)]
  rfl
theorem laws_toBase_eq (x : Base) (hs : Sm TBase x) : laws_toBase LP x = some x := by
  unfold laws_toBase
  rw [laws_toCommitS_eq _ hs.1, obind_some']
  rw [laws_toRefS_eq _ hs.2.1, obind_some']
theorem laws_toEdit_eq (x : Edit) (hs : Sm TEdit x) : laws_toEdit x = some x := by
  unfold laws_toEdit
  rfl
theorem laws_toEditS_eq (x : List Edit) (hs : Sm (.sl TEdit) x) : laws_toEditS LP x = some x := by
  have hm := hs.1
  have hLP := LP_ge
  have hloop := to_list (xs := x) (fun k i s => laws_toEditS.l3 LP k x i s)
    (fun k s h => by
      simp only [laws_toEditS.l3, laws_toEditS.b3]
      rw [decide_eq_false (by omega)]
      rfl)
    (fun k i s hi h => by
      simp only [laws_toEditS.l3, laws_toEditS.b3]
      rw [decide_eq_true (by omega), cond_true, oget_lt hi, laws_toEdit_eq _ (hs.2 _ (List.getElem_mem hi)), obind_some', decide_eq_true (by omega), oif_true, decide_eq_true (by omega), oif_true, oget_at (by omega) (by omega), wrap_id (by omega) (by omega)]
      rfl)
  unfold laws_toEditS laws_toEditS.e
  rw [decide_eq_true (by omega), oif_true, decide_eq_true (by omega), oif_true]
  show obind (laws_toEditS.l3 LP LP x 0 _) _ = _
  rw [show laws_toEditS.l3 LP LP x 0 _ = _ from hloop LP _ (by omega) (by simp)]
  rfl
theorem laws_toWish_eq (x : Wish) (hs : Sm TWish x) : laws_toWish LP x = some x := by
  unfold laws_toWish
  rw [laws_toEditS_eq _ hs.2.2.2.2.1, obind_some']
theorem laws_toWishS_eq (x : List Wish) (hs : Sm (.sl TWish) x) : laws_toWishS LP x = some x := by
  have hm := hs.1
  have hLP := LP_ge
  have hloop := to_list (xs := x) (fun k i s => laws_toWishS.l3 LP k x i s)
    (fun k s h => by
      simp only [laws_toWishS.l3, laws_toWishS.b3]
      rw [decide_eq_false (by omega)]
      rfl)
    (fun k i s hi h => by
      simp only [laws_toWishS.l3, laws_toWishS.b3]
      rw [decide_eq_true (by omega), cond_true, oget_lt hi, laws_toWish_eq _ (hs.2 _ (List.getElem_mem hi)), obind_some', decide_eq_true (by omega), oif_true, decide_eq_true (by omega), oif_true, oget_at (by omega) (by omega), wrap_id (by omega) (by omega)]
      rfl)
  unfold laws_toWishS laws_toWishS.e
  rw [decide_eq_true (by omega), oif_true, decide_eq_true (by omega), oif_true]
  show obind (laws_toWishS.l3 LP LP x 0 _) _ = _
  rw [show laws_toWishS.l3 LP LP x 0 _ = _ from hloop LP _ (by omega) (by simp)]
  rfl
theorem laws_toClient_eq (x : Client) (hs : Sm TClient x) : laws_toClient LP x = some x := by
  unfold laws_toClient
  rw [laws_toWishS_eq _ hs.1, obind_some']
  rw [laws_toEntryS_eq _ hs.2.2.2.2.2.2.2.2.1, obind_some']
theorem laws_toClientS_eq (x : List Client) (hs : Sm (.sl TClient) x) : laws_toClientS LP x = some x := by
  have hm := hs.1
  have hLP := LP_ge
  have hloop := to_list (xs := x) (fun k i s => laws_toClientS.l3 LP k x i s)
    (fun k s h => by
      simp only [laws_toClientS.l3, laws_toClientS.b3]
      rw [decide_eq_false (by omega)]
      rfl)
    (fun k i s hi h => by
      simp only [laws_toClientS.l3, laws_toClientS.b3]
      rw [decide_eq_true (by omega), cond_true, oget_lt hi, laws_toClient_eq _ (hs.2 _ (List.getElem_mem hi)), obind_some', decide_eq_true (by omega), oif_true, decide_eq_true (by omega), oif_true, oget_at (by omega) (by omega), wrap_id (by omega) (by omega)]
      rfl)
  unfold laws_toClientS laws_toClientS.e
  rw [decide_eq_true (by omega), oif_true, decide_eq_true (by omega), oif_true]
  show obind (laws_toClientS.l3 LP LP x 0 _) _ = _
  rw [show laws_toClientS.l3 LP LP x 0 _ = _ from hloop LP _ (by omega) (by simp)]
  rfl
theorem laws_toEvent_eq (x : Event) (hs : Sm TEvent x) : laws_toEvent x = some x := by
  unfold laws_toEvent
  rfl
theorem laws_toEventS_eq (x : List Event) (hs : Sm (.sl TEvent) x) : laws_toEventS LP x = some x := by
  have hm := hs.1
  have hLP := LP_ge
  have hloop := to_list (xs := x) (fun k i s => laws_toEventS.l3 LP k x i s)
    (fun k s h => by
      simp only [laws_toEventS.l3, laws_toEventS.b3]
      rw [decide_eq_false (by omega)]
      rfl)
    (fun k i s hi h => by
      simp only [laws_toEventS.l3, laws_toEventS.b3]
      rw [decide_eq_true (by omega), cond_true, oget_lt hi, laws_toEvent_eq _ (hs.2 _ (List.getElem_mem hi)), obind_some', decide_eq_true (by omega), oif_true, decide_eq_true (by omega), oif_true, oget_at (by omega) (by omega), wrap_id (by omega) (by omega)]
      rfl)
  unfold laws_toEventS laws_toEventS.e
  rw [decide_eq_true (by omega), oif_true, decide_eq_true (by omega), oif_true]
  show obind (laws_toEventS.l3 LP LP x 0 _) _ = _
  rw [show laws_toEventS.l3 LP LP x 0 _ = _ from hloop LP _ (by omega) (by simp)]
  rfl
theorem laws_toWatch_eq (x : Watch) (hs : Sm TWatch x) : laws_toWatch LP x = some x := by
  unfold laws_toWatch
  rw [laws_toEventS_eq _ hs.2.2.1, obind_some']
theorem laws_toWatchS_eq (x : List Watch) (hs : Sm (.sl TWatch) x) : laws_toWatchS LP x = some x := by
  have hm := hs.1
  have hLP := LP_ge
  have hloop := to_list (xs := x) (fun k i s => laws_toWatchS.l3 LP k x i s)
    (fun k s h => by
      simp only [laws_toWatchS.l3, laws_toWatchS.b3]
      rw [decide_eq_false (by omega)]
      rfl)
    (fun k i s hi h => by
      simp only [laws_toWatchS.l3, laws_toWatchS.b3]
      rw [decide_eq_true (by omega), cond_true, oget_lt hi, laws_toWatch_eq _ (hs.2 _ (List.getElem_mem hi)), obind_some', decide_eq_true (by omega), oif_true, decide_eq_true (by omega), oif_true, oget_at (by omega) (by omega), wrap_id (by omega) (by omega)]
      rfl)
  unfold laws_toWatchS laws_toWatchS.e
  rw [decide_eq_true (by omega), oif_true, decide_eq_true (by omega), oif_true]
  show obind (laws_toWatchS.l3 LP LP x 0 _) _ = _
  rw [show laws_toWatchS.l3 LP LP x 0 _ = _ from hloop LP _ (by omega) (by simp)]
  rfl
theorem laws_toOp_eq (x : Op) (hs : Sm TOp x) : laws_toOp LP x = some x := by
  unfold laws_toOp
  rw [laws_toEditS_eq _ hs.2.2.2.2.1, obind_some']
theorem laws_toStringS_eq (x : List ByteArray) (hs : Sm (.sl .str) x) : laws_toStringS LP x = some x := by
  have hm := hs.1
  have hLP := LP_ge
  have hloop := to_list (xs := x) (fun k i s => laws_toStringS.l3 LP k x i s)
    (fun k s h => by
      simp only [laws_toStringS.l3, laws_toStringS.b3]
      rw [decide_eq_false (by omega)]
      rfl)
    (fun k i s hi h => by
      simp only [laws_toStringS.l3, laws_toStringS.b3]
      rw [decide_eq_true (by omega), cond_true, oget_lt hi, decide_eq_true (by omega), oif_true, decide_eq_true (by omega), oif_true, oget_at (by omega) (by omega), wrap_id (by omega) (by omega)]
      rfl)
  unfold laws_toStringS laws_toStringS.e
  rw [decide_eq_true (by omega), oif_true, decide_eq_true (by omega), oif_true]
  show obind (laws_toStringS.l3 LP LP x 0 _) _ = _
  rw [show laws_toStringS.l3 LP LP x 0 _ = _ from hloop LP _ (by omega) (by simp)]
  rfl
theorem laws_toResult_eq (x : Result) (hs : Sm TResult x) : laws_toResult LP x = some x := by
  unfold laws_toResult
  rw [laws_toStringS_eq _ hs.2.2.2.1, obind_some']
  rw [laws_toEntryS_eq _ hs.2.2.2.2.1, obind_some']
theorem laws_toMoment_eq (x : Moment) (hs : Sm TMoment x) : laws_toMoment LP x = some x := by
  unfold laws_toMoment
  rw [laws_toOp_eq _ hs.2.2.2.1, obind_some']
  rw [laws_toResult_eq _ hs.2.2.2.2.1, obind_some']
theorem laws_toMomentS_eq (x : List Moment) (hs : Sm (.sl TMoment) x) : laws_toMomentS LP x = some x := by
  have hm := hs.1
  have hLP := LP_ge
  have hloop := to_list (xs := x) (fun k i s => laws_toMomentS.l3 LP k x i s)
    (fun k s h => by
      simp only [laws_toMomentS.l3, laws_toMomentS.b3]
      rw [decide_eq_false (by omega)]
      rfl)
    (fun k i s hi h => by
      simp only [laws_toMomentS.l3, laws_toMomentS.b3]
      rw [decide_eq_true (by omega), cond_true, oget_lt hi, laws_toMoment_eq _ (hs.2 _ (List.getElem_mem hi)), obind_some', decide_eq_true (by omega), oif_true, decide_eq_true (by omega), oif_true, oget_at (by omega) (by omega), wrap_id (by omega) (by omega)]
      rfl)
  unfold laws_toMomentS laws_toMomentS.e
  rw [decide_eq_true (by omega), oif_true, decide_eq_true (by omega), oif_true]
  show obind (laws_toMomentS.l3 LP LP x 0 _) _ = _
  rw [show laws_toMomentS.l3 LP LP x 0 _ = _ from hloop LP _ (by omega) (by simp)]
  rfl
theorem laws_toWorld_eq (x : World) (hs : Sm TWorld x) : laws_toWorld LP x = some x := by
  unfold laws_toWorld
  rw [laws_toBase_eq _ hs.1, obind_some']
  rw [laws_toClientS_eq _ hs.2.1, obind_some']
  rw [laws_toWatchS_eq _ hs.2.2.1, obind_some']
  rw [laws_toMomentS_eq _ hs.2.2.2.1, obind_some']
theorem laws_eqEntry_eq (a b : Entry) (ha : Sm TEntry a) : laws_eqEntry a b = some (Tr (a = b)) := by
  have e : (a = b) ↔ (a.1 = b.1 ∧ a.2.1 = b.2.1 ∧ True) := by
    constructor
    · rintro rfl; simp
    · intro h
      simp only [Prod.ext_iff]
      simp [h]
  rw [Tr_congr e]
  unfold laws_eqEntry
  rw [str_ne]
  refine eq_step fun _ => ?_
  rw [int_ne]
  refine eq_step fun _ => ?_
  rw [Tr_T]
theorem laws_eqEntryS_eq (a b : List Entry) (ha : Sm (.sl TEntry) a) : laws_eqEntryS LP a b = some (Tr (a = b)) := by
  have hm := ha.1
  have hLP := LP_ge
  unfold laws_eqEntryS laws_eqEntryS.e
  rw [int_ne]
  by_cases hlen : a.length = b.length
  rotate_left
  · rw [Tr_false (fun h => hlen (by omega)), Tr_false (fun h => hlen (by rw [h]))]
    rfl
  rw [Tr_true (by omega)]
  refine eq_list hlen (fun k i => laws_eqEntryS.l4 LP k a b i) (fun k => by
      simp only [laws_eqEntryS.l4, laws_eqEntryS.b4]
      rw [decide_eq_false (by omega)]
      rfl) (fun k i hi hj => by
      simp only [laws_eqEntryS.l4, laws_eqEntryS.b4]
      rw [decide_eq_true (by omega), cond_true, oget_lt hi, oget_lt hj, laws_eqEntry_eq _ _ (ha.2 _ (List.getElem_mem hi)), obind_some', wrap_id (by omega) (by omega)]
      cases Tr (a[i] = b[i]) <;> rfl) LP (by omega)
theorem laws_eqIntS_eq (a b : List Int) (ha : Sm (.sl (.int .i64)) a) : laws_eqIntS LP a b = some (Tr (a = b)) := by
  have hm := ha.1
  have hLP := LP_ge
  unfold laws_eqIntS laws_eqIntS.e
  rw [int_ne]
  by_cases hlen : a.length = b.length
  rotate_left
  · rw [Tr_false (fun h => hlen (by omega)), Tr_false (fun h => hlen (by rw [h]))]
    rfl
  rw [Tr_true (by omega)]
  refine eq_list hlen (fun k i => laws_eqIntS.l4 LP k a b i) (fun k => by
      simp only [laws_eqIntS.l4, laws_eqIntS.b4]
      rw [decide_eq_false (by omega)]
      rfl) (fun k i hi hj => by
      simp only [laws_eqIntS.l4, laws_eqIntS.b4]
      rw [decide_eq_true (by omega), cond_true, oget_lt hi, oget_lt hj, int_ne, wrap_id (by omega) (by omega)]
      cases Tr (a[i] = b[i]) <;> rfl) LP (by omega)
theorem laws_eqCommit_eq (a b : Commit) (ha : Sm TCommit a) : laws_eqCommit LP a b = some (Tr (a = b)) := by
  have e : (a = b) ↔ (a.1 = b.1 ∧ a.2.1 = b.2.1 ∧ True) := by
    constructor
    · rintro rfl; simp
    · intro h
      simp only [Prod.ext_iff]
      simp [h]
  rw [Tr_congr e]
  unfold laws_eqCommit
  rw [laws_eqIntS_eq _ _ ha.1, obind_some']
  refine eq_step fun _ => ?_
  rw [laws_eqEntryS_eq _ _ ha.2.1, obind_some']
  refine eq_step fun _ => ?_
  rw [Tr_T]
theorem laws_eqCommitS_eq (a b : List Commit) (ha : Sm (.sl TCommit) a) : laws_eqCommitS LP a b = some (Tr (a = b)) := by
  have hm := ha.1
  have hLP := LP_ge
  unfold laws_eqCommitS laws_eqCommitS.e
  rw [int_ne]
  by_cases hlen : a.length = b.length
  rotate_left
  · rw [Tr_false (fun h => hlen (by omega)), Tr_false (fun h => hlen (by rw [h]))]
    rfl
  rw [Tr_true (by omega)]
  refine eq_list hlen (fun k i => laws_eqCommitS.l4 LP k a b i) (fun k => by
      simp only [laws_eqCommitS.l4, laws_eqCommitS.b4]
      rw [decide_eq_false (by omega)]
      rfl) (fun k i hi hj => by
      simp only [laws_eqCommitS.l4, laws_eqCommitS.b4]
      rw [decide_eq_true (by omega), cond_true, oget_lt hi, oget_lt hj, laws_eqCommit_eq _ _ (ha.2 _ (List.getElem_mem hi)), obind_some', wrap_id (by omega) (by omega)]
      cases Tr (a[i] = b[i]) <;> rfl) LP (by omega)
theorem laws_eqRef_eq (a b : Ref) (ha : Sm TRef a) : laws_eqRef a b = some (Tr (a = b)) := by
  have e : (a = b) ↔ (a.1 = b.1 ∧ a.2.1 = b.2.1 ∧ a.2.2.1 = b.2.2.1 ∧ a.2.2.2.1 = b.2.2.2.1 ∧ True) := by
    constructor
    · rintro rfl; simp
    · intro h
      simp only [Prod.ext_iff]
      simp [h]
  rw [Tr_congr e]
  unfold laws_eqRef
  rw [str_ne]
  refine eq_step fun _ => ?_
  rw [int_ne]
  refine eq_step fun _ => ?_
  rw [int_ne]
  refine eq_step fun _ => ?_
  rw [bool_ne]
  refine eq_step fun _ => ?_
  rw [Tr_T]
theorem laws_eqRefS_eq (a b : List Ref) (ha : Sm (.sl TRef) a) : laws_eqRefS LP a b = some (Tr (a = b)) := by
  have hm := ha.1
  have hLP := LP_ge
  unfold laws_eqRefS laws_eqRefS.e
  rw [int_ne]
  by_cases hlen : a.length = b.length
  rotate_left
  · rw [Tr_false (fun h => hlen (by omega)), Tr_false (fun h => hlen (by rw [h]))]
    rfl
  rw [Tr_true (by omega)]
  refine eq_list hlen (fun k i => laws_eqRefS.l4 LP k a b i) (fun k => by
      simp only [laws_eqRefS.l4, laws_eqRefS.b4]
      rw [decide_eq_false (by omega)]
      rfl) (fun k i hi hj => by
      simp only [laws_eqRefS.l4, laws_eqRefS.b4]
      rw [decide_eq_true (by omega), cond_true, oget_lt hi, oget_lt hj, laws_eqRef_eq _ _ (ha.2 _ (List.getElem_mem hi)), obind_some', wrap_id (by omega) (by omega)]
      cases Tr (a[i] = b[i]) <;> rfl) LP (by omega)
theorem laws_eqBase_eq (a b : Base) (ha : Sm TBase a) : laws_eqBase LP a b = some (Tr (a = b)) := by
  have e : (a = b) ↔ (a.1 = b.1 ∧ a.2.1 = b.2.1 ∧ True) := by
    constructor
    · rintro rfl; simp
    · intro h
      simp only [Prod.ext_iff]
      simp [h]
  rw [Tr_congr e]
  unfold laws_eqBase
  rw [laws_eqCommitS_eq _ _ ha.1, obind_some']
  refine eq_step fun _ => ?_
  rw [laws_eqRefS_eq _ _ ha.2.1, obind_some']
  refine eq_step fun _ => ?_
  rw [Tr_T]
theorem laws_eqEdit_eq (a b : Edit) (ha : Sm TEdit a) : laws_eqEdit a b = some (Tr (a = b)) := by
  have e : (a = b) ↔ (a.1 = b.1 ∧ a.2.1 = b.2.1 ∧ a.2.2.1 = b.2.2.1 ∧ True) := by
    constructor
    · rintro rfl; simp
    · intro h
      simp only [Prod.ext_iff]
      simp [h]
  rw [Tr_congr e]
  unfold laws_eqEdit
  rw [str_ne]
  refine eq_step fun _ => ?_
  rw [int_ne]
  refine eq_step fun _ => ?_
  rw [bool_ne]
  refine eq_step fun _ => ?_
  rw [Tr_T]
theorem laws_eqEditS_eq (a b : List Edit) (ha : Sm (.sl TEdit) a) : laws_eqEditS LP a b = some (Tr (a = b)) := by
  have hm := ha.1
  have hLP := LP_ge
  unfold laws_eqEditS laws_eqEditS.e
  rw [int_ne]
  by_cases hlen : a.length = b.length
  rotate_left
  · rw [Tr_false (fun h => hlen (by omega)), Tr_false (fun h => hlen (by rw [h]))]
    rfl
  rw [Tr_true (by omega)]
  refine eq_list hlen (fun k i => laws_eqEditS.l4 LP k a b i) (fun k => by
      simp only [laws_eqEditS.l4, laws_eqEditS.b4]
      rw [decide_eq_false (by omega)]
      rfl) (fun k i hi hj => by
      simp only [laws_eqEditS.l4, laws_eqEditS.b4]
      rw [decide_eq_true (by omega), cond_true, oget_lt hi, oget_lt hj, laws_eqEdit_eq _ _ (ha.2 _ (List.getElem_mem hi)), obind_some', wrap_id (by omega) (by omega)]
      cases Tr (a[i] = b[i]) <;> rfl) LP (by omega)
theorem laws_eqWish_eq (a b : Wish) (ha : Sm TWish a) : laws_eqWish LP a b = some (Tr (a = b)) := by
  have e : (a = b) ↔ (a.1 = b.1 ∧ a.2.1 = b.2.1 ∧ a.2.2.1 = b.2.2.1 ∧ a.2.2.2.1 = b.2.2.2.1 ∧ a.2.2.2.2.1 = b.2.2.2.2.1 ∧ True) := by
    constructor
    · rintro rfl; simp
    · intro h
      simp only [Prod.ext_iff]
      simp [h]
  rw [Tr_congr e]
  unfold laws_eqWish
  rw [int_ne]
  refine eq_step fun _ => ?_
  rw [str_ne]
  refine eq_step fun _ => ?_
  rw [str_ne]
  refine eq_step fun _ => ?_
  rw [str_ne]
  refine eq_step fun _ => ?_
  rw [laws_eqEditS_eq _ _ ha.2.2.2.2.1, obind_some']
  refine eq_step fun _ => ?_
  rw [Tr_T]
theorem laws_eqWishS_eq (a b : List Wish) (ha : Sm (.sl TWish) a) : laws_eqWishS LP a b = some (Tr (a = b)) := by
  have hm := ha.1
  have hLP := LP_ge
  unfold laws_eqWishS laws_eqWishS.e
  rw [int_ne]
  by_cases hlen : a.length = b.length
  rotate_left
  · rw [Tr_false (fun h => hlen (by omega)), Tr_false (fun h => hlen (by rw [h]))]
    rfl
  rw [Tr_true (by omega)]
  refine eq_list hlen (fun k i => laws_eqWishS.l4 LP k a b i) (fun k => by
      simp only [laws_eqWishS.l4, laws_eqWishS.b4]
      rw [decide_eq_false (by omega)]
      rfl) (fun k i hi hj => by
      simp only [laws_eqWishS.l4, laws_eqWishS.b4]
      rw [decide_eq_true (by omega), cond_true, oget_lt hi, oget_lt hj, laws_eqWish_eq _ _ (ha.2 _ (List.getElem_mem hi)), obind_some', wrap_id (by omega) (by omega)]
      cases Tr (a[i] = b[i]) <;> rfl) LP (by omega)
theorem laws_eqClient_eq (a b : Client) (ha : Sm TClient a) : laws_eqClient LP a b = some (Tr (a = b)) := by
  have e : (a = b) ↔ (a.1 = b.1 ∧ a.2.1 = b.2.1 ∧ a.2.2.1 = b.2.2.1 ∧ a.2.2.2.1 = b.2.2.2.1 ∧ a.2.2.2.2.1 = b.2.2.2.2.1 ∧ a.2.2.2.2.2.1 = b.2.2.2.2.2.1 ∧ a.2.2.2.2.2.2.1 = b.2.2.2.2.2.2.1 ∧ a.2.2.2.2.2.2.2.1 = b.2.2.2.2.2.2.2.1 ∧ a.2.2.2.2.2.2.2.2.1 = b.2.2.2.2.2.2.2.2.1 ∧ True) := by
    constructor
    · rintro rfl; simp
    · intro h
      simp only [Prod.ext_iff]
      simp [h]
  rw [Tr_congr e]
  unfold laws_eqClient
  rw [laws_eqWishS_eq _ _ ha.1, obind_some']
  refine eq_step fun _ => ?_
  rw [int_ne]
  refine eq_step fun _ => ?_
  rw [int_ne]
  refine eq_step fun _ => ?_
  rw [int_ne]
  refine eq_step fun _ => ?_
  rw [int_ne]
  refine eq_step fun _ => ?_
  rw [int_ne]
  refine eq_step fun _ => ?_
  rw [int_ne]
  refine eq_step fun _ => ?_
  rw [int_ne]
  refine eq_step fun _ => ?_
  rw [laws_eqEntryS_eq _ _ ha.2.2.2.2.2.2.2.2.1, obind_some']
  refine eq_step fun _ => ?_
  rw [Tr_T]
theorem laws_eqClientS_eq (a b : List Client) (ha : Sm (.sl TClient) a) : laws_eqClientS LP a b = some (Tr (a = b)) := by
  have hm := ha.1
  have hLP := LP_ge
  unfold laws_eqClientS laws_eqClientS.e
  rw [int_ne]
  by_cases hlen : a.length = b.length
  rotate_left
  · rw [Tr_false (fun h => hlen (by omega)), Tr_false (fun h => hlen (by rw [h]))]
    rfl
  rw [Tr_true (by omega)]
  refine eq_list hlen (fun k i => laws_eqClientS.l4 LP k a b i) (fun k => by
      simp only [laws_eqClientS.l4, laws_eqClientS.b4]
      rw [decide_eq_false (by omega)]
      rfl) (fun k i hi hj => by
      simp only [laws_eqClientS.l4, laws_eqClientS.b4]
      rw [decide_eq_true (by omega), cond_true, oget_lt hi, oget_lt hj, laws_eqClient_eq _ _ (ha.2 _ (List.getElem_mem hi)), obind_some', wrap_id (by omega) (by omega)]
      cases Tr (a[i] = b[i]) <;> rfl) LP (by omega)
theorem laws_eqEvent_eq (a b : Event) (ha : Sm TEvent a) : laws_eqEvent a b = some (Tr (a = b)) := by
  have e : (a = b) ↔ (a.1 = b.1 ∧ a.2.1 = b.2.1 ∧ a.2.2.1 = b.2.2.1 ∧ True) := by
    constructor
    · rintro rfl; simp
    · intro h
      simp only [Prod.ext_iff]
      simp [h]
  rw [Tr_congr e]
  unfold laws_eqEvent
  rw [int_ne]
  refine eq_step fun _ => ?_
  rw [int_ne]
  refine eq_step fun _ => ?_
  rw [bool_ne]
  refine eq_step fun _ => ?_
  rw [Tr_T]
theorem laws_eqEventS_eq (a b : List Event) (ha : Sm (.sl TEvent) a) : laws_eqEventS LP a b = some (Tr (a = b)) := by
  have hm := ha.1
  have hLP := LP_ge
  unfold laws_eqEventS laws_eqEventS.e
  rw [int_ne]
  by_cases hlen : a.length = b.length
  rotate_left
  · rw [Tr_false (fun h => hlen (by omega)), Tr_false (fun h => hlen (by rw [h]))]
    rfl
  rw [Tr_true (by omega)]
  refine eq_list hlen (fun k i => laws_eqEventS.l4 LP k a b i) (fun k => by
      simp only [laws_eqEventS.l4, laws_eqEventS.b4]
      rw [decide_eq_false (by omega)]
      rfl) (fun k i hi hj => by
      simp only [laws_eqEventS.l4, laws_eqEventS.b4]
      rw [decide_eq_true (by omega), cond_true, oget_lt hi, oget_lt hj, laws_eqEvent_eq _ _ (ha.2 _ (List.getElem_mem hi)), obind_some', wrap_id (by omega) (by omega)]
      cases Tr (a[i] = b[i]) <;> rfl) LP (by omega)
theorem laws_eqWatch_eq (a b : Watch) (ha : Sm TWatch a) : laws_eqWatch LP a b = some (Tr (a = b)) := by
  have e : (a = b) ↔ (a.1 = b.1 ∧ a.2.1 = b.2.1 ∧ a.2.2.1 = b.2.2.1 ∧ True) := by
    constructor
    · rintro rfl; simp
    · intro h
      simp only [Prod.ext_iff]
      simp [h]
  rw [Tr_congr e]
  unfold laws_eqWatch
  rw [str_ne]
  refine eq_step fun _ => ?_
  rw [int_ne]
  refine eq_step fun _ => ?_
  rw [laws_eqEventS_eq _ _ ha.2.2.1, obind_some']
  refine eq_step fun _ => ?_
  rw [Tr_T]
theorem laws_eqWatchS_eq (a b : List Watch) (ha : Sm (.sl TWatch) a) : laws_eqWatchS LP a b = some (Tr (a = b)) := by
  have hm := ha.1
  have hLP := LP_ge
  unfold laws_eqWatchS laws_eqWatchS.e
  rw [int_ne]
  by_cases hlen : a.length = b.length
  rotate_left
  · rw [Tr_false (fun h => hlen (by omega)), Tr_false (fun h => hlen (by rw [h]))]
    rfl
  rw [Tr_true (by omega)]
  refine eq_list hlen (fun k i => laws_eqWatchS.l4 LP k a b i) (fun k => by
      simp only [laws_eqWatchS.l4, laws_eqWatchS.b4]
      rw [decide_eq_false (by omega)]
      rfl) (fun k i hi hj => by
      simp only [laws_eqWatchS.l4, laws_eqWatchS.b4]
      rw [decide_eq_true (by omega), cond_true, oget_lt hi, oget_lt hj, laws_eqWatch_eq _ _ (ha.2 _ (List.getElem_mem hi)), obind_some', wrap_id (by omega) (by omega)]
      cases Tr (a[i] = b[i]) <;> rfl) LP (by omega)
theorem laws_eqOp_eq (a b : Op) (ha : Sm TOp a) : laws_eqOp LP a b = some (Tr (a = b)) := by
  have e : (a = b) ↔ (a.1 = b.1 ∧ a.2.1 = b.2.1 ∧ a.2.2.1 = b.2.2.1 ∧ a.2.2.2.1 = b.2.2.2.1 ∧ a.2.2.2.2.1 = b.2.2.2.2.1 ∧ True) := by
    constructor
    · rintro rfl; simp
    · intro h
      simp only [Prod.ext_iff]
      simp [h]
  rw [Tr_congr e]
  unfold laws_eqOp
  rw [int_ne]
  refine eq_step fun _ => ?_
  rw [int_ne]
  refine eq_step fun _ => ?_
  rw [str_ne]
  refine eq_step fun _ => ?_
  rw [str_ne]
  refine eq_step fun _ => ?_
  rw [laws_eqEditS_eq _ _ ha.2.2.2.2.1, obind_some']
  refine eq_step fun _ => ?_
  rw [Tr_T]
theorem laws_eqStringS_eq (a b : List ByteArray) (ha : Sm (.sl .str) a) : laws_eqStringS LP a b = some (Tr (a = b)) := by
  have hm := ha.1
  have hLP := LP_ge
  unfold laws_eqStringS laws_eqStringS.e
  rw [int_ne]
  by_cases hlen : a.length = b.length
  rotate_left
  · rw [Tr_false (fun h => hlen (by omega)), Tr_false (fun h => hlen (by rw [h]))]
    rfl
  rw [Tr_true (by omega)]
  refine eq_list hlen (fun k i => laws_eqStringS.l4 LP k a b i) (fun k => by
      simp only [laws_eqStringS.l4, laws_eqStringS.b4]
      rw [decide_eq_false (by omega)]
      rfl) (fun k i hi hj => by
      simp only [laws_eqStringS.l4, laws_eqStringS.b4]
      rw [decide_eq_true (by omega), cond_true, oget_lt hi, oget_lt hj, str_ne, wrap_id (by omega) (by omega)]
      cases Tr (a[i] = b[i]) <;> rfl) LP (by omega)
theorem laws_eqResult_eq (a b : Result) (ha : Sm TResult a) : laws_eqResult LP a b = some (Tr (a = b)) := by
  have e : (a = b) ↔ (a.1 = b.1 ∧ a.2.1 = b.2.1 ∧ a.2.2.1 = b.2.2.1 ∧ a.2.2.2.1 = b.2.2.2.1 ∧ a.2.2.2.2.1 = b.2.2.2.2.1 ∧ True) := by
    constructor
    · rintro rfl; simp
    · intro h
      simp only [Prod.ext_iff]
      simp [h]
  rw [Tr_congr e]
  unfold laws_eqResult
  rw [int_ne]
  refine eq_step fun _ => ?_
  rw [int_ne]
  refine eq_step fun _ => ?_
  rw [int_ne]
  refine eq_step fun _ => ?_
  rw [laws_eqStringS_eq _ _ ha.2.2.2.1, obind_some']
  refine eq_step fun _ => ?_
  rw [laws_eqEntryS_eq _ _ ha.2.2.2.2.1, obind_some']
  refine eq_step fun _ => ?_
  rw [Tr_T]
theorem laws_eqMoment_eq (a b : Moment) (ha : Sm TMoment a) : laws_eqMoment LP a b = some (Tr (a = b)) := by
  have e : (a = b) ↔ (a.1 = b.1 ∧ a.2.1 = b.2.1 ∧ a.2.2.1 = b.2.2.1 ∧ a.2.2.2.1 = b.2.2.2.1 ∧ a.2.2.2.2.1 = b.2.2.2.2.1 ∧ True) := by
    constructor
    · rintro rfl; simp
    · intro h
      simp only [Prod.ext_iff]
      simp [h]
  rw [Tr_congr e]
  unfold laws_eqMoment
  rw [int_ne]
  refine eq_step fun _ => ?_
  rw [int_ne]
  refine eq_step fun _ => ?_
  rw [int_ne]
  refine eq_step fun _ => ?_
  rw [laws_eqOp_eq _ _ ha.2.2.2.1, obind_some']
  refine eq_step fun _ => ?_
  rw [laws_eqResult_eq _ _ ha.2.2.2.2.1, obind_some']
  refine eq_step fun _ => ?_
  rw [Tr_T]
theorem laws_eqMomentS_eq (a b : List Moment) (ha : Sm (.sl TMoment) a) : laws_eqMomentS LP a b = some (Tr (a = b)) := by
  have hm := ha.1
  have hLP := LP_ge
  unfold laws_eqMomentS laws_eqMomentS.e
  rw [int_ne]
  by_cases hlen : a.length = b.length
  rotate_left
  · rw [Tr_false (fun h => hlen (by omega)), Tr_false (fun h => hlen (by rw [h]))]
    rfl
  rw [Tr_true (by omega)]
  refine eq_list hlen (fun k i => laws_eqMomentS.l4 LP k a b i) (fun k => by
      simp only [laws_eqMomentS.l4, laws_eqMomentS.b4]
      rw [decide_eq_false (by omega)]
      rfl) (fun k i hi hj => by
      simp only [laws_eqMomentS.l4, laws_eqMomentS.b4]
      rw [decide_eq_true (by omega), cond_true, oget_lt hi, oget_lt hj, laws_eqMoment_eq _ _ (ha.2 _ (List.getElem_mem hi)), obind_some', wrap_id (by omega) (by omega)]
      cases Tr (a[i] = b[i]) <;> rfl) LP (by omega)
theorem laws_eqWorld_eq (a b : World) (ha : Sm TWorld a) : laws_eqWorld LP a b = some (Tr (a = b)) := by
  have e : (a = b) ↔ (a.1 = b.1 ∧ a.2.1 = b.2.1 ∧ a.2.2.1 = b.2.2.1 ∧ a.2.2.2.1 = b.2.2.2.1 ∧ a.2.2.2.2.1 = b.2.2.2.2.1 ∧ True) := by
    constructor
    · rintro rfl; simp
    · intro h
      simp only [Prod.ext_iff]
      simp [h]
  rw [Tr_congr e]
  unfold laws_eqWorld
  rw [laws_eqBase_eq _ _ ha.1, obind_some']
  refine eq_step fun _ => ?_
  rw [laws_eqClientS_eq _ _ ha.2.1, obind_some']
  refine eq_step fun _ => ?_
  rw [laws_eqWatchS_eq _ _ ha.2.2.1, obind_some']
  refine eq_step fun _ => ?_
  rw [laws_eqMomentS_eq _ _ ha.2.2.2.1, obind_some']
  refine eq_step fun _ => ?_
  rw [int_ne]
  refine eq_step fun _ => ?_
  rw [Tr_T]
theorem slices_IndexFunc_byte_eq (xs : List Int) (φ : (Int × Unit) → Option Bool) (P : Int → Prop) (hm : xs.length ≤ 1048576) (hφ : ∀ x ∈ xs, φ (x, ()) = some (Tr (P x))) :
    (∃ (j : Nat) (hj : j < xs.length), slices_IndexFunc_byte LP xs φ = some (j : Int) ∧ P xs[j] ∧ ∀ (i : Nat) (hi : i < j), ¬ P (xs[i]'(by omega))) ∨ (slices_IndexFunc_byte LP xs φ = some (-1) ∧ ∀ x ∈ xs, ¬ P x) := by
  have hLP := LP_ge
  have hl := loop_find (fun k i => slices_IndexFunc_byte.l2 LP k xs φ (xs.length : Int) i) xs.length (fun i => ∃ h : i < xs.length, P xs[i]) (fun i => (i : Int)) ()
    (fun k => by
      simp only [slices_IndexFunc_byte.l2, slices_IndexFunc_byte.b2]
      rw [decide_eq_false (by omega)]
      rfl)
    (fun k i hi => by
      simp only [slices_IndexFunc_byte.l2, slices_IndexFunc_byte.b2]
      rw [decide_eq_true (by omega), cond_true, oget_lt hi, hφ _ (List.getElem_mem hi), obind_some', wrap_id (by omega) (by omega), Tr_congr (q := ∃ h : i < xs.length, P xs[i]) ⟨fun h => ⟨hi, h⟩, fun ⟨_, h⟩ => h⟩]
      rfl) LP 0 (Nat.zero_le _) (by omega)
  rcases hl with ⟨j, _, hj, ⟨_, hp⟩, hn, he⟩ | ⟨hn, he⟩
  · refine .inl ⟨j, hj, ?_, hp, fun i hi hP => hn i (Nat.zero_le _) hi ⟨by omega, hP⟩⟩
    show obind (slices_IndexFunc_byte.l2 LP LP xs φ (xs.length : Int) 0) _ = _
    rw [show slices_IndexFunc_byte.l2 LP LP xs φ (xs.length : Int) 0 = _ from he]
    rfl
  · refine .inr ⟨?_, fun x hx hP => ?_⟩
    · show obind (slices_IndexFunc_byte.l2 LP LP xs φ (xs.length : Int) 0) _ = _
      rw [show slices_IndexFunc_byte.l2 LP LP xs φ (xs.length : Int) 0 = _ from he]
      rfl
    · obtain ⟨j, hj, rfl⟩ := List.getElem_of_mem hx
      exact hn j (Nat.zero_le _) hj ⟨hj, hP⟩
theorem slices_ContainsFunc_byte_eq (xs : List Int) (φ : (Int × Unit) → Option Bool) (P : Int → Prop) (hm : xs.length ≤ 1048576) (hφ : ∀ x ∈ xs, φ (x, ()) = some (Tr (P x))) :
    slices_ContainsFunc_byte LP xs φ = some (Tr (∃ x ∈ xs, P x)) := by
  unfold slices_ContainsFunc_byte
  rcases slices_IndexFunc_byte_eq xs φ P hm hφ with ⟨j, hj, he, hp, _⟩ | ⟨he, hn⟩
  · rw [he, obind_some', Tr_true ⟨_, List.getElem_mem hj, hp⟩, decide_eq_true (by omega)]
  · rw [he, obind_some', Tr_false (fun ⟨x, hx, hp⟩ => hn x hx hp)]
    rfl
theorem impl_areAll_byte_eq (xs : List Int) (φ : (Int × Unit) → Option Bool) (P : Int → Prop) (hm : xs.length ≤ 1048576) (hφ : ∀ x ∈ xs, φ (x, ()) = some (Tr (P x))) :
    impl_areAll_byte LP xs φ = some (Tr (∀ x ∈ xs, P x)) := by
  unfold impl_areAll_byte
  rw [slices_ContainsFunc_byte_eq xs _ (fun x => ¬ P x) hm (fun x hx => by
    show impl_areAll_byte_c1 x φ = _
    unfold impl_areAll_byte_c1
    rw [hφ x hx, obind_some', Tr_not]), obind_some', Tr_not]
  rw [Tr_congr]
  constructor
  · intro h x hx
    exact Classical.byContradiction fun hn => h ⟨x, hx, hn⟩
  · rintro h ⟨x, hx, hn⟩
    exact hn (h x hx)
theorem slices_IndexFunc_int_eq (xs : List Int) (φ : (Int × Unit) → Option Bool) (P : Int → Prop) (hm : xs.length ≤ 1048576) (hφ : ∀ x ∈ xs, φ (x, ()) = some (Tr (P x))) :
    (∃ (j : Nat) (hj : j < xs.length), slices_IndexFunc_int LP xs φ = some (j : Int) ∧ P xs[j] ∧ ∀ (i : Nat) (hi : i < j), ¬ P (xs[i]'(by omega))) ∨ (slices_IndexFunc_int LP xs φ = some (-1) ∧ ∀ x ∈ xs, ¬ P x) := by
  have hLP := LP_ge
  have hl := loop_find (fun k i => slices_IndexFunc_int.l2 LP k xs φ (xs.length : Int) i) xs.length (fun i => ∃ h : i < xs.length, P xs[i]) (fun i => (i : Int)) ()
    (fun k => by
      simp only [slices_IndexFunc_int.l2, slices_IndexFunc_int.b2]
      rw [decide_eq_false (by omega)]
      rfl)
    (fun k i hi => by
      simp only [slices_IndexFunc_int.l2, slices_IndexFunc_int.b2]
      rw [decide_eq_true (by omega), cond_true, oget_lt hi, hφ _ (List.getElem_mem hi), obind_some', wrap_id (by omega) (by omega), Tr_congr (q := ∃ h : i < xs.length, P xs[i]) ⟨fun h => ⟨hi, h⟩, fun ⟨_, h⟩ => h⟩]
      rfl) LP 0 (Nat.zero_le _) (by omega)
  rcases hl with ⟨j, _, hj, ⟨_, hp⟩, hn, he⟩ | ⟨hn, he⟩
  · refine .inl ⟨j, hj, ?_, hp, fun i hi hP => hn i (Nat.zero_le _) hi ⟨by omega, hP⟩⟩
    show obind (slices_IndexFunc_int.l2 LP LP xs φ (xs.length : Int) 0) _ = _
    rw [show slices_IndexFunc_int.l2 LP LP xs φ (xs.length : Int) 0 = _ from he]
    rfl
  · refine .inr ⟨?_, fun x hx hP => ?_⟩
    · show obind (slices_IndexFunc_int.l2 LP LP xs φ (xs.length : Int) 0) _ = _
      rw [show slices_IndexFunc_int.l2 LP LP xs φ (xs.length : Int) 0 = _ from he]
      rfl
    · obtain ⟨j, hj, rfl⟩ := List.getElem_of_mem hx
      exact hn j (Nat.zero_le _) hj ⟨hj, hP⟩
theorem slices_ContainsFunc_int_eq (xs : List Int) (φ : (Int × Unit) → Option Bool) (P : Int → Prop) (hm : xs.length ≤ 1048576) (hφ : ∀ x ∈ xs, φ (x, ()) = some (Tr (P x))) :
    slices_ContainsFunc_int LP xs φ = some (Tr (∃ x ∈ xs, P x)) := by
  unfold slices_ContainsFunc_int
  rcases slices_IndexFunc_int_eq xs φ P hm hφ with ⟨j, hj, he, hp, _⟩ | ⟨he, hn⟩
  · rw [he, obind_some', Tr_true ⟨_, List.getElem_mem hj, hp⟩, decide_eq_true (by omega)]
  · rw [he, obind_some', Tr_false (fun ⟨x, hx, hp⟩ => hn x hx hp)]
    rfl
theorem impl_areAll_int_eq (xs : List Int) (φ : (Int × Unit) → Option Bool) (P : Int → Prop) (hm : xs.length ≤ 1048576) (hφ : ∀ x ∈ xs, φ (x, ()) = some (Tr (P x))) :
    impl_areAll_int LP xs φ = some (Tr (∀ x ∈ xs, P x)) := by
  unfold impl_areAll_int
  rw [slices_ContainsFunc_int_eq xs _ (fun x => ¬ P x) hm (fun x hx => by
    show impl_areAll_int_c1 x φ = _
    unfold impl_areAll_int_c1
    rw [hφ x hx, obind_some', Tr_not]), obind_some', Tr_not]
  rw [Tr_congr]
  constructor
  · intro h x hx
    exact Classical.byContradiction fun hn => h ⟨x, hx, hn⟩
  · rintro h ⟨x, hx, hn⟩
    exact hn (h x hx)
theorem slices_IndexFunc_Ref_eq (xs : List Ref) (φ : (Ref × Unit) → Option Bool) (P : Ref → Prop) (hm : xs.length ≤ 1048576) (hφ : ∀ x ∈ xs, φ (x, ()) = some (Tr (P x))) :
    (∃ (j : Nat) (hj : j < xs.length), slices_IndexFunc_Ref LP xs φ = some (j : Int) ∧ P xs[j] ∧ ∀ (i : Nat) (hi : i < j), ¬ P (xs[i]'(by omega))) ∨ (slices_IndexFunc_Ref LP xs φ = some (-1) ∧ ∀ x ∈ xs, ¬ P x) := by
  have hLP := LP_ge
  have hl := loop_find (fun k i => slices_IndexFunc_Ref.l2 LP k xs φ (xs.length : Int) i) xs.length (fun i => ∃ h : i < xs.length, P xs[i]) (fun i => (i : Int)) ()
    (fun k => by
      simp only [slices_IndexFunc_Ref.l2, slices_IndexFunc_Ref.b2]
      rw [decide_eq_false (by omega)]
      rfl)
    (fun k i hi => by
      simp only [slices_IndexFunc_Ref.l2, slices_IndexFunc_Ref.b2]
      rw [decide_eq_true (by omega), cond_true, oget_lt hi, hφ _ (List.getElem_mem hi), obind_some', wrap_id (by omega) (by omega), Tr_congr (q := ∃ h : i < xs.length, P xs[i]) ⟨fun h => ⟨hi, h⟩, fun ⟨_, h⟩ => h⟩]
      rfl) LP 0 (Nat.zero_le _) (by omega)
  rcases hl with ⟨j, _, hj, ⟨_, hp⟩, hn, he⟩ | ⟨hn, he⟩
  · refine .inl ⟨j, hj, ?_, hp, fun i hi hP => hn i (Nat.zero_le _) hi ⟨by omega, hP⟩⟩
    show obind (slices_IndexFunc_Ref.l2 LP LP xs φ (xs.length : Int) 0) _ = _
    rw [show slices_IndexFunc_Ref.l2 LP LP xs φ (xs.length : Int) 0 = _ from he]
    rfl
  · refine .inr ⟨?_, fun x hx hP => ?_⟩
    · show obind (slices_IndexFunc_Ref.l2 LP LP xs φ (xs.length : Int) 0) _ = _
      rw [show slices_IndexFunc_Ref.l2 LP LP xs φ (xs.length : Int) 0 = _ from he]
      rfl
    · obtain ⟨j, hj, rfl⟩ := List.getElem_of_mem hx
      exact hn j (Nat.zero_le _) hj ⟨hj, hP⟩
theorem slices_ContainsFunc_Ref_eq (xs : List Ref) (φ : (Ref × Unit) → Option Bool) (P : Ref → Prop) (hm : xs.length ≤ 1048576) (hφ : ∀ x ∈ xs, φ (x, ()) = some (Tr (P x))) :
    slices_ContainsFunc_Ref LP xs φ = some (Tr (∃ x ∈ xs, P x)) := by
  unfold slices_ContainsFunc_Ref
  rcases slices_IndexFunc_Ref_eq xs φ P hm hφ with ⟨j, hj, he, hp, _⟩ | ⟨he, hn⟩
  · rw [he, obind_some', Tr_true ⟨_, List.getElem_mem hj, hp⟩, decide_eq_true (by omega)]
  · rw [he, obind_some', Tr_false (fun ⟨x, hx, hp⟩ => hn x hx hp)]
    rfl
theorem impl_areAll_Ref_eq (xs : List Ref) (φ : (Ref × Unit) → Option Bool) (P : Ref → Prop) (hm : xs.length ≤ 1048576) (hφ : ∀ x ∈ xs, φ (x, ()) = some (Tr (P x))) :
    impl_areAll_Ref LP xs φ = some (Tr (∀ x ∈ xs, P x)) := by
  unfold impl_areAll_Ref
  rw [slices_ContainsFunc_Ref_eq xs _ (fun x => ¬ P x) hm (fun x hx => by
    show impl_areAll_Ref_c1 x φ = _
    unfold impl_areAll_Ref_c1
    rw [hφ x hx, obind_some', Tr_not]), obind_some', Tr_not]
  rw [Tr_congr]
  constructor
  · intro h x hx
    exact Classical.byContradiction fun hn => h ⟨x, hx, hn⟩
  · rintro h ⟨x, hx, hn⟩
    exact hn (h x hx)
theorem slices_IndexFunc_Wish_eq (xs : List Wish) (φ : (Wish × Unit) → Option Bool) (P : Wish → Prop) (hm : xs.length ≤ 1048576) (hφ : ∀ x ∈ xs, φ (x, ()) = some (Tr (P x))) :
    (∃ (j : Nat) (hj : j < xs.length), slices_IndexFunc_Wish LP xs φ = some (j : Int) ∧ P xs[j] ∧ ∀ (i : Nat) (hi : i < j), ¬ P (xs[i]'(by omega))) ∨ (slices_IndexFunc_Wish LP xs φ = some (-1) ∧ ∀ x ∈ xs, ¬ P x) := by
  have hLP := LP_ge
  have hl := loop_find (fun k i => slices_IndexFunc_Wish.l2 LP k xs φ (xs.length : Int) i) xs.length (fun i => ∃ h : i < xs.length, P xs[i]) (fun i => (i : Int)) ()
    (fun k => by
      simp only [slices_IndexFunc_Wish.l2, slices_IndexFunc_Wish.b2]
      rw [decide_eq_false (by omega)]
      rfl)
    (fun k i hi => by
      simp only [slices_IndexFunc_Wish.l2, slices_IndexFunc_Wish.b2]
      rw [decide_eq_true (by omega), cond_true, oget_lt hi, hφ _ (List.getElem_mem hi), obind_some', wrap_id (by omega) (by omega), Tr_congr (q := ∃ h : i < xs.length, P xs[i]) ⟨fun h => ⟨hi, h⟩, fun ⟨_, h⟩ => h⟩]
      rfl) LP 0 (Nat.zero_le _) (by omega)
  rcases hl with ⟨j, _, hj, ⟨_, hp⟩, hn, he⟩ | ⟨hn, he⟩
  · refine .inl ⟨j, hj, ?_, hp, fun i hi hP => hn i (Nat.zero_le _) hi ⟨by omega, hP⟩⟩
    show obind (slices_IndexFunc_Wish.l2 LP LP xs φ (xs.length : Int) 0) _ = _
    rw [show slices_IndexFunc_Wish.l2 LP LP xs φ (xs.length : Int) 0 = _ from he]
    rfl
  · refine .inr ⟨?_, fun x hx hP => ?_⟩
    · show obind (slices_IndexFunc_Wish.l2 LP LP xs φ (xs.length : Int) 0) _ = _
      rw [show slices_IndexFunc_Wish.l2 LP LP xs φ (xs.length : Int) 0 = _ from he]
      rfl
    · obtain ⟨j, hj, rfl⟩ := List.getElem_of_mem hx
      exact hn j (Nat.zero_le _) hj ⟨hj, hP⟩
theorem slices_ContainsFunc_Wish_eq (xs : List Wish) (φ : (Wish × Unit) → Option Bool) (P : Wish → Prop) (hm : xs.length ≤ 1048576) (hφ : ∀ x ∈ xs, φ (x, ()) = some (Tr (P x))) :
    slices_ContainsFunc_Wish LP xs φ = some (Tr (∃ x ∈ xs, P x)) := by
  unfold slices_ContainsFunc_Wish
  rcases slices_IndexFunc_Wish_eq xs φ P hm hφ with ⟨j, hj, he, hp, _⟩ | ⟨he, hn⟩
  · rw [he, obind_some', Tr_true ⟨_, List.getElem_mem hj, hp⟩, decide_eq_true (by omega)]
  · rw [he, obind_some', Tr_false (fun ⟨x, hx, hp⟩ => hn x hx hp)]
    rfl
theorem impl_areAll_Wish_eq (xs : List Wish) (φ : (Wish × Unit) → Option Bool) (P : Wish → Prop) (hm : xs.length ≤ 1048576) (hφ : ∀ x ∈ xs, φ (x, ()) = some (Tr (P x))) :
    impl_areAll_Wish LP xs φ = some (Tr (∀ x ∈ xs, P x)) := by
  unfold impl_areAll_Wish
  rw [slices_ContainsFunc_Wish_eq xs _ (fun x => ¬ P x) hm (fun x hx => by
    show impl_areAll_Wish_c1 x φ = _
    unfold impl_areAll_Wish_c1
    rw [hφ x hx, obind_some', Tr_not]), obind_some', Tr_not]
  rw [Tr_congr]
  constructor
  · intro h x hx
    exact Classical.byContradiction fun hn => h ⟨x, hx, hn⟩
  · rintro h ⟨x, hx, hn⟩
    exact hn (h x hx)
theorem slices_IndexFunc_Moment_eq (xs : List Moment) (φ : (Moment × Unit) → Option Bool) (P : Moment → Prop) (hm : xs.length ≤ 1048576) (hφ : ∀ x ∈ xs, φ (x, ()) = some (Tr (P x))) :
    (∃ (j : Nat) (hj : j < xs.length), slices_IndexFunc_Moment LP xs φ = some (j : Int) ∧ P xs[j] ∧ ∀ (i : Nat) (hi : i < j), ¬ P (xs[i]'(by omega))) ∨ (slices_IndexFunc_Moment LP xs φ = some (-1) ∧ ∀ x ∈ xs, ¬ P x) := by
  have hLP := LP_ge
  have hl := loop_find (fun k i => slices_IndexFunc_Moment.l2 LP k xs φ (xs.length : Int) i) xs.length (fun i => ∃ h : i < xs.length, P xs[i]) (fun i => (i : Int)) ()
    (fun k => by
      simp only [slices_IndexFunc_Moment.l2, slices_IndexFunc_Moment.b2]
      rw [decide_eq_false (by omega)]
      rfl)
    (fun k i hi => by
      simp only [slices_IndexFunc_Moment.l2, slices_IndexFunc_Moment.b2]
      rw [decide_eq_true (by omega), cond_true, oget_lt hi, hφ _ (List.getElem_mem hi), obind_some', wrap_id (by omega) (by omega), Tr_congr (q := ∃ h : i < xs.length, P xs[i]) ⟨fun h => ⟨hi, h⟩, fun ⟨_, h⟩ => h⟩]
      rfl) LP 0 (Nat.zero_le _) (by omega)
  rcases hl with ⟨j, _, hj, ⟨_, hp⟩, hn, he⟩ | ⟨hn, he⟩
  · refine .inl ⟨j, hj, ?_, hp, fun i hi hP => hn i (Nat.zero_le _) hi ⟨by omega, hP⟩⟩
    show obind (slices_IndexFunc_Moment.l2 LP LP xs φ (xs.length : Int) 0) _ = _
    rw [show slices_IndexFunc_Moment.l2 LP LP xs φ (xs.length : Int) 0 = _ from he]
    rfl
  · refine .inr ⟨?_, fun x hx hP => ?_⟩
    · show obind (slices_IndexFunc_Moment.l2 LP LP xs φ (xs.length : Int) 0) _ = _
      rw [show slices_IndexFunc_Moment.l2 LP LP xs φ (xs.length : Int) 0 = _ from he]
      rfl
    · obtain ⟨j, hj, rfl⟩ := List.getElem_of_mem hx
      exact hn j (Nat.zero_le _) hj ⟨hj, hP⟩
theorem slices_ContainsFunc_Moment_eq (xs : List Moment) (φ : (Moment × Unit) → Option Bool) (P : Moment → Prop) (hm : xs.length ≤ 1048576) (hφ : ∀ x ∈ xs, φ (x, ()) = some (Tr (P x))) :
    slices_ContainsFunc_Moment LP xs φ = some (Tr (∃ x ∈ xs, P x)) := by
  unfold slices_ContainsFunc_Moment
  rcases slices_IndexFunc_Moment_eq xs φ P hm hφ with ⟨j, hj, he, hp, _⟩ | ⟨he, hn⟩
  · rw [he, obind_some', Tr_true ⟨_, List.getElem_mem hj, hp⟩, decide_eq_true (by omega)]
  · rw [he, obind_some', Tr_false (fun ⟨x, hx, hp⟩ => hn x hx hp)]
    rfl
theorem impl_areAll_Moment_eq (xs : List Moment) (φ : (Moment × Unit) → Option Bool) (P : Moment → Prop) (hm : xs.length ≤ 1048576) (hφ : ∀ x ∈ xs, φ (x, ()) = some (Tr (P x))) :
    impl_areAll_Moment LP xs φ = some (Tr (∀ x ∈ xs, P x)) := by
  unfold impl_areAll_Moment
  rw [slices_ContainsFunc_Moment_eq xs _ (fun x => ¬ P x) hm (fun x hx => by
    show impl_areAll_Moment_c1 x φ = _
    unfold impl_areAll_Moment_c1
    rw [hφ x hx, obind_some', Tr_not]), obind_some', Tr_not]
  rw [Tr_congr]
  constructor
  · intro h x hx
    exact Classical.byContradiction fun hn => h ⟨x, hx, hn⟩
  · rintro h ⟨x, hx, hn⟩
    exact hn (h x hx)
theorem slices_IndexFunc_Watch_eq (xs : List Watch) (φ : (Watch × Unit) → Option Bool) (P : Watch → Prop) (hm : xs.length ≤ 1048576) (hφ : ∀ x ∈ xs, φ (x, ()) = some (Tr (P x))) :
    (∃ (j : Nat) (hj : j < xs.length), slices_IndexFunc_Watch LP xs φ = some (j : Int) ∧ P xs[j] ∧ ∀ (i : Nat) (hi : i < j), ¬ P (xs[i]'(by omega))) ∨ (slices_IndexFunc_Watch LP xs φ = some (-1) ∧ ∀ x ∈ xs, ¬ P x) := by
  have hLP := LP_ge
  have hl := loop_find (fun k i => slices_IndexFunc_Watch.l2 LP k xs φ (xs.length : Int) i) xs.length (fun i => ∃ h : i < xs.length, P xs[i]) (fun i => (i : Int)) ()
    (fun k => by
      simp only [slices_IndexFunc_Watch.l2, slices_IndexFunc_Watch.b2]
      rw [decide_eq_false (by omega)]
      rfl)
    (fun k i hi => by
      simp only [slices_IndexFunc_Watch.l2, slices_IndexFunc_Watch.b2]
      rw [decide_eq_true (by omega), cond_true, oget_lt hi, hφ _ (List.getElem_mem hi), obind_some', wrap_id (by omega) (by omega), Tr_congr (q := ∃ h : i < xs.length, P xs[i]) ⟨fun h => ⟨hi, h⟩, fun ⟨_, h⟩ => h⟩]
      rfl) LP 0 (Nat.zero_le _) (by omega)
  rcases hl with ⟨j, _, hj, ⟨_, hp⟩, hn, he⟩ | ⟨hn, he⟩
  · refine .inl ⟨j, hj, ?_, hp, fun i hi hP => hn i (Nat.zero_le _) hi ⟨by omega, hP⟩⟩
    show obind (slices_IndexFunc_Watch.l2 LP LP xs φ (xs.length : Int) 0) _ = _
    rw [show slices_IndexFunc_Watch.l2 LP LP xs φ (xs.length : Int) 0 = _ from he]
    rfl
  · refine .inr ⟨?_, fun x hx hP => ?_⟩
    · show obind (slices_IndexFunc_Watch.l2 LP LP xs φ (xs.length : Int) 0) _ = _
      rw [show slices_IndexFunc_Watch.l2 LP LP xs φ (xs.length : Int) 0 = _ from he]
      rfl
    · obtain ⟨j, hj, rfl⟩ := List.getElem_of_mem hx
      exact hn j (Nat.zero_le _) hj ⟨hj, hP⟩
theorem slices_ContainsFunc_Watch_eq (xs : List Watch) (φ : (Watch × Unit) → Option Bool) (P : Watch → Prop) (hm : xs.length ≤ 1048576) (hφ : ∀ x ∈ xs, φ (x, ()) = some (Tr (P x))) :
    slices_ContainsFunc_Watch LP xs φ = some (Tr (∃ x ∈ xs, P x)) := by
  unfold slices_ContainsFunc_Watch
  rcases slices_IndexFunc_Watch_eq xs φ P hm hφ with ⟨j, hj, he, hp, _⟩ | ⟨he, hn⟩
  · rw [he, obind_some', Tr_true ⟨_, List.getElem_mem hj, hp⟩, decide_eq_true (by omega)]
  · rw [he, obind_some', Tr_false (fun ⟨x, hx, hp⟩ => hn x hx hp)]
    rfl
theorem impl_areAll_Watch_eq (xs : List Watch) (φ : (Watch × Unit) → Option Bool) (P : Watch → Prop) (hm : xs.length ≤ 1048576) (hφ : ∀ x ∈ xs, φ (x, ()) = some (Tr (P x))) :
    impl_areAll_Watch LP xs φ = some (Tr (∀ x ∈ xs, P x)) := by
  unfold impl_areAll_Watch
  rw [slices_ContainsFunc_Watch_eq xs _ (fun x => ¬ P x) hm (fun x hx => by
    show impl_areAll_Watch_c1 x φ = _
    unfold impl_areAll_Watch_c1
    rw [hφ x hx, obind_some', Tr_not]), obind_some', Tr_not]
  rw [Tr_congr]
  constructor
  · intro h x hx
    exact Classical.byContradiction fun hn => h ⟨x, hx, hn⟩
  · rintro h ⟨x, hx, hn⟩
    exact hn (h x hx)
theorem slices_IndexFunc_Event_eq (xs : List Event) (φ : (Event × Unit) → Option Bool) (P : Event → Prop) (hm : xs.length ≤ 1048576) (hφ : ∀ x ∈ xs, φ (x, ()) = some (Tr (P x))) :
    (∃ (j : Nat) (hj : j < xs.length), slices_IndexFunc_Event LP xs φ = some (j : Int) ∧ P xs[j] ∧ ∀ (i : Nat) (hi : i < j), ¬ P (xs[i]'(by omega))) ∨ (slices_IndexFunc_Event LP xs φ = some (-1) ∧ ∀ x ∈ xs, ¬ P x) := by
  have hLP := LP_ge
  have hl := loop_find (fun k i => slices_IndexFunc_Event.l2 LP k xs φ (xs.length : Int) i) xs.length (fun i => ∃ h : i < xs.length, P xs[i]) (fun i => (i : Int)) ()
    (fun k => by
      simp only [slices_IndexFunc_Event.l2, slices_IndexFunc_Event.b2]
      rw [decide_eq_false (by omega)]
      rfl)
    (fun k i hi => by
      simp only [slices_IndexFunc_Event.l2, slices_IndexFunc_Event.b2]
      rw [decide_eq_true (by omega), cond_true, oget_lt hi, hφ _ (List.getElem_mem hi), obind_some', wrap_id (by omega) (by omega), Tr_congr (q := ∃ h : i < xs.length, P xs[i]) ⟨fun h => ⟨hi, h⟩, fun ⟨_, h⟩ => h⟩]
      rfl) LP 0 (Nat.zero_le _) (by omega)
  rcases hl with ⟨j, _, hj, ⟨_, hp⟩, hn, he⟩ | ⟨hn, he⟩
  · refine .inl ⟨j, hj, ?_, hp, fun i hi hP => hn i (Nat.zero_le _) hi ⟨by omega, hP⟩⟩
    show obind (slices_IndexFunc_Event.l2 LP LP xs φ (xs.length : Int) 0) _ = _
    rw [show slices_IndexFunc_Event.l2 LP LP xs φ (xs.length : Int) 0 = _ from he]
    rfl
  · refine .inr ⟨?_, fun x hx hP => ?_⟩
    · show obind (slices_IndexFunc_Event.l2 LP LP xs φ (xs.length : Int) 0) _ = _
      rw [show slices_IndexFunc_Event.l2 LP LP xs φ (xs.length : Int) 0 = _ from he]
      rfl
    · obtain ⟨j, hj, rfl⟩ := List.getElem_of_mem hx
      exact hn j (Nat.zero_le _) hj ⟨hj, hP⟩
theorem slices_ContainsFunc_Event_eq (xs : List Event) (φ : (Event × Unit) → Option Bool) (P : Event → Prop) (hm : xs.length ≤ 1048576) (hφ : ∀ x ∈ xs, φ (x, ()) = some (Tr (P x))) :
    slices_ContainsFunc_Event LP xs φ = some (Tr (∃ x ∈ xs, P x)) := by
  unfold slices_ContainsFunc_Event
  rcases slices_IndexFunc_Event_eq xs φ P hm hφ with ⟨j, hj, he, hp, _⟩ | ⟨he, hn⟩
  · rw [he, obind_some', Tr_true ⟨_, List.getElem_mem hj, hp⟩, decide_eq_true (by omega)]
  · rw [he, obind_some', Tr_false (fun ⟨x, hx, hp⟩ => hn x hx hp)]
    rfl
theorem impl_areAll_Event_eq (xs : List Event) (φ : (Event × Unit) → Option Bool) (P : Event → Prop) (hm : xs.length ≤ 1048576) (hφ : ∀ x ∈ xs, φ (x, ()) = some (Tr (P x))) :
    impl_areAll_Event LP xs φ = some (Tr (∀ x ∈ xs, P x)) := by
  unfold impl_areAll_Event
  rw [slices_ContainsFunc_Event_eq xs _ (fun x => ¬ P x) hm (fun x hx => by
    show impl_areAll_Event_c1 x φ = _
    unfold impl_areAll_Event_c1
    rw [hφ x hx, obind_some', Tr_not]), obind_some', Tr_not]
  rw [Tr_congr]
  constructor
  · intro h x hx
    exact Classical.byContradiction fun hn => h ⟨x, hx, hn⟩
  · rintro h ⟨x, hx, hn⟩
    exact hn (h x hx)
-- EQUAL Entry Entry 4
end Go.Vx

end
