/-
  No cell of these rows narrows 'for every input' (looked for: loops, veiled, ifaces, maps, wideKeys, modest, calm, conditions, laid).
  DERIVED. THE GIVEN ROWS OF THIS SEAT. 5 by the template 'for every input the law returns true; each argument reads behind the call as it read before'; 0 by the template 'total and deterministic' (their statements: YtajhmldalehbjaaGreatTotals.lean).
  GIVEN WITH THE SEED: the statements are not yours to turn. If you find one false, say at which input.
  Laid BY PROGRAM, IN A SANDBOX (cutbox-rows.mjs): the forced cells as the released guide's own fill.sh prints them over the translation 49c6289eb72faa70… (all of the seat's roots in one cut). By AI agents, Wed Nov 11 2026. No macro, syntax, notation, axiom, sorry.
-/
import Derived.Test.YtajhmldalehbjaaGreatChecked
import GoSem.Claim
import GoSem.ClaimJoined
import GoSem.ClaimMapViews
import Derived.JoinedTies
import Derived.KernelRfl
namespace Go.Proofs.YtajhmldalehbjaaGreat
/- THE CELL 'sum', in the pinned program and in every row, IS THE sha256 OF THE DUMP (.gsa) THAT YtajhmldalehbjaaGreatProg.lean LOADS. Nothing in Lean hashes anything: it is a label: what it is worth is what the hold of that sum in a sandbox is worth. -/
noncomputable def Tryz.pinned : Pinned := { name := "ytajhmldalehbjaagreat", sum := "49c6289eb72faa70e9e8fa74d63bf63ee8044bf6d273039122a1ec553875585e", checked := Tryz.checked }
namespace Rows
def none {H : Type} : Left H := { results := [], args := [] }

/-- 'laws.FnExactInOrder': WHATEVER THE INPUT: true; the input reads as it did. -/
def fnExactInOrderSpec : ChangeSpec := { name := "fnExactInOrder", fn := fun _ => fun
  | [d] => { results := [.lit (.bool true)], args := [d] }
  | _ => none }
def fnExactInOrderRow : OpenClaim := { program := "ytajhmldalehbjaagreat", sum := "49c6289eb72faa70e9e8fa74d63bf63ee8044bf6d273039122a1ec553875585e", func := "loop.example/g00737/laws.FnExactInOrder", spec := "fnExactInOrder", inPlace := ["internal/bytealg.abigen_runtime_cmpstring", "slices.overlaps[loop.example/g00737/impl.Entry]"], unfollowed := true, recurses := true, apart := false }
def FnExactInOrderSaid : Prop := fnExactInOrderRow.holds Tryz.pinned (OpenSpec.ofChange fnExactInOrderSpec)

/-- ITS FALSE NEIGHBOUR: 'it returns false'. Refute it at one input. -/
def fnExactInOrderWrong : ChangeSpec := { name := "fnExactInOrder", fn := fun _ => fun
  | [d] => { results := [.lit (.bool false)], args := [d] }
  | _ => none }
def FnExactInOrderWrongFalsely : Prop := fnExactInOrderRow.holds Tryz.pinned (OpenSpec.ofChange fnExactInOrderWrong)

/-- 'laws.FnExactChangesOf': WHATEVER THE INPUT: true; the input reads as it did. -/
def fnExactChangesOfSpec : ChangeSpec := { name := "fnExactChangesOf", fn := fun _ => fun
  | [d1, d2, d3, d4] => { results := [.lit (.bool true)], args := [d1, d2, d3, d4] }
  | _ => none }
def fnExactChangesOfRow : OpenClaim := { program := "ytajhmldalehbjaagreat", sum := "49c6289eb72faa70e9e8fa74d63bf63ee8044bf6d273039122a1ec553875585e", func := "loop.example/g00737/laws.FnExactChangesOf", spec := "fnExactChangesOf", inPlace := ["internal/bytealg.abigen_runtime_cmpstring", "slices.overlaps[loop.example/g00737/impl.Entry]"], unfollowed := true, recurses := true, apart := false }
def FnExactChangesOfSaid : Prop := fnExactChangesOfRow.holds Tryz.pinned (OpenSpec.ofChange fnExactChangesOfSpec)

/-- ITS FALSE NEIGHBOUR: 'it returns false'. Refute it at one input. -/
def fnExactChangesOfWrong : ChangeSpec := { name := "fnExactChangesOf", fn := fun _ => fun
  | [d1, d2, d3, d4] => { results := [.lit (.bool false)], args := [d1, d2, d3, d4] }
  | _ => none }
def FnExactChangesOfWrongFalsely : Prop := fnExactChangesOfRow.holds Tryz.pinned (OpenSpec.ofChange fnExactChangesOfWrong)

/-- 'laws.FnExactNextOf': WHATEVER THE INPUT: true; the input reads as it did. -/
def fnExactNextOfSpec : ChangeSpec := { name := "fnExactNextOf", fn := fun _ => fun
  | [d1, d2] => { results := [.lit (.bool true)], args := [d1, d2] }
  | _ => none }
def fnExactNextOfRow : OpenClaim := { program := "ytajhmldalehbjaagreat", sum := "49c6289eb72faa70e9e8fa74d63bf63ee8044bf6d273039122a1ec553875585e", func := "loop.example/g00737/laws.FnExactNextOf", spec := "fnExactNextOf", inPlace := ["internal/bytealg.abigen_runtime_cmpstring", "slices.overlaps[loop.example/g00737/impl.Entry]"], unfollowed := true, recurses := true, apart := false }
def FnExactNextOfSaid : Prop := fnExactNextOfRow.holds Tryz.pinned (OpenSpec.ofChange fnExactNextOfSpec)

/-- ITS FALSE NEIGHBOUR: 'it returns false'. Refute it at one input. -/
def fnExactNextOfWrong : ChangeSpec := { name := "fnExactNextOf", fn := fun _ => fun
  | [d1, d2] => { results := [.lit (.bool false)], args := [d1, d2] }
  | _ => none }
def FnExactNextOfWrongFalsely : Prop := fnExactNextOfRow.holds Tryz.pinned (OpenSpec.ofChange fnExactNextOfWrong)

/-- 'laws.FnExactRetriesEarned': WHATEVER THE INPUT: true; the input reads as it did. -/
def fnExactRetriesEarnedSpec : ChangeSpec := { name := "fnExactRetriesEarned", fn := fun _ => fun
  | [d] => { results := [.lit (.bool true)], args := [d] }
  | _ => none }
def fnExactRetriesEarnedRow : OpenClaim := { program := "ytajhmldalehbjaagreat", sum := "49c6289eb72faa70e9e8fa74d63bf63ee8044bf6d273039122a1ec553875585e", func := "loop.example/g00737/laws.FnExactRetriesEarned", spec := "fnExactRetriesEarned", inPlace := ["internal/bytealg.abigen_runtime_cmpstring", "slices.overlaps[loop.example/g00737/impl.Entry]"], unfollowed := true, recurses := true, apart := false }
def FnExactRetriesEarnedSaid : Prop := fnExactRetriesEarnedRow.holds Tryz.pinned (OpenSpec.ofChange fnExactRetriesEarnedSpec)

/-- ITS FALSE NEIGHBOUR: 'it returns false'. Refute it at one input. -/
def fnExactRetriesEarnedWrong : ChangeSpec := { name := "fnExactRetriesEarned", fn := fun _ => fun
  | [d] => { results := [.lit (.bool false)], args := [d] }
  | _ => none }
def FnExactRetriesEarnedWrongFalsely : Prop := fnExactRetriesEarnedRow.holds Tryz.pinned (OpenSpec.ofChange fnExactRetriesEarnedWrong)

/-- 'laws.FnExactTallyOf': WHATEVER THE INPUT: true; the input reads as it did. -/
def fnExactTallyOfSpec : ChangeSpec := { name := "fnExactTallyOf", fn := fun _ => fun
  | [d] => { results := [.lit (.bool true)], args := [d] }
  | _ => none }
def fnExactTallyOfRow : OpenClaim := { program := "ytajhmldalehbjaagreat", sum := "49c6289eb72faa70e9e8fa74d63bf63ee8044bf6d273039122a1ec553875585e", func := "loop.example/g00737/laws.FnExactTallyOf", spec := "fnExactTallyOf", inPlace := ["internal/bytealg.abigen_runtime_cmpstring", "slices.overlaps[loop.example/g00737/impl.Entry]"], unfollowed := true, recurses := true, apart := false }
def FnExactTallyOfSaid : Prop := fnExactTallyOfRow.holds Tryz.pinned (OpenSpec.ofChange fnExactTallyOfSpec)

/-- ITS FALSE NEIGHBOUR: 'it returns false'. Refute it at one input. -/
def fnExactTallyOfWrong : ChangeSpec := { name := "fnExactTallyOf", fn := fun _ => fun
  | [d] => { results := [.lit (.bool false)], args := [d] }
  | _ => none }
def FnExactTallyOfWrongFalsely : Prop := fnExactTallyOfRow.holds Tryz.pinned (OpenSpec.ofChange fnExactTallyOfWrong)

/- THE SECOND FORM. 'bulk': how many values and letters a reading holds, each counted each time it is reached (what is shared counts as often as it is met; a slice's spare places count too). A statement '..UptoSaid' is the law's where the arguments, and the package variables that the reading takes, are together of bulk at most 1048576: NARROWER than '..Said'. Prove '..Said' where nothing that the law and all that it calls make is longer than what came in: it says more and counts as full. Else prove '..UptoSaid'. A law counts once. -/
mutual
def uptoBulk {H : Type} : DataW H → Nat
  | .lit (.string bytes) => bytes.length + 1
  | .lit _ => 1
  | .nil => 1
  | .ptr d => uptoBulk d + 1
  | .slice elems spare => uptoBulkAll elems + uptoBulkAll spare + 1
  | .agg parts => uptoBulkAll parts + 1
  | .iface _ d => uptoBulk d + 1
  | .map entries => uptoBulkEntries entries + 1
  | .held _ => 1
def uptoBulkAll {H : Type} : List (DataW H) → Nat
  | [] => 0
  | d :: r => uptoBulk d + uptoBulkAll r
def uptoBulkEntries {H : Type} : List (Lit × DataW H) → Nat
  | [] => 0
  | x :: r => uptoBulkEntry x + uptoBulkEntries r
def uptoBulkEntry {H : Type} : Lit × DataW H → Nat
  | (.string bytes, d) => bytes.length + uptoBulk d + 1
  | (_, d) => uptoBulk d + 1
 end
def uptoSmall : (H : Type) → List (DataW H) → Bool := fun _ ds => decide (uptoBulkAll ds ≤ 1048576)
def OpenSpec.upto (s : _root_.Go.ChangeSpec) : _root_.Go.OpenSpec := { _root_.Go.OpenSpec.ofChange s with cond := some uptoSmall }

/-- 'laws.FnExactInOrder', WHERE WHAT IT READS IS OF BULK AT MOST 1048576: true; the input reads as it did. -/
def fnExactInOrderUptoRow : OpenClaim := { program := "ytajhmldalehbjaagreat", sum := "49c6289eb72faa70e9e8fa74d63bf63ee8044bf6d273039122a1ec553875585e", func := "loop.example/g00737/laws.FnExactInOrder", spec := "fnExactInOrder", inPlace := ["internal/bytealg.abigen_runtime_cmpstring", "slices.overlaps[loop.example/g00737/impl.Entry]"], unfollowed := true, recurses := true, apart := false, narrowed := true }
def FnExactInOrderUptoSaid : Prop := fnExactInOrderUptoRow.holds Tryz.pinned (OpenSpec.upto fnExactInOrderSpec)

/-- 'laws.FnExactChangesOf', WHERE WHAT IT READS IS OF BULK AT MOST 1048576: true; the input reads as it did. -/
def fnExactChangesOfUptoRow : OpenClaim := { program := "ytajhmldalehbjaagreat", sum := "49c6289eb72faa70e9e8fa74d63bf63ee8044bf6d273039122a1ec553875585e", func := "loop.example/g00737/laws.FnExactChangesOf", spec := "fnExactChangesOf", inPlace := ["internal/bytealg.abigen_runtime_cmpstring", "slices.overlaps[loop.example/g00737/impl.Entry]"], unfollowed := true, recurses := true, apart := false, narrowed := true }
def FnExactChangesOfUptoSaid : Prop := fnExactChangesOfUptoRow.holds Tryz.pinned (OpenSpec.upto fnExactChangesOfSpec)

/-- 'laws.FnExactNextOf', WHERE WHAT IT READS IS OF BULK AT MOST 1048576: true; the input reads as it did. -/
def fnExactNextOfUptoRow : OpenClaim := { program := "ytajhmldalehbjaagreat", sum := "49c6289eb72faa70e9e8fa74d63bf63ee8044bf6d273039122a1ec553875585e", func := "loop.example/g00737/laws.FnExactNextOf", spec := "fnExactNextOf", inPlace := ["internal/bytealg.abigen_runtime_cmpstring", "slices.overlaps[loop.example/g00737/impl.Entry]"], unfollowed := true, recurses := true, apart := false, narrowed := true }
def FnExactNextOfUptoSaid : Prop := fnExactNextOfUptoRow.holds Tryz.pinned (OpenSpec.upto fnExactNextOfSpec)

/-- 'laws.FnExactRetriesEarned', WHERE WHAT IT READS IS OF BULK AT MOST 1048576: true; the input reads as it did. -/
def fnExactRetriesEarnedUptoRow : OpenClaim := { program := "ytajhmldalehbjaagreat", sum := "49c6289eb72faa70e9e8fa74d63bf63ee8044bf6d273039122a1ec553875585e", func := "loop.example/g00737/laws.FnExactRetriesEarned", spec := "fnExactRetriesEarned", inPlace := ["internal/bytealg.abigen_runtime_cmpstring", "slices.overlaps[loop.example/g00737/impl.Entry]"], unfollowed := true, recurses := true, apart := false, narrowed := true }
def FnExactRetriesEarnedUptoSaid : Prop := fnExactRetriesEarnedUptoRow.holds Tryz.pinned (OpenSpec.upto fnExactRetriesEarnedSpec)

/-- 'laws.FnExactTallyOf', WHERE WHAT IT READS IS OF BULK AT MOST 1048576: true; the input reads as it did. -/
def fnExactTallyOfUptoRow : OpenClaim := { program := "ytajhmldalehbjaagreat", sum := "49c6289eb72faa70e9e8fa74d63bf63ee8044bf6d273039122a1ec553875585e", func := "loop.example/g00737/laws.FnExactTallyOf", spec := "fnExactTallyOf", inPlace := ["internal/bytealg.abigen_runtime_cmpstring", "slices.overlaps[loop.example/g00737/impl.Entry]"], unfollowed := true, recurses := true, apart := false, narrowed := true }
def FnExactTallyOfUptoSaid : Prop := fnExactTallyOfUptoRow.holds Tryz.pinned (OpenSpec.upto fnExactTallyOfSpec)

end Rows
end Go.Proofs.YtajhmldalehbjaaGreat
