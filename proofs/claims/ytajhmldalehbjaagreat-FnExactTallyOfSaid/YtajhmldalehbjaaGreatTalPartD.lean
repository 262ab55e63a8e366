/- Merged out of smaller texts. -/
import Derived.Test.YtajhmldalehbjaaGreatTalPartC
section
set_option linter.unusedVariables false
set_option linter.unusedSimpArgs false
set_option maxRecDepth 100000
namespace Go.Vx
open Go Go.Proofs Go.Shelf Go.Lib Go.RowKit
def spec_l02Merge.E (lp : Nat) : Env := { tab := tab, fns := [(208, spec_l01Diff.S lp), (209, spec_l02Find.S lp), (199, spec_l01Apply.S lp)], ann := { own := [21, 22], ro := [] } }
def spec_l02Merge.la6 : LoopAn := { kn := { tms := [1, 8, 9, 10, 11, 12], obs := [21, 22] }, kx := { tms := [1, 10, 11], obs := [21, 22] }, kr := {} }
def spec_l02Merge.an : An := { loops := [(6, spec_l02Merge.la6)], pre := [(13, [22])] }
def spec_l02Merge.s6 (x1 : List Entry) (x8 : List Edit) (x9 : List Edit) (x12 : Int) (xo21 : List ByteArray) (xo22 : List Edit) : St := ⟨sk 1 (.v (.one (.b (.d (.sl TEntry) x1))) :: (sk 6 (.v (.one (.b (.d (.sl TEdit) x8))) :: .v (.one (.b (.d (.sl TEdit) x9))) :: .v (.one (.row 21 0)) :: .v (.one (.row 22 0)) :: .v (.one (.b (.d (.int .i64) x12))) :: (sk 53 ([]))))), sko 21 (some (.row 9 .str xo21 0) :: some (.row 226 TEdit xo22 0) :: (sko 43 ([])))⟩
def spec_l02Merge.sx6 (y : (List Entry) × (List ByteArray) × (List Edit)) : St := ⟨sk 1 (.v (.one (.b (.d (.sl TEntry) y.1))) :: (sk 8 (.v (.one (.row 21 0)) :: .v (.one (.row 22 0)) :: (sk 54 ([]))))), sko 21 (some (.row 9 .str y.2.1 0) :: some (.row 226 TEdit y.2.2 0) :: (sko 43 ([])))⟩
def spec_l02Merge.sr6 (z : Empty) : St := z.elim
def spec_l02Merge.S (lp : Nat) : Spec := { ats := [.v (.sl TEntry), .v (.sl TEntry), .v (.sl TEntry)], rts := [(.sl TEntry), (.sl .str)], F := fun x => spec_l02Merge lp x.1 x.2.1 x.2.2.1 }
theorem spec_l02Merge.t_b6 (lp : Nat) {R : Type} (N : St → Option R) (X : Out → St → Option R) (x1 : List Entry) (x8 : List Edit) (x9 : List Edit) (x12 : Int) (xo21 : List ByteArray) (xo22 : List Edit) : codeK (spec_l02Merge.E lp) spec_l02Merge.an lp (loopAt 6 (codeOf Tryz.f198)) (spec_l02Merge.s6 x1 x8 x9 x12 xo21 xo22) (lpK spec_l02Merge.la6 N X) = spec_l02Merge.b6 lp (fun x1 x8 x9 x12 xo21 xo22 => N (spec_l02Merge.s6 x1 x8 x9 x12 xo21 xo22)) (fun y => X (.exit 0) (spec_l02Merge.sx6 y)) (fun z => X .ret (spec_l02Merge.sr6 z)) x1 x8 x9 x12 xo21 xo22 := by kernel_rfl
theorem spec_l02Merge.n_b6 (lp : Nat) {R S : Type} (N : List Entry → List Edit → List Edit → Int → List ByteArray → List Edit → Option R) (X : ((List Entry) × (List ByteArray) × (List Edit)) → Option R) (Q : Empty → Option R) (x1 : List Entry) (x8 : List Edit) (x9 : List Edit) (x12 : Int) (xo21 : List ByteArray) (xo22 : List Edit) (k : R → Option S) : obind (spec_l02Merge.b6 lp N X Q x1 x8 x9 x12 xo21 xo22) k = spec_l02Merge.b6 lp (fun x1 x8 x9 x12 xo21 xo22 => obind (N x1 x8 x9 x12 xo21 xo22) k) (fun y => obind (X y) k) (fun z => obind (Q z) k) x1 x8 x9 x12 xo21 xo22 := by
  unfold spec_l02Merge.b6; simp only [obind_none, obind_some, obind_cond, obind_oif, obind_oget, obind_obind]
theorem spec_l02Merge.k6 (lp : Nat) {R : Type} (K : Out → St → Option R) : ∀ (n : Nat) (x1 : List Entry) (x8 : List Edit) (x9 : List Edit) (x12 : Int) (xo21 : List ByteArray) (xo22 : List Edit), loopK spec_l02Merge.la6 (fun σ K => codeK (spec_l02Merge.E lp) spec_l02Merge.an lp (loopAt 6 (codeOf Tryz.f198)) σ K) n (spec_l02Merge.s6 x1 x8 x9 x12 xo21 xo22) K = obind (spec_l02Merge.l6 lp n x1 x8 x9 x12 xo21 xo22) (leK 0 spec_l02Merge.sr6 spec_l02Merge.sx6 K) := by
  intro n
  induction n with
  | zero => intros; rfl
  | succ n ih =>
    intro x1 x8 x9 x12 xo21 xo22
    rw [loopK_succ, spec_l02Merge.t_b6, spec_l02Merge.l6, spec_l02Merge.n_b6]
    simp only [ih, obind_some, leK_ret, leK_brk]
theorem spec_l02Merge.t_a6 (lp : Nat) (y : (List Entry) × (List ByteArray) × (List Edit)) : kont (R := (List Entry) × (List ByteArray)) (spec_l02Merge.E lp) spec_l02Merge.an lp (finK (spec_l02Merge.E lp) Tryz.f198 [(.sl TEntry), (.sl .str)]) (stkAt 6 (codeOf Tryz.f198)) (.exit 0) (spec_l02Merge.sx6 y) = spec_l02Merge.a6 lp y := by kernel_rfl
theorem spec_l02Merge.t_e (lp : Nat) (x0 : List Entry) (x1 : List Entry) (x2 : List Entry) : evalF (spec_l02Merge.E lp) spec_l02Merge.an lp Tryz.f198 [.v (.sl TEntry), .v (.sl TEntry), .v (.sl TEntry)] [(.sl TEntry), (.sl .str)] (x0, x1, x2, ()) = spec_l02Merge.e lp (fun x1 x8 x9 x12 xo21 xo22 => loopK spec_l02Merge.la6 (fun σ K => codeK (spec_l02Merge.E lp) spec_l02Merge.an lp (loopAt 6 (codeOf Tryz.f198)) σ K) lp (spec_l02Merge.s6 x1 x8 x9 x12 xo21 xo22) (kont (spec_l02Merge.E lp) spec_l02Merge.an lp (finK (spec_l02Merge.E lp) Tryz.f198 [(.sl TEntry), (.sl .str)]) (stkAt 6 (codeOf Tryz.f198)))) x0 x1 x2 := by kernel_rfl
theorem spec_l02Merge.eq0 (lp : Nat) (x0 : List Entry) (x1 : List Entry) (x2 : List Entry) : evalF (spec_l02Merge.E lp) spec_l02Merge.an lp Tryz.f198 [.v (.sl TEntry), .v (.sl TEntry), .v (.sl TEntry)] [(.sl TEntry), (.sl .str)] (x0, x1, x2, ()) = spec_l02Merge lp x0 x1 x2 := by
  rw [spec_l02Merge.t_e]; unfold spec_l02Merge
  simp only [leK_ret0 _ spec_l02Merge.sr6 spec_l02Merge.sx6, spec_l02Merge.k6, spec_l02Merge.t_a6]
theorem spec_l02Merge.eq (lp : Nat) (x : ADens [.v (.sl TEntry), .v (.sl TEntry), .v (.sl TEntry)]) : evalF (spec_l02Merge.E lp) spec_l02Merge.an lp Tryz.f198 [.v (.sl TEntry), .v (.sl TEntry), .v (.sl TEntry)] [(.sl TEntry), (.sl .str)] x = (spec_l02Merge.S lp).F x := spec_l02Merge.eq0 lp x.1 x.2.1 x.2.2.1
theorem spec_l02Merge.ok (lp : Nat) : Sound Tryz.prog 198 (spec_l02Merge.S lp) := sound_of (E := spec_l02Merge.E lp) (env_ok tabFits tabEqs ⟨spec_l01Diff.ok lp, spec_l02Find.ok lp, spec_l01Apply.ok lp, trivial⟩ trivial) mixed Tryz.func198 (by kernel_rfl) (c := codeOf Tryz.f198) (by kernel_rfl) (by kernel_rfl) spec_l02Merge.an (fun x r h => ⟨lp, (spec_l02Merge.eq lp x).trans h⟩)
def spec_l05Join.E (lp : Nat) : Env := { tab := tab, fns := [(195, spec_l03Base.S lp), (196, spec_l05Fail.S), (198, spec_l02Merge.S lp), (197, spec_l02Told.S)], ann := { own := [], ro := [] } }
def spec_l05Join.an : An := { pre := [] }
def spec_l05Join.S (lp : Nat) : Spec := { ats := [.v (.sl TCommit), .v (.int .i64), .v (.int .i64)], rts := [.bool, (.sl TEntry), TResult], F := fun x => spec_l05Join lp x.1 x.2.1 x.2.2.1 }
theorem spec_l05Join.eq (lp : Nat) (x : ADens [.v (.sl TCommit), .v (.int .i64), .v (.int .i64)]) : evalF (spec_l05Join.E lp) spec_l05Join.an lp Tryz.f181 [.v (.sl TCommit), .v (.int .i64), .v (.int .i64)] [.bool, (.sl TEntry), TResult] x = (spec_l05Join.S lp).F x := by kernel_rfl
theorem spec_l05Join.ok (lp : Nat) : Sound Tryz.prog 181 (spec_l05Join.S lp) := sound_of (E := spec_l05Join.E lp) (env_ok tabFits tabEqs ⟨spec_l03Base.ok lp, spec_l05Fail.ok, spec_l02Merge.ok lp, spec_l02Told.ok, trivial⟩ trivial) mixed Tryz.func181 (by kernel_rfl) (c := codeOf Tryz.f181) (by kernel_rfl) (by kernel_rfl) spec_l05Join.an (fun x r h => ⟨lp, (spec_l05Join.eq lp x).trans h⟩)
def spec_l01Same.E (lp : Nat) : Env := { tab := tab, fns := [], ann := { own := [], ro := [] } }
def spec_l01Same.la4 : LoopAn := { kn := { tms := [0, 1, 5] }, kx := {}, kr := { tms := [4] } }
def spec_l01Same.an : An := { loops := [(4, spec_l01Same.la4)] }
def spec_l01Same.s4 (x0 : List Entry) (x1 : List Entry) (x5 : Int) : St := ⟨.v (.one (.b (.d (.sl TEntry) x0))) :: .v (.one (.b (.d (.sl TEntry) x1))) :: (sk 3 (.v (.one (.b (.d (.int .i64) x5))) :: (sk 20 ([])))), sko 26 ([])⟩
def spec_l01Same.sx4 (y : Unit) : St := ⟨sk 26 ([]), sko 26 ([])⟩
def spec_l01Same.sr4 (z : Bool) : St := ⟨sk 4 (.v (.one (.b (.d .bool z))) :: (sk 21 ([]))), sko 26 ([])⟩
def spec_l01Same.S (lp : Nat) : Spec := { ats := [.v (.sl TEntry), .v (.sl TEntry)], rts := [.bool], F := fun x => spec_l01Same lp x.1 x.2.1 }
theorem spec_l01Same.t_b4 (lp : Nat) {R : Type} (N : St → Option R) (X : Out → St → Option R) (x0 : List Entry) (x1 : List Entry) (x5 : Int) : codeK (spec_l01Same.E lp) spec_l01Same.an lp (loopAt 4 (codeOf Tryz.f136)) (spec_l01Same.s4 x0 x1 x5) (lpK spec_l01Same.la4 N X) = spec_l01Same.b4 lp (fun x0 x1 x5 => N (spec_l01Same.s4 x0 x1 x5)) (fun y => X (.exit 0) (spec_l01Same.sx4 y)) (fun z => X .ret (spec_l01Same.sr4 z)) x0 x1 x5 := by kernel_rfl
theorem spec_l01Same.n_b4 (lp : Nat) {R S : Type} (N : List Entry → List Entry → Int → Option R) (X : Unit → Option R) (Q : Bool → Option R) (x0 : List Entry) (x1 : List Entry) (x5 : Int) (k : R → Option S) : obind (spec_l01Same.b4 lp N X Q x0 x1 x5) k = spec_l01Same.b4 lp (fun x0 x1 x5 => obind (N x0 x1 x5) k) (fun y => obind (X y) k) (fun z => obind (Q z) k) x0 x1 x5 := by
  unfold spec_l01Same.b4; simp only [obind_none, obind_some, obind_cond, obind_oif, obind_oget, obind_obind]
theorem spec_l01Same.k4 (lp : Nat) {R : Type} (K : Out → St → Option R) : ∀ (n : Nat) (x0 : List Entry) (x1 : List Entry) (x5 : Int), loopK spec_l01Same.la4 (fun σ K => codeK (spec_l01Same.E lp) spec_l01Same.an lp (loopAt 4 (codeOf Tryz.f136)) σ K) n (spec_l01Same.s4 x0 x1 x5) K = obind (spec_l01Same.l4 lp n x0 x1 x5) (leK 0 spec_l01Same.sr4 spec_l01Same.sx4 K) := by
  intro n
  induction n with
  | zero => intros; rfl
  | succ n ih =>
    intro x0 x1 x5
    rw [loopK_succ, spec_l01Same.t_b4, spec_l01Same.l4, spec_l01Same.n_b4]
    simp only [ih, obind_some, leK_ret, leK_brk]
theorem spec_l01Same.t_a4 (lp : Nat) (y : Unit) : kont (R := Bool) (spec_l01Same.E lp) spec_l01Same.an lp (finK (spec_l01Same.E lp) Tryz.f136 [.bool]) (stkAt 4 (codeOf Tryz.f136)) (.exit 0) (spec_l01Same.sx4 y) = spec_l01Same.a4 lp y := by kernel_rfl
theorem spec_l01Same.t_q4 (lp : Nat) (z : Bool) : kont (R := Bool) (spec_l01Same.E lp) spec_l01Same.an lp (finK (spec_l01Same.E lp) Tryz.f136 [.bool]) (stkAt 4 (codeOf Tryz.f136)) .ret (spec_l01Same.sr4 z) = spec_l01Same.q4 lp z := by kernel_rfl
theorem spec_l01Same.t_e (lp : Nat) (x0 : List Entry) (x1 : List Entry) : evalF (spec_l01Same.E lp) spec_l01Same.an lp Tryz.f136 [.v (.sl TEntry), .v (.sl TEntry)] [.bool] (x0, x1, ()) = spec_l01Same.e lp (fun x0 x1 x5 => loopK spec_l01Same.la4 (fun σ K => codeK (spec_l01Same.E lp) spec_l01Same.an lp (loopAt 4 (codeOf Tryz.f136)) σ K) lp (spec_l01Same.s4 x0 x1 x5) (kont (spec_l01Same.E lp) spec_l01Same.an lp (finK (spec_l01Same.E lp) Tryz.f136 [.bool]) (stkAt 4 (codeOf Tryz.f136)))) x0 x1 := by kernel_rfl
theorem spec_l01Same.eq0 (lp : Nat) (x0 : List Entry) (x1 : List Entry) : evalF (spec_l01Same.E lp) spec_l01Same.an lp Tryz.f136 [.v (.sl TEntry), .v (.sl TEntry)] [.bool] (x0, x1, ()) = spec_l01Same lp x0 x1 := by
  rw [spec_l01Same.t_e]; unfold spec_l01Same
  simp only [leK_leF _ spec_l01Same.sr4 spec_l01Same.sx4, spec_l01Same.k4, spec_l01Same.t_a4, spec_l01Same.t_q4]
theorem spec_l01Same.eq (lp : Nat) (x : ADens [.v (.sl TEntry), .v (.sl TEntry)]) : evalF (spec_l01Same.E lp) spec_l01Same.an lp Tryz.f136 [.v (.sl TEntry), .v (.sl TEntry)] [.bool] x = (spec_l01Same.S lp).F x := spec_l01Same.eq0 lp x.1 x.2.1
theorem spec_l01Same.ok (lp : Nat) : Sound Tryz.prog 136 (spec_l01Same.S lp) := sound_of (E := spec_l01Same.E lp) (env_ok tabFits tabEqs trivial trivial) mixed Tryz.func136 (by kernel_rfl) (c := codeOf Tryz.f136) (by kernel_rfl) (by kernel_rfl) spec_l01Same.an (fun x r h => ⟨lp, (spec_l01Same.eq lp x).trans h⟩)
def spec_l05Plan.E (lp : Nat) : Env := { tab := tab, fns := [(199, spec_l01Apply.S lp), (196, spec_l05Fail.S), (198, spec_l02Merge.S lp), (197, spec_l02Told.S), (136, spec_l01Same.S lp)], ann := { own := [], ro := [] } }
def spec_l05Plan.an : An := { pre := [] }
def spec_l05Plan.S (lp : Nat) : Spec := { ats := [.v (.sl TCommit), .v (.int .i64), .v (.int .i64), .v (.sl TEdit)], rts := [(.sl TEntry), TResult], F := fun x => spec_l05Plan lp x.1 x.2.1 x.2.2.1 x.2.2.2.1 }
theorem spec_l05Plan.eq (lp : Nat) (x : ADens [.v (.sl TCommit), .v (.int .i64), .v (.int .i64), .v (.sl TEdit)]) : evalF (spec_l05Plan.E lp) spec_l05Plan.an lp Tryz.f182 [.v (.sl TCommit), .v (.int .i64), .v (.int .i64), .v (.sl TEdit)] [(.sl TEntry), TResult] x = (spec_l05Plan.S lp).F x := by kernel_rfl
theorem spec_l05Plan.ok (lp : Nat) : Sound Tryz.prog 182 (spec_l05Plan.S lp) := sound_of (E := spec_l05Plan.E lp) (env_ok tabFits tabEqs ⟨spec_l01Apply.ok lp, spec_l05Fail.ok, spec_l02Merge.ok lp, spec_l02Told.ok, spec_l01Same.ok lp, trivial⟩ trivial) mixed Tryz.func182 (by kernel_rfl) (c := codeOf Tryz.f182) (by kernel_rfl) (by kernel_rfl) spec_l05Plan.an (fun x r h => ⟨lp, (spec_l05Plan.eq lp x).trans h⟩)
def spec_l07Plan.E (lp : Nat) : Env := { tab := tab, fns := [(181, spec_l05Join.S lp), (182, spec_l05Plan.S lp)], ann := { own := [], ro := [5] } }
def spec_l07Plan.an : An := { pre := [] }
def spec_l07Plan.S (lp : Nat) : Spec := { ats := [.v (.sl TCommit), .v TWish, .v (.int .i64), .v (.int .i64)], rts := [.bool, (.sl TEntry), TResult], F := fun x => spec_l07Plan lp x.1 x.2.1 x.2.2.1 x.2.2.2.1 }
theorem spec_l07Plan.eq (lp : Nat) (x : ADens [.v (.sl TCommit), .v TWish, .v (.int .i64), .v (.int .i64)]) : evalF (spec_l07Plan.E lp) spec_l07Plan.an lp Tryz.f134 [.v (.sl TCommit), .v TWish, .v (.int .i64), .v (.int .i64)] [.bool, (.sl TEntry), TResult] x = (spec_l07Plan.S lp).F x := by kernel_rfl
theorem spec_l07Plan.ok (lp : Nat) : Sound Tryz.prog 134 (spec_l07Plan.S lp) := sound_of (E := spec_l07Plan.E lp) (env_ok tabFits tabEqs ⟨spec_l05Join.ok lp, spec_l05Plan.ok lp, trivial⟩ trivial) mixed Tryz.func134 (by kernel_rfl) (c := codeOf Tryz.f134) (by kernel_rfl) (by kernel_rfl) spec_l07Plan.an (fun x r h => ⟨lp, (spec_l07Plan.eq lp x).trans h⟩)
def spec_l07Fast.E : Env := { tab := tab, fns := [], ann := { own := [], ro := [1] } }
def spec_l07Fast.an : An := { pre := [] }
def spec_l07Fast.S : Spec := { ats := [.v TClient], rts := [.bool], F := fun x => spec_l07Fast x.1 }
theorem spec_l07Fast.eq (lp : Nat) (x : ADens [.v TClient]) : evalF (spec_l07Fast.E) spec_l07Fast.an lp Tryz.f135 [.v TClient] [.bool] x = (spec_l07Fast.S).F x := by kernel_rfl
theorem spec_l07Fast.ok : Sound Tryz.prog 135 (spec_l07Fast.S) := sound_of (E := spec_l07Fast.E) (env_ok tabFits tabEqs trivial trivial) mixed Tryz.func135 (by kernel_rfl) (c := codeOf Tryz.f135) (by kernel_rfl) (by kernel_rfl) spec_l07Fast.an (fun x r h => ⟨0, (spec_l07Fast.eq 0 x).trans h⟩)
def spec_l07Phase.E (lp : Nat) : Env := { tab := tab, fns := [(39, spec_l01In.S), (134, spec_l07Plan.S lp), (135, spec_l07Fast.S), (136, spec_l01Same.S lp)], ann := { own := [], ro := [2, 3] } }
def spec_l07Phase.an : An := { pre := [] }
def spec_l07Phase.S (lp : Nat) : Spec := { ats := [.v TBase, .v TClient], rts := [.bool], F := fun x => spec_l07Phase lp x.1 x.2.1 }
theorem spec_l07Phase.eq (lp : Nat) (x : ADens [.v TBase, .v TClient]) : evalF (spec_l07Phase.E lp) spec_l07Phase.an lp Tryz.f88 [.v TBase, .v TClient] [.bool] x = (spec_l07Phase.S lp).F x := by kernel_rfl
theorem spec_l07Phase.ok (lp : Nat) : Sound Tryz.prog 88 (spec_l07Phase.S lp) := sound_of (E := spec_l07Phase.E lp) (env_ok tabFits tabEqs ⟨spec_l01In.ok, spec_l07Plan.ok lp, spec_l07Fast.ok, spec_l01Same.ok lp, trivial⟩ trivial) mixed Tryz.func88 (by kernel_rfl) (c := codeOf Tryz.f88) (by kernel_rfl) (by kernel_rfl) spec_l07Phase.an (fun x r h => ⟨lp, (spec_l07Phase.eq lp x).trans h⟩)
def spec_l07OK.E (lp : Nat) : Env := { tab := tab, fns := [(87, spec_l07Wishes.S lp), (39, spec_l01In.S), (88, spec_l07Phase.S lp)], ann := { own := [], ro := [2, 3] } }
def spec_l07OK.an : An := { pre := [] }
def spec_l07OK.S (lp : Nat) : Spec := { ats := [.v TBase, .v TClient], rts := [.bool], F := fun x => spec_l07OK lp x.1 x.2.1 }
theorem spec_l07OK.eq (lp : Nat) (x : ADens [.v TBase, .v TClient]) : evalF (spec_l07OK.E lp) spec_l07OK.an lp Tryz.f51 [.v TBase, .v TClient] [.bool] x = (spec_l07OK.S lp).F x := by kernel_rfl
theorem spec_l07OK.ok (lp : Nat) : Sound Tryz.prog 51 (spec_l07OK.S lp) := sound_of (E := spec_l07OK.E lp) (env_ok tabFits tabEqs ⟨spec_l07Wishes.ok lp, spec_l01In.ok, spec_l07Phase.ok lp, trivial⟩ trivial) mixed Tryz.func51 (by kernel_rfl) (c := codeOf Tryz.f51) (by kernel_rfl) (by kernel_rfl) spec_l07OK.an (fun x r h => ⟨lp, (spec_l07OK.eq lp x).trans h⟩)
def spec_l06Events.E (lp : Nat) : Env := { tab := tab, fns := [(39, spec_l01In.S)], ann := { own := [], ro := [] } }
def spec_l06Events.la2 : LoopAn := { kn := { tms := [0, 3] }, kx := {}, kr := { tms := [2] } }
def spec_l06Events.an : An := { loops := [(2, spec_l06Events.la2)] }
def spec_l06Events.s2 (x0 : List Event) (x3 : Int) : St := ⟨.v (.one (.b (.d (.sl TEvent) x0))) :: (sk 2 (.v (.one (.b (.d (.int .i64) x3))) :: (sk 57 ([])))), sko 61 ([])⟩
def spec_l06Events.sx2 (y : Unit) : St := ⟨sk 61 ([]), sko 61 ([])⟩
def spec_l06Events.sr2 (z : Bool) : St := ⟨sk 2 (.v (.one (.b (.d .bool z))) :: (sk 58 ([]))), sko 61 ([])⟩
def spec_l06Events.S (lp : Nat) : Spec := { ats := [.v (.sl TEvent)], rts := [.bool], F := fun x => spec_l06Events lp x.1 }
theorem spec_l06Events.t_b2 (lp : Nat) {R : Type} (N : St → Option R) (X : Out → St → Option R) (x0 : List Event) (x3 : Int) : codeK (spec_l06Events.E lp) spec_l06Events.an lp (loopAt 2 (codeOf Tryz.f90)) (spec_l06Events.s2 x0 x3) (lpK spec_l06Events.la2 N X) = spec_l06Events.b2 lp (fun x0 x3 => N (spec_l06Events.s2 x0 x3)) (fun y => X (.exit 0) (spec_l06Events.sx2 y)) (fun z => X .ret (spec_l06Events.sr2 z)) x0 x3 := by kernel_rfl
theorem spec_l06Events.n_b2 (lp : Nat) {R S : Type} (N : List Event → Int → Option R) (X : Unit → Option R) (Q : Bool → Option R) (x0 : List Event) (x3 : Int) (k : R → Option S) : obind (spec_l06Events.b2 lp N X Q x0 x3) k = spec_l06Events.b2 lp (fun x0 x3 => obind (N x0 x3) k) (fun y => obind (X y) k) (fun z => obind (Q z) k) x0 x3 := by
  unfold spec_l06Events.b2; simp only [obind_none, obind_some, obind_cond, obind_oif, obind_oget, obind_obind]
theorem spec_l06Events.k2 (lp : Nat) {R : Type} (K : Out → St → Option R) : ∀ (n : Nat) (x0 : List Event) (x3 : Int), loopK spec_l06Events.la2 (fun σ K => codeK (spec_l06Events.E lp) spec_l06Events.an lp (loopAt 2 (codeOf Tryz.f90)) σ K) n (spec_l06Events.s2 x0 x3) K = obind (spec_l06Events.l2 lp n x0 x3) (leK 0 spec_l06Events.sr2 spec_l06Events.sx2 K) := by
  intro n
  induction n with
  | zero => intros; rfl
  | succ n ih =>
    intro x0 x3
    rw [loopK_succ, spec_l06Events.t_b2, spec_l06Events.l2, spec_l06Events.n_b2]
    simp only [ih, obind_some, leK_ret, leK_brk]
theorem spec_l06Events.t_a2 (lp : Nat) (y : Unit) : kont (R := Bool) (spec_l06Events.E lp) spec_l06Events.an lp (finK (spec_l06Events.E lp) Tryz.f90 [.bool]) (stkAt 2 (codeOf Tryz.f90)) (.exit 0) (spec_l06Events.sx2 y) = spec_l06Events.a2 lp y := by kernel_rfl
theorem spec_l06Events.t_q2 (lp : Nat) (z : Bool) : kont (R := Bool) (spec_l06Events.E lp) spec_l06Events.an lp (finK (spec_l06Events.E lp) Tryz.f90 [.bool]) (stkAt 2 (codeOf Tryz.f90)) .ret (spec_l06Events.sr2 z) = spec_l06Events.q2 lp z := by kernel_rfl
theorem spec_l06Events.t_e (lp : Nat) (x0 : List Event) : evalF (spec_l06Events.E lp) spec_l06Events.an lp Tryz.f90 [.v (.sl TEvent)] [.bool] (x0, ()) = spec_l06Events.e lp (fun x0 x3 => loopK spec_l06Events.la2 (fun σ K => codeK (spec_l06Events.E lp) spec_l06Events.an lp (loopAt 2 (codeOf Tryz.f90)) σ K) lp (spec_l06Events.s2 x0 x3) (kont (spec_l06Events.E lp) spec_l06Events.an lp (finK (spec_l06Events.E lp) Tryz.f90 [.bool]) (stkAt 2 (codeOf Tryz.f90)))) x0 := by kernel_rfl
theorem spec_l06Events.eq0 (lp : Nat) (x0 : List Event) : evalF (spec_l06Events.E lp) spec_l06Events.an lp Tryz.f90 [.v (.sl TEvent)] [.bool] (x0, ()) = spec_l06Events lp x0 := by
  rw [spec_l06Events.t_e]; unfold spec_l06Events
  simp only [leK_leF _ spec_l06Events.sr2 spec_l06Events.sx2, spec_l06Events.k2, spec_l06Events.t_a2, spec_l06Events.t_q2]
theorem spec_l06Events.eq (lp : Nat) (x : ADens [.v (.sl TEvent)]) : evalF (spec_l06Events.E lp) spec_l06Events.an lp Tryz.f90 [.v (.sl TEvent)] [.bool] x = (spec_l06Events.S lp).F x := spec_l06Events.eq0 lp x.1
theorem spec_l06Events.ok (lp : Nat) : Sound Tryz.prog 90 (spec_l06Events.S lp) := sound_of (E := spec_l06Events.E lp) (env_ok tabFits tabEqs ⟨spec_l01In.ok, trivial⟩ trivial) mixed Tryz.func90 (by kernel_rfl) (c := codeOf Tryz.f90) (by kernel_rfl) (by kernel_rfl) spec_l06Events.an (fun x r h => ⟨lp, (spec_l06Events.eq lp x).trans h⟩)
def spec_l06OK.E (lp : Nat) : Env := { tab := tab, fns := [(89, spec_l00Word.S lp), (39, spec_l01In.S), (90, spec_l06Events.S lp)], ann := { own := [], ro := [1] } }
def spec_l06OK.la5 : LoopAn := { kn := { tms := [1, 3, 4] }, kx := {}, kr := { tms := [2] } }
def spec_l06OK.an : An := { loops := [(5, spec_l06OK.la5)] }
def spec_l06OK.s5 (x1_0 : ByteArray) (x1_1 : Int) (x1_2 : List Event) (x3 : Int) (x4 : Int) : St := ⟨sk 1 (.v (.one (.rdp [.d .str x1_0, .d (.int .i64) x1_1, .d (.sl TEvent) x1_2])) :: (sk 1 (.v (.one (.b (.d (.int .i64) x3))) :: .v (.one (.b (.d (.int .i64) x4))) :: (sk 50 ([]))))), sko 55 ([])⟩
def spec_l06OK.sx5 (y : Unit) : St := ⟨sk 55 ([]), sko 55 ([])⟩
def spec_l06OK.sr5 (z : Bool) : St := ⟨sk 2 (.v (.one (.b (.d .bool z))) :: (sk 52 ([]))), sko 55 ([])⟩
def spec_l06OK.S (lp : Nat) : Spec := { ats := [.v TWatch], rts := [.bool], F := fun x => spec_l06OK lp x.1 }
theorem spec_l06OK.t_b5 (lp : Nat) {R : Type} (N : St → Option R) (X : Out → St → Option R) (x1_0 : ByteArray) (x1_1 : Int) (x1_2 : List Event) (x3 : Int) (x4 : Int) : codeK (spec_l06OK.E lp) spec_l06OK.an lp (loopAt 5 (codeOf Tryz.f52)) (spec_l06OK.s5 x1_0 x1_1 x1_2 x3 x4) (lpK spec_l06OK.la5 N X) = spec_l06OK.b5 lp (fun x1_0 x1_1 x1_2 x3 x4 => N (spec_l06OK.s5 x1_0 x1_1 x1_2 x3 x4)) (fun y => X (.exit 0) (spec_l06OK.sx5 y)) (fun z => X .ret (spec_l06OK.sr5 z)) x1_0 x1_1 x1_2 x3 x4 := by kernel_rfl
theorem spec_l06OK.n_b5 (lp : Nat) {R S : Type} (N : ByteArray → Int → List Event → Int → Int → Option R) (X : Unit → Option R) (Q : Bool → Option R) (x1_0 : ByteArray) (x1_1 : Int) (x1_2 : List Event) (x3 : Int) (x4 : Int) (k : R → Option S) : obind (spec_l06OK.b5 lp N X Q x1_0 x1_1 x1_2 x3 x4) k = spec_l06OK.b5 lp (fun x1_0 x1_1 x1_2 x3 x4 => obind (N x1_0 x1_1 x1_2 x3 x4) k) (fun y => obind (X y) k) (fun z => obind (Q z) k) x1_0 x1_1 x1_2 x3 x4 := by
  unfold spec_l06OK.b5; simp only [obind_none, obind_some, obind_cond, obind_oif, obind_oget, obind_obind]
theorem spec_l06OK.k5 (lp : Nat) {R : Type} (K : Out → St → Option R) : ∀ (n : Nat) (x1_0 : ByteArray) (x1_1 : Int) (x1_2 : List Event) (x3 : Int) (x4 : Int), loopK spec_l06OK.la5 (fun σ K => codeK (spec_l06OK.E lp) spec_l06OK.an lp (loopAt 5 (codeOf Tryz.f52)) σ K) n (spec_l06OK.s5 x1_0 x1_1 x1_2 x3 x4) K = obind (spec_l06OK.l5 lp n x1_0 x1_1 x1_2 x3 x4) (leK 0 spec_l06OK.sr5 spec_l06OK.sx5 K) := by
  intro n
  induction n with
  | zero => intros; rfl
  | succ n ih =>
    intro x1_0 x1_1 x1_2 x3 x4
    rw [loopK_succ, spec_l06OK.t_b5, spec_l06OK.l5, spec_l06OK.n_b5]
    simp only [ih, obind_some, leK_ret, leK_brk]
theorem spec_l06OK.t_a5 (lp : Nat) (y : Unit) : kont (R := Bool) (spec_l06OK.E lp) spec_l06OK.an lp (finK (spec_l06OK.E lp) Tryz.f52 [.bool]) (stkAt 5 (codeOf Tryz.f52)) (.exit 0) (spec_l06OK.sx5 y) = spec_l06OK.a5 lp y := by kernel_rfl
theorem spec_l06OK.t_q5 (lp : Nat) (z : Bool) : kont (R := Bool) (spec_l06OK.E lp) spec_l06OK.an lp (finK (spec_l06OK.E lp) Tryz.f52 [.bool]) (stkAt 5 (codeOf Tryz.f52)) .ret (spec_l06OK.sr5 z) = spec_l06OK.q5 lp z := by kernel_rfl
theorem spec_l06OK.t_e (lp : Nat) (x0 : Watch) : evalF (spec_l06OK.E lp) spec_l06OK.an lp Tryz.f52 [.v TWatch] [.bool] (x0, ()) = spec_l06OK.e lp (fun x1_0 x1_1 x1_2 x3 x4 => loopK spec_l06OK.la5 (fun σ K => codeK (spec_l06OK.E lp) spec_l06OK.an lp (loopAt 5 (codeOf Tryz.f52)) σ K) lp (spec_l06OK.s5 x1_0 x1_1 x1_2 x3 x4) (kont (spec_l06OK.E lp) spec_l06OK.an lp (finK (spec_l06OK.E lp) Tryz.f52 [.bool]) (stkAt 5 (codeOf Tryz.f52)))) x0 := by kernel_rfl
theorem spec_l06OK.eq0 (lp : Nat) (x0 : Watch) : evalF (spec_l06OK.E lp) spec_l06OK.an lp Tryz.f52 [.v TWatch] [.bool] (x0, ()) = spec_l06OK lp x0 := by
  rw [spec_l06OK.t_e]; unfold spec_l06OK
  simp only [leK_leF _ spec_l06OK.sr5 spec_l06OK.sx5, spec_l06OK.k5, spec_l06OK.t_a5, spec_l06OK.t_q5]
theorem spec_l06OK.eq (lp : Nat) (x : ADens [.v TWatch]) : evalF (spec_l06OK.E lp) spec_l06OK.an lp Tryz.f52 [.v TWatch] [.bool] x = (spec_l06OK.S lp).F x := spec_l06OK.eq0 lp x.1
theorem spec_l06OK.ok (lp : Nat) : Sound Tryz.prog 52 (spec_l06OK.S lp) := sound_of (E := spec_l06OK.E lp) (env_ok tabFits tabEqs ⟨spec_l00Word.ok lp, spec_l01In.ok, spec_l06Events.ok lp, trivial⟩ trivial) mixed Tryz.func52 (by kernel_rfl) (c := codeOf Tryz.f52) (by kernel_rfl) (by kernel_rfl) spec_l06OK.an (fun x r h => ⟨lp, (spec_l06OK.eq lp x).trans h⟩)
def spec_l06New.E (lp : Nat) : Env := { tab := tab, fns := [(91, spec_l04At.S lp)], ann := { own := [], ro := [] } }
def spec_l06New.an : An := { pre := [] }
def spec_l06New.S (lp : Nat) : Spec := { ats := [.v (.sl TRef), .v .str], rts := [TWatch], F := fun x => spec_l06New lp x.1 x.2.1 }
theorem spec_l06New.eq (lp : Nat) (x : ADens [.v (.sl TRef), .v .str]) : evalF (spec_l06New.E lp) spec_l06New.an lp Tryz.f53 [.v (.sl TRef), .v .str] [TWatch] x = (spec_l06New.S lp).F x := by kernel_rfl
theorem spec_l06New.ok (lp : Nat) : Sound Tryz.prog 53 (spec_l06New.S lp) := sound_of (E := spec_l06New.E lp) (env_ok tabFits tabEqs ⟨spec_l04At.ok lp, trivial⟩ trivial) mixed Tryz.func53 (by kernel_rfl) (c := codeOf Tryz.f53) (by kernel_rfl) (by kernel_rfl) spec_l06New.an (fun x r h => ⟨lp, (spec_l06New.eq lp x).trans h⟩)
def spec_l05Op.E (lp : Nat) : Env := { tab := tab, fns := [(89, spec_l00Word.S lp), (39, spec_l01In.S), (139, spec_l01Edits.S lp)], ann := { own := [], ro := [1] } }
def spec_l05Op.an : An := { pre := [] }
def spec_l05Op.S (lp : Nat) : Spec := { ats := [.v TOp], rts := [.bool], F := fun x => spec_l05Op lp x.1 }
theorem spec_l05Op.eq (lp : Nat) (x : ADens [.v TOp]) : evalF (spec_l05Op.E lp) spec_l05Op.an lp Tryz.f92 [.v TOp] [.bool] x = (spec_l05Op.S lp).F x := by kernel_rfl
theorem spec_l05Op.ok (lp : Nat) : Sound Tryz.prog 92 (spec_l05Op.S lp) := sound_of (E := spec_l05Op.E lp) (env_ok tabFits tabEqs ⟨spec_l00Word.ok lp, spec_l01In.ok, spec_l01Edits.ok lp, trivial⟩ trivial) mixed Tryz.func92 (by kernel_rfl) (c := codeOf Tryz.f92) (by kernel_rfl) (by kernel_rfl) spec_l05Op.an (fun x r h => ⟨lp, (spec_l05Op.eq lp x).trans h⟩)
def spec_l08Moment.E (lp : Nat) : Env := { tab := tab, fns := [(39, spec_l01In.S), (93, spec_l01OK.S lp), (92, spec_l05Op.S lp)], ann := { own := [], ro := [2, 3] } }
def spec_l08Moment.an : An := { pre := [] }
def spec_l08Moment.S (lp : Nat) : Spec := { ats := [.v TWorld, .v TMoment], rts := [.bool], F := fun x => spec_l08Moment lp x.1 x.2.1 }
theorem spec_l08Moment.eq (lp : Nat) (x : ADens [.v TWorld, .v TMoment]) : evalF (spec_l08Moment.E lp) spec_l08Moment.an lp Tryz.f54 [.v TWorld, .v TMoment] [.bool] x = (spec_l08Moment.S lp).F x := by kernel_rfl
theorem spec_l08Moment.ok (lp : Nat) : Sound Tryz.prog 54 (spec_l08Moment.S lp) := sound_of (E := spec_l08Moment.E lp) (env_ok tabFits tabEqs ⟨spec_l01In.ok, spec_l01OK.ok lp, spec_l05Op.ok lp, trivial⟩ trivial) mixed Tryz.func54 (by kernel_rfl) (c := codeOf Tryz.f54) (by kernel_rfl) (by kernel_rfl) spec_l08Moment.an (fun x r h => ⟨lp, (spec_l08Moment.eq lp x).trans h⟩)
def spec_l08OK.E (lp : Nat) : Env := { tab := tab, fns := [(50, spec_l05OK.S lp), (39, spec_l01In.S), (51, spec_l07OK.S lp), (52, spec_l06OK.S lp), (53, spec_l06New.S lp), (54, spec_l08Moment.S lp)], ann := { own := [], ro := [1] } }
def spec_l08OK.la5 : LoopAn := { kn := { tms := [1, 3, 4] }, kx := { tms := [1, 3] }, kr := { tms := [2] } }
def spec_l08OK.la11 : LoopAn := { kn := { tms := [1, 3, 5] }, kx := { tms := [1, 3] }, kr := { tms := [2] } }
def spec_l08OK.la19 : LoopAn := { kn := { tms := [1, 7] }, kx := {}, kr := { tms := [2] } }
def spec_l08OK.an : An := { loops := [(5, spec_l08OK.la5), (11, spec_l08OK.la11), (19, spec_l08OK.la19)] }
def spec_l08OK.s5 (x1_0 : List Commit) (x1_1 : List Ref) (x1_2 : List Client) (x1_3 : List Watch) (x1_4 : List Moment) (x1_5 : Int) (x3 : Int) (x4 : Int) : St := ⟨sk 1 (.v (.one (.rdp [.d (.sl TCommit) x1_0, .d (.sl TRef) x1_1, .d (.sl TClient) x1_2, .d (.sl TWatch) x1_3, .d (.sl TMoment) x1_4, .d (.int .i64) x1_5])) :: (sk 1 (.v (.one (.b (.d (.int .i64) x3))) :: .v (.one (.b (.d (.int .i64) x4))) :: (sk 116 ([]))))), sko 121 ([])⟩
def spec_l08OK.sx5 (y : (List Commit) × (List Ref) × (List Client) × (List Watch) × (List Moment) × Int × Int) : St := ⟨sk 1 (.v (.one (.rdp [.d (.sl TCommit) y.1, .d (.sl TRef) y.2.1, .d (.sl TClient) y.2.2.1, .d (.sl TWatch) y.2.2.2.1, .d (.sl TMoment) y.2.2.2.2.1, .d (.int .i64) y.2.2.2.2.2.1])) :: (sk 1 (.v (.one (.b (.d (.int .i64) y.2.2.2.2.2.2))) :: (sk 117 ([]))))), sko 121 ([])⟩
def spec_l08OK.sr5 (z : Bool) : St := ⟨sk 2 (.v (.one (.b (.d .bool z))) :: (sk 118 ([]))), sko 121 ([])⟩
def spec_l08OK.s11 (x1_0 : List Commit) (x1_1 : List Ref) (x1_2 : List Client) (x1_3 : List Watch) (x1_4 : List Moment) (x1_5 : Int) (x3 : Int) (x5 : Int) : St := ⟨sk 1 (.v (.one (.rdp [.d (.sl TCommit) x1_0, .d (.sl TRef) x1_1, .d (.sl TClient) x1_2, .d (.sl TWatch) x1_3, .d (.sl TMoment) x1_4, .d (.int .i64) x1_5])) :: (sk 1 (.v (.one (.b (.d (.int .i64) x3))) :: (sk 1 (.v (.one (.b (.d (.int .i64) x5))) :: (sk 115 ([]))))))), sko 121 ([])⟩
def spec_l08OK.sx11 (y : (List Commit) × (List Ref) × (List Client) × (List Watch) × (List Moment) × Int × Int) : St := ⟨sk 1 (.v (.one (.rdp [.d (.sl TCommit) y.1, .d (.sl TRef) y.2.1, .d (.sl TClient) y.2.2.1, .d (.sl TWatch) y.2.2.2.1, .d (.sl TMoment) y.2.2.2.2.1, .d (.int .i64) y.2.2.2.2.2.1])) :: (sk 1 (.v (.one (.b (.d (.int .i64) y.2.2.2.2.2.2))) :: (sk 117 ([]))))), sko 121 ([])⟩
def spec_l08OK.sr11 (z : Bool) : St := ⟨sk 2 (.v (.one (.b (.d .bool z))) :: (sk 118 ([]))), sko 121 ([])⟩
def spec_l08OK.s19 (x1_0 : List Commit) (x1_1 : List Ref) (x1_2 : List Client) (x1_3 : List Watch) (x1_4 : List Moment) (x1_5 : Int) (x7 : Int) : St := ⟨sk 1 (.v (.one (.rdp [.d (.sl TCommit) x1_0, .d (.sl TRef) x1_1, .d (.sl TClient) x1_2, .d (.sl TWatch) x1_3, .d (.sl TMoment) x1_4, .d (.int .i64) x1_5])) :: (sk 5 (.v (.one (.b (.d (.int .i64) x7))) :: (sk 113 ([]))))), sko 121 ([])⟩
def spec_l08OK.sx19 (y : Unit) : St := ⟨sk 121 ([]), sko 121 ([])⟩
def spec_l08OK.sr19 (z : Bool) : St := ⟨sk 2 (.v (.one (.b (.d .bool z))) :: (sk 118 ([]))), sko 121 ([])⟩
def spec_l08OK.S (lp : Nat) : Spec := { ats := [.v TWorld], rts := [.bool], F := fun x => spec_l08OK lp x.1 }
theorem spec_l08OK.t_b19 (lp : Nat) {R : Type} (N : St → Option R) (X : Out → St → Option R) (x1_0 : List Commit) (x1_1 : List Ref) (x1_2 : List Client) (x1_3 : List Watch) (x1_4 : List Moment) (x1_5 : Int) (x7 : Int) : codeK (spec_l08OK.E lp) spec_l08OK.an lp (loopAt 19 (codeOf Tryz.f26)) (spec_l08OK.s19 x1_0 x1_1 x1_2 x1_3 x1_4 x1_5 x7) (lpK spec_l08OK.la19 N X) = spec_l08OK.b19 lp (fun x1_0 x1_1 x1_2 x1_3 x1_4 x1_5 x7 => N (spec_l08OK.s19 x1_0 x1_1 x1_2 x1_3 x1_4 x1_5 x7)) (fun y => X (.exit 4) (spec_l08OK.sx19 y)) (fun z => X .ret (spec_l08OK.sr19 z)) x1_0 x1_1 x1_2 x1_3 x1_4 x1_5 x7 := by kernel_rfl
theorem spec_l08OK.n_b19 (lp : Nat) {R S : Type} (N : List Commit → List Ref → List Client → List Watch → List Moment → Int → Int → Option R) (X : Unit → Option R) (Q : Bool → Option R) (x1_0 : List Commit) (x1_1 : List Ref) (x1_2 : List Client) (x1_3 : List Watch) (x1_4 : List Moment) (x1_5 : Int) (x7 : Int) (k : R → Option S) : obind (spec_l08OK.b19 lp N X Q x1_0 x1_1 x1_2 x1_3 x1_4 x1_5 x7) k = spec_l08OK.b19 lp (fun x1_0 x1_1 x1_2 x1_3 x1_4 x1_5 x7 => obind (N x1_0 x1_1 x1_2 x1_3 x1_4 x1_5 x7) k) (fun y => obind (X y) k) (fun z => obind (Q z) k) x1_0 x1_1 x1_2 x1_3 x1_4 x1_5 x7 := by
  unfold spec_l08OK.b19; simp only [obind_none, obind_some, obind_cond, obind_oif, obind_oget, obind_obind]
theorem spec_l08OK.k19 (lp : Nat) {R : Type} (K : Out → St → Option R) : ∀ (n : Nat) (x1_0 : List Commit) (x1_1 : List Ref) (x1_2 : List Client) (x1_3 : List Watch) (x1_4 : List Moment) (x1_5 : Int) (x7 : Int), loopK spec_l08OK.la19 (fun σ K => codeK (spec_l08OK.E lp) spec_l08OK.an lp (loopAt 19 (codeOf Tryz.f26)) σ K) n (spec_l08OK.s19 x1_0 x1_1 x1_2 x1_3 x1_4 x1_5 x7) K = obind (spec_l08OK.l19 lp n x1_0 x1_1 x1_2 x1_3 x1_4 x1_5 x7) (leK 4 spec_l08OK.sr19 spec_l08OK.sx19 K) := by
  intro n
  induction n with
  | zero => intros; rfl
  | succ n ih =>
    intro x1_0 x1_1 x1_2 x1_3 x1_4 x1_5 x7
    rw [loopK_succ, spec_l08OK.t_b19, spec_l08OK.l19, spec_l08OK.n_b19]
    simp only [ih, obind_some, leK_ret, leK_brk]
theorem spec_l08OK.t_b11 (lp : Nat) {R : Type} (N : St → Option R) (X : Out → St → Option R) (x1_0 : List Commit) (x1_1 : List Ref) (x1_2 : List Client) (x1_3 : List Watch) (x1_4 : List Moment) (x1_5 : Int) (x3 : Int) (x5 : Int) : codeK (spec_l08OK.E lp) spec_l08OK.an lp (loopAt 11 (codeOf Tryz.f26)) (spec_l08OK.s11 x1_0 x1_1 x1_2 x1_3 x1_4 x1_5 x3 x5) (lpK spec_l08OK.la11 N X) = spec_l08OK.b11 lp (fun x1_0 x1_1 x1_2 x1_3 x1_4 x1_5 x3 x5 => N (spec_l08OK.s11 x1_0 x1_1 x1_2 x1_3 x1_4 x1_5 x3 x5)) (fun y => X (.exit 2) (spec_l08OK.sx11 y)) (fun z => X .ret (spec_l08OK.sr11 z)) x1_0 x1_1 x1_2 x1_3 x1_4 x1_5 x3 x5 := by kernel_rfl
theorem spec_l08OK.n_b11 (lp : Nat) {R S : Type} (N : List Commit → List Ref → List Client → List Watch → List Moment → Int → Int → Int → Option R) (X : ((List Commit) × (List Ref) × (List Client) × (List Watch) × (List Moment) × Int × Int) → Option R) (Q : Bool → Option R) (x1_0 : List Commit) (x1_1 : List Ref) (x1_2 : List Client) (x1_3 : List Watch) (x1_4 : List Moment) (x1_5 : Int) (x3 : Int) (x5 : Int) (k : R → Option S) : obind (spec_l08OK.b11 lp N X Q x1_0 x1_1 x1_2 x1_3 x1_4 x1_5 x3 x5) k = spec_l08OK.b11 lp (fun x1_0 x1_1 x1_2 x1_3 x1_4 x1_5 x3 x5 => obind (N x1_0 x1_1 x1_2 x1_3 x1_4 x1_5 x3 x5) k) (fun y => obind (X y) k) (fun z => obind (Q z) k) x1_0 x1_1 x1_2 x1_3 x1_4 x1_5 x3 x5 := by
  unfold spec_l08OK.b11; simp only [obind_none, obind_some, obind_cond, obind_oif, obind_oget, obind_obind]
theorem spec_l08OK.k11 (lp : Nat) {R : Type} (K : Out → St → Option R) : ∀ (n : Nat) (x1_0 : List Commit) (x1_1 : List Ref) (x1_2 : List Client) (x1_3 : List Watch) (x1_4 : List Moment) (x1_5 : Int) (x3 : Int) (x5 : Int), loopK spec_l08OK.la11 (fun σ K => codeK (spec_l08OK.E lp) spec_l08OK.an lp (loopAt 11 (codeOf Tryz.f26)) σ K) n (spec_l08OK.s11 x1_0 x1_1 x1_2 x1_3 x1_4 x1_5 x3 x5) K = obind (spec_l08OK.l11 lp n x1_0 x1_1 x1_2 x1_3 x1_4 x1_5 x3 x5) (leK 2 spec_l08OK.sr11 spec_l08OK.sx11 K) := by
  intro n
  induction n with
  | zero => intros; rfl
  | succ n ih =>
    intro x1_0 x1_1 x1_2 x1_3 x1_4 x1_5 x3 x5
    rw [loopK_succ, spec_l08OK.t_b11, spec_l08OK.l11, spec_l08OK.n_b11]
    simp only [ih, obind_some, leK_ret, leK_brk]
theorem spec_l08OK.t_b5 (lp : Nat) {R : Type} (N : St → Option R) (X : Out → St → Option R) (x1_0 : List Commit) (x1_1 : List Ref) (x1_2 : List Client) (x1_3 : List Watch) (x1_4 : List Moment) (x1_5 : Int) (x3 : Int) (x4 : Int) : codeK (spec_l08OK.E lp) spec_l08OK.an lp (loopAt 5 (codeOf Tryz.f26)) (spec_l08OK.s5 x1_0 x1_1 x1_2 x1_3 x1_4 x1_5 x3 x4) (lpK spec_l08OK.la5 N X) = spec_l08OK.b5 lp (fun x1_0 x1_1 x1_2 x1_3 x1_4 x1_5 x3 x4 => N (spec_l08OK.s5 x1_0 x1_1 x1_2 x1_3 x1_4 x1_5 x3 x4)) (fun y => X (.exit 0) (spec_l08OK.sx5 y)) (fun z => X .ret (spec_l08OK.sr5 z)) x1_0 x1_1 x1_2 x1_3 x1_4 x1_5 x3 x4 := by kernel_rfl
theorem spec_l08OK.n_b5 (lp : Nat) {R S : Type} (N : List Commit → List Ref → List Client → List Watch → List Moment → Int → Int → Int → Option R) (X : ((List Commit) × (List Ref) × (List Client) × (List Watch) × (List Moment) × Int × Int) → Option R) (Q : Bool → Option R) (x1_0 : List Commit) (x1_1 : List Ref) (x1_2 : List Client) (x1_3 : List Watch) (x1_4 : List Moment) (x1_5 : Int) (x3 : Int) (x4 : Int) (k : R → Option S) : obind (spec_l08OK.b5 lp N X Q x1_0 x1_1 x1_2 x1_3 x1_4 x1_5 x3 x4) k = spec_l08OK.b5 lp (fun x1_0 x1_1 x1_2 x1_3 x1_4 x1_5 x3 x4 => obind (N x1_0 x1_1 x1_2 x1_3 x1_4 x1_5 x3 x4) k) (fun y => obind (X y) k) (fun z => obind (Q z) k) x1_0 x1_1 x1_2 x1_3 x1_4 x1_5 x3 x4 := by
  unfold spec_l08OK.b5; simp only [obind_none, obind_some, obind_cond, obind_oif, obind_oget, obind_obind]
theorem spec_l08OK.k5 (lp : Nat) {R : Type} (K : Out → St → Option R) : ∀ (n : Nat) (x1_0 : List Commit) (x1_1 : List Ref) (x1_2 : List Client) (x1_3 : List Watch) (x1_4 : List Moment) (x1_5 : Int) (x3 : Int) (x4 : Int), loopK spec_l08OK.la5 (fun σ K => codeK (spec_l08OK.E lp) spec_l08OK.an lp (loopAt 5 (codeOf Tryz.f26)) σ K) n (spec_l08OK.s5 x1_0 x1_1 x1_2 x1_3 x1_4 x1_5 x3 x4) K = obind (spec_l08OK.l5 lp n x1_0 x1_1 x1_2 x1_3 x1_4 x1_5 x3 x4) (leK 0 spec_l08OK.sr5 spec_l08OK.sx5 K) := by
  intro n
  induction n with
  | zero => intros; rfl
  | succ n ih =>
    intro x1_0 x1_1 x1_2 x1_3 x1_4 x1_5 x3 x4
    rw [loopK_succ, spec_l08OK.t_b5, spec_l08OK.l5, spec_l08OK.n_b5]
    simp only [ih, obind_some, leK_ret, leK_brk]
theorem spec_l08OK.t_a19 (lp : Nat) (y : Unit) : kont (R := Bool) (spec_l08OK.E lp) spec_l08OK.an lp (finK (spec_l08OK.E lp) Tryz.f26 [.bool]) (stkAt 19 (codeOf Tryz.f26)) (.exit 4) (spec_l08OK.sx19 y) = spec_l08OK.a19 lp y := by kernel_rfl
theorem spec_l08OK.t_q19 (lp : Nat) (z : Bool) : kont (R := Bool) (spec_l08OK.E lp) spec_l08OK.an lp (finK (spec_l08OK.E lp) Tryz.f26 [.bool]) (stkAt 19 (codeOf Tryz.f26)) .ret (spec_l08OK.sr19 z) = spec_l08OK.q19 lp z := by kernel_rfl
theorem spec_l08OK.t_a11 (lp : Nat) (y : (List Commit) × (List Ref) × (List Client) × (List Watch) × (List Moment) × Int × Int) : kont (R := Bool) (spec_l08OK.E lp) spec_l08OK.an lp (finK (spec_l08OK.E lp) Tryz.f26 [.bool]) (stkAt 11 (codeOf Tryz.f26)) (.exit 2) (spec_l08OK.sx11 y) = spec_l08OK.a11 lp (fun x1_0 x1_1 x1_2 x1_3 x1_4 x1_5 x7 => loopK spec_l08OK.la19 (fun σ K => codeK (spec_l08OK.E lp) spec_l08OK.an lp (loopAt 19 (codeOf Tryz.f26)) σ K) lp (spec_l08OK.s19 x1_0 x1_1 x1_2 x1_3 x1_4 x1_5 x7) (kont (spec_l08OK.E lp) spec_l08OK.an lp (finK (spec_l08OK.E lp) Tryz.f26 [.bool]) (stkAt 19 (codeOf Tryz.f26)))) y := by kernel_rfl
theorem spec_l08OK.t_q11 (lp : Nat) (z : Bool) : kont (R := Bool) (spec_l08OK.E lp) spec_l08OK.an lp (finK (spec_l08OK.E lp) Tryz.f26 [.bool]) (stkAt 11 (codeOf Tryz.f26)) .ret (spec_l08OK.sr11 z) = spec_l08OK.q11 lp z := by kernel_rfl
theorem spec_l08OK.t_a5 (lp : Nat) (y : (List Commit) × (List Ref) × (List Client) × (List Watch) × (List Moment) × Int × Int) : kont (R := Bool) (spec_l08OK.E lp) spec_l08OK.an lp (finK (spec_l08OK.E lp) Tryz.f26 [.bool]) (stkAt 5 (codeOf Tryz.f26)) (.exit 0) (spec_l08OK.sx5 y) = spec_l08OK.a5 lp (fun x1_0 x1_1 x1_2 x1_3 x1_4 x1_5 x3 x5 => loopK spec_l08OK.la11 (fun σ K => codeK (spec_l08OK.E lp) spec_l08OK.an lp (loopAt 11 (codeOf Tryz.f26)) σ K) lp (spec_l08OK.s11 x1_0 x1_1 x1_2 x1_3 x1_4 x1_5 x3 x5) (kont (spec_l08OK.E lp) spec_l08OK.an lp (finK (spec_l08OK.E lp) Tryz.f26 [.bool]) (stkAt 11 (codeOf Tryz.f26)))) y := by kernel_rfl
theorem spec_l08OK.t_q5 (lp : Nat) (z : Bool) : kont (R := Bool) (spec_l08OK.E lp) spec_l08OK.an lp (finK (spec_l08OK.E lp) Tryz.f26 [.bool]) (stkAt 5 (codeOf Tryz.f26)) .ret (spec_l08OK.sr5 z) = spec_l08OK.q5 lp z := by kernel_rfl
theorem spec_l08OK.t_e (lp : Nat) (x0 : World) : evalF (spec_l08OK.E lp) spec_l08OK.an lp Tryz.f26 [.v TWorld] [.bool] (x0, ()) = spec_l08OK.e lp (fun x1_0 x1_1 x1_2 x1_3 x1_4 x1_5 x3 x4 => loopK spec_l08OK.la5 (fun σ K => codeK (spec_l08OK.E lp) spec_l08OK.an lp (loopAt 5 (codeOf Tryz.f26)) σ K) lp (spec_l08OK.s5 x1_0 x1_1 x1_2 x1_3 x1_4 x1_5 x3 x4) (kont (spec_l08OK.E lp) spec_l08OK.an lp (finK (spec_l08OK.E lp) Tryz.f26 [.bool]) (stkAt 5 (codeOf Tryz.f26)))) x0 := by kernel_rfl
theorem spec_l08OK.eq0 (lp : Nat) (x0 : World) : evalF (spec_l08OK.E lp) spec_l08OK.an lp Tryz.f26 [.v TWorld] [.bool] (x0, ()) = spec_l08OK lp x0 := by
  rw [spec_l08OK.t_e]; unfold spec_l08OK
  simp only [leK_leF _ spec_l08OK.sr5 spec_l08OK.sx5, leK_leF _ spec_l08OK.sr11 spec_l08OK.sx11, leK_leF _ spec_l08OK.sr19 spec_l08OK.sx19, spec_l08OK.k5, spec_l08OK.k11, spec_l08OK.k19, spec_l08OK.t_a19, spec_l08OK.t_q19, spec_l08OK.t_a11, spec_l08OK.t_q11, spec_l08OK.t_a5, spec_l08OK.t_q5]
theorem spec_l08OK.eq (lp : Nat) (x : ADens [.v TWorld]) : evalF (spec_l08OK.E lp) spec_l08OK.an lp Tryz.f26 [.v TWorld] [.bool] x = (spec_l08OK.S lp).F x := spec_l08OK.eq0 lp x.1
theorem spec_l08OK.ok (lp : Nat) : Sound Tryz.prog 26 (spec_l08OK.S lp) := sound_of (E := spec_l08OK.E lp) (env_ok tabFits tabEqs ⟨spec_l05OK.ok lp, spec_l01In.ok, spec_l07OK.ok lp, spec_l06OK.ok lp, spec_l06New.ok lp, spec_l08Moment.ok lp, trivial⟩ trivial) mixed Tryz.func26 (by kernel_rfl) (c := codeOf Tryz.f26) (by kernel_rfl) (by kernel_rfl) spec_l08OK.an (fun x r h => ⟨lp, (spec_l08OK.eq lp x).trans h⟩)
def spec_TallyOf.E (lp : Nat) : Env := { tab := tab, fns := [(26, spec_l08OK.S lp)], ann := { own := [], ro := [1] } }
def spec_TallyOf.la5 : LoopAn := { kn := { tms := [1, 2, 4, 5], obs := [2, 4] }, kx := { tms := [2, 4], obs := [2, 4] }, kr := {} }
def spec_TallyOf.an : An := { loops := [(5, spec_TallyOf.la5)] }
def spec_TallyOf.s5 (x1_0 : List Commit) (x1_1 : List Ref) (x1_2 : List Client) (x1_3 : List Watch) (x1_4 : List Moment) (x1_5 : Int) (x5 : Int) (xb2_0 : Int) (xb2_1 : Int) (xb2_2 : Int) (xb2_3 : Int) (xb2_4 : Int) (xb2_5 : Int) (xb4_0 : Int) (xb4_1 : Int) (xb4_2 : Int) (xb4_3 : Int) (xb4_4 : Int) (xb4_5 : Int) : St := ⟨sk 1 (.v (.one (.rdp [.d (.sl TCommit) x1_0, .d (.sl TRef) x1_1, .d (.sl TClient) x1_2, .d (.sl TWatch) x1_3, .d (.sl TMoment) x1_4, .d (.int .i64) x1_5])) :: .v (.one (.ptr 2 0)) :: (sk 1 (.v (.one (.ptr 4 0)) :: .v (.one (.b (.d (.int .i64) x5))) :: (sk 51 ([]))))), sko 2 (some (.box [.b (.d (.int .i64) xb2_0), .b (.d (.int .i64) xb2_1), .b (.d (.int .i64) xb2_2), .b (.d (.int .i64) xb2_3), .b (.d (.int .i64) xb2_4), .b (.d (.int .i64) xb2_5)]) :: (sko 1 (some (.box [.b (.d (.int .i64) xb4_0), .b (.d (.int .i64) xb4_1), .b (.d (.int .i64) xb4_2), .b (.d (.int .i64) xb4_3), .b (.d (.int .i64) xb4_4), .b (.d (.int .i64) xb4_5)]) :: (sko 52 ([])))))⟩
def spec_TallyOf.sx5 (y : Int × Int × Int × Int × Int × Int × Int × Int × Int × Int × Int × Int) : St := ⟨sk 2 (.v (.one (.ptr 2 0)) :: (sk 1 (.v (.one (.ptr 4 0)) :: (sk 52 ([]))))), sko 2 (some (.box [.b (.d (.int .i64) y.1), .b (.d (.int .i64) y.2.1), .b (.d (.int .i64) y.2.2.1), .b (.d (.int .i64) y.2.2.2.1), .b (.d (.int .i64) y.2.2.2.2.1), .b (.d (.int .i64) y.2.2.2.2.2.1)]) :: (sko 1 (some (.box [.b (.d (.int .i64) y.2.2.2.2.2.2.1), .b (.d (.int .i64) y.2.2.2.2.2.2.2.1), .b (.d (.int .i64) y.2.2.2.2.2.2.2.2.1), .b (.d (.int .i64) y.2.2.2.2.2.2.2.2.2.1), .b (.d (.int .i64) y.2.2.2.2.2.2.2.2.2.2.1), .b (.d (.int .i64) y.2.2.2.2.2.2.2.2.2.2.2)]) :: (sko 52 ([])))))⟩
def spec_TallyOf.sr5 (z : Empty) : St := z.elim
def spec_TallyOf.S (lp : Nat) : Spec := { ats := [.v TWorld], rts := [TTally, (.int .i64)], F := fun x => spec_TallyOf lp x.1 }
theorem spec_TallyOf.t_b5 (lp : Nat) {R : Type} (N : St → Option R) (X : Out → St → Option R) (x1_0 : List Commit) (x1_1 : List Ref) (x1_2 : List Client) (x1_3 : List Watch) (x1_4 : List Moment) (x1_5 : Int) (x5 : Int) (xb2_0 : Int) (xb2_1 : Int) (xb2_2 : Int) (xb2_3 : Int) (xb2_4 : Int) (xb2_5 : Int) (xb4_0 : Int) (xb4_1 : Int) (xb4_2 : Int) (xb4_3 : Int) (xb4_4 : Int) (xb4_5 : Int) : codeK (spec_TallyOf.E lp) spec_TallyOf.an lp (loopAt 5 (codeOf Tryz.f19)) (spec_TallyOf.s5 x1_0 x1_1 x1_2 x1_3 x1_4 x1_5 x5 xb2_0 xb2_1 xb2_2 xb2_3 xb2_4 xb2_5 xb4_0 xb4_1 xb4_2 xb4_3 xb4_4 xb4_5) (lpK spec_TallyOf.la5 N X) = spec_TallyOf.b5 lp (fun x1_0 x1_1 x1_2 x1_3 x1_4 x1_5 x5 xb2_0 xb2_1 xb2_2 xb2_3 xb2_4 xb2_5 xb4_0 xb4_1 xb4_2 xb4_3 xb4_4 xb4_5 => N (spec_TallyOf.s5 x1_0 x1_1 x1_2 x1_3 x1_4 x1_5 x5 xb2_0 xb2_1 xb2_2 xb2_3 xb2_4 xb2_5 xb4_0 xb4_1 xb4_2 xb4_3 xb4_4 xb4_5)) (fun y => X (.exit 0) (spec_TallyOf.sx5 y)) (fun z => X .ret (spec_TallyOf.sr5 z)) x1_0 x1_1 x1_2 x1_3 x1_4 x1_5 x5 xb2_0 xb2_1 xb2_2 xb2_3 xb2_4 xb2_5 xb4_0 xb4_1 xb4_2 xb4_3 xb4_4 xb4_5 := by kernel_rfl
theorem spec_TallyOf.n_b5 (lp : Nat) {R S : Type} (N : List Commit → List Ref → List Client → List Watch → List Moment → Int → Int → Int → Int → Int → Int → Int → Int → Int → Int → Int → Int → Int → Int → Option R) (X : (Int × Int × Int × Int × Int × Int × Int × Int × Int × Int × Int × Int) → Option R) (Q : Empty → Option R) (x1_0 : List Commit) (x1_1 : List Ref) (x1_2 : List Client) (x1_3 : List Watch) (x1_4 : List Moment) (x1_5 : Int) (x5 : Int) (xb2_0 : Int) (xb2_1 : Int) (xb2_2 : Int) (xb2_3 : Int) (xb2_4 : Int) (xb2_5 : Int) (xb4_0 : Int) (xb4_1 : Int) (xb4_2 : Int) (xb4_3 : Int) (xb4_4 : Int) (xb4_5 : Int) (k : R → Option S) : obind (spec_TallyOf.b5 lp N X Q x1_0 x1_1 x1_2 x1_3 x1_4 x1_5 x5 xb2_0 xb2_1 xb2_2 xb2_3 xb2_4 xb2_5 xb4_0 xb4_1 xb4_2 xb4_3 xb4_4 xb4_5) k = spec_TallyOf.b5 lp (fun x1_0 x1_1 x1_2 x1_3 x1_4 x1_5 x5 xb2_0 xb2_1 xb2_2 xb2_3 xb2_4 xb2_5 xb4_0 xb4_1 xb4_2 xb4_3 xb4_4 xb4_5 => obind (N x1_0 x1_1 x1_2 x1_3 x1_4 x1_5 x5 xb2_0 xb2_1 xb2_2 xb2_3 xb2_4 xb2_5 xb4_0 xb4_1 xb4_2 xb4_3 xb4_4 xb4_5) k) (fun y => obind (X y) k) (fun z => obind (Q z) k) x1_0 x1_1 x1_2 x1_3 x1_4 x1_5 x5 xb2_0 xb2_1 xb2_2 xb2_3 xb2_4 xb2_5 xb4_0 xb4_1 xb4_2 xb4_3 xb4_4 xb4_5 := by
  unfold spec_TallyOf.b5; simp only [obind_none, obind_some, obind_cond, obind_oif, obind_oget, obind_obind]
theorem spec_TallyOf.k5 (lp : Nat) {R : Type} (K : Out → St → Option R) : ∀ (n : Nat) (x1_0 : List Commit) (x1_1 : List Ref) (x1_2 : List Client) (x1_3 : List Watch) (x1_4 : List Moment) (x1_5 : Int) (x5 : Int) (xb2_0 : Int) (xb2_1 : Int) (xb2_2 : Int) (xb2_3 : Int) (xb2_4 : Int) (xb2_5 : Int) (xb4_0 : Int) (xb4_1 : Int) (xb4_2 : Int) (xb4_3 : Int) (xb4_4 : Int) (xb4_5 : Int), loopK spec_TallyOf.la5 (fun σ K => codeK (spec_TallyOf.E lp) spec_TallyOf.an lp (loopAt 5 (codeOf Tryz.f19)) σ K) n (spec_TallyOf.s5 x1_0 x1_1 x1_2 x1_3 x1_4 x1_5 x5 xb2_0 xb2_1 xb2_2 xb2_3 xb2_4 xb2_5 xb4_0 xb4_1 xb4_2 xb4_3 xb4_4 xb4_5) K = obind (spec_TallyOf.l5 lp n x1_0 x1_1 x1_2 x1_3 x1_4 x1_5 x5 xb2_0 xb2_1 xb2_2 xb2_3 xb2_4 xb2_5 xb4_0 xb4_1 xb4_2 xb4_3 xb4_4 xb4_5) (leK 0 spec_TallyOf.sr5 spec_TallyOf.sx5 K) := by
  intro n
  induction n with
  | zero => intros; rfl
  | succ n ih =>
    intro x1_0 x1_1 x1_2 x1_3 x1_4 x1_5 x5 xb2_0 xb2_1 xb2_2 xb2_3 xb2_4 xb2_5 xb4_0 xb4_1 xb4_2 xb4_3 xb4_4 xb4_5
    rw [loopK_succ, spec_TallyOf.t_b5, spec_TallyOf.l5, spec_TallyOf.n_b5]
    simp only [ih, obind_some, leK_ret, leK_brk]
theorem spec_TallyOf.t_a5 (lp : Nat) (y : Int × Int × Int × Int × Int × Int × Int × Int × Int × Int × Int × Int) : kont (R := Tally × Int) (spec_TallyOf.E lp) spec_TallyOf.an lp (finK (spec_TallyOf.E lp) Tryz.f19 [TTally, (.int .i64)]) (stkAt 5 (codeOf Tryz.f19)) (.exit 0) (spec_TallyOf.sx5 y) = spec_TallyOf.a5 lp y := by kernel_rfl
theorem spec_TallyOf.t_e (lp : Nat) (x0 : World) : evalF (spec_TallyOf.E lp) spec_TallyOf.an lp Tryz.f19 [.v TWorld] [TTally, (.int .i64)] (x0, ()) = spec_TallyOf.e lp (fun x1_0 x1_1 x1_2 x1_3 x1_4 x1_5 x5 xb2_0 xb2_1 xb2_2 xb2_3 xb2_4 xb2_5 xb4_0 xb4_1 xb4_2 xb4_3 xb4_4 xb4_5 => loopK spec_TallyOf.la5 (fun σ K => codeK (spec_TallyOf.E lp) spec_TallyOf.an lp (loopAt 5 (codeOf Tryz.f19)) σ K) lp (spec_TallyOf.s5 x1_0 x1_1 x1_2 x1_3 x1_4 x1_5 x5 xb2_0 xb2_1 xb2_2 xb2_3 xb2_4 xb2_5 xb4_0 xb4_1 xb4_2 xb4_3 xb4_4 xb4_5) (kont (spec_TallyOf.E lp) spec_TallyOf.an lp (finK (spec_TallyOf.E lp) Tryz.f19 [TTally, (.int .i64)]) (stkAt 5 (codeOf Tryz.f19)))) x0 := by kernel_rfl
theorem spec_TallyOf.eq0 (lp : Nat) (x0 : World) : evalF (spec_TallyOf.E lp) spec_TallyOf.an lp Tryz.f19 [.v TWorld] [TTally, (.int .i64)] (x0, ()) = spec_TallyOf lp x0 := by
  rw [spec_TallyOf.t_e]; unfold spec_TallyOf
  simp only [leK_ret0 _ spec_TallyOf.sr5 spec_TallyOf.sx5, spec_TallyOf.k5, spec_TallyOf.t_a5]
theorem spec_TallyOf.eq (lp : Nat) (x : ADens [.v TWorld]) : evalF (spec_TallyOf.E lp) spec_TallyOf.an lp Tryz.f19 [.v TWorld] [TTally, (.int .i64)] x = (spec_TallyOf.S lp).F x := spec_TallyOf.eq0 lp x.1
theorem spec_TallyOf.ok (lp : Nat) : Sound Tryz.prog 19 (spec_TallyOf.S lp) := sound_of (E := spec_TallyOf.E lp) (env_ok tabFits tabEqs ⟨spec_l08OK.ok lp, trivial⟩ trivial) mixed Tryz.func19 (by kernel_rfl) (c := codeOf Tryz.f19) (by kernel_rfl) (by kernel_rfl) spec_TallyOf.an (fun x r h => ⟨lp, (spec_TallyOf.eq lp x).trans h⟩)
def impl_isList_Commit.E : Env := { tab := tab, fns := [], ann := { own := [], ro := [] } }
def impl_isList_Commit.an : An := { pre := [] }
def impl_isList_Commit.S : Spec := { ats := [.v (.sl TCommit)], rts := [.bool], F := fun x => impl_isList_Commit x.1 }
theorem impl_isList_Commit.eq (lp : Nat) (x : ADens [.v (.sl TCommit)]) : evalF (impl_isList_Commit.E) impl_isList_Commit.an lp Tryz.f146 [.v (.sl TCommit)] [.bool] x = (impl_isList_Commit.S).F x := by kernel_rfl
theorem impl_isList_Commit.ok : Sound Tryz.prog 146 (impl_isList_Commit.S) := sound_of (E := impl_isList_Commit.E) (env_ok tabFits tabEqs trivial trivial) mixed Tryz.func146 (by kernel_rfl) (c := codeOf Tryz.f146) (by kernel_rfl) (by kernel_rfl) impl_isList_Commit.an (fun x r h => ⟨0, (impl_isList_Commit.eq 0 x).trans h⟩)
def impl_within.E : Env := { tab := tab, fns := [], ann := { own := [], ro := [] } }
def impl_within.an : An := { pre := [] }
def impl_within.S : Spec := { ats := [.v (.int .i64), .v (.int .i64), .v (.int .i64)], rts := [.bool], F := fun x => impl_within x.1 x.2.1 x.2.2.1 }
theorem impl_within.eq (lp : Nat) (x : ADens [.v (.int .i64), .v (.int .i64), .v (.int .i64)]) : evalF (impl_within.E) impl_within.an lp Tryz.f61 [.v (.int .i64), .v (.int .i64), .v (.int .i64)] [.bool] x = (impl_within.S).F x := by kernel_rfl
theorem impl_within.ok : Sound Tryz.prog 61 (impl_within.S) := sound_of (E := impl_within.E) (env_ok tabFits tabEqs trivial trivial) mixed Tryz.func61 (by kernel_rfl) (c := codeOf Tryz.f61) (by kernel_rfl) (by kernel_rfl) impl_within.an (fun x r h => ⟨0, (impl_within.eq 0 x).trans h⟩)
def impl_isLetter.E : Env := { tab := tab, fns := [], ann := { own := [], ro := [] } }
def impl_isLetter.an : An := { pre := [] }
def impl_isLetter.S : Spec := { ats := [.v (.int .u8)], rts := [.bool], F := fun x => impl_isLetter x.1 }
theorem impl_isLetter.eq (lp : Nat) (x : ADens [.v (.int .u8)]) : evalF (impl_isLetter.E) impl_isLetter.an lp Tryz.f165 [.v (.int .u8)] [.bool] x = (impl_isLetter.S).F x := by kernel_rfl
theorem impl_isLetter.ok : Sound Tryz.prog 165 (impl_isLetter.S) := sound_of (E := impl_isLetter.E) (env_ok tabFits tabEqs trivial trivial) mixed Tryz.func165 (by kernel_rfl) (c := codeOf Tryz.f165) (by kernel_rfl) (by kernel_rfl) impl_isLetter.an (fun x r h => ⟨0, (impl_isLetter.eq 0 x).trans h⟩)
def slices_IndexFunc_byte.E (lp : Nat) : Env := { tab := tab, fns := [], ann := { own := [], ro := [] } }
def slices_IndexFunc_byte.la2 : LoopAn := { kn := { tms := [0, 1, 7, 8] }, kx := {}, kr := { tms := [4] } }
def slices_IndexFunc_byte.an : An := { loops := [(2, slices_IndexFunc_byte.la2)] }
def slices_IndexFunc_byte.s2 (x0 : List Int) (x1 : (Int × Unit) → Option Bool) (x7 : Int) (x8 : Int) : St := ⟨.v (.one (.b (.d (.sl (.int .u8)) x0))) :: .v (.one (.b (.cl (.pair (.int .u8) .unit) .bool x1))) :: (sk 5 (.v (.one (.b (.d (.int .i64) x7))) :: .v (.one (.b (.d (.int .i64) x8))) :: (sk 10 ([])))), sko 19 ([])⟩
def slices_IndexFunc_byte.sx2 (y : Unit) : St := ⟨sk 19 ([]), sko 19 ([])⟩
def slices_IndexFunc_byte.sr2 (z : Int) : St := ⟨sk 4 (.v (.one (.b (.d (.int .i64) z))) :: (sk 14 ([]))), sko 19 ([])⟩
def slices_IndexFunc_byte.S (lp : Nat) : Spec := { ats := [.v (.sl (.int .u8)), .clo (.pair (.int .u8) .unit) .bool], rts := [(.int .i64)], F := fun x => slices_IndexFunc_byte lp x.1 x.2.1 }
theorem slices_IndexFunc_byte.t_b2 (lp : Nat) {R : Type} (N : St → Option R) (X : Out → St → Option R) (x0 : List Int) (x1 : (Int × Unit) → Option Bool) (x7 : Int) (x8 : Int) : codeK (slices_IndexFunc_byte.E lp) slices_IndexFunc_byte.an lp (loopAt 2 (codeOf Tryz.f206)) (slices_IndexFunc_byte.s2 x0 x1 x7 x8) (lpK slices_IndexFunc_byte.la2 N X) = slices_IndexFunc_byte.b2 lp (fun x0 x1 x7 x8 => N (slices_IndexFunc_byte.s2 x0 x1 x7 x8)) (fun y => X (.exit 0) (slices_IndexFunc_byte.sx2 y)) (fun z => X .ret (slices_IndexFunc_byte.sr2 z)) x0 x1 x7 x8 := by kernel_rfl
theorem slices_IndexFunc_byte.n_b2 (lp : Nat) {R S : Type} (N : List Int → ((Int × Unit) → Option Bool) → Int → Int → Option R) (X : Unit → Option R) (Q : Int → Option R) (x0 : List Int) (x1 : (Int × Unit) → Option Bool) (x7 : Int) (x8 : Int) (k : R → Option S) : obind (slices_IndexFunc_byte.b2 lp N X Q x0 x1 x7 x8) k = slices_IndexFunc_byte.b2 lp (fun x0 x1 x7 x8 => obind (N x0 x1 x7 x8) k) (fun y => obind (X y) k) (fun z => obind (Q z) k) x0 x1 x7 x8 := by
  unfold slices_IndexFunc_byte.b2; simp only [obind_none, obind_some, obind_cond, obind_oif, obind_oget, obind_obind]
theorem slices_IndexFunc_byte.k2 (lp : Nat) {R : Type} (K : Out → St → Option R) : ∀ (n : Nat) (x0 : List Int) (x1 : (Int × Unit) → Option Bool) (x7 : Int) (x8 : Int), loopK slices_IndexFunc_byte.la2 (fun σ K => codeK (slices_IndexFunc_byte.E lp) slices_IndexFunc_byte.an lp (loopAt 2 (codeOf Tryz.f206)) σ K) n (slices_IndexFunc_byte.s2 x0 x1 x7 x8) K = obind (slices_IndexFunc_byte.l2 lp n x0 x1 x7 x8) (leK 0 slices_IndexFunc_byte.sr2 slices_IndexFunc_byte.sx2 K) := by
  intro n
  induction n with
  | zero => intros; rfl
  | succ n ih =>
    intro x0 x1 x7 x8
    rw [loopK_succ, slices_IndexFunc_byte.t_b2, slices_IndexFunc_byte.l2, slices_IndexFunc_byte.n_b2]
    simp only [ih, obind_some, leK_ret, leK_brk]
theorem slices_IndexFunc_byte.t_a2 (lp : Nat) (y : Unit) : kont (R := Int) (slices_IndexFunc_byte.E lp) slices_IndexFunc_byte.an lp (finK (slices_IndexFunc_byte.E lp) Tryz.f206 [(.int .i64)]) (stkAt 2 (codeOf Tryz.f206)) (.exit 0) (slices_IndexFunc_byte.sx2 y) = slices_IndexFunc_byte.a2 lp y := by kernel_rfl
theorem slices_IndexFunc_byte.t_q2 (lp : Nat) (z : Int) : kont (R := Int) (slices_IndexFunc_byte.E lp) slices_IndexFunc_byte.an lp (finK (slices_IndexFunc_byte.E lp) Tryz.f206 [(.int .i64)]) (stkAt 2 (codeOf Tryz.f206)) .ret (slices_IndexFunc_byte.sr2 z) = slices_IndexFunc_byte.q2 lp z := by kernel_rfl
theorem slices_IndexFunc_byte.t_e (lp : Nat) (x0 : List Int) (x1 : (Int × Unit) → Option Bool) : evalF (slices_IndexFunc_byte.E lp) slices_IndexFunc_byte.an lp Tryz.f206 [.v (.sl (.int .u8)), .clo (.pair (.int .u8) .unit) .bool] [(.int .i64)] (x0, x1, ()) = slices_IndexFunc_byte.e lp (fun x0 x1 x7 x8 => loopK slices_IndexFunc_byte.la2 (fun σ K => codeK (slices_IndexFunc_byte.E lp) slices_IndexFunc_byte.an lp (loopAt 2 (codeOf Tryz.f206)) σ K) lp (slices_IndexFunc_byte.s2 x0 x1 x7 x8) (kont (slices_IndexFunc_byte.E lp) slices_IndexFunc_byte.an lp (finK (slices_IndexFunc_byte.E lp) Tryz.f206 [(.int .i64)]) (stkAt 2 (codeOf Tryz.f206)))) x0 x1 := by kernel_rfl
theorem slices_IndexFunc_byte.eq0 (lp : Nat) (x0 : List Int) (x1 : (Int × Unit) → Option Bool) : evalF (slices_IndexFunc_byte.E lp) slices_IndexFunc_byte.an lp Tryz.f206 [.v (.sl (.int .u8)), .clo (.pair (.int .u8) .unit) .bool] [(.int .i64)] (x0, x1, ()) = slices_IndexFunc_byte lp x0 x1 := by
  rw [slices_IndexFunc_byte.t_e]; unfold slices_IndexFunc_byte
  simp only [leK_leF _ slices_IndexFunc_byte.sr2 slices_IndexFunc_byte.sx2, slices_IndexFunc_byte.k2, slices_IndexFunc_byte.t_a2, slices_IndexFunc_byte.t_q2]
theorem slices_IndexFunc_byte.eq (lp : Nat) (x : ADens [.v (.sl (.int .u8)), .clo (.pair (.int .u8) .unit) .bool]) : evalF (slices_IndexFunc_byte.E lp) slices_IndexFunc_byte.an lp Tryz.f206 [.v (.sl (.int .u8)), .clo (.pair (.int .u8) .unit) .bool] [(.int .i64)] x = (slices_IndexFunc_byte.S lp).F x := slices_IndexFunc_byte.eq0 lp x.1 x.2.1
theorem slices_IndexFunc_byte.ok (lp : Nat) : Sound Tryz.prog 206 (slices_IndexFunc_byte.S lp) := sound_of (E := slices_IndexFunc_byte.E lp) (env_ok tabFits tabEqs trivial trivial) mixed Tryz.func206 (by kernel_rfl) (c := codeOf Tryz.f206) (by kernel_rfl) (by kernel_rfl) slices_IndexFunc_byte.an (fun x r h => ⟨lp, (slices_IndexFunc_byte.eq lp x).trans h⟩)
def slices_ContainsFunc_byte.E (lp : Nat) : Env := { tab := tab, fns := [(206, slices_IndexFunc_byte.S lp)], ann := { own := [], ro := [] } }
def slices_ContainsFunc_byte.an : An := { pre := [] }
def slices_ContainsFunc_byte.S (lp : Nat) : Spec := { ats := [.v (.sl (.int .u8)), .clo (.pair (.int .u8) .unit) .bool], rts := [.bool], F := fun x => slices_ContainsFunc_byte lp x.1 x.2.1 }
theorem slices_ContainsFunc_byte.eq (lp : Nat) (x : ADens [.v (.sl (.int .u8)), .clo (.pair (.int .u8) .unit) .bool]) : evalF (slices_ContainsFunc_byte.E lp) slices_ContainsFunc_byte.an lp Tryz.f191 [.v (.sl (.int .u8)), .clo (.pair (.int .u8) .unit) .bool] [.bool] x = (slices_ContainsFunc_byte.S lp).F x := by kernel_rfl
theorem slices_ContainsFunc_byte.ok (lp : Nat) : Sound Tryz.prog 191 (slices_ContainsFunc_byte.S lp) := sound_of (E := slices_ContainsFunc_byte.E lp) (env_ok tabFits tabEqs ⟨slices_IndexFunc_byte.ok lp, trivial⟩ trivial) mixed Tryz.func191 (by kernel_rfl) (c := codeOf Tryz.f191) (by kernel_rfl) (by kernel_rfl) slices_ContainsFunc_byte.an (fun x r h => ⟨lp, (slices_ContainsFunc_byte.eq lp x).trans h⟩)
def impl_areAll_byte_c1.E : Env := { tab := tab, fns := [], ann := { own := [], ro := [] } }
def impl_areAll_byte_c1.an : An := { pre := [] }
def impl_areAll_byte_c1.S : Spec := { ats := [.v (.int .u8), .ptrC (.pair (.int .u8) .unit) .bool], rts := [.bool], F := fun x => impl_areAll_byte_c1 x.1 x.2.1 }
theorem impl_areAll_byte_c1.eq (lp : Nat) (x : ADens [.v (.int .u8), .ptrC (.pair (.int .u8) .unit) .bool]) : evalF (impl_areAll_byte_c1.E) impl_areAll_byte_c1.an lp Tryz.f192 [.v (.int .u8), .ptrC (.pair (.int .u8) .unit) .bool] [.bool] x = (impl_areAll_byte_c1.S).F x := by kernel_rfl
theorem impl_areAll_byte_c1.ok : Sound Tryz.prog 192 (impl_areAll_byte_c1.S) := sound_of (E := impl_areAll_byte_c1.E) (env_ok tabFits tabEqs trivial trivial) mixed Tryz.func192 (by kernel_rfl) (c := codeOf Tryz.f192) (by kernel_rfl) (by kernel_rfl) impl_areAll_byte_c1.an (fun x r h => ⟨0, (impl_areAll_byte_c1.eq 0 x).trans h⟩)
def impl_areAll_byte.E (lp : Nat) : Env := { tab := tab, fns := [(192, impl_areAll_byte_c1.S), (191, slices_ContainsFunc_byte.S lp)], ann := { own := [], ro := [3] } }
def impl_areAll_byte.an : An := { pre := [] }
def impl_areAll_byte.S (lp : Nat) : Spec := { ats := [.v (.sl (.int .u8)), .clo (.pair (.int .u8) .unit) .bool], rts := [.bool], F := fun x => impl_areAll_byte lp x.1 x.2.1 }
theorem impl_areAll_byte.eq (lp : Nat) (x : ADens [.v (.sl (.int .u8)), .clo (.pair (.int .u8) .unit) .bool]) : evalF (impl_areAll_byte.E lp) impl_areAll_byte.an lp Tryz.f166 [.v (.sl (.int .u8)), .clo (.pair (.int .u8) .unit) .bool] [.bool] x = (impl_areAll_byte.S lp).F x := by kernel_rfl
theorem impl_areAll_byte.ok (lp : Nat) : Sound Tryz.prog 166 (impl_areAll_byte.S lp) := sound_of (E := impl_areAll_byte.E lp) (env_ok tabFits tabEqs ⟨impl_areAll_byte_c1.ok, slices_ContainsFunc_byte.ok lp, trivial⟩ trivial) mixed Tryz.func166 (by kernel_rfl) (c := codeOf Tryz.f166) (by kernel_rfl) (by kernel_rfl) impl_areAll_byte.an (fun x r h => ⟨lp, (impl_areAll_byte.eq lp x).trans h⟩)
def impl_isDigit.E : Env := { tab := tab, fns := [], ann := { own := [], ro := [] } }
def impl_isDigit.an : An := { pre := [] }
def impl_isDigit.S : Spec := { ats := [.v (.int .u8)], rts := [.bool], F := fun x => impl_isDigit x.1 }
theorem impl_isDigit.eq (lp : Nat) (x : ADens [.v (.int .u8)]) : evalF (impl_isDigit.E) impl_isDigit.an lp Tryz.f168 [.v (.int .u8)] [.bool] x = (impl_isDigit.S).F x := by kernel_rfl
theorem impl_isDigit.ok : Sound Tryz.prog 168 (impl_isDigit.S) := sound_of (E := impl_isDigit.E) (env_ok tabFits tabEqs trivial trivial) mixed Tryz.func168 (by kernel_rfl) (c := codeOf Tryz.f168) (by kernel_rfl) (by kernel_rfl) impl_isDigit.an (fun x r h => ⟨0, (impl_isDigit.eq 0 x).trans h⟩)
def impl_NameOK_c1.E : Env := { tab := tab, fns := [(165, impl_isLetter.S), (168, impl_isDigit.S)], ann := { own := [], ro := [] } }
def impl_NameOK_c1.an : An := { pre := [] }
def impl_NameOK_c1.S : Spec := { ats := [.v (.int .u8)], rts := [.bool], F := fun x => impl_NameOK_c1 x.1 }
theorem impl_NameOK_c1.eq (lp : Nat) (x : ADens [.v (.int .u8)]) : evalF (impl_NameOK_c1.E) impl_NameOK_c1.an lp Tryz.f167 [.v (.int .u8)] [.bool] x = (impl_NameOK_c1.S).F x := by kernel_rfl
theorem impl_NameOK_c1.ok : Sound Tryz.prog 167 (impl_NameOK_c1.S) := sound_of (E := impl_NameOK_c1.E) (env_ok tabFits tabEqs ⟨impl_isLetter.ok, impl_isDigit.ok, trivial⟩ trivial) mixed Tryz.func167 (by kernel_rfl) (c := codeOf Tryz.f167) (by kernel_rfl) (by kernel_rfl) impl_NameOK_c1.an (fun x r h => ⟨0, (impl_NameOK_c1.eq 0 x).trans h⟩)
def impl_NameOK.E (lp : Nat) : Env := { tab := tab, fns := [(61, impl_within.S), (165, impl_isLetter.S), (167, impl_NameOK_c1.S), (166, impl_areAll_byte.S lp)], ann := { own := [], ro := [] } }
def impl_NameOK.an : An := { pre := [] }
def impl_NameOK.S (lp : Nat) : Spec := { ats := [.v .str], rts := [.bool], F := fun x => impl_NameOK lp x.1 }
theorem impl_NameOK.eq (lp : Nat) (x : ADens [.v .str]) : evalF (impl_NameOK.E lp) impl_NameOK.an lp Tryz.f115 [.v .str] [.bool] x = (impl_NameOK.S lp).F x := by kernel_rfl
theorem impl_NameOK.ok (lp : Nat) : Sound Tryz.prog 115 (impl_NameOK.S lp) := sound_of (E := impl_NameOK.E lp) (env_ok tabFits tabEqs ⟨impl_within.ok, impl_isLetter.ok, impl_NameOK_c1.ok, impl_areAll_byte.ok lp, trivial⟩ trivial) mixed Tryz.func115 (by kernel_rfl) (c := codeOf Tryz.f115) (by kernel_rfl) (by kernel_rfl) impl_NameOK.an (fun x r h => ⟨lp, (impl_NameOK.eq lp x).trans h⟩)
def impl_isValue.E : Env := { tab := tab, fns := [(61, impl_within.S)], ann := { own := [], ro := [] } }
def impl_isValue.an : An := { pre := [] }
def impl_isValue.S : Spec := { ats := [.v (.int .i64)], rts := [.bool], F := fun x => impl_isValue x.1 }
theorem impl_isValue.eq (lp : Nat) (x : ADens [.v (.int .i64)]) : evalF (impl_isValue.E) impl_isValue.an lp Tryz.f162 [.v (.int .i64)] [.bool] x = (impl_isValue.S).F x := by kernel_rfl
theorem impl_isValue.ok : Sound Tryz.prog 162 (impl_isValue.S) := sound_of (E := impl_isValue.E) (env_ok tabFits tabEqs ⟨impl_within.ok, trivial⟩ trivial) mixed Tryz.func162 (by kernel_rfl) (c := codeOf Tryz.f162) (by kernel_rfl) (by kernel_rfl) impl_isValue.an (fun x r h => ⟨0, (impl_isValue.eq 0 x).trans h⟩)
def impl_MapOK.E (lp : Nat) : Env := { tab := tab, fns := [(115, impl_NameOK.S lp), (162, impl_isValue.S)], ann := { own := [], ro := [] } }
def impl_MapOK.la2 : LoopAn := { kn := { tms := [0, 5, 6, 7] }, kx := { tms := [0] }, kr := { tms := [2] } }
def impl_MapOK.an : An := { loops := [(2, impl_MapOK.la2)] }
def impl_MapOK.s2 (x0 : List Entry) (x5 : List Entry) (x6 : Int) (x7 : Int) : St := ⟨.v (.one (.b (.d (.sl TEntry) x0))) :: (sk 4 (.v (.one (.b (.d (.sl TEntry) x5))) :: .v (.one (.b (.d (.int .i64) x6))) :: .v (.one (.b (.d (.int .i64) x7))) :: (sk 33 ([])))), sko 41 ([])⟩
def impl_MapOK.sx2 (y : (List Entry)) : St := ⟨.v (.one (.b (.d (.sl TEntry) y))) :: (sk 40 ([])), sko 41 ([])⟩
def impl_MapOK.sr2 (z : Bool) : St := ⟨sk 2 (.v (.one (.b (.d .bool z))) :: (sk 38 ([]))), sko 41 ([])⟩
def impl_MapOK.S (lp : Nat) : Spec := { ats := [.v (.sl TEntry)], rts := [.bool], F := fun x => impl_MapOK lp x.1 }
theorem impl_MapOK.t_b2 (lp : Nat) {R : Type} (N : St → Option R) (X : Out → St → Option R) (x0 : List Entry) (x5 : List Entry) (x6 : Int) (x7 : Int) : codeK (impl_MapOK.E lp) impl_MapOK.an lp (loopAt 2 (codeOf Tryz.f163)) (impl_MapOK.s2 x0 x5 x6 x7) (lpK impl_MapOK.la2 N X) = impl_MapOK.b2 lp (fun x0 x5 x6 x7 => N (impl_MapOK.s2 x0 x5 x6 x7)) (fun y => X (.exit 0) (impl_MapOK.sx2 y)) (fun z => X .ret (impl_MapOK.sr2 z)) x0 x5 x6 x7 := by kernel_rfl
theorem impl_MapOK.n_b2 (lp : Nat) {R S : Type} (N : List Entry → List Entry → Int → Int → Option R) (X : ((List Entry)) → Option R) (Q : Bool → Option R) (x0 : List Entry) (x5 : List Entry) (x6 : Int) (x7 : Int) (k : R → Option S) : obind (impl_MapOK.b2 lp N X Q x0 x5 x6 x7) k = impl_MapOK.b2 lp (fun x0 x5 x6 x7 => obind (N x0 x5 x6 x7) k) (fun y => obind (X y) k) (fun z => obind (Q z) k) x0 x5 x6 x7 := by
  unfold impl_MapOK.b2; simp only [obind_none, obind_some, obind_cond, obind_oif, obind_oget, obind_obind]
theorem impl_MapOK.k2 (lp : Nat) {R : Type} (K : Out → St → Option R) : ∀ (n : Nat) (x0 : List Entry) (x5 : List Entry) (x6 : Int) (x7 : Int), loopK impl_MapOK.la2 (fun σ K => codeK (impl_MapOK.E lp) impl_MapOK.an lp (loopAt 2 (codeOf Tryz.f163)) σ K) n (impl_MapOK.s2 x0 x5 x6 x7) K = obind (impl_MapOK.l2 lp n x0 x5 x6 x7) (leK 0 impl_MapOK.sr2 impl_MapOK.sx2 K) := by
  intro n
  induction n with
  | zero => intros; rfl
  | succ n ih =>
    intro x0 x5 x6 x7
    rw [loopK_succ, impl_MapOK.t_b2, impl_MapOK.l2, impl_MapOK.n_b2]
    simp only [ih, obind_some, leK_ret, leK_brk]
theorem impl_MapOK.t_a2 (lp : Nat) (y : (List Entry)) : kont (R := Bool) (impl_MapOK.E lp) impl_MapOK.an lp (finK (impl_MapOK.E lp) Tryz.f163 [.bool]) (stkAt 2 (codeOf Tryz.f163)) (.exit 0) (impl_MapOK.sx2 y) = impl_MapOK.a2 lp y := by kernel_rfl
theorem impl_MapOK.t_q2 (lp : Nat) (z : Bool) : kont (R := Bool) (impl_MapOK.E lp) impl_MapOK.an lp (finK (impl_MapOK.E lp) Tryz.f163 [.bool]) (stkAt 2 (codeOf Tryz.f163)) .ret (impl_MapOK.sr2 z) = impl_MapOK.q2 lp z := by kernel_rfl
theorem impl_MapOK.t_e (lp : Nat) (x0 : List Entry) : evalF (impl_MapOK.E lp) impl_MapOK.an lp Tryz.f163 [.v (.sl TEntry)] [.bool] (x0, ()) = impl_MapOK.e lp (fun x0 x5 x6 x7 => loopK impl_MapOK.la2 (fun σ K => codeK (impl_MapOK.E lp) impl_MapOK.an lp (loopAt 2 (codeOf Tryz.f163)) σ K) lp (impl_MapOK.s2 x0 x5 x6 x7) (kont (impl_MapOK.E lp) impl_MapOK.an lp (finK (impl_MapOK.E lp) Tryz.f163 [.bool]) (stkAt 2 (codeOf Tryz.f163)))) x0 := by kernel_rfl
theorem impl_MapOK.eq0 (lp : Nat) (x0 : List Entry) : evalF (impl_MapOK.E lp) impl_MapOK.an lp Tryz.f163 [.v (.sl TEntry)] [.bool] (x0, ()) = impl_MapOK lp x0 := by
  rw [impl_MapOK.t_e]; unfold impl_MapOK
  simp only [leK_leF _ impl_MapOK.sr2 impl_MapOK.sx2, impl_MapOK.k2, impl_MapOK.t_a2, impl_MapOK.t_q2]
theorem impl_MapOK.eq (lp : Nat) (x : ADens [.v (.sl TEntry)]) : evalF (impl_MapOK.E lp) impl_MapOK.an lp Tryz.f163 [.v (.sl TEntry)] [.bool] x = (impl_MapOK.S lp).F x := impl_MapOK.eq0 lp x.1
theorem impl_MapOK.ok (lp : Nat) : Sound Tryz.prog 163 (impl_MapOK.S lp) := sound_of (E := impl_MapOK.E lp) (env_ok tabFits tabEqs ⟨impl_NameOK.ok lp, impl_isValue.ok, trivial⟩ trivial) mixed Tryz.func163 (by kernel_rfl) (c := codeOf Tryz.f163) (by kernel_rfl) (by kernel_rfl) impl_MapOK.an (fun x r h => ⟨lp, (impl_MapOK.eq lp x).trans h⟩)
def slices_IndexFunc_int.E (lp : Nat) : Env := { tab := tab, fns := [], ann := { own := [], ro := [] } }
def slices_IndexFunc_int.la2 : LoopAn := { kn := { tms := [0, 1, 7, 8] }, kx := {}, kr := { tms := [4] } }
def slices_IndexFunc_int.an : An := { loops := [(2, slices_IndexFunc_int.la2)] }
def slices_IndexFunc_int.s2 (x0 : List Int) (x1 : (Int × Unit) → Option Bool) (x7 : Int) (x8 : Int) : St := ⟨.v (.one (.b (.d (.sl (.int .i64)) x0))) :: .v (.one (.b (.cl (.pair (.int .i64) .unit) .bool x1))) :: (sk 5 (.v (.one (.b (.d (.int .i64) x7))) :: .v (.one (.b (.d (.int .i64) x8))) :: (sk 10 ([])))), sko 19 ([])⟩
def slices_IndexFunc_int.sx2 (y : Unit) : St := ⟨sk 19 ([]), sko 19 ([])⟩
def slices_IndexFunc_int.sr2 (z : Int) : St := ⟨sk 4 (.v (.one (.b (.d (.int .i64) z))) :: (sk 14 ([]))), sko 19 ([])⟩
def slices_IndexFunc_int.S (lp : Nat) : Spec := { ats := [.v (.sl (.int .i64)), .clo (.pair (.int .i64) .unit) .bool], rts := [(.int .i64)], F := fun x => slices_IndexFunc_int lp x.1 x.2.1 }
theorem slices_IndexFunc_int.t_b2 (lp : Nat) {R : Type} (N : St → Option R) (X : Out → St → Option R) (x0 : List Int) (x1 : (Int × Unit) → Option Bool) (x7 : Int) (x8 : Int) : codeK (slices_IndexFunc_int.E lp) slices_IndexFunc_int.an lp (loopAt 2 (codeOf Tryz.f219)) (slices_IndexFunc_int.s2 x0 x1 x7 x8) (lpK slices_IndexFunc_int.la2 N X) = slices_IndexFunc_int.b2 lp (fun x0 x1 x7 x8 => N (slices_IndexFunc_int.s2 x0 x1 x7 x8)) (fun y => X (.exit 0) (slices_IndexFunc_int.sx2 y)) (fun z => X .ret (slices_IndexFunc_int.sr2 z)) x0 x1 x7 x8 := by kernel_rfl
theorem slices_IndexFunc_int.n_b2 (lp : Nat) {R S : Type} (N : List Int → ((Int × Unit) → Option Bool) → Int → Int → Option R) (X : Unit → Option R) (Q : Int → Option R) (x0 : List Int) (x1 : (Int × Unit) → Option Bool) (x7 : Int) (x8 : Int) (k : R → Option S) : obind (slices_IndexFunc_int.b2 lp N X Q x0 x1 x7 x8) k = slices_IndexFunc_int.b2 lp (fun x0 x1 x7 x8 => obind (N x0 x1 x7 x8) k) (fun y => obind (X y) k) (fun z => obind (Q z) k) x0 x1 x7 x8 := by
  unfold slices_IndexFunc_int.b2; simp only [obind_none, obind_some, obind_cond, obind_oif, obind_oget, obind_obind]
theorem slices_IndexFunc_int.k2 (lp : Nat) {R : Type} (K : Out → St → Option R) : ∀ (n : Nat) (x0 : List Int) (x1 : (Int × Unit) → Option Bool) (x7 : Int) (x8 : Int), loopK slices_IndexFunc_int.la2 (fun σ K => codeK (slices_IndexFunc_int.E lp) slices_IndexFunc_int.an lp (loopAt 2 (codeOf Tryz.f219)) σ K) n (slices_IndexFunc_int.s2 x0 x1 x7 x8) K = obind (slices_IndexFunc_int.l2 lp n x0 x1 x7 x8) (leK 0 slices_IndexFunc_int.sr2 slices_IndexFunc_int.sx2 K) := by
  intro n
  induction n with
  | zero => intros; rfl
  | succ n ih =>
    intro x0 x1 x7 x8
    rw [loopK_succ, slices_IndexFunc_int.t_b2, slices_IndexFunc_int.l2, slices_IndexFunc_int.n_b2]
    simp only [ih, obind_some, leK_ret, leK_brk]
theorem slices_IndexFunc_int.t_a2 (lp : Nat) (y : Unit) : kont (R := Int) (slices_IndexFunc_int.E lp) slices_IndexFunc_int.an lp (finK (slices_IndexFunc_int.E lp) Tryz.f219 [(.int .i64)]) (stkAt 2 (codeOf Tryz.f219)) (.exit 0) (slices_IndexFunc_int.sx2 y) = slices_IndexFunc_int.a2 lp y := by kernel_rfl
theorem slices_IndexFunc_int.t_q2 (lp : Nat) (z : Int) : kont (R := Int) (slices_IndexFunc_int.E lp) slices_IndexFunc_int.an lp (finK (slices_IndexFunc_int.E lp) Tryz.f219 [(.int .i64)]) (stkAt 2 (codeOf Tryz.f219)) .ret (slices_IndexFunc_int.sr2 z) = slices_IndexFunc_int.q2 lp z := by kernel_rfl
theorem slices_IndexFunc_int.t_e (lp : Nat) (x0 : List Int) (x1 : (Int × Unit) → Option Bool) : evalF (slices_IndexFunc_int.E lp) slices_IndexFunc_int.an lp Tryz.f219 [.v (.sl (.int .i64)), .clo (.pair (.int .i64) .unit) .bool] [(.int .i64)] (x0, x1, ()) = slices_IndexFunc_int.e lp (fun x0 x1 x7 x8 => loopK slices_IndexFunc_int.la2 (fun σ K => codeK (slices_IndexFunc_int.E lp) slices_IndexFunc_int.an lp (loopAt 2 (codeOf Tryz.f219)) σ K) lp (slices_IndexFunc_int.s2 x0 x1 x7 x8) (kont (slices_IndexFunc_int.E lp) slices_IndexFunc_int.an lp (finK (slices_IndexFunc_int.E lp) Tryz.f219 [(.int .i64)]) (stkAt 2 (codeOf Tryz.f219)))) x0 x1 := by kernel_rfl
theorem slices_IndexFunc_int.eq0 (lp : Nat) (x0 : List Int) (x1 : (Int × Unit) → Option Bool) : evalF (slices_IndexFunc_int.E lp) slices_IndexFunc_int.an lp Tryz.f219 [.v (.sl (.int .i64)), .clo (.pair (.int .i64) .unit) .bool] [(.int .i64)] (x0, x1, ()) = slices_IndexFunc_int lp x0 x1 := by
  rw [slices_IndexFunc_int.t_e]; unfold slices_IndexFunc_int
  simp only [leK_leF _ slices_IndexFunc_int.sr2 slices_IndexFunc_int.sx2, slices_IndexFunc_int.k2, slices_IndexFunc_int.t_a2, slices_IndexFunc_int.t_q2]
theorem slices_IndexFunc_int.eq (lp : Nat) (x : ADens [.v (.sl (.int .i64)), .clo (.pair (.int .i64) .unit) .bool]) : evalF (slices_IndexFunc_int.E lp) slices_IndexFunc_int.an lp Tryz.f219 [.v (.sl (.int .i64)), .clo (.pair (.int .i64) .unit) .bool] [(.int .i64)] x = (slices_IndexFunc_int.S lp).F x := slices_IndexFunc_int.eq0 lp x.1 x.2.1
theorem slices_IndexFunc_int.ok (lp : Nat) : Sound Tryz.prog 219 (slices_IndexFunc_int.S lp) := sound_of (E := slices_IndexFunc_int.E lp) (env_ok tabFits tabEqs trivial trivial) mixed Tryz.func219 (by kernel_rfl) (c := codeOf Tryz.f219) (by kernel_rfl) (by kernel_rfl) slices_IndexFunc_int.an (fun x r h => ⟨lp, (slices_IndexFunc_int.eq lp x).trans h⟩)
def slices_ContainsFunc_int.E (lp : Nat) : Env := { tab := tab, fns := [(219, slices_IndexFunc_int.S lp)], ann := { own := [], ro := [] } }
def slices_ContainsFunc_int.an : An := { pre := [] }
def slices_ContainsFunc_int.S (lp : Nat) : Spec := { ats := [.v (.sl (.int .i64)), .clo (.pair (.int .i64) .unit) .bool], rts := [.bool], F := fun x => slices_ContainsFunc_int lp x.1 x.2.1 }
theorem slices_ContainsFunc_int.eq (lp : Nat) (x : ADens [.v (.sl (.int .i64)), .clo (.pair (.int .i64) .unit) .bool]) : evalF (slices_ContainsFunc_int.E lp) slices_ContainsFunc_int.an lp Tryz.f212 [.v (.sl (.int .i64)), .clo (.pair (.int .i64) .unit) .bool] [.bool] x = (slices_ContainsFunc_int.S lp).F x := by kernel_rfl
theorem slices_ContainsFunc_int.ok (lp : Nat) : Sound Tryz.prog 212 (slices_ContainsFunc_int.S lp) := sound_of (E := slices_ContainsFunc_int.E lp) (env_ok tabFits tabEqs ⟨slices_IndexFunc_int.ok lp, trivial⟩ trivial) mixed Tryz.func212 (by kernel_rfl) (c := codeOf Tryz.f212) (by kernel_rfl) (by kernel_rfl) slices_ContainsFunc_int.an (fun x r h => ⟨lp, (slices_ContainsFunc_int.eq lp x).trans h⟩)
def impl_areAll_int_c1.E : Env := { tab := tab, fns := [], ann := { own := [], ro := [] } }
def impl_areAll_int_c1.an : An := { pre := [] }
def impl_areAll_int_c1.S : Spec := { ats := [.v (.int .i64), .ptrC (.pair (.int .i64) .unit) .bool], rts := [.bool], F := fun x => impl_areAll_int_c1 x.1 x.2.1 }
theorem impl_areAll_int_c1.eq (lp : Nat) (x : ADens [.v (.int .i64), .ptrC (.pair (.int .i64) .unit) .bool]) : evalF (impl_areAll_int_c1.E) impl_areAll_int_c1.an lp Tryz.f213 [.v (.int .i64), .ptrC (.pair (.int .i64) .unit) .bool] [.bool] x = (impl_areAll_int_c1.S).F x := by kernel_rfl
theorem impl_areAll_int_c1.ok : Sound Tryz.prog 213 (impl_areAll_int_c1.S) := sound_of (E := impl_areAll_int_c1.E) (env_ok tabFits tabEqs trivial trivial) mixed Tryz.func213 (by kernel_rfl) (c := codeOf Tryz.f213) (by kernel_rfl) (by kernel_rfl) impl_areAll_int_c1.an (fun x r h => ⟨0, (impl_areAll_int_c1.eq 0 x).trans h⟩)
def impl_areAll_int.E (lp : Nat) : Env := { tab := tab, fns := [(213, impl_areAll_int_c1.S), (212, slices_ContainsFunc_int.S lp)], ann := { own := [], ro := [3] } }
def impl_areAll_int.an : An := { pre := [] }
def impl_areAll_int.S (lp : Nat) : Spec := { ats := [.v (.sl (.int .i64)), .clo (.pair (.int .i64) .unit) .bool], rts := [.bool], F := fun x => impl_areAll_int lp x.1 x.2.1 }
theorem impl_areAll_int.eq (lp : Nat) (x : ADens [.v (.sl (.int .i64)), .clo (.pair (.int .i64) .unit) .bool]) : evalF (impl_areAll_int.E lp) impl_areAll_int.an lp Tryz.f200 [.v (.sl (.int .i64)), .clo (.pair (.int .i64) .unit) .bool] [.bool] x = (impl_areAll_int.S lp).F x := by kernel_rfl
theorem impl_areAll_int.ok (lp : Nat) : Sound Tryz.prog 200 (impl_areAll_int.S lp) := sound_of (E := impl_areAll_int.E lp) (env_ok tabFits tabEqs ⟨impl_areAll_int_c1.ok, slices_ContainsFunc_int.ok lp, trivial⟩ trivial) mixed Tryz.func200 (by kernel_rfl) (c := codeOf Tryz.f200) (by kernel_rfl) (by kernel_rfl) impl_areAll_int.an (fun x r h => ⟨lp, (impl_areAll_int.eq lp x).trans h⟩)
def impl_Commit_isAt_c1.E : Env := { tab := tab, fns := [(61, impl_within.S)], ann := { own := [], ro := [] } }
def impl_Commit_isAt_c1.an : An := { pre := [] }
def impl_Commit_isAt_c1.S : Spec := { ats := [.v (.int .i64), .ptrD (.int .i64)], rts := [.bool], F := fun x => impl_Commit_isAt_c1 x.1 x.2.1 }
theorem impl_Commit_isAt_c1.eq (lp : Nat) (x : ADens [.v (.int .i64), .ptrD (.int .i64)]) : evalF (impl_Commit_isAt_c1.E) impl_Commit_isAt_c1.an lp Tryz.f201 [.v (.int .i64), .ptrD (.int .i64)] [.bool] x = (impl_Commit_isAt_c1.S).F x := by kernel_rfl
theorem impl_Commit_isAt_c1.ok : Sound Tryz.prog 201 (impl_Commit_isAt_c1.S) := sound_of (E := impl_Commit_isAt_c1.E) (env_ok tabFits tabEqs ⟨impl_within.ok, trivial⟩ trivial) mixed Tryz.func201 (by kernel_rfl) (c := codeOf Tryz.f201) (by kernel_rfl) (by kernel_rfl) impl_Commit_isAt_c1.an (fun x r h => ⟨0, (impl_Commit_isAt_c1.eq 0 x).trans h⟩)
def impl_Commit_isAt.E (lp : Nat) : Env := { tab := tab, fns := [(163, impl_MapOK.S lp), (201, impl_Commit_isAt_c1.S), (200, impl_areAll_int.S lp)], ann := { own := [], ro := [2, 3] } }
def impl_Commit_isAt.an : An := { pre := [] }
def impl_Commit_isAt.S (lp : Nat) : Spec := { ats := [.v TCommit, .v (.int .i64)], rts := [.bool], F := fun x => impl_Commit_isAt lp x.1 x.2.1 }
theorem impl_Commit_isAt.eq (lp : Nat) (x : ADens [.v TCommit, .v (.int .i64)]) : evalF (impl_Commit_isAt.E lp) impl_Commit_isAt.an lp Tryz.f184 [.v TCommit, .v (.int .i64)] [.bool] x = (impl_Commit_isAt.S lp).F x := by kernel_rfl
theorem impl_Commit_isAt.ok (lp : Nat) : Sound Tryz.prog 184 (impl_Commit_isAt.S lp) := sound_of (E := impl_Commit_isAt.E lp) (env_ok tabFits tabEqs ⟨impl_MapOK.ok lp, impl_Commit_isAt_c1.ok, impl_areAll_int.ok lp, trivial⟩ trivial) mixed Tryz.func184 (by kernel_rfl) (c := codeOf Tryz.f184) (by kernel_rfl) (by kernel_rfl) impl_Commit_isAt.an (fun x r h => ⟨lp, (impl_Commit_isAt.eq lp x).trans h⟩)
def impl_areCommits.E (lp : Nat) : Env := { tab := tab, fns := [(184, impl_Commit_isAt.S lp)], ann := { own := [], ro := [] } }
def impl_areCommits.la2 : LoopAn := { kn := { tms := [0, 5, 6, 7] }, kx := { tms := [0] }, kr := { tms := [2] } }
def impl_areCommits.an : An := { loops := [(2, impl_areCommits.la2)] }
def impl_areCommits.s2 (x0 : List Commit) (x5 : List Commit) (x6 : Int) (x7 : Int) : St := ⟨.v (.one (.b (.d (.sl TCommit) x0))) :: (sk 4 (.v (.one (.b (.d (.sl TCommit) x5))) :: .v (.one (.b (.d (.int .i64) x6))) :: .v (.one (.b (.d (.int .i64) x7))) :: (sk 13 ([])))), sko 21 ([])⟩
def impl_areCommits.sx2 (y : (List Commit)) : St := ⟨.v (.one (.b (.d (.sl TCommit) y))) :: (sk 20 ([])), sko 21 ([])⟩
def impl_areCommits.sr2 (z : Bool) : St := ⟨sk 2 (.v (.one (.b (.d .bool z))) :: (sk 18 ([]))), sko 21 ([])⟩
def impl_areCommits.S (lp : Nat) : Spec := { ats := [.v (.sl TCommit)], rts := [.bool], F := fun x => impl_areCommits lp x.1 }
theorem impl_areCommits.t_b2 (lp : Nat) {R : Type} (N : St → Option R) (X : Out → St → Option R) (x0 : List Commit) (x5 : List Commit) (x6 : Int) (x7 : Int) : codeK (impl_areCommits.E lp) impl_areCommits.an lp (loopAt 2 (codeOf Tryz.f147)) (impl_areCommits.s2 x0 x5 x6 x7) (lpK impl_areCommits.la2 N X) = impl_areCommits.b2 lp (fun x0 x5 x6 x7 => N (impl_areCommits.s2 x0 x5 x6 x7)) (fun y => X (.exit 0) (impl_areCommits.sx2 y)) (fun z => X .ret (impl_areCommits.sr2 z)) x0 x5 x6 x7 := by kernel_rfl
theorem impl_areCommits.n_b2 (lp : Nat) {R S : Type} (N : List Commit → List Commit → Int → Int → Option R) (X : ((List Commit)) → Option R) (Q : Bool → Option R) (x0 : List Commit) (x5 : List Commit) (x6 : Int) (x7 : Int) (k : R → Option S) : obind (impl_areCommits.b2 lp N X Q x0 x5 x6 x7) k = impl_areCommits.b2 lp (fun x0 x5 x6 x7 => obind (N x0 x5 x6 x7) k) (fun y => obind (X y) k) (fun z => obind (Q z) k) x0 x5 x6 x7 := by
  unfold impl_areCommits.b2; simp only [obind_none, obind_some, obind_cond, obind_oif, obind_oget, obind_obind]
theorem impl_areCommits.k2 (lp : Nat) {R : Type} (K : Out → St → Option R) : ∀ (n : Nat) (x0 : List Commit) (x5 : List Commit) (x6 : Int) (x7 : Int), loopK impl_areCommits.la2 (fun σ K => codeK (impl_areCommits.E lp) impl_areCommits.an lp (loopAt 2 (codeOf Tryz.f147)) σ K) n (impl_areCommits.s2 x0 x5 x6 x7) K = obind (impl_areCommits.l2 lp n x0 x5 x6 x7) (leK 0 impl_areCommits.sr2 impl_areCommits.sx2 K) := by
  intro n
  induction n with
  | zero => intros; rfl
  | succ n ih =>
    intro x0 x5 x6 x7
    rw [loopK_succ, impl_areCommits.t_b2, impl_areCommits.l2, impl_areCommits.n_b2]
    simp only [ih, obind_some, leK_ret, leK_brk]
theorem impl_areCommits.t_a2 (lp : Nat) (y : (List Commit)) : kont (R := Bool) (impl_areCommits.E lp) impl_areCommits.an lp (finK (impl_areCommits.E lp) Tryz.f147 [.bool]) (stkAt 2 (codeOf Tryz.f147)) (.exit 0) (impl_areCommits.sx2 y) = impl_areCommits.a2 lp y := by kernel_rfl
theorem impl_areCommits.t_q2 (lp : Nat) (z : Bool) : kont (R := Bool) (impl_areCommits.E lp) impl_areCommits.an lp (finK (impl_areCommits.E lp) Tryz.f147 [.bool]) (stkAt 2 (codeOf Tryz.f147)) .ret (impl_areCommits.sr2 z) = impl_areCommits.q2 lp z := by kernel_rfl
theorem impl_areCommits.t_e (lp : Nat) (x0 : List Commit) : evalF (impl_areCommits.E lp) impl_areCommits.an lp Tryz.f147 [.v (.sl TCommit)] [.bool] (x0, ()) = impl_areCommits.e lp (fun x0 x5 x6 x7 => loopK impl_areCommits.la2 (fun σ K => codeK (impl_areCommits.E lp) impl_areCommits.an lp (loopAt 2 (codeOf Tryz.f147)) σ K) lp (impl_areCommits.s2 x0 x5 x6 x7) (kont (impl_areCommits.E lp) impl_areCommits.an lp (finK (impl_areCommits.E lp) Tryz.f147 [.bool]) (stkAt 2 (codeOf Tryz.f147)))) x0 := by kernel_rfl
theorem impl_areCommits.eq0 (lp : Nat) (x0 : List Commit) : evalF (impl_areCommits.E lp) impl_areCommits.an lp Tryz.f147 [.v (.sl TCommit)] [.bool] (x0, ()) = impl_areCommits lp x0 := by
  rw [impl_areCommits.t_e]; unfold impl_areCommits
  simp only [leK_leF _ impl_areCommits.sr2 impl_areCommits.sx2, impl_areCommits.k2, impl_areCommits.t_a2, impl_areCommits.t_q2]
theorem impl_areCommits.eq (lp : Nat) (x : ADens [.v (.sl TCommit)]) : evalF (impl_areCommits.E lp) impl_areCommits.an lp Tryz.f147 [.v (.sl TCommit)] [.bool] x = (impl_areCommits.S lp).F x := impl_areCommits.eq0 lp x.1
theorem impl_areCommits.ok (lp : Nat) : Sound Tryz.prog 147 (impl_areCommits.S lp) := sound_of (E := impl_areCommits.E lp) (env_ok tabFits tabEqs ⟨impl_Commit_isAt.ok lp, trivial⟩ trivial) mixed Tryz.func147 (by kernel_rfl) (c := codeOf Tryz.f147) (by kernel_rfl) (by kernel_rfl) impl_areCommits.an (fun x r h => ⟨lp, (impl_areCommits.eq lp x).trans h⟩)
def impl_StoreOK.E (lp : Nat) : Env := { tab := tab, fns := [(146, impl_isList_Commit.S), (147, impl_areCommits.S lp)], ann := { own := [], ro := [] } }
def impl_StoreOK.an : An := { pre := [] }
def impl_StoreOK.S (lp : Nat) : Spec := { ats := [.v (.sl TCommit)], rts := [.bool], F := fun x => impl_StoreOK lp x.1 }
theorem impl_StoreOK.eq (lp : Nat) (x : ADens [.v (.sl TCommit)]) : evalF (impl_StoreOK.E lp) impl_StoreOK.an lp Tryz.f101 [.v (.sl TCommit)] [.bool] x = (impl_StoreOK.S lp).F x := by kernel_rfl
theorem impl_StoreOK.ok (lp : Nat) : Sound Tryz.prog 101 (impl_StoreOK.S lp) := sound_of (E := impl_StoreOK.E lp) (env_ok tabFits tabEqs ⟨impl_isList_Commit.ok, impl_areCommits.ok lp, trivial⟩ trivial) mixed Tryz.func101 (by kernel_rfl) (c := codeOf Tryz.f101) (by kernel_rfl) (by kernel_rfl) impl_StoreOK.an (fun x r h => ⟨lp, (impl_StoreOK.eq lp x).trans h⟩)
def slices_IndexFunc_Ref.E (lp : Nat) : Env := { tab := tab, fns := [], ann := { own := [], ro := [] } }
def slices_IndexFunc_Ref.la2 : LoopAn := { kn := { tms := [0, 1, 7, 8] }, kx := {}, kr := { tms := [4] } }
def slices_IndexFunc_Ref.an : An := { loops := [(2, slices_IndexFunc_Ref.la2)] }
def slices_IndexFunc_Ref.s2 (x0 : List Ref) (x1 : (Ref × Unit) → Option Bool) (x7 : Int) (x8 : Int) : St := ⟨.v (.one (.b (.d (.sl TRef) x0))) :: .v (.one (.b (.cl (.pair TRef .unit) .bool x1))) :: (sk 5 (.v (.one (.b (.d (.int .i64) x7))) :: .v (.one (.b (.d (.int .i64) x8))) :: (sk 10 ([])))), sko 19 ([])⟩
def slices_IndexFunc_Ref.sx2 (y : Unit) : St := ⟨sk 19 ([]), sko 19 ([])⟩
def slices_IndexFunc_Ref.sr2 (z : Int) : St := ⟨sk 4 (.v (.one (.b (.d (.int .i64) z))) :: (sk 14 ([]))), sko 19 ([])⟩
def slices_IndexFunc_Ref.S (lp : Nat) : Spec := { ats := [.v (.sl TRef), .clo (.pair TRef .unit) .bool], rts := [(.int .i64)], F := fun x => slices_IndexFunc_Ref lp x.1 x.2.1 }
theorem slices_IndexFunc_Ref.t_b2 (lp : Nat) {R : Type} (N : St → Option R) (X : Out → St → Option R) (x0 : List Ref) (x1 : (Ref × Unit) → Option Bool) (x7 : Int) (x8 : Int) : codeK (slices_IndexFunc_Ref.E lp) slices_IndexFunc_Ref.an lp (loopAt 2 (codeOf Tryz.f172)) (slices_IndexFunc_Ref.s2 x0 x1 x7 x8) (lpK slices_IndexFunc_Ref.la2 N X) = slices_IndexFunc_Ref.b2 lp (fun x0 x1 x7 x8 => N (slices_IndexFunc_Ref.s2 x0 x1 x7 x8)) (fun y => X (.exit 0) (slices_IndexFunc_Ref.sx2 y)) (fun z => X .ret (slices_IndexFunc_Ref.sr2 z)) x0 x1 x7 x8 := by kernel_rfl
theorem slices_IndexFunc_Ref.n_b2 (lp : Nat) {R S : Type} (N : List Ref → ((Ref × Unit) → Option Bool) → Int → Int → Option R) (X : Unit → Option R) (Q : Int → Option R) (x0 : List Ref) (x1 : (Ref × Unit) → Option Bool) (x7 : Int) (x8 : Int) (k : R → Option S) : obind (slices_IndexFunc_Ref.b2 lp N X Q x0 x1 x7 x8) k = slices_IndexFunc_Ref.b2 lp (fun x0 x1 x7 x8 => obind (N x0 x1 x7 x8) k) (fun y => obind (X y) k) (fun z => obind (Q z) k) x0 x1 x7 x8 := by
  unfold slices_IndexFunc_Ref.b2; simp only [obind_none, obind_some, obind_cond, obind_oif, obind_oget, obind_obind]
theorem slices_IndexFunc_Ref.k2 (lp : Nat) {R : Type} (K : Out → St → Option R) : ∀ (n : Nat) (x0 : List Ref) (x1 : (Ref × Unit) → Option Bool) (x7 : Int) (x8 : Int), loopK slices_IndexFunc_Ref.la2 (fun σ K => codeK (slices_IndexFunc_Ref.E lp) slices_IndexFunc_Ref.an lp (loopAt 2 (codeOf Tryz.f172)) σ K) n (slices_IndexFunc_Ref.s2 x0 x1 x7 x8) K = obind (slices_IndexFunc_Ref.l2 lp n x0 x1 x7 x8) (leK 0 slices_IndexFunc_Ref.sr2 slices_IndexFunc_Ref.sx2 K) := by
  intro n
  induction n with
  | zero => intros; rfl
  | succ n ih =>
    intro x0 x1 x7 x8
    rw [loopK_succ, slices_IndexFunc_Ref.t_b2, slices_IndexFunc_Ref.l2, slices_IndexFunc_Ref.n_b2]
    simp only [ih, obind_some, leK_ret, leK_brk]
theorem slices_IndexFunc_Ref.t_a2 (lp : Nat) (y : Unit) : kont (R := Int) (slices_IndexFunc_Ref.E lp) slices_IndexFunc_Ref.an lp (finK (slices_IndexFunc_Ref.E lp) Tryz.f172 [(.int .i64)]) (stkAt 2 (codeOf Tryz.f172)) (.exit 0) (slices_IndexFunc_Ref.sx2 y) = slices_IndexFunc_Ref.a2 lp y := by kernel_rfl
theorem slices_IndexFunc_Ref.t_q2 (lp : Nat) (z : Int) : kont (R := Int) (slices_IndexFunc_Ref.E lp) slices_IndexFunc_Ref.an lp (finK (slices_IndexFunc_Ref.E lp) Tryz.f172 [(.int .i64)]) (stkAt 2 (codeOf Tryz.f172)) .ret (slices_IndexFunc_Ref.sr2 z) = slices_IndexFunc_Ref.q2 lp z := by kernel_rfl
theorem slices_IndexFunc_Ref.t_e (lp : Nat) (x0 : List Ref) (x1 : (Ref × Unit) → Option Bool) : evalF (slices_IndexFunc_Ref.E lp) slices_IndexFunc_Ref.an lp Tryz.f172 [.v (.sl TRef), .clo (.pair TRef .unit) .bool] [(.int .i64)] (x0, x1, ()) = slices_IndexFunc_Ref.e lp (fun x0 x1 x7 x8 => loopK slices_IndexFunc_Ref.la2 (fun σ K => codeK (slices_IndexFunc_Ref.E lp) slices_IndexFunc_Ref.an lp (loopAt 2 (codeOf Tryz.f172)) σ K) lp (slices_IndexFunc_Ref.s2 x0 x1 x7 x8) (kont (slices_IndexFunc_Ref.E lp) slices_IndexFunc_Ref.an lp (finK (slices_IndexFunc_Ref.E lp) Tryz.f172 [(.int .i64)]) (stkAt 2 (codeOf Tryz.f172)))) x0 x1 := by kernel_rfl
theorem slices_IndexFunc_Ref.eq0 (lp : Nat) (x0 : List Ref) (x1 : (Ref × Unit) → Option Bool) : evalF (slices_IndexFunc_Ref.E lp) slices_IndexFunc_Ref.an lp Tryz.f172 [.v (.sl TRef), .clo (.pair TRef .unit) .bool] [(.int .i64)] (x0, x1, ()) = slices_IndexFunc_Ref lp x0 x1 := by
  rw [slices_IndexFunc_Ref.t_e]; unfold slices_IndexFunc_Ref
  simp only [leK_leF _ slices_IndexFunc_Ref.sr2 slices_IndexFunc_Ref.sx2, slices_IndexFunc_Ref.k2, slices_IndexFunc_Ref.t_a2, slices_IndexFunc_Ref.t_q2]
theorem slices_IndexFunc_Ref.eq (lp : Nat) (x : ADens [.v (.sl TRef), .clo (.pair TRef .unit) .bool]) : evalF (slices_IndexFunc_Ref.E lp) slices_IndexFunc_Ref.an lp Tryz.f172 [.v (.sl TRef), .clo (.pair TRef .unit) .bool] [(.int .i64)] x = (slices_IndexFunc_Ref.S lp).F x := slices_IndexFunc_Ref.eq0 lp x.1 x.2.1
theorem slices_IndexFunc_Ref.ok (lp : Nat) : Sound Tryz.prog 172 (slices_IndexFunc_Ref.S lp) := sound_of (E := slices_IndexFunc_Ref.E lp) (env_ok tabFits tabEqs trivial trivial) mixed Tryz.func172 (by kernel_rfl) (c := codeOf Tryz.f172) (by kernel_rfl) (by kernel_rfl) slices_IndexFunc_Ref.an (fun x r h => ⟨lp, (slices_IndexFunc_Ref.eq lp x).trans h⟩)
def slices_ContainsFunc_Ref.E (lp : Nat) : Env := { tab := tab, fns := [(172, slices_IndexFunc_Ref.S lp)], ann := { own := [], ro := [] } }
def slices_ContainsFunc_Ref.an : An := { pre := [] }
def slices_ContainsFunc_Ref.S (lp : Nat) : Spec := { ats := [.v (.sl TRef), .clo (.pair TRef .unit) .bool], rts := [.bool], F := fun x => slices_ContainsFunc_Ref lp x.1 x.2.1 }
theorem slices_ContainsFunc_Ref.eq (lp : Nat) (x : ADens [.v (.sl TRef), .clo (.pair TRef .unit) .bool]) : evalF (slices_ContainsFunc_Ref.E lp) slices_ContainsFunc_Ref.an lp Tryz.f149 [.v (.sl TRef), .clo (.pair TRef .unit) .bool] [.bool] x = (slices_ContainsFunc_Ref.S lp).F x := by kernel_rfl
theorem slices_ContainsFunc_Ref.ok (lp : Nat) : Sound Tryz.prog 149 (slices_ContainsFunc_Ref.S lp) := sound_of (E := slices_ContainsFunc_Ref.E lp) (env_ok tabFits tabEqs ⟨slices_IndexFunc_Ref.ok lp, trivial⟩ trivial) mixed Tryz.func149 (by kernel_rfl) (c := codeOf Tryz.f149) (by kernel_rfl) (by kernel_rfl) slices_ContainsFunc_Ref.an (fun x r h => ⟨lp, (slices_ContainsFunc_Ref.eq lp x).trans h⟩)
def impl_areAll_Ref_c1.E : Env := { tab := tab, fns := [], ann := { own := [], ro := [2] } }
def impl_areAll_Ref_c1.an : An := { pre := [] }
def impl_areAll_Ref_c1.S : Spec := { ats := [.v TRef, .ptrC (.pair TRef .unit) .bool], rts := [.bool], F := fun x => impl_areAll_Ref_c1 x.1 x.2.1 }
theorem impl_areAll_Ref_c1.eq (lp : Nat) (x : ADens [.v TRef, .ptrC (.pair TRef .unit) .bool]) : evalF (impl_areAll_Ref_c1.E) impl_areAll_Ref_c1.an lp Tryz.f150 [.v TRef, .ptrC (.pair TRef .unit) .bool] [.bool] x = (impl_areAll_Ref_c1.S).F x := by kernel_rfl
theorem impl_areAll_Ref_c1.ok : Sound Tryz.prog 150 (impl_areAll_Ref_c1.S) := sound_of (E := impl_areAll_Ref_c1.E) (env_ok tabFits tabEqs trivial trivial) mixed Tryz.func150 (by kernel_rfl) (c := codeOf Tryz.f150) (by kernel_rfl) (by kernel_rfl) impl_areAll_Ref_c1.an (fun x r h => ⟨0, (impl_areAll_Ref_c1.eq 0 x).trans h⟩)
def impl_areAll_Ref.E (lp : Nat) : Env := { tab := tab, fns := [(150, impl_areAll_Ref_c1.S), (149, slices_ContainsFunc_Ref.S lp)], ann := { own := [], ro := [3] } }
def impl_areAll_Ref.an : An := { pre := [] }
def impl_areAll_Ref.S (lp : Nat) : Spec := { ats := [.v (.sl TRef), .clo (.pair TRef .unit) .bool], rts := [.bool], F := fun x => impl_areAll_Ref lp x.1 x.2.1 }
theorem impl_areAll_Ref.eq (lp : Nat) (x : ADens [.v (.sl TRef), .clo (.pair TRef .unit) .bool]) : evalF (impl_areAll_Ref.E lp) impl_areAll_Ref.an lp Tryz.f103 [.v (.sl TRef), .clo (.pair TRef .unit) .bool] [.bool] x = (impl_areAll_Ref.S lp).F x := by kernel_rfl
theorem impl_areAll_Ref.ok (lp : Nat) : Sound Tryz.prog 103 (impl_areAll_Ref.S lp) := sound_of (E := impl_areAll_Ref.E lp) (env_ok tabFits tabEqs ⟨impl_areAll_Ref_c1.ok, slices_ContainsFunc_Ref.ok lp, trivial⟩ trivial) mixed Tryz.func103 (by kernel_rfl) (c := codeOf Tryz.f103) (by kernel_rfl) (by kernel_rfl) impl_areAll_Ref.an (fun x r h => ⟨lp, (impl_areAll_Ref.eq lp x).trans h⟩)
def impl_place_c1.E : Env := { tab := tab, fns := [], ann := { own := [], ro := [2] } }
def impl_place_c1.an : An := { pre := [] }
def impl_place_c1.S : Spec := { ats := [.v TRef, .ptrD .str], rts := [.bool], F := fun x => impl_place_c1 x.1 x.2.1 }
theorem impl_place_c1.eq (lp : Nat) (x : ADens [.v TRef, .ptrD .str]) : evalF (impl_place_c1.E) impl_place_c1.an lp Tryz.f173 [.v TRef, .ptrD .str] [.bool] x = (impl_place_c1.S).F x := by kernel_rfl
theorem impl_place_c1.ok : Sound Tryz.prog 173 (impl_place_c1.S) := sound_of (E := impl_place_c1.E) (env_ok tabFits tabEqs trivial trivial) mixed Tryz.func173 (by kernel_rfl) (c := codeOf Tryz.f173) (by kernel_rfl) (by kernel_rfl) impl_place_c1.an (fun x r h => ⟨0, (impl_place_c1.eq 0 x).trans h⟩)
def impl_place.E (lp : Nat) : Env := { tab := tab, fns := [(173, impl_place_c1.S), (172, slices_IndexFunc_Ref.S lp)], ann := { own := [], ro := [3] } }
def impl_place.an : An := { pre := [] }
def impl_place.S (lp : Nat) : Spec := { ats := [.v (.sl TRef), .v .str], rts := [(.int .i64)], F := fun x => impl_place lp x.1 x.2.1 }
theorem impl_place.eq (lp : Nat) (x : ADens [.v (.sl TRef), .v .str]) : evalF (impl_place.E lp) impl_place.an lp Tryz.f119 [.v (.sl TRef), .v .str] [(.int .i64)] x = (impl_place.S lp).F x := by kernel_rfl
theorem impl_place.ok (lp : Nat) : Sound Tryz.prog 119 (impl_place.S lp) := sound_of (E := impl_place.E lp) (env_ok tabFits tabEqs ⟨impl_place_c1.ok, slices_IndexFunc_Ref.ok lp, trivial⟩ trivial) mixed Tryz.func119 (by kernel_rfl) (c := codeOf Tryz.f119) (by kernel_rfl) (by kernel_rfl) impl_place.an (fun x r h => ⟨lp, (impl_place.eq lp x).trans h⟩)
def impl_isHead.E : Env := { tab := tab, fns := [(61, impl_within.S)], ann := { own := [], ro := [] } }
def impl_isHead.an : An := { pre := [] }
def impl_isHead.S : Spec := { ats := [.v (.int .i64)], rts := [.bool], F := fun x => impl_isHead x.1 }
theorem impl_isHead.eq (lp : Nat) (x : ADens [.v (.int .i64)]) : evalF (impl_isHead.E) impl_isHead.an lp Tryz.f159 [.v (.int .i64)] [.bool] x = (impl_isHead.S).F x := by kernel_rfl
theorem impl_isHead.ok : Sound Tryz.prog 159 (impl_isHead.S) := sound_of (E := impl_isHead.E) (env_ok tabFits tabEqs ⟨impl_within.ok, trivial⟩ trivial) mixed Tryz.func159 (by kernel_rfl) (c := codeOf Tryz.f159) (by kernel_rfl) (by kernel_rfl) impl_isHead.an (fun x r h => ⟨0, (impl_isHead.eq 0 x).trans h⟩)
def impl_isRef.E (lp : Nat) : Env := { tab := tab, fns := [(115, impl_NameOK.S lp), (61, impl_within.S), (159, impl_isHead.S)], ann := { own := [], ro := [1] } }
def impl_isRef.an : An := { pre := [] }
def impl_isRef.S (lp : Nat) : Spec := { ats := [.v TRef], rts := [.bool], F := fun x => impl_isRef lp x.1 }
theorem impl_isRef.eq (lp : Nat) (x : ADens [.v TRef]) : evalF (impl_isRef.E lp) impl_isRef.an lp Tryz.f148 [.v TRef] [.bool] x = (impl_isRef.S lp).F x := by kernel_rfl
theorem impl_isRef.ok (lp : Nat) : Sound Tryz.prog 148 (impl_isRef.S lp) := sound_of (E := impl_isRef.E lp) (env_ok tabFits tabEqs ⟨impl_NameOK.ok lp, impl_within.ok, impl_isHead.ok, trivial⟩ trivial) mixed Tryz.func148 (by kernel_rfl) (c := codeOf Tryz.f148) (by kernel_rfl) (by kernel_rfl) impl_isRef.an (fun x r h => ⟨lp, (impl_isRef.eq lp x).trans h⟩)
def impl_RefsOK.E (lp : Nat) : Env := { tab := tab, fns := [(148, impl_isRef.S lp), (103, impl_areAll_Ref.S lp), (119, impl_place.S lp)], ann := { own := [], ro := [] } }
def impl_RefsOK.la4 : LoopAn := { kn := { tms := [0, 13, 14, 15] }, kx := {}, kr := { tms := [2] } }
def impl_RefsOK.an : An := { loops := [(4, impl_RefsOK.la4)] }
def impl_RefsOK.s4 (x0 : List Ref) (x13 : List Ref) (x14 : Int) (x15 : Int) : St := ⟨.v (.one (.b (.d (.sl TRef) x0))) :: (sk 12 (.v (.one (.b (.d (.sl TRef) x13))) :: .v (.one (.b (.d (.int .i64) x14))) :: .v (.one (.b (.d (.int .i64) x15))) :: (sk 12 ([])))), sko 28 ([])⟩
def impl_RefsOK.sx4 (y : Unit) : St := ⟨sk 28 ([]), sko 28 ([])⟩
def impl_RefsOK.sr4 (z : Bool) : St := ⟨sk 2 (.v (.one (.b (.d .bool z))) :: (sk 25 ([]))), sko 28 ([])⟩
def impl_RefsOK.S (lp : Nat) : Spec := { ats := [.v (.sl TRef)], rts := [.bool], F := fun x => impl_RefsOK lp x.1 }
theorem impl_RefsOK.t_b4 (lp : Nat) {R : Type} (N : St → Option R) (X : Out → St → Option R) (x0 : List Ref) (x13 : List Ref) (x14 : Int) (x15 : Int) : codeK (impl_RefsOK.E lp) impl_RefsOK.an lp (loopAt 4 (codeOf Tryz.f102)) (impl_RefsOK.s4 x0 x13 x14 x15) (lpK impl_RefsOK.la4 N X) = impl_RefsOK.b4 lp (fun x0 x13 x14 x15 => N (impl_RefsOK.s4 x0 x13 x14 x15)) (fun y => X (.exit 0) (impl_RefsOK.sx4 y)) (fun z => X .ret (impl_RefsOK.sr4 z)) x0 x13 x14 x15 := by kernel_rfl
theorem impl_RefsOK.n_b4 (lp : Nat) {R S : Type} (N : List Ref → List Ref → Int → Int → Option R) (X : Unit → Option R) (Q : Bool → Option R) (x0 : List Ref) (x13 : List Ref) (x14 : Int) (x15 : Int) (k : R → Option S) : obind (impl_RefsOK.b4 lp N X Q x0 x13 x14 x15) k = impl_RefsOK.b4 lp (fun x0 x13 x14 x15 => obind (N x0 x13 x14 x15) k) (fun y => obind (X y) k) (fun z => obind (Q z) k) x0 x13 x14 x15 := by
  unfold impl_RefsOK.b4; simp only [obind_none, obind_some, obind_cond, obind_oif, obind_oget, obind_obind]
theorem impl_RefsOK.k4 (lp : Nat) {R : Type} (K : Out → St → Option R) : ∀ (n : Nat) (x0 : List Ref) (x13 : List Ref) (x14 : Int) (x15 : Int), loopK impl_RefsOK.la4 (fun σ K => codeK (impl_RefsOK.E lp) impl_RefsOK.an lp (loopAt 4 (codeOf Tryz.f102)) σ K) n (impl_RefsOK.s4 x0 x13 x14 x15) K = obind (impl_RefsOK.l4 lp n x0 x13 x14 x15) (leK 0 impl_RefsOK.sr4 impl_RefsOK.sx4 K) := by
  intro n
  induction n with
  | zero => intros; rfl
  | succ n ih =>
    intro x0 x13 x14 x15
    rw [loopK_succ, impl_RefsOK.t_b4, impl_RefsOK.l4, impl_RefsOK.n_b4]
    simp only [ih, obind_some, leK_ret, leK_brk]
theorem impl_RefsOK.t_a4 (lp : Nat) (y : Unit) : kont (R := Bool) (impl_RefsOK.E lp) impl_RefsOK.an lp (finK (impl_RefsOK.E lp) Tryz.f102 [.bool]) (stkAt 4 (codeOf Tryz.f102)) (.exit 0) (impl_RefsOK.sx4 y) = impl_RefsOK.a4 lp y := by kernel_rfl
theorem impl_RefsOK.t_q4 (lp : Nat) (z : Bool) : kont (R := Bool) (impl_RefsOK.E lp) impl_RefsOK.an lp (finK (impl_RefsOK.E lp) Tryz.f102 [.bool]) (stkAt 4 (codeOf Tryz.f102)) .ret (impl_RefsOK.sr4 z) = impl_RefsOK.q4 lp z := by kernel_rfl
theorem impl_RefsOK.t_e (lp : Nat) (x0 : List Ref) : evalF (impl_RefsOK.E lp) impl_RefsOK.an lp Tryz.f102 [.v (.sl TRef)] [.bool] (x0, ()) = impl_RefsOK.e lp (fun x0 x13 x14 x15 => loopK impl_RefsOK.la4 (fun σ K => codeK (impl_RefsOK.E lp) impl_RefsOK.an lp (loopAt 4 (codeOf Tryz.f102)) σ K) lp (impl_RefsOK.s4 x0 x13 x14 x15) (kont (impl_RefsOK.E lp) impl_RefsOK.an lp (finK (impl_RefsOK.E lp) Tryz.f102 [.bool]) (stkAt 4 (codeOf Tryz.f102)))) x0 := by kernel_rfl
theorem impl_RefsOK.eq0 (lp : Nat) (x0 : List Ref) : evalF (impl_RefsOK.E lp) impl_RefsOK.an lp Tryz.f102 [.v (.sl TRef)] [.bool] (x0, ()) = impl_RefsOK lp x0 := by
  rw [impl_RefsOK.t_e]; unfold impl_RefsOK
  simp only [leK_leF _ impl_RefsOK.sr4 impl_RefsOK.sx4, impl_RefsOK.k4, impl_RefsOK.t_a4, impl_RefsOK.t_q4]
theorem impl_RefsOK.eq (lp : Nat) (x : ADens [.v (.sl TRef)]) : evalF (impl_RefsOK.E lp) impl_RefsOK.an lp Tryz.f102 [.v (.sl TRef)] [.bool] x = (impl_RefsOK.S lp).F x := impl_RefsOK.eq0 lp x.1
theorem impl_RefsOK.ok (lp : Nat) : Sound Tryz.prog 102 (impl_RefsOK.S lp) := sound_of (E := impl_RefsOK.E lp) (env_ok tabFits tabEqs ⟨impl_isRef.ok lp, impl_areAll_Ref.ok lp, impl_place.ok lp, trivial⟩ trivial) mixed Tryz.func102 (by kernel_rfl) (c := codeOf Tryz.f102) (by kernel_rfl) (by kernel_rfl) impl_RefsOK.an (fun x r h => ⟨lp, (impl_RefsOK.eq lp x).trans h⟩)
def impl_BaseOK_c1.E : Env := { tab := tab, fns := [], ann := { own := [], ro := [2] } }
def impl_BaseOK_c1.an : An := { pre := [] }
def impl_BaseOK_c1.S : Spec := { ats := [.v TRef, .ptrD TBase], rts := [.bool], F := fun x => impl_BaseOK_c1 x.1 x.2.1 }
theorem impl_BaseOK_c1.eq (lp : Nat) (x : ADens [.v TRef, .ptrD TBase]) : evalF (impl_BaseOK_c1.E) impl_BaseOK_c1.an lp Tryz.f104 [.v TRef, .ptrD TBase] [.bool] x = (impl_BaseOK_c1.S).F x := by kernel_rfl
theorem impl_BaseOK_c1.ok : Sound Tryz.prog 104 (impl_BaseOK_c1.S) := sound_of (E := impl_BaseOK_c1.E) (env_ok tabFits tabEqs trivial trivial) mixed Tryz.func104 (by kernel_rfl) (c := codeOf Tryz.f104) (by kernel_rfl) (by kernel_rfl) impl_BaseOK_c1.an (fun x r h => ⟨0, (impl_BaseOK_c1.eq 0 x).trans h⟩)
def impl_BaseOK.E (lp : Nat) : Env := { tab := tab, fns := [(101, impl_StoreOK.S lp), (102, impl_RefsOK.S lp), (104, impl_BaseOK_c1.S), (103, impl_areAll_Ref.S lp)], ann := { own := [], ro := [1] } }
def impl_BaseOK.an : An := { pre := [] }
def impl_BaseOK.S (lp : Nat) : Spec := { ats := [.v TBase], rts := [.bool], F := fun x => impl_BaseOK lp x.1 }
theorem impl_BaseOK.eq (lp : Nat) (x : ADens [.v TBase]) : evalF (impl_BaseOK.E lp) impl_BaseOK.an lp Tryz.f60 [.v TBase] [.bool] x = (impl_BaseOK.S lp).F x := by kernel_rfl
theorem impl_BaseOK.ok (lp : Nat) : Sound Tryz.prog 60 (impl_BaseOK.S lp) := sound_of (E := impl_BaseOK.E lp) (env_ok tabFits tabEqs ⟨impl_StoreOK.ok lp, impl_RefsOK.ok lp, impl_BaseOK_c1.ok, impl_areAll_Ref.ok lp, trivial⟩ trivial) mixed Tryz.func60 (by kernel_rfl) (c := codeOf Tryz.f60) (by kernel_rfl) (by kernel_rfl) impl_BaseOK.an (fun x r h => ⟨lp, (impl_BaseOK.eq lp x).trans h⟩)
def slices_IndexFunc_Wish.E (lp : Nat) : Env := { tab := tab, fns := [], ann := { own := [], ro := [] } }
def slices_IndexFunc_Wish.la2 : LoopAn := { kn := { tms := [0, 1, 7, 8] }, kx := {}, kr := { tms := [4] } }
def slices_IndexFunc_Wish.an : An := { loops := [(2, slices_IndexFunc_Wish.la2)] }
def slices_IndexFunc_Wish.s2 (x0 : List Wish) (x1 : (Wish × Unit) → Option Bool) (x7 : Int) (x8 : Int) : St := ⟨.v (.one (.b (.d (.sl TWish) x0))) :: .v (.one (.b (.cl (.pair TWish .unit) .bool x1))) :: (sk 5 (.v (.one (.b (.d (.int .i64) x7))) :: .v (.one (.b (.d (.int .i64) x8))) :: (sk 10 ([])))), sko 19 ([])⟩
def slices_IndexFunc_Wish.sx2 (y : Unit) : St := ⟨sk 19 ([]), sko 19 ([])⟩
def slices_IndexFunc_Wish.sr2 (z : Int) : St := ⟨sk 4 (.v (.one (.b (.d (.int .i64) z))) :: (sk 14 ([]))), sko 19 ([])⟩
def slices_IndexFunc_Wish.S (lp : Nat) : Spec := { ats := [.v (.sl TWish), .clo (.pair TWish .unit) .bool], rts := [(.int .i64)], F := fun x => slices_IndexFunc_Wish lp x.1 x.2.1 }
theorem slices_IndexFunc_Wish.t_b2 (lp : Nat) {R : Type} (N : St → Option R) (X : Out → St → Option R) (x0 : List Wish) (x1 : (Wish × Unit) → Option Bool) (x7 : Int) (x8 : Int) : codeK (slices_IndexFunc_Wish.E lp) slices_IndexFunc_Wish.an lp (loopAt 2 (codeOf Tryz.f185)) (slices_IndexFunc_Wish.s2 x0 x1 x7 x8) (lpK slices_IndexFunc_Wish.la2 N X) = slices_IndexFunc_Wish.b2 lp (fun x0 x1 x7 x8 => N (slices_IndexFunc_Wish.s2 x0 x1 x7 x8)) (fun y => X (.exit 0) (slices_IndexFunc_Wish.sx2 y)) (fun z => X .ret (slices_IndexFunc_Wish.sr2 z)) x0 x1 x7 x8 := by kernel_rfl
theorem slices_IndexFunc_Wish.n_b2 (lp : Nat) {R S : Type} (N : List Wish → ((Wish × Unit) → Option Bool) → Int → Int → Option R) (X : Unit → Option R) (Q : Int → Option R) (x0 : List Wish) (x1 : (Wish × Unit) → Option Bool) (x7 : Int) (x8 : Int) (k : R → Option S) : obind (slices_IndexFunc_Wish.b2 lp N X Q x0 x1 x7 x8) k = slices_IndexFunc_Wish.b2 lp (fun x0 x1 x7 x8 => obind (N x0 x1 x7 x8) k) (fun y => obind (X y) k) (fun z => obind (Q z) k) x0 x1 x7 x8 := by
  unfold slices_IndexFunc_Wish.b2; simp only [obind_none, obind_some, obind_cond, obind_oif, obind_oget, obind_obind]
theorem slices_IndexFunc_Wish.k2 (lp : Nat) {R : Type} (K : Out → St → Option R) : ∀ (n : Nat) (x0 : List Wish) (x1 : (Wish × Unit) → Option Bool) (x7 : Int) (x8 : Int), loopK slices_IndexFunc_Wish.la2 (fun σ K => codeK (slices_IndexFunc_Wish.E lp) slices_IndexFunc_Wish.an lp (loopAt 2 (codeOf Tryz.f185)) σ K) n (slices_IndexFunc_Wish.s2 x0 x1 x7 x8) K = obind (slices_IndexFunc_Wish.l2 lp n x0 x1 x7 x8) (leK 0 slices_IndexFunc_Wish.sr2 slices_IndexFunc_Wish.sx2 K) := by
  intro n
  induction n with
  | zero => intros; rfl
  | succ n ih =>
    intro x0 x1 x7 x8
    rw [loopK_succ, slices_IndexFunc_Wish.t_b2, slices_IndexFunc_Wish.l2, slices_IndexFunc_Wish.n_b2]
    simp only [ih, obind_some, leK_ret, leK_brk]
theorem slices_IndexFunc_Wish.t_a2 (lp : Nat) (y : Unit) : kont (R := Int) (slices_IndexFunc_Wish.E lp) slices_IndexFunc_Wish.an lp (finK (slices_IndexFunc_Wish.E lp) Tryz.f185 [(.int .i64)]) (stkAt 2 (codeOf Tryz.f185)) (.exit 0) (slices_IndexFunc_Wish.sx2 y) = slices_IndexFunc_Wish.a2 lp y := by kernel_rfl
theorem slices_IndexFunc_Wish.t_q2 (lp : Nat) (z : Int) : kont (R := Int) (slices_IndexFunc_Wish.E lp) slices_IndexFunc_Wish.an lp (finK (slices_IndexFunc_Wish.E lp) Tryz.f185 [(.int .i64)]) (stkAt 2 (codeOf Tryz.f185)) .ret (slices_IndexFunc_Wish.sr2 z) = slices_IndexFunc_Wish.q2 lp z := by kernel_rfl
theorem slices_IndexFunc_Wish.t_e (lp : Nat) (x0 : List Wish) (x1 : (Wish × Unit) → Option Bool) : evalF (slices_IndexFunc_Wish.E lp) slices_IndexFunc_Wish.an lp Tryz.f185 [.v (.sl TWish), .clo (.pair TWish .unit) .bool] [(.int .i64)] (x0, x1, ()) = slices_IndexFunc_Wish.e lp (fun x0 x1 x7 x8 => loopK slices_IndexFunc_Wish.la2 (fun σ K => codeK (slices_IndexFunc_Wish.E lp) slices_IndexFunc_Wish.an lp (loopAt 2 (codeOf Tryz.f185)) σ K) lp (slices_IndexFunc_Wish.s2 x0 x1 x7 x8) (kont (slices_IndexFunc_Wish.E lp) slices_IndexFunc_Wish.an lp (finK (slices_IndexFunc_Wish.E lp) Tryz.f185 [(.int .i64)]) (stkAt 2 (codeOf Tryz.f185)))) x0 x1 := by kernel_rfl
theorem slices_IndexFunc_Wish.eq0 (lp : Nat) (x0 : List Wish) (x1 : (Wish × Unit) → Option Bool) : evalF (slices_IndexFunc_Wish.E lp) slices_IndexFunc_Wish.an lp Tryz.f185 [.v (.sl TWish), .clo (.pair TWish .unit) .bool] [(.int .i64)] (x0, x1, ()) = slices_IndexFunc_Wish lp x0 x1 := by
  rw [slices_IndexFunc_Wish.t_e]; unfold slices_IndexFunc_Wish
  simp only [leK_leF _ slices_IndexFunc_Wish.sr2 slices_IndexFunc_Wish.sx2, slices_IndexFunc_Wish.k2, slices_IndexFunc_Wish.t_a2, slices_IndexFunc_Wish.t_q2]
theorem slices_IndexFunc_Wish.eq (lp : Nat) (x : ADens [.v (.sl TWish), .clo (.pair TWish .unit) .bool]) : evalF (slices_IndexFunc_Wish.E lp) slices_IndexFunc_Wish.an lp Tryz.f185 [.v (.sl TWish), .clo (.pair TWish .unit) .bool] [(.int .i64)] x = (slices_IndexFunc_Wish.S lp).F x := slices_IndexFunc_Wish.eq0 lp x.1 x.2.1
theorem slices_IndexFunc_Wish.ok (lp : Nat) : Sound Tryz.prog 185 (slices_IndexFunc_Wish.S lp) := sound_of (E := slices_IndexFunc_Wish.E lp) (env_ok tabFits tabEqs trivial trivial) mixed Tryz.func185 (by kernel_rfl) (c := codeOf Tryz.f185) (by kernel_rfl) (by kernel_rfl) slices_IndexFunc_Wish.an (fun x r h => ⟨lp, (slices_IndexFunc_Wish.eq lp x).trans h⟩)
def slices_ContainsFunc_Wish.E (lp : Nat) : Env := { tab := tab, fns := [(185, slices_IndexFunc_Wish.S lp)], ann := { own := [], ro := [] } }
def slices_ContainsFunc_Wish.an : An := { pre := [] }
def slices_ContainsFunc_Wish.S (lp : Nat) : Spec := { ats := [.v (.sl TWish), .clo (.pair TWish .unit) .bool], rts := [.bool], F := fun x => slices_ContainsFunc_Wish lp x.1 x.2.1 }
theorem slices_ContainsFunc_Wish.eq (lp : Nat) (x : ADens [.v (.sl TWish), .clo (.pair TWish .unit) .bool]) : evalF (slices_ContainsFunc_Wish.E lp) slices_ContainsFunc_Wish.an lp Tryz.f151 [.v (.sl TWish), .clo (.pair TWish .unit) .bool] [.bool] x = (slices_ContainsFunc_Wish.S lp).F x := by kernel_rfl
theorem slices_ContainsFunc_Wish.ok (lp : Nat) : Sound Tryz.prog 151 (slices_ContainsFunc_Wish.S lp) := sound_of (E := slices_ContainsFunc_Wish.E lp) (env_ok tabFits tabEqs ⟨slices_IndexFunc_Wish.ok lp, trivial⟩ trivial) mixed Tryz.func151 (by kernel_rfl) (c := codeOf Tryz.f151) (by kernel_rfl) (by kernel_rfl) slices_ContainsFunc_Wish.an (fun x r h => ⟨lp, (slices_ContainsFunc_Wish.eq lp x).trans h⟩)
def impl_areAll_Wish_c1.E : Env := { tab := tab, fns := [], ann := { own := [], ro := [2] } }
def impl_areAll_Wish_c1.an : An := { pre := [] }
def impl_areAll_Wish_c1.S : Spec := { ats := [.v TWish, .ptrC (.pair TWish .unit) .bool], rts := [.bool], F := fun x => impl_areAll_Wish_c1 x.1 x.2.1 }
theorem impl_areAll_Wish_c1.eq (lp : Nat) (x : ADens [.v TWish, .ptrC (.pair TWish .unit) .bool]) : evalF (impl_areAll_Wish_c1.E) impl_areAll_Wish_c1.an lp Tryz.f152 [.v TWish, .ptrC (.pair TWish .unit) .bool] [.bool] x = (impl_areAll_Wish_c1.S).F x := by kernel_rfl
theorem impl_areAll_Wish_c1.ok : Sound Tryz.prog 152 (impl_areAll_Wish_c1.S) := sound_of (E := impl_areAll_Wish_c1.E) (env_ok tabFits tabEqs trivial trivial) mixed Tryz.func152 (by kernel_rfl) (c := codeOf Tryz.f152) (by kernel_rfl) (by kernel_rfl) impl_areAll_Wish_c1.an (fun x r h => ⟨0, (impl_areAll_Wish_c1.eq 0 x).trans h⟩)
def impl_areAll_Wish.E (lp : Nat) : Env := { tab := tab, fns := [(152, impl_areAll_Wish_c1.S), (151, slices_ContainsFunc_Wish.S lp)], ann := { own := [], ro := [3] } }
def impl_areAll_Wish.an : An := { pre := [] }
def impl_areAll_Wish.S (lp : Nat) : Spec := { ats := [.v (.sl TWish), .clo (.pair TWish .unit) .bool], rts := [.bool], F := fun x => impl_areAll_Wish lp x.1 x.2.1 }
theorem impl_areAll_Wish.eq (lp : Nat) (x : ADens [.v (.sl TWish), .clo (.pair TWish .unit) .bool]) : evalF (impl_areAll_Wish.E lp) impl_areAll_Wish.an lp Tryz.f105 [.v (.sl TWish), .clo (.pair TWish .unit) .bool] [.bool] x = (impl_areAll_Wish.S lp).F x := by kernel_rfl
theorem impl_areAll_Wish.ok (lp : Nat) : Sound Tryz.prog 105 (impl_areAll_Wish.S lp) := sound_of (E := impl_areAll_Wish.E lp) (env_ok tabFits tabEqs ⟨impl_areAll_Wish_c1.ok, slices_ContainsFunc_Wish.ok lp, trivial⟩ trivial) mixed Tryz.func105 (by kernel_rfl) (c := codeOf Tryz.f105) (by kernel_rfl) (by kernel_rfl) impl_areAll_Wish.an (fun x r h => ⟨lp, (impl_areAll_Wish.eq lp x).trans h⟩)
def impl_hasSource.E : Env := { tab := tab, fns := [], ann := { own := [], ro := [] } }
def impl_hasSource.an : An := { pre := [] }
def impl_hasSource.S : Spec := { ats := [.v (.int .i64)], rts := [.bool], F := fun x => impl_hasSource x.1 }
theorem impl_hasSource.eq (lp : Nat) (x : ADens [.v (.int .i64)]) : evalF (impl_hasSource.E) impl_hasSource.an lp Tryz.f77 [.v (.int .i64)] [.bool] x = (impl_hasSource.S).F x := by kernel_rfl
theorem impl_hasSource.ok : Sound Tryz.prog 77 (impl_hasSource.S) := sound_of (E := impl_hasSource.E) (env_ok tabFits tabEqs trivial trivial) mixed Tryz.func77 (by kernel_rfl) (c := codeOf Tryz.f77) (by kernel_rfl) (by kernel_rfl) impl_hasSource.an (fun x r h => ⟨0, (impl_hasSource.eq 0 x).trans h⟩)
def impl_EditsOK.E (lp : Nat) : Env := { tab := tab, fns := [(115, impl_NameOK.S lp), (162, impl_isValue.S)], ann := { own := [], ro := [] } }
def impl_EditsOK.la2 : LoopAn := { kn := { tms := [0, 5, 6, 7] }, kx := { tms := [0] }, kr := { tms := [2] } }
def impl_EditsOK.an : An := { loops := [(2, impl_EditsOK.la2)] }
def impl_EditsOK.s2 (x0 : List Edit) (x5 : List Edit) (x6 : Int) (x7 : Int) : St := ⟨.v (.one (.b (.d (.sl TEdit) x0))) :: (sk 4 (.v (.one (.b (.d (.sl TEdit) x5))) :: .v (.one (.b (.d (.int .i64) x6))) :: .v (.one (.b (.d (.int .i64) x7))) :: (sk 42 ([])))), sko 50 ([])⟩
def impl_EditsOK.sx2 (y : (List Edit)) : St := ⟨.v (.one (.b (.d (.sl TEdit) y))) :: (sk 49 ([])), sko 50 ([])⟩
def impl_EditsOK.sr2 (z : Bool) : St := ⟨sk 2 (.v (.one (.b (.d .bool z))) :: (sk 47 ([]))), sko 50 ([])⟩
def impl_EditsOK.S (lp : Nat) : Spec := { ats := [.v (.sl TEdit)], rts := [.bool], F := fun x => impl_EditsOK lp x.1 }
theorem impl_EditsOK.t_b2 (lp : Nat) {R : Type} (N : St → Option R) (X : Out → St → Option R) (x0 : List Edit) (x5 : List Edit) (x6 : Int) (x7 : Int) : codeK (impl_EditsOK.E lp) impl_EditsOK.an lp (loopAt 2 (codeOf Tryz.f160)) (impl_EditsOK.s2 x0 x5 x6 x7) (lpK impl_EditsOK.la2 N X) = impl_EditsOK.b2 lp (fun x0 x5 x6 x7 => N (impl_EditsOK.s2 x0 x5 x6 x7)) (fun y => X (.exit 0) (impl_EditsOK.sx2 y)) (fun z => X .ret (impl_EditsOK.sr2 z)) x0 x5 x6 x7 := by kernel_rfl
theorem impl_EditsOK.n_b2 (lp : Nat) {R S : Type} (N : List Edit → List Edit → Int → Int → Option R) (X : ((List Edit)) → Option R) (Q : Bool → Option R) (x0 : List Edit) (x5 : List Edit) (x6 : Int) (x7 : Int) (k : R → Option S) : obind (impl_EditsOK.b2 lp N X Q x0 x5 x6 x7) k = impl_EditsOK.b2 lp (fun x0 x5 x6 x7 => obind (N x0 x5 x6 x7) k) (fun y => obind (X y) k) (fun z => obind (Q z) k) x0 x5 x6 x7 := by
  unfold impl_EditsOK.b2; simp only [obind_none, obind_some, obind_cond, obind_oif, obind_oget, obind_obind]
theorem impl_EditsOK.k2 (lp : Nat) {R : Type} (K : Out → St → Option R) : ∀ (n : Nat) (x0 : List Edit) (x5 : List Edit) (x6 : Int) (x7 : Int), loopK impl_EditsOK.la2 (fun σ K => codeK (impl_EditsOK.E lp) impl_EditsOK.an lp (loopAt 2 (codeOf Tryz.f160)) σ K) n (impl_EditsOK.s2 x0 x5 x6 x7) K = obind (impl_EditsOK.l2 lp n x0 x5 x6 x7) (leK 0 impl_EditsOK.sr2 impl_EditsOK.sx2 K) := by
  intro n
  induction n with
  | zero => intros; rfl
  | succ n ih =>
    intro x0 x5 x6 x7
    rw [loopK_succ, impl_EditsOK.t_b2, impl_EditsOK.l2, impl_EditsOK.n_b2]
    simp only [ih, obind_some, leK_ret, leK_brk]
theorem impl_EditsOK.t_a2 (lp : Nat) (y : (List Edit)) : kont (R := Bool) (impl_EditsOK.E lp) impl_EditsOK.an lp (finK (impl_EditsOK.E lp) Tryz.f160 [.bool]) (stkAt 2 (codeOf Tryz.f160)) (.exit 0) (impl_EditsOK.sx2 y) = impl_EditsOK.a2 lp y := by kernel_rfl
theorem impl_EditsOK.t_q2 (lp : Nat) (z : Bool) : kont (R := Bool) (impl_EditsOK.E lp) impl_EditsOK.an lp (finK (impl_EditsOK.E lp) Tryz.f160 [.bool]) (stkAt 2 (codeOf Tryz.f160)) .ret (impl_EditsOK.sr2 z) = impl_EditsOK.q2 lp z := by kernel_rfl
theorem impl_EditsOK.t_e (lp : Nat) (x0 : List Edit) : evalF (impl_EditsOK.E lp) impl_EditsOK.an lp Tryz.f160 [.v (.sl TEdit)] [.bool] (x0, ()) = impl_EditsOK.e lp (fun x0 x5 x6 x7 => loopK impl_EditsOK.la2 (fun σ K => codeK (impl_EditsOK.E lp) impl_EditsOK.an lp (loopAt 2 (codeOf Tryz.f160)) σ K) lp (impl_EditsOK.s2 x0 x5 x6 x7) (kont (impl_EditsOK.E lp) impl_EditsOK.an lp (finK (impl_EditsOK.E lp) Tryz.f160 [.bool]) (stkAt 2 (codeOf Tryz.f160)))) x0 := by kernel_rfl
theorem impl_EditsOK.eq0 (lp : Nat) (x0 : List Edit) : evalF (impl_EditsOK.E lp) impl_EditsOK.an lp Tryz.f160 [.v (.sl TEdit)] [.bool] (x0, ()) = impl_EditsOK lp x0 := by
  rw [impl_EditsOK.t_e]; unfold impl_EditsOK
  simp only [leK_leF _ impl_EditsOK.sr2 impl_EditsOK.sx2, impl_EditsOK.k2, impl_EditsOK.t_a2, impl_EditsOK.t_q2]
theorem impl_EditsOK.eq (lp : Nat) (x : ADens [.v (.sl TEdit)]) : evalF (impl_EditsOK.E lp) impl_EditsOK.an lp Tryz.f160 [.v (.sl TEdit)] [.bool] x = (impl_EditsOK.S lp).F x := impl_EditsOK.eq0 lp x.1
theorem impl_EditsOK.ok (lp : Nat) : Sound Tryz.prog 160 (impl_EditsOK.S lp) := sound_of (E := impl_EditsOK.E lp) (env_ok tabFits tabEqs ⟨impl_NameOK.ok lp, impl_isValue.ok, trivial⟩ trivial) mixed Tryz.func160 (by kernel_rfl) (c := codeOf Tryz.f160) (by kernel_rfl) (by kernel_rfl) impl_EditsOK.an (fun x r h => ⟨lp, (impl_EditsOK.eq lp x).trans h⟩)
def impl_OpOK.E (lp : Nat) : Env := { tab := tab, fns := [(115, impl_NameOK.S lp), (159, impl_isHead.S), (61, impl_within.S), (160, impl_EditsOK.S lp)], ann := { own := [], ro := [1] } }
def impl_OpOK.an : An := { pre := [] }
def impl_OpOK.S (lp : Nat) : Spec := { ats := [.v TOp], rts := [.bool], F := fun x => impl_OpOK lp x.1 }
theorem impl_OpOK.eq (lp : Nat) (x : ADens [.v TOp]) : evalF (impl_OpOK.E lp) impl_OpOK.an lp Tryz.f111 [.v TOp] [.bool] x = (impl_OpOK.S lp).F x := by kernel_rfl
theorem impl_OpOK.ok (lp : Nat) : Sound Tryz.prog 111 (impl_OpOK.S lp) := sound_of (E := impl_OpOK.E lp) (env_ok tabFits tabEqs ⟨impl_NameOK.ok lp, impl_isHead.ok, impl_within.ok, impl_EditsOK.ok lp, trivial⟩ trivial) mixed Tryz.func111 (by kernel_rfl) (c := codeOf Tryz.f111) (by kernel_rfl) (by kernel_rfl) impl_OpOK.an (fun x r h => ⟨lp, (impl_OpOK.eq lp x).trans h⟩)
def slices_Clone_Edit.S : Spec := cloneS TEdit 32
def slices_Clone_Edit.R : RSpec := cloneR 226 TEdit 32
theorem slices_Clone_Edit.rok : SoundR Tryz.prog 186 slices_Clone_Edit.R := clone_okR Tryz.lays186 rfl ⟨Tryz.f186, Tryz.func186, by kernel_rfl, by kernel_rfl⟩ rfl (i := (find tab 226).getD ⟨none, 0, false, [], 0, .other, false⟩) (by kernel_rfl) (by kernel_rfl) (by decide) (Nat.le_of_ble_eq_true (by kernel_rfl))
theorem slices_Clone_Edit.ok : Sound Tryz.prog 186 slices_Clone_Edit.S := clone_okS slices_Clone_Edit.rok (by decide)
def impl_Wish_op.E : Env := { tab := tab, fns := [(186, slices_Clone_Edit.S)], ann := { own := [], ro := [2] } }
def impl_Wish_op.an : An := { pre := [] }
def impl_Wish_op.S : Spec := { ats := [.v TWish, .v (.int .i64)], rts := [TOp], F := fun x => impl_Wish_op x.1 x.2.1 }
theorem impl_Wish_op.eq (lp : Nat) (x : ADens [.v TWish, .v (.int .i64)]) : evalF (impl_Wish_op.E) impl_Wish_op.an lp Tryz.f153 [.v TWish, .v (.int .i64)] [TOp] x = (impl_Wish_op.S).F x := by kernel_rfl
theorem impl_Wish_op.ok : Sound Tryz.prog 153 (impl_Wish_op.S) := sound_of (E := impl_Wish_op.E) (env_ok tabFits tabEqs ⟨slices_Clone_Edit.ok, trivial⟩ trivial) mixed Tryz.func153 (by kernel_rfl) (c := codeOf Tryz.f153) (by kernel_rfl) (by kernel_rfl) impl_Wish_op.an (fun x r h => ⟨0, (impl_Wish_op.eq 0 x).trans h⟩)
def impl_WishOK.E (lp : Nat) : Env := { tab := tab, fns := [(77, impl_hasSource.S), (153, impl_Wish_op.S), (111, impl_OpOK.S lp), (115, impl_NameOK.S lp)], ann := { own := [], ro := [1] } }
def impl_WishOK.an : An := { pre := [] }
def impl_WishOK.S (lp : Nat) : Spec := { ats := [.v TWish], rts := [.bool], F := fun x => impl_WishOK lp x.1 }
theorem impl_WishOK.eq (lp : Nat) (x : ADens [.v TWish]) : evalF (impl_WishOK.E lp) impl_WishOK.an lp Tryz.f106 [.v TWish] [.bool] x = (impl_WishOK.S lp).F x := by kernel_rfl
theorem impl_WishOK.ok (lp : Nat) : Sound Tryz.prog 106 (impl_WishOK.S lp) := sound_of (E := impl_WishOK.E lp) (env_ok tabFits tabEqs ⟨impl_hasSource.ok, impl_Wish_op.ok, impl_OpOK.ok lp, impl_NameOK.ok lp, trivial⟩ trivial) mixed Tryz.func106 (by kernel_rfl) (c := codeOf Tryz.f106) (by kernel_rfl) (by kernel_rfl) impl_WishOK.an (fun x r h => ⟨lp, (impl_WishOK.eq lp x).trans h⟩)
def impl_Client_isDone.E : Env := { tab := tab, fns := [], ann := { own := [], ro := [1] } }
def impl_Client_isDone.an : An := { pre := [] }
def impl_Client_isDone.S : Spec := { ats := [.v TClient], rts := [.bool], F := fun x => impl_Client_isDone x.1 }
theorem impl_Client_isDone.eq (lp : Nat) (x : ADens [.v TClient]) : evalF (impl_Client_isDone.E) impl_Client_isDone.an lp Tryz.f75 [.v TClient] [.bool] x = (impl_Client_isDone.S).F x := by kernel_rfl
theorem impl_Client_isDone.ok : Sound Tryz.prog 75 (impl_Client_isDone.S) := sound_of (E := impl_Client_isDone.E) (env_ok tabFits tabEqs trivial trivial) mixed Tryz.func75 (by kernel_rfl) (c := codeOf Tryz.f75) (by kernel_rfl) (by kernel_rfl) impl_Client_isDone.an (fun x r h => ⟨0, (impl_Client_isDone.eq 0 x).trans h⟩)
def impl_Client_wish.E : Env := { tab := tab, fns := [], ann := { own := [], ro := [1] } }
def impl_Client_wish.an : An := { pre := [] }
def impl_Client_wish.S : Spec := { ats := [.v TClient], rts := [TWish], F := fun x => impl_Client_wish x.1 }
theorem impl_Client_wish.eq (lp : Nat) (x : ADens [.v TClient]) : evalF (impl_Client_wish.E) impl_Client_wish.an lp Tryz.f76 [.v TClient] [TWish] x = (impl_Client_wish.S).F x := by kernel_rfl
theorem impl_Client_wish.ok : Sound Tryz.prog 76 (impl_Client_wish.S) := sound_of (E := impl_Client_wish.E) (env_ok tabFits tabEqs trivial trivial) mixed Tryz.func76 (by kernel_rfl) (c := codeOf Tryz.f76) (by kernel_rfl) (by kernel_rfl) impl_Client_wish.an (fun x r h => ⟨0, (impl_Client_wish.eq 0 x).trans h⟩)
def impl_Client_isFresh.E : Env := { tab := tab, fns := [], ann := { own := [], ro := [1] } }
def impl_Client_isFresh.an : An := { pre := [] }
def impl_Client_isFresh.S : Spec := { ats := [.v TClient], rts := [.bool], F := fun x => impl_Client_isFresh x.1 }
theorem impl_Client_isFresh.eq (lp : Nat) (x : ADens [.v TClient]) : evalF (impl_Client_isFresh.E) impl_Client_isFresh.an lp Tryz.f154 [.v TClient] [.bool] x = (impl_Client_isFresh.S).F x := by kernel_rfl
theorem impl_Client_isFresh.ok : Sound Tryz.prog 154 (impl_Client_isFresh.S) := sound_of (E := impl_Client_isFresh.E) (env_ok tabFits tabEqs trivial trivial) mixed Tryz.func154 (by kernel_rfl) (c := codeOf Tryz.f154) (by kernel_rfl) (by kernel_rfl) impl_Client_isFresh.an (fun x r h => ⟨0, (impl_Client_isFresh.eq 0 x).trans h⟩)
def slices_Equal_Entry.E (lp : Nat) : Env := { tab := tab, fns := [], ann := { own := [], ro := [] } }
def slices_Equal_Entry.la4 : LoopAn := { kn := { tms := [0, 1, 12, 13] }, kx := {}, kr := { tms := [4] } }
def slices_Equal_Entry.an : An := { loops := [(4, slices_Equal_Entry.la4)] }
def slices_Equal_Entry.s4 (x0 : List Entry) (x1 : List Entry) (x12 : Int) (x13 : Int) : St := ⟨.v (.one (.b (.d (.sl TEntry) x0))) :: .v (.one (.b (.d (.sl TEntry) x1))) :: (sk 10 (.v (.one (.b (.d (.int .i64) x12))) :: .v (.one (.b (.d (.int .i64) x13))) :: (sk 12 ([])))), sko 26 ([])⟩
def slices_Equal_Entry.sx4 (y : Unit) : St := ⟨sk 26 ([]), sko 26 ([])⟩
def slices_Equal_Entry.sr4 (z : Bool) : St := ⟨sk 4 (.v (.one (.b (.d .bool z))) :: (sk 21 ([]))), sko 26 ([])⟩
def slices_Equal_Entry.S (lp : Nat) : Spec := { ats := [.v (.sl TEntry), .v (.sl TEntry)], rts := [.bool], F := fun x => slices_Equal_Entry lp x.1 x.2.1 }
theorem slices_Equal_Entry.t_b4 (lp : Nat) {R : Type} (N : St → Option R) (X : Out → St → Option R) (x0 : List Entry) (x1 : List Entry) (x12 : Int) (x13 : Int) : codeK (slices_Equal_Entry.E lp) slices_Equal_Entry.an lp (loopAt 4 (codeOf Tryz.f157)) (slices_Equal_Entry.s4 x0 x1 x12 x13) (lpK slices_Equal_Entry.la4 N X) = slices_Equal_Entry.b4 lp (fun x0 x1 x12 x13 => N (slices_Equal_Entry.s4 x0 x1 x12 x13)) (fun y => X (.exit 0) (slices_Equal_Entry.sx4 y)) (fun z => X .ret (slices_Equal_Entry.sr4 z)) x0 x1 x12 x13 := by kernel_rfl
theorem slices_Equal_Entry.n_b4 (lp : Nat) {R S : Type} (N : List Entry → List Entry → Int → Int → Option R) (X : Unit → Option R) (Q : Bool → Option R) (x0 : List Entry) (x1 : List Entry) (x12 : Int) (x13 : Int) (k : R → Option S) : obind (slices_Equal_Entry.b4 lp N X Q x0 x1 x12 x13) k = slices_Equal_Entry.b4 lp (fun x0 x1 x12 x13 => obind (N x0 x1 x12 x13) k) (fun y => obind (X y) k) (fun z => obind (Q z) k) x0 x1 x12 x13 := by
  unfold slices_Equal_Entry.b4; simp only [obind_none, obind_some, obind_cond, obind_oif, obind_oget, obind_obind]
theorem slices_Equal_Entry.k4 (lp : Nat) {R : Type} (K : Out → St → Option R) : ∀ (n : Nat) (x0 : List Entry) (x1 : List Entry) (x12 : Int) (x13 : Int), loopK slices_Equal_Entry.la4 (fun σ K => codeK (slices_Equal_Entry.E lp) slices_Equal_Entry.an lp (loopAt 4 (codeOf Tryz.f157)) σ K) n (slices_Equal_Entry.s4 x0 x1 x12 x13) K = obind (slices_Equal_Entry.l4 lp n x0 x1 x12 x13) (leK 0 slices_Equal_Entry.sr4 slices_Equal_Entry.sx4 K) := by
  intro n
  induction n with
  | zero => intros; rfl
  | succ n ih =>
    intro x0 x1 x12 x13
    rw [loopK_succ, slices_Equal_Entry.t_b4, slices_Equal_Entry.l4, slices_Equal_Entry.n_b4]
    simp only [ih, obind_some, leK_ret, leK_brk]
theorem slices_Equal_Entry.t_a4 (lp : Nat) (y : Unit) : kont (R := Bool) (slices_Equal_Entry.E lp) slices_Equal_Entry.an lp (finK (slices_Equal_Entry.E lp) Tryz.f157 [.bool]) (stkAt 4 (codeOf Tryz.f157)) (.exit 0) (slices_Equal_Entry.sx4 y) = slices_Equal_Entry.a4 lp y := by kernel_rfl
theorem slices_Equal_Entry.t_q4 (lp : Nat) (z : Bool) : kont (R := Bool) (slices_Equal_Entry.E lp) slices_Equal_Entry.an lp (finK (slices_Equal_Entry.E lp) Tryz.f157 [.bool]) (stkAt 4 (codeOf Tryz.f157)) .ret (slices_Equal_Entry.sr4 z) = slices_Equal_Entry.q4 lp z := by kernel_rfl
theorem slices_Equal_Entry.t_e (lp : Nat) (x0 : List Entry) (x1 : List Entry) : evalF (slices_Equal_Entry.E lp) slices_Equal_Entry.an lp Tryz.f157 [.v (.sl TEntry), .v (.sl TEntry)] [.bool] (x0, x1, ()) = slices_Equal_Entry.e lp (fun x0 x1 x12 x13 => loopK slices_Equal_Entry.la4 (fun σ K => codeK (slices_Equal_Entry.E lp) slices_Equal_Entry.an lp (loopAt 4 (codeOf Tryz.f157)) σ K) lp (slices_Equal_Entry.s4 x0 x1 x12 x13) (kont (slices_Equal_Entry.E lp) slices_Equal_Entry.an lp (finK (slices_Equal_Entry.E lp) Tryz.f157 [.bool]) (stkAt 4 (codeOf Tryz.f157)))) x0 x1 := by kernel_rfl
theorem slices_Equal_Entry.eq0 (lp : Nat) (x0 : List Entry) (x1 : List Entry) : evalF (slices_Equal_Entry.E lp) slices_Equal_Entry.an lp Tryz.f157 [.v (.sl TEntry), .v (.sl TEntry)] [.bool] (x0, x1, ()) = slices_Equal_Entry lp x0 x1 := by
  rw [slices_Equal_Entry.t_e]; unfold slices_Equal_Entry
  simp only [leK_leF _ slices_Equal_Entry.sr4 slices_Equal_Entry.sx4, slices_Equal_Entry.k4, slices_Equal_Entry.t_a4, slices_Equal_Entry.t_q4]
theorem slices_Equal_Entry.eq (lp : Nat) (x : ADens [.v (.sl TEntry), .v (.sl TEntry)]) : evalF (slices_Equal_Entry.E lp) slices_Equal_Entry.an lp Tryz.f157 [.v (.sl TEntry), .v (.sl TEntry)] [.bool] x = (slices_Equal_Entry.S lp).F x := slices_Equal_Entry.eq0 lp x.1 x.2.1
theorem slices_Equal_Entry.ok (lp : Nat) : Sound Tryz.prog 157 (slices_Equal_Entry.S lp) := sound_of (E := slices_Equal_Entry.E lp) (env_ok tabFits tabEqs trivial trivial) mixed Tryz.func157 (by kernel_rfl) (c := codeOf Tryz.f157) (by kernel_rfl) (by kernel_rfl) slices_Equal_Entry.an (fun x r h => ⟨lp, (slices_Equal_Entry.eq lp x).trans h⟩)
def impl_planned.E : Env := { tab := tab, fns := [], ann := { own := [], ro := [] } }
def impl_planned.an : An := { pre := [] }
def impl_planned.S : Spec := { ats := [.v (.sl TEntry), .v (.sl .str), .v (.int .i64), .v (.sl (.int .i64))], rts := [TPlan], F := fun x => impl_planned x.1 x.2.1 x.2.2.1 x.2.2.2.1 }
theorem impl_planned.eq (lp : Nat) (x : ADens [.v (.sl TEntry), .v (.sl .str), .v (.int .i64), .v (.sl (.int .i64))]) : evalF (impl_planned.E) impl_planned.an lp Tryz.f190 [.v (.sl TEntry), .v (.sl .str), .v (.int .i64), .v (.sl (.int .i64))] [TPlan] x = (impl_planned.S).F x := by kernel_rfl
theorem impl_planned.ok : Sound Tryz.prog 190 (impl_planned.S) := sound_of (E := impl_planned.E) (env_ok tabFits tabEqs trivial trivial) mixed Tryz.func190 (by kernel_rfl) (c := codeOf Tryz.f190) (by kernel_rfl) (by kernel_rfl) impl_planned.an (fun x r h => ⟨0, (impl_planned.eq 0 x).trans h⟩)
def impl_limited.E : Env := { tab := tab, fns := [], ann := { own := [], ro := [] } }
def impl_limited.an : An := { pre := [] }
def impl_limited.S : Spec := { ats := [.v (.sl TEntry)], rts := [(.sl TEntry), (.int .i64)], F := fun x => impl_limited x.1 }
theorem impl_limited.eq (lp : Nat) (x : ADens [.v (.sl TEntry)]) : evalF (impl_limited.E) impl_limited.an lp Tryz.f202 [.v (.sl TEntry)] [(.sl TEntry), (.int .i64)] x = (impl_limited.S).F x := by kernel_rfl
theorem impl_limited.ok : Sound Tryz.prog 202 (impl_limited.S) := sound_of (E := impl_limited.E) (env_ok tabFits tabEqs trivial trivial) mixed Tryz.func202 (by kernel_rfl) (c := codeOf Tryz.f202) (by kernel_rfl) (by kernel_rfl) impl_limited.an (fun x r h => ⟨0, (impl_limited.eq 0 x).trans h⟩)
def slices_Clone_Entry.S : Spec := cloneS TEntry 24
def slices_Clone_Entry.R : RSpec := cloneR 196 TEntry 24
theorem slices_Clone_Entry.rok : SoundR Tryz.prog 214 slices_Clone_Entry.R := clone_okR Tryz.lays214 rfl ⟨Tryz.f214, Tryz.func214, by kernel_rfl, by kernel_rfl⟩ rfl (i := (find tab 196).getD ⟨none, 0, false, [], 0, .other, false⟩) (by kernel_rfl) (by kernel_rfl) (by decide) (Nat.le_of_ble_eq_true (by kernel_rfl))
theorem slices_Clone_Entry.ok : Sound Tryz.prog 214 slices_Clone_Entry.S := clone_okS slices_Clone_Entry.rok (by decide)
def slices_BinarySearchFunc_Entry.E (lp : Nat) : Env := { tab := tab, fns := [], ann := { own := [], ro := [] } }
def slices_BinarySearchFunc_Entry.la3 : LoopAn := { kn := { tms := [0, 1, 2, 8, 9, 10] }, kx := { tms := [0, 1, 2, 8, 9] }, kr := {} }
def slices_BinarySearchFunc_Entry.an : An := { loops := [(3, slices_BinarySearchFunc_Entry.la3)] }
def slices_BinarySearchFunc_Entry.s3 (x0 : List Entry) (x1 : ByteArray) (x2 : (Entry × ByteArray × Unit) → Option Int) (x8 : Int) (x9 : Int) (x10 : Int) : St := ⟨.v (.one (.b (.d (.sl TEntry) x0))) :: .v (.one (.b (.d .str x1))) :: .v (.one (.b (.cl (.pair TEntry (.pair .str .unit)) (.int .i64) x2))) :: (sk 5 (.v (.one (.b (.d (.int .i64) x8))) :: .v (.one (.b (.d (.int .i64) x9))) :: .v (.one (.b (.d (.int .i64) x10))) :: (sk 38 ([])))), sko 49 ([])⟩
def slices_BinarySearchFunc_Entry.sx3 (y : (List Entry) × ByteArray × ((Entry × ByteArray × Unit) → Option Int) × Int × Int) : St := ⟨.v (.one (.b (.d (.sl TEntry) y.1))) :: .v (.one (.b (.d .str y.2.1))) :: .v (.one (.b (.cl (.pair TEntry (.pair .str .unit)) (.int .i64) y.2.2.1))) :: (sk 5 (.v (.one (.b (.d (.int .i64) y.2.2.2.1))) :: .v (.one (.b (.d (.int .i64) y.2.2.2.2))) :: (sk 39 ([])))), sko 49 ([])⟩
def slices_BinarySearchFunc_Entry.sr3 (z : Empty) : St := z.elim
def slices_BinarySearchFunc_Entry.S (lp : Nat) : Spec := { ats := [.v (.sl TEntry), .v .str, .clo (.pair TEntry (.pair .str .unit)) (.int .i64)], rts := [(.int .i64), .bool], F := fun x => slices_BinarySearchFunc_Entry lp x.1 x.2.1 x.2.2.1 }
theorem slices_BinarySearchFunc_Entry.t_b3 (lp : Nat) {R : Type} (N : St → Option R) (X : Out → St → Option R) (x0 : List Entry) (x1 : ByteArray) (x2 : (Entry × ByteArray × Unit) → Option Int) (x8 : Int) (x9 : Int) (x10 : Int) : codeK (slices_BinarySearchFunc_Entry.E lp) slices_BinarySearchFunc_Entry.an lp (loopAt 3 (codeOf Tryz.f220)) (slices_BinarySearchFunc_Entry.s3 x0 x1 x2 x8 x9 x10) (lpK slices_BinarySearchFunc_Entry.la3 N X) = slices_BinarySearchFunc_Entry.b3 lp (fun x0 x1 x2 x8 x9 x10 => N (slices_BinarySearchFunc_Entry.s3 x0 x1 x2 x8 x9 x10)) (fun y => X (.exit 0) (slices_BinarySearchFunc_Entry.sx3 y)) (fun z => X .ret (slices_BinarySearchFunc_Entry.sr3 z)) x0 x1 x2 x8 x9 x10 := by kernel_rfl
theorem slices_BinarySearchFunc_Entry.n_b3 (lp : Nat) {R S : Type} (N : List Entry → ByteArray → ((Entry × ByteArray × Unit) → Option Int) → Int → Int → Int → Option R) (X : ((List Entry) × ByteArray × ((Entry × ByteArray × Unit) → Option Int) × Int × Int) → Option R) (Q : Empty → Option R) (x0 : List Entry) (x1 : ByteArray) (x2 : (Entry × ByteArray × Unit) → Option Int) (x8 : Int) (x9 : Int) (x10 : Int) (k : R → Option S) : obind (slices_BinarySearchFunc_Entry.b3 lp N X Q x0 x1 x2 x8 x9 x10) k = slices_BinarySearchFunc_Entry.b3 lp (fun x0 x1 x2 x8 x9 x10 => obind (N x0 x1 x2 x8 x9 x10) k) (fun y => obind (X y) k) (fun z => obind (Q z) k) x0 x1 x2 x8 x9 x10 := by
  unfold slices_BinarySearchFunc_Entry.b3; simp only [obind_none, obind_some, obind_cond, obind_oif, obind_oget, obind_obind]
theorem slices_BinarySearchFunc_Entry.k3 (lp : Nat) {R : Type} (K : Out → St → Option R) : ∀ (n : Nat) (x0 : List Entry) (x1 : ByteArray) (x2 : (Entry × ByteArray × Unit) → Option Int) (x8 : Int) (x9 : Int) (x10 : Int), loopK slices_BinarySearchFunc_Entry.la3 (fun σ K => codeK (slices_BinarySearchFunc_Entry.E lp) slices_BinarySearchFunc_Entry.an lp (loopAt 3 (codeOf Tryz.f220)) σ K) n (slices_BinarySearchFunc_Entry.s3 x0 x1 x2 x8 x9 x10) K = obind (slices_BinarySearchFunc_Entry.l3 lp n x0 x1 x2 x8 x9 x10) (leK 0 slices_BinarySearchFunc_Entry.sr3 slices_BinarySearchFunc_Entry.sx3 K) := by
  intro n
  induction n with
  | zero => intros; rfl
  | succ n ih =>
    intro x0 x1 x2 x8 x9 x10
    rw [loopK_succ, slices_BinarySearchFunc_Entry.t_b3, slices_BinarySearchFunc_Entry.l3, slices_BinarySearchFunc_Entry.n_b3]
    simp only [ih, obind_some, leK_ret, leK_brk]
theorem slices_BinarySearchFunc_Entry.t_a3 (lp : Nat) (y : (List Entry) × ByteArray × ((Entry × ByteArray × Unit) → Option Int) × Int × Int) : kont (R := Int × Bool) (slices_BinarySearchFunc_Entry.E lp) slices_BinarySearchFunc_Entry.an lp (finK (slices_BinarySearchFunc_Entry.E lp) Tryz.f220 [(.int .i64), .bool]) (stkAt 3 (codeOf Tryz.f220)) (.exit 0) (slices_BinarySearchFunc_Entry.sx3 y) = slices_BinarySearchFunc_Entry.a3 lp y := by kernel_rfl
theorem slices_BinarySearchFunc_Entry.t_e (lp : Nat) (x0 : List Entry) (x1 : ByteArray) (x2 : (Entry × ByteArray × Unit) → Option Int) : evalF (slices_BinarySearchFunc_Entry.E lp) slices_BinarySearchFunc_Entry.an lp Tryz.f220 [.v (.sl TEntry), .v .str, .clo (.pair TEntry (.pair .str .unit)) (.int .i64)] [(.int .i64), .bool] (x0, x1, x2, ()) = slices_BinarySearchFunc_Entry.e lp (fun x0 x1 x2 x8 x9 x10 => loopK slices_BinarySearchFunc_Entry.la3 (fun σ K => codeK (slices_BinarySearchFunc_Entry.E lp) slices_BinarySearchFunc_Entry.an lp (loopAt 3 (codeOf Tryz.f220)) σ K) lp (slices_BinarySearchFunc_Entry.s3 x0 x1 x2 x8 x9 x10) (kont (slices_BinarySearchFunc_Entry.E lp) slices_BinarySearchFunc_Entry.an lp (finK (slices_BinarySearchFunc_Entry.E lp) Tryz.f220 [(.int .i64), .bool]) (stkAt 3 (codeOf Tryz.f220)))) x0 x1 x2 := by kernel_rfl
theorem slices_BinarySearchFunc_Entry.eq0 (lp : Nat) (x0 : List Entry) (x1 : ByteArray) (x2 : (Entry × ByteArray × Unit) → Option Int) : evalF (slices_BinarySearchFunc_Entry.E lp) slices_BinarySearchFunc_Entry.an lp Tryz.f220 [.v (.sl TEntry), .v .str, .clo (.pair TEntry (.pair .str .unit)) (.int .i64)] [(.int .i64), .bool] (x0, x1, x2, ()) = slices_BinarySearchFunc_Entry lp x0 x1 x2 := by
  rw [slices_BinarySearchFunc_Entry.t_e]; unfold slices_BinarySearchFunc_Entry
  simp only [leK_ret0 _ slices_BinarySearchFunc_Entry.sr3 slices_BinarySearchFunc_Entry.sx3, slices_BinarySearchFunc_Entry.k3, slices_BinarySearchFunc_Entry.t_a3]
theorem slices_BinarySearchFunc_Entry.eq (lp : Nat) (x : ADens [.v (.sl TEntry), .v .str, .clo (.pair TEntry (.pair .str .unit)) (.int .i64)]) : evalF (slices_BinarySearchFunc_Entry.E lp) slices_BinarySearchFunc_Entry.an lp Tryz.f220 [.v (.sl TEntry), .v .str, .clo (.pair TEntry (.pair .str .unit)) (.int .i64)] [(.int .i64), .bool] x = (slices_BinarySearchFunc_Entry.S lp).F x := slices_BinarySearchFunc_Entry.eq0 lp x.1 x.2.1 x.2.2.1
theorem slices_BinarySearchFunc_Entry.ok (lp : Nat) : Sound Tryz.prog 220 (slices_BinarySearchFunc_Entry.S lp) := sound_of (E := slices_BinarySearchFunc_Entry.E lp) (env_ok tabFits tabEqs trivial trivial) mixed Tryz.func220 (by kernel_rfl) (c := codeOf Tryz.f220) (by kernel_rfl) (by kernel_rfl) slices_BinarySearchFunc_Entry.an (fun x r h => ⟨lp, (slices_BinarySearchFunc_Entry.eq lp x).trans h⟩)
def strings_Compare.S : Spec := { ats := [.v .str, .v .str], rts := [.int .i64], F := fun x => strings_Compare x.1 x.2.1 }
theorem strings_Compare.ok : Sound Tryz.prog 222 strings_Compare.S := by
  refine ⟨⟨Tryz.f222, Tryz.func222, by kernel_rfl, by kernel_rfl⟩, fun w F x vs r hv hr => ?_⟩
  obtain ⟨u, vs1, rfl, h1, v, vs2, rfl, h2, h3⟩ := hv
  obtain rfl : vs2 = [] := h3
  obtain rfl : u = .string x.1 := by have h : [u] = [Value.string x.1] := h1; injection h
  obtain rfl : v = .string x.2.1 := by have h : [v] = [Value.string x.2.1] := h2; injection h
  have hr' : some (Lib.compareBytes x.1.data.toList x.2.1.data.toList) = some r := hr
  injection hr' with hr'
  refine (Any.strings_Compare Tryz.lays106 x.1 x.2.1 w).mono ?_
  rintro e w' ⟨rfl, rfl⟩
  rw [hr']
  exact ⟨[_], rfl, ⟨_, rfl, rfl⟩, Go.RowKit.Below.refl _ _⟩
def impl_find_c1.E : Env := { tab := tab, fns := [(222, strings_Compare.S)], ann := { own := [], ro := [2] } }
def impl_find_c1.an : An := { pre := [] }
def impl_find_c1.S : Spec := { ats := [.v TEntry, .v .str], rts := [(.int .i64)], F := fun x => impl_find_c1 x.1 x.2.1 }
theorem impl_find_c1.eq (lp : Nat) (x : ADens [.v TEntry, .v .str]) : evalF (impl_find_c1.E) impl_find_c1.an lp Tryz.f221 [.v TEntry, .v .str] [(.int .i64)] x = (impl_find_c1.S).F x := by kernel_rfl
theorem impl_find_c1.ok : Sound Tryz.prog 221 (impl_find_c1.S) := sound_of (E := impl_find_c1.E) (env_ok tabFits tabEqs ⟨strings_Compare.ok, trivial⟩ trivial) mixed Tryz.func221 (by kernel_rfl) (c := codeOf Tryz.f221) (by kernel_rfl) (by kernel_rfl) impl_find_c1.an (fun x r h => ⟨0, (impl_find_c1.eq 0 x).trans h⟩)
def impl_find.E (lp : Nat) : Env := { tab := tab, fns := [(221, impl_find_c1.S), (220, slices_BinarySearchFunc_Entry.S lp)], ann := { own := [], ro := [] } }
def impl_find.an : An := { pre := [] }
def impl_find.S (lp : Nat) : Spec := { ats := [.v (.sl TEntry), .v .str], rts := [(.int .i64), .bool], F := fun x => impl_find lp x.1 x.2.1 }
theorem impl_find.eq (lp : Nat) (x : ADens [.v (.sl TEntry), .v .str]) : evalF (impl_find.E lp) impl_find.an lp Tryz.f215 [.v (.sl TEntry), .v .str] [(.int .i64), .bool] x = (impl_find.S lp).F x := by kernel_rfl
theorem impl_find.ok (lp : Nat) : Sound Tryz.prog 215 (impl_find.S lp) := sound_of (E := impl_find.E lp) (env_ok tabFits tabEqs ⟨impl_find_c1.ok, slices_BinarySearchFunc_Entry.ok lp, trivial⟩ trivial) mixed Tryz.func215 (by kernel_rfl) (c := codeOf Tryz.f215) (by kernel_rfl) (by kernel_rfl) impl_find.an (fun x r h => ⟨lp, (impl_find.eq lp x).trans h⟩)
def slices_Delete_Entry.R : RSpec := deleteR 196 TEntry
theorem slices_Delete_Entry.rok : SoundR Tryz.prog 216 slices_Delete_Entry.R := delete_ok ⟨Tryz.f216, Tryz.func216, by kernel_rfl, by kernel_rfl⟩ Tryz.delWalk
def slices_Insert_Entry.R : RSpec := insertR 196 TEntry 24
theorem slices_Insert_Entry.rok : SoundR Tryz.prog 217 slices_Insert_Entry.R := insert_ok ⟨Tryz.f217, Tryz.func217, by kernel_rfl, by kernel_rfl⟩ (by decide) Tryz.insWalk
def impl_edited.E (lp : Nat) : Env := { tab := tab, fns := [(215, impl_find.S lp)], ann := { own := [], ro := [] }, rows := [(214, slices_Clone_Entry.R), (216, slices_Delete_Entry.R), (217, slices_Insert_Entry.R)] }
def impl_edited.la3 : LoopAn := { kn := { tms := [5, 12, 13, 14], obs := [11] }, kx := { tms := [5], obs := [11] }, kr := {} }
def impl_edited.an : An := { loops := [(3, impl_edited.la3)] }
def impl_edited.s3 (x12 : List Edit) (x13 : Int) (x14 : Int) (xo11 : List Entry) : St := ⟨sk 5 (.v (.one (.row 11 0)) :: (sk 6 (.v (.one (.b (.d (.sl TEdit) x12))) :: .v (.one (.b (.d (.int .i64) x13))) :: .v (.one (.b (.d (.int .i64) x14))) :: (sk 30 ([]))))), sko 11 (some (.row 196 TEntry xo11 0) :: (sko 33 ([])))⟩
def impl_edited.sx3 (y : (List Entry)) : St := ⟨sk 5 (.v (.one (.row 11 0)) :: (sk 39 ([]))), sko 11 (some (.row 196 TEntry y 0) :: (sko 33 ([])))⟩
def impl_edited.sr3 (z : Empty) : St := z.elim
def impl_edited.S (lp : Nat) : Spec := { ats := [.v (.sl TEntry), .v (.sl TEdit)], rts := [(.sl TEntry)], F := fun x => impl_edited lp x.1 x.2.1 }
theorem impl_edited.t_b3 (lp : Nat) {R : Type} (N : St → Option R) (X : Out → St → Option R) (x12 : List Edit) (x13 : Int) (x14 : Int) (xo11 : List Entry) : codeK (impl_edited.E lp) impl_edited.an lp (loopAt 3 (codeOf Tryz.f203)) (impl_edited.s3 x12 x13 x14 xo11) (lpK impl_edited.la3 N X) = impl_edited.b3 lp (fun x12 x13 x14 xo11 => N (impl_edited.s3 x12 x13 x14 xo11)) (fun y => X (.exit 0) (impl_edited.sx3 y)) (fun z => X .ret (impl_edited.sr3 z)) x12 x13 x14 xo11 := by kernel_rfl
theorem impl_edited.n_b3 (lp : Nat) {R S : Type} (N : List Edit → Int → Int → List Entry → Option R) (X : ((List Entry)) → Option R) (Q : Empty → Option R) (x12 : List Edit) (x13 : Int) (x14 : Int) (xo11 : List Entry) (k : R → Option S) : obind (impl_edited.b3 lp N X Q x12 x13 x14 xo11) k = impl_edited.b3 lp (fun x12 x13 x14 xo11 => obind (N x12 x13 x14 xo11) k) (fun y => obind (X y) k) (fun z => obind (Q z) k) x12 x13 x14 xo11 := by
  unfold impl_edited.b3; simp only [obind_none, obind_some, obind_cond, obind_oif, obind_oget, obind_obind]
theorem impl_edited.k3 (lp : Nat) {R : Type} (K : Out → St → Option R) : ∀ (n : Nat) (x12 : List Edit) (x13 : Int) (x14 : Int) (xo11 : List Entry), loopK impl_edited.la3 (fun σ K => codeK (impl_edited.E lp) impl_edited.an lp (loopAt 3 (codeOf Tryz.f203)) σ K) n (impl_edited.s3 x12 x13 x14 xo11) K = obind (impl_edited.l3 lp n x12 x13 x14 xo11) (leK 0 impl_edited.sr3 impl_edited.sx3 K) := by
  intro n
  induction n with
  | zero => intros; rfl
  | succ n ih =>
    intro x12 x13 x14 xo11
    rw [loopK_succ, impl_edited.t_b3, impl_edited.l3, impl_edited.n_b3]
    simp only [ih, obind_some, leK_ret, leK_brk]
theorem impl_edited.t_a3 (lp : Nat) (y : (List Entry)) : kont (R := (List Entry)) (impl_edited.E lp) impl_edited.an lp (finK (impl_edited.E lp) Tryz.f203 [(.sl TEntry)]) (stkAt 3 (codeOf Tryz.f203)) (.exit 0) (impl_edited.sx3 y) = impl_edited.a3 lp y := by kernel_rfl
theorem impl_edited.t_e (lp : Nat) (x0 : List Entry) (x1 : List Edit) : evalF (impl_edited.E lp) impl_edited.an lp Tryz.f203 [.v (.sl TEntry), .v (.sl TEdit)] [(.sl TEntry)] (x0, x1, ()) = impl_edited.e lp (fun x12 x13 x14 xo11 => loopK impl_edited.la3 (fun σ K => codeK (impl_edited.E lp) impl_edited.an lp (loopAt 3 (codeOf Tryz.f203)) σ K) lp (impl_edited.s3 x12 x13 x14 xo11) (kont (impl_edited.E lp) impl_edited.an lp (finK (impl_edited.E lp) Tryz.f203 [(.sl TEntry)]) (stkAt 3 (codeOf Tryz.f203)))) x0 x1 := by kernel_rfl
theorem impl_edited.eq0 (lp : Nat) (x0 : List Entry) (x1 : List Edit) : evalF (impl_edited.E lp) impl_edited.an lp Tryz.f203 [.v (.sl TEntry), .v (.sl TEdit)] [(.sl TEntry)] (x0, x1, ()) = impl_edited lp x0 x1 := by
  rw [impl_edited.t_e]; unfold impl_edited
  simp only [leK_ret0 _ impl_edited.sr3 impl_edited.sx3, impl_edited.k3, impl_edited.t_a3]
theorem impl_edited.eq (lp : Nat) (x : ADens [.v (.sl TEntry), .v (.sl TEdit)]) : evalF (impl_edited.E lp) impl_edited.an lp Tryz.f203 [.v (.sl TEntry), .v (.sl TEdit)] [(.sl TEntry)] x = (impl_edited.S lp).F x := impl_edited.eq0 lp x.1 x.2.1
theorem impl_edited.ok (lp : Nat) : Sound Tryz.prog 203 (impl_edited.S lp) := sound_of (E := impl_edited.E lp) (env_ok tabFits tabEqs ⟨impl_find.ok lp, trivial⟩ ⟨slices_Clone_Entry.rok, slices_Delete_Entry.rok, slices_Insert_Entry.rok, trivial⟩) mixed Tryz.func203 (by kernel_rfl) (c := codeOf Tryz.f203) (by kernel_rfl) (by kernel_rfl) impl_edited.an (fun x r h => ⟨lp, (impl_edited.eq lp x).trans h⟩)
theorem slices_SortFunc_Edit.cmp (x y : Edit) (W : Go.World) : Calls Tryz.prog 226 #[.agg (encC TEdit x).toArray, .agg (encC TEdit y).toArray] W fun e w' => e = .returned (.int .i64 (cmpBy (fun z : Edit => z.1) x y)) ∧ ∃ q os', w' = Sort.grow (W.drewN q) os' := by
  show Calls Tryz.prog 226 #[.agg #[.string x.1, .int .i64 x.2.1, .bool x.2.2.1], .agg #[.string y.1, .int .i64 y.2.1, .bool y.2.2.1]] W _
  have mixed : Tryz.prog.follows .mixedOrders = true := by kernel_rfl
  go_enter Tryz.func226, Tryz.ntmps226
  go_wp2_with (go_at_call 222; refine (Any.strings_Compare Tryz.lays106 _ _ _).mono ?_; rintro e w' ⟨rfl, rfl⟩)
  go_ret
  rw [Sort.alloc_eq_grow, Sort.alloc_eq_grow, Sort.grow_grow]
  exact ⟨rfl, 0, _, rfl⟩
def slices_SortFunc_Edit.R : RSpec := { kind := .inplace, e := 226, t := TEdit, ats := [], F := fun l _ => slices_SortFunc_Edit l, fn := some 226 }
theorem slices_SortFunc_Edit.rok : SoundR Tryz.prog 225 slices_SortFunc_Edit.R := by
  refine sort_ok (t := TEdit) Tryz.lays225 (f := 225) rfl ⟨Tryz.f225, Tryz.func225, by kernel_rfl, by kernel_rfl⟩ (e := 226) rfl (by decide) (i := (find tab 226).getD ⟨none, 0, false, [], 0, .other, false⟩) (by kernel_rfl) (by kernel_rfl) (by kernel_rfl) (by decide) (cmpBy fun z : Edit => z.1) (swo_by _) ⟨Tryz.f226, Tryz.func226, by kernel_rfl, by kernel_rfl⟩ slices_SortFunc_Edit.cmp
def impl_diff_c1.E : Env := { tab := tab, fns := [(222, strings_Compare.S)], ann := { own := [], ro := [2, 3] } }
def impl_diff_c1.an : An := { pre := [] }
def impl_diff_c1.S : Spec := { ats := [.v TEdit, .v TEdit], rts := [(.int .i64)], F := fun x => impl_diff_c1 x.1 x.2.1 }
theorem impl_diff_c1.eq (lp : Nat) (x : ADens [.v TEdit, .v TEdit]) : evalF (impl_diff_c1.E) impl_diff_c1.an lp Tryz.f226 [.v TEdit, .v TEdit] [(.int .i64)] x = (impl_diff_c1.S).F x := by kernel_rfl
theorem impl_diff_c1.ok : Sound Tryz.prog 226 (impl_diff_c1.S) := sound_of (E := impl_diff_c1.E) (env_ok tabFits tabEqs ⟨strings_Compare.ok, trivial⟩ trivial) mixed Tryz.func226 (by kernel_rfl) (c := codeOf Tryz.f226) (by kernel_rfl) (by kernel_rfl) impl_diff_c1.an (fun x r h => ⟨0, (impl_diff_c1.eq 0 x).trans h⟩)
def impl_diff.E (lp : Nat) : Env := { tab := tab, fns := [(215, impl_find.S lp), (226, impl_diff_c1.S)], ann := { own := [], ro := [] }, rows := [(225, slices_SortFunc_Edit.R)] }
def impl_diff.la3 : LoopAn := { kn := { proms := [(46, 5, 226, TEdit)], tms := [0, 1, 5, 14, 15, 16], obs := [46] }, kx := { tms := [0, 1, 5], obs := [46] }, kr := {} }
def impl_diff.la10 : LoopAn := { kn := { tms := [1, 5, 48, 49, 50], obs := [46] }, kx := { tms := [5], obs := [46] }, kr := {} }
def impl_diff.an : An := { loops := [(3, impl_diff.la3), (10, impl_diff.la10)] }
def impl_diff.s3 (x0 : List Entry) (x1 : List Entry) (x14 : List Entry) (x15 : Int) (x16 : Int) (xo46 : List Edit) : St := ⟨.v (.one (.b (.d (.sl TEntry) x0))) :: .v (.one (.b (.d (.sl TEntry) x1))) :: (sk 3 (.v (.one (.row 46 0)) :: (sk 8 (.v (.one (.b (.d (.sl TEntry) x14))) :: .v (.one (.b (.d (.int .i64) x15))) :: .v (.one (.b (.d (.int .i64) x16))) :: (sk 56 ([])))))), sko 46 (some (.row 226 TEdit xo46 0) :: (sko 26 ([])))⟩
def impl_diff.sx3 (y : (List Entry) × (List Entry) × (List Edit)) : St := ⟨.v (.one (.b (.d (.sl TEntry) y.1))) :: .v (.one (.b (.d (.sl TEntry) y.2.1))) :: (sk 3 (.v (.one (.row 46 0)) :: (sk 67 ([])))), sko 46 (some (.row 226 TEdit y.2.2 0) :: (sko 26 ([])))⟩
def impl_diff.sr3 (z : Empty) : St := z.elim
def impl_diff.s10 (x1 : List Entry) (x48 : List Entry) (x49 : Int) (x50 : Int) (xo46 : List Edit) : St := ⟨sk 1 (.v (.one (.b (.d (.sl TEntry) x1))) :: (sk 3 (.v (.one (.row 46 0)) :: (sk 42 (.v (.one (.b (.d (.sl TEntry) x48))) :: .v (.one (.b (.d (.int .i64) x49))) :: .v (.one (.b (.d (.int .i64) x50))) :: (sk 22 ([]))))))), sko 46 (some (.row 226 TEdit xo46 0) :: (sko 26 ([])))⟩
def impl_diff.sx10 (y : (List Edit)) : St := ⟨sk 5 (.v (.one (.row 46 0)) :: (sk 67 ([]))), sko 46 (some (.row 226 TEdit y 0) :: (sko 26 ([])))⟩
def impl_diff.sr10 (z : Empty) : St := z.elim
def impl_diff.S (lp : Nat) : Spec := { ats := [.v (.sl TEntry), .v (.sl TEntry)], rts := [(.sl TEdit)], F := fun x => impl_diff lp x.1 x.2.1 }
theorem impl_diff.t_b10 (lp : Nat) {R : Type} (N : St → Option R) (X : Out → St → Option R) (x1 : List Entry) (x48 : List Entry) (x49 : Int) (x50 : Int) (xo46 : List Edit) : codeK (impl_diff.E lp) impl_diff.an lp (loopAt 10 (codeOf Tryz.f218)) (impl_diff.s10 x1 x48 x49 x50 xo46) (lpK impl_diff.la10 N X) = impl_diff.b10 lp (fun x1 x48 x49 x50 xo46 => N (impl_diff.s10 x1 x48 x49 x50 xo46)) (fun y => X (.exit 2) (impl_diff.sx10 y)) (fun z => X .ret (impl_diff.sr10 z)) x1 x48 x49 x50 xo46 := by kernel_rfl
theorem impl_diff.n_b10 (lp : Nat) {R S : Type} (N : List Entry → List Entry → Int → Int → List Edit → Option R) (X : ((List Edit)) → Option R) (Q : Empty → Option R) (x1 : List Entry) (x48 : List Entry) (x49 : Int) (x50 : Int) (xo46 : List Edit) (k : R → Option S) : obind (impl_diff.b10 lp N X Q x1 x48 x49 x50 xo46) k = impl_diff.b10 lp (fun x1 x48 x49 x50 xo46 => obind (N x1 x48 x49 x50 xo46) k) (fun y => obind (X y) k) (fun z => obind (Q z) k) x1 x48 x49 x50 xo46 := by
  unfold impl_diff.b10; simp only [obind_none, obind_some, obind_cond, obind_oif, obind_oget, obind_obind]
theorem impl_diff.k10 (lp : Nat) {R : Type} (K : Out → St → Option R) : ∀ (n : Nat) (x1 : List Entry) (x48 : List Entry) (x49 : Int) (x50 : Int) (xo46 : List Edit), loopK impl_diff.la10 (fun σ K => codeK (impl_diff.E lp) impl_diff.an lp (loopAt 10 (codeOf Tryz.f218)) σ K) n (impl_diff.s10 x1 x48 x49 x50 xo46) K = obind (impl_diff.l10 lp n x1 x48 x49 x50 xo46) (leK 2 impl_diff.sr10 impl_diff.sx10 K) := by
  intro n
  induction n with
  | zero => intros; rfl
  | succ n ih =>
    intro x1 x48 x49 x50 xo46
    rw [loopK_succ, impl_diff.t_b10, impl_diff.l10, impl_diff.n_b10]
    simp only [ih, obind_some, leK_ret, leK_brk]
theorem impl_diff.t_b3 (lp : Nat) {R : Type} (N : St → Option R) (X : Out → St → Option R) (x0 : List Entry) (x1 : List Entry) (x14 : List Entry) (x15 : Int) (x16 : Int) (xo46 : List Edit) : codeK (impl_diff.E lp) impl_diff.an lp (loopAt 3 (codeOf Tryz.f218)) (impl_diff.s3 x0 x1 x14 x15 x16 xo46) (lpK impl_diff.la3 N X) = impl_diff.b3 lp (fun x0 x1 x14 x15 x16 xo46 => N (impl_diff.s3 x0 x1 x14 x15 x16 xo46)) (fun y => X (.exit 0) (impl_diff.sx3 y)) (fun z => X .ret (impl_diff.sr3 z)) x0 x1 x14 x15 x16 xo46 := by kernel_rfl
theorem impl_diff.n_b3 (lp : Nat) {R S : Type} (N : List Entry → List Entry → List Entry → Int → Int → List Edit → Option R) (X : ((List Entry) × (List Entry) × (List Edit)) → Option R) (Q : Empty → Option R) (x0 : List Entry) (x1 : List Entry) (x14 : List Entry) (x15 : Int) (x16 : Int) (xo46 : List Edit) (k : R → Option S) : obind (impl_diff.b3 lp N X Q x0 x1 x14 x15 x16 xo46) k = impl_diff.b3 lp (fun x0 x1 x14 x15 x16 xo46 => obind (N x0 x1 x14 x15 x16 xo46) k) (fun y => obind (X y) k) (fun z => obind (Q z) k) x0 x1 x14 x15 x16 xo46 := by
  unfold impl_diff.b3; simp only [obind_none, obind_some, obind_cond, obind_oif, obind_oget, obind_obind]
theorem impl_diff.k3 (lp : Nat) {R : Type} (K : Out → St → Option R) : ∀ (n : Nat) (x0 : List Entry) (x1 : List Entry) (x14 : List Entry) (x15 : Int) (x16 : Int) (xo46 : List Edit), loopK impl_diff.la3 (fun σ K => codeK (impl_diff.E lp) impl_diff.an lp (loopAt 3 (codeOf Tryz.f218)) σ K) n (impl_diff.s3 x0 x1 x14 x15 x16 xo46) K = obind (impl_diff.l3 lp n x0 x1 x14 x15 x16 xo46) (leK 0 impl_diff.sr3 impl_diff.sx3 K) := by
  intro n
  induction n with
  | zero => intros; rfl
  | succ n ih =>
    intro x0 x1 x14 x15 x16 xo46
    rw [loopK_succ, impl_diff.t_b3, impl_diff.l3, impl_diff.n_b3]
    simp only [ih, obind_some, leK_ret, leK_brk]
theorem impl_diff.t_a10 (lp : Nat) (y : (List Edit)) : kont (R := (List Edit)) (impl_diff.E lp) impl_diff.an lp (finK (impl_diff.E lp) Tryz.f218 [(.sl TEdit)]) (stkAt 10 (codeOf Tryz.f218)) (.exit 2) (impl_diff.sx10 y) = impl_diff.a10 lp y := by kernel_rfl
theorem impl_diff.t_a3 (lp : Nat) (y : (List Entry) × (List Entry) × (List Edit)) : kont (R := (List Edit)) (impl_diff.E lp) impl_diff.an lp (finK (impl_diff.E lp) Tryz.f218 [(.sl TEdit)]) (stkAt 3 (codeOf Tryz.f218)) (.exit 0) (impl_diff.sx3 y) = impl_diff.a3 lp (fun x1 x48 x49 x50 xo46 => loopK impl_diff.la10 (fun σ K => codeK (impl_diff.E lp) impl_diff.an lp (loopAt 10 (codeOf Tryz.f218)) σ K) lp (impl_diff.s10 x1 x48 x49 x50 xo46) (kont (impl_diff.E lp) impl_diff.an lp (finK (impl_diff.E lp) Tryz.f218 [(.sl TEdit)]) (stkAt 10 (codeOf Tryz.f218)))) y := by kernel_rfl
theorem impl_diff.t_e (lp : Nat) (x0 : List Entry) (x1 : List Entry) : evalF (impl_diff.E lp) impl_diff.an lp Tryz.f218 [.v (.sl TEntry), .v (.sl TEntry)] [(.sl TEdit)] (x0, x1, ()) = impl_diff.e lp (fun x0 x1 x14 x15 x16 xo46 => loopK impl_diff.la3 (fun σ K => codeK (impl_diff.E lp) impl_diff.an lp (loopAt 3 (codeOf Tryz.f218)) σ K) lp (impl_diff.s3 x0 x1 x14 x15 x16 xo46) (kont (impl_diff.E lp) impl_diff.an lp (finK (impl_diff.E lp) Tryz.f218 [(.sl TEdit)]) (stkAt 3 (codeOf Tryz.f218)))) x0 x1 := by kernel_rfl
theorem impl_diff.eq0 (lp : Nat) (x0 : List Entry) (x1 : List Entry) : evalF (impl_diff.E lp) impl_diff.an lp Tryz.f218 [.v (.sl TEntry), .v (.sl TEntry)] [(.sl TEdit)] (x0, x1, ()) = impl_diff lp x0 x1 := by
  rw [impl_diff.t_e]; unfold impl_diff
  simp only [leK_ret0 _ impl_diff.sr3 impl_diff.sx3, leK_ret0 _ impl_diff.sr10 impl_diff.sx10, impl_diff.k3, impl_diff.k10, impl_diff.t_a10, impl_diff.t_a3]
theorem impl_diff.eq (lp : Nat) (x : ADens [.v (.sl TEntry), .v (.sl TEntry)]) : evalF (impl_diff.E lp) impl_diff.an lp Tryz.f218 [.v (.sl TEntry), .v (.sl TEntry)] [(.sl TEdit)] x = (impl_diff.S lp).F x := impl_diff.eq0 lp x.1 x.2.1
theorem impl_diff.ok (lp : Nat) : Sound Tryz.prog 218 (impl_diff.S lp) := sound_of (E := impl_diff.E lp) (env_ok tabFits tabEqs ⟨impl_find.ok lp, impl_diff_c1.ok, trivial⟩ ⟨slices_SortFunc_Edit.rok, trivial⟩) mixed Tryz.func218 (by kernel_rfl) (c := codeOf Tryz.f218) (by kernel_rfl) (by kernel_rfl) impl_diff.an (fun x r h => ⟨lp, (impl_diff.eq lp x).trans h⟩)
def impl_merge.E (lp : Nat) : Env := { tab := tab, fns := [(218, impl_diff.S lp), (203, impl_edited.S lp), (202, impl_limited.S)], ann := { own := [], ro := [] } }
def impl_merge.la3 : LoopAn := { kn := { tms := [0, 1, 2, 9, 23, 24, 25], obs := [20] }, kx := { tms := [0, 1, 2, 9], obs := [20] }, kr := {} }
def impl_merge.la10 : LoopAn := { kn := { proms := [(55, 12, 226, TEdit), (64, 13, 9, .str)], tms := [1, 9, 12, 13, 36, 37, 38], obs := [20, 55, 64] }, kx := { tms := [1, 12, 13], obs := [55, 64] }, kr := {} }
def impl_merge.an : An := { loops := [(3, impl_merge.la3), (10, impl_merge.la10)], pre := [(20, [55])] }
def impl_merge.s3 (x0 : List Entry) (x1 : List Entry) (x2 : List Entry) (x23 : List Edit) (x24 : Int) (x25 : Int) (xm20 : List (ByteArray × Edit)) : St := ⟨.v (.one (.b (.d (.sl TEntry) x0))) :: .v (.one (.b (.d (.sl TEntry) x1))) :: .v (.one (.b (.d (.sl TEntry) x2))) :: (sk 6 (.v (.one (.mp 20)) :: (sk 13 (.v (.one (.b (.d (.sl TEdit) x23))) :: .v (.one (.b (.d (.int .i64) x24))) :: .v (.one (.b (.d (.int .i64) x25))) :: (sk 53 ([])))))), sko 20 (some (.map TEdit xm20) :: (sko 58 ([])))⟩
def impl_merge.sx3 (y : (List Entry) × (List Entry) × (List Entry) × (List (ByteArray × Edit))) : St := ⟨.v (.one (.b (.d (.sl TEntry) y.1))) :: .v (.one (.b (.d (.sl TEntry) y.2.1))) :: .v (.one (.b (.d (.sl TEntry) y.2.2.1))) :: (sk 6 (.v (.one (.mp 20)) :: (sk 69 ([])))), sko 20 (some (.map TEdit y.2.2.2) :: (sko 58 ([])))⟩
def impl_merge.sr3 (z : Empty) : St := z.elim
def impl_merge.s10 (x1 : List Entry) (x36 : List Edit) (x37 : Int) (x38 : Int) (xm20 : List (ByteArray × Edit)) (xo55 : List Edit) (xo64 : List ByteArray) : St := ⟨sk 1 (.v (.one (.b (.d (.sl TEntry) x1))) :: (sk 7 (.v (.one (.mp 20)) :: (sk 2 (.v (.one (.row 55 0)) :: .v (.one (.row 64 0)) :: (sk 22 (.v (.one (.b (.d (.sl TEdit) x36))) :: .v (.one (.b (.d (.int .i64) x37))) :: .v (.one (.b (.d (.int .i64) x38))) :: (sk 40 ([]))))))))), sko 20 (some (.map TEdit xm20) :: (sko 34 (some (.row 226 TEdit xo55 0) :: (sko 8 (some (.row 9 .str xo64 0) :: (sko 14 ([])))))))⟩
def impl_merge.sx10 (y : (List Entry) × (List Edit) × (List ByteArray)) : St := ⟨sk 1 (.v (.one (.b (.d (.sl TEntry) y.1))) :: (sk 10 (.v (.one (.row 55 0)) :: .v (.one (.row 64 0)) :: (sk 65 ([]))))), sko 55 (some (.row 226 TEdit y.2.1 0) :: (sko 8 (some (.row 9 .str y.2.2 0) :: (sko 14 ([])))))⟩
def impl_merge.sr10 (z : Empty) : St := z.elim
def impl_merge.S (lp : Nat) : Spec := { ats := [.v (.sl TEntry), .v (.sl TEntry), .v (.sl TEntry)], rts := [(.sl TEntry), (.sl .str), (.int .i64)], F := fun x => impl_merge lp x.1 x.2.1 x.2.2.1 }
theorem impl_merge.t_b10 (lp : Nat) {R : Type} (N : St → Option R) (X : Out → St → Option R) (x1 : List Entry) (x36 : List Edit) (x37 : Int) (x38 : Int) (xm20 : List (ByteArray × Edit)) (xo55 : List Edit) (xo64 : List ByteArray) : codeK (impl_merge.E lp) impl_merge.an lp (loopAt 10 (codeOf Tryz.f204)) (impl_merge.s10 x1 x36 x37 x38 xm20 xo55 xo64) (lpK impl_merge.la10 N X) = impl_merge.b10 lp (fun x1 x36 x37 x38 xm20 xo55 xo64 => N (impl_merge.s10 x1 x36 x37 x38 xm20 xo55 xo64)) (fun y => X (.exit 2) (impl_merge.sx10 y)) (fun z => X .ret (impl_merge.sr10 z)) x1 x36 x37 x38 xm20 xo55 xo64 := by kernel_rfl
theorem impl_merge.n_b10 (lp : Nat) {R S : Type} (N : List Entry → List Edit → Int → Int → (List (ByteArray × Edit)) → List Edit → List ByteArray → Option R) (X : ((List Entry) × (List Edit) × (List ByteArray)) → Option R) (Q : Empty → Option R) (x1 : List Entry) (x36 : List Edit) (x37 : Int) (x38 : Int) (xm20 : List (ByteArray × Edit)) (xo55 : List Edit) (xo64 : List ByteArray) (k : R → Option S) : obind (impl_merge.b10 lp N X Q x1 x36 x37 x38 xm20 xo55 xo64) k = impl_merge.b10 lp (fun x1 x36 x37 x38 xm20 xo55 xo64 => obind (N x1 x36 x37 x38 xm20 xo55 xo64) k) (fun y => obind (X y) k) (fun z => obind (Q z) k) x1 x36 x37 x38 xm20 xo55 xo64 := by
  unfold impl_merge.b10; simp only [obind_none, obind_some, obind_cond, obind_oif, obind_oget, obind_obind]
theorem impl_merge.k10 (lp : Nat) {R : Type} (K : Out → St → Option R) : ∀ (n : Nat) (x1 : List Entry) (x36 : List Edit) (x37 : Int) (x38 : Int) (xm20 : List (ByteArray × Edit)) (xo55 : List Edit) (xo64 : List ByteArray), loopK impl_merge.la10 (fun σ K => codeK (impl_merge.E lp) impl_merge.an lp (loopAt 10 (codeOf Tryz.f204)) σ K) n (impl_merge.s10 x1 x36 x37 x38 xm20 xo55 xo64) K = obind (impl_merge.l10 lp n x1 x36 x37 x38 xm20 xo55 xo64) (leK 2 impl_merge.sr10 impl_merge.sx10 K) := by
  intro n
  induction n with
  | zero => intros; rfl
  | succ n ih =>
    intro x1 x36 x37 x38 xm20 xo55 xo64
    rw [loopK_succ, impl_merge.t_b10, impl_merge.l10, impl_merge.n_b10]
    simp only [ih, obind_some, leK_ret, leK_brk]
theorem impl_merge.t_b3 (lp : Nat) {R : Type} (N : St → Option R) (X : Out → St → Option R) (x0 : List Entry) (x1 : List Entry) (x2 : List Entry) (x23 : List Edit) (x24 : Int) (x25 : Int) (xm20 : List (ByteArray × Edit)) : codeK (impl_merge.E lp) impl_merge.an lp (loopAt 3 (codeOf Tryz.f204)) (impl_merge.s3 x0 x1 x2 x23 x24 x25 xm20) (lpK impl_merge.la3 N X) = impl_merge.b3 lp (fun x0 x1 x2 x23 x24 x25 xm20 => N (impl_merge.s3 x0 x1 x2 x23 x24 x25 xm20)) (fun y => X (.exit 0) (impl_merge.sx3 y)) (fun z => X .ret (impl_merge.sr3 z)) x0 x1 x2 x23 x24 x25 xm20 := by kernel_rfl
theorem impl_merge.n_b3 (lp : Nat) {R S : Type} (N : List Entry → List Entry → List Entry → List Edit → Int → Int → (List (ByteArray × Edit)) → Option R) (X : ((List Entry) × (List Entry) × (List Entry) × (List (ByteArray × Edit))) → Option R) (Q : Empty → Option R) (x0 : List Entry) (x1 : List Entry) (x2 : List Entry) (x23 : List Edit) (x24 : Int) (x25 : Int) (xm20 : List (ByteArray × Edit)) (k : R → Option S) : obind (impl_merge.b3 lp N X Q x0 x1 x2 x23 x24 x25 xm20) k = impl_merge.b3 lp (fun x0 x1 x2 x23 x24 x25 xm20 => obind (N x0 x1 x2 x23 x24 x25 xm20) k) (fun y => obind (X y) k) (fun z => obind (Q z) k) x0 x1 x2 x23 x24 x25 xm20 := by
  unfold impl_merge.b3; simp only [obind_none, obind_some, obind_cond, obind_oif, obind_oget, obind_obind]
theorem impl_merge.k3 (lp : Nat) {R : Type} (K : Out → St → Option R) : ∀ (n : Nat) (x0 : List Entry) (x1 : List Entry) (x2 : List Entry) (x23 : List Edit) (x24 : Int) (x25 : Int) (xm20 : List (ByteArray × Edit)), loopK impl_merge.la3 (fun σ K => codeK (impl_merge.E lp) impl_merge.an lp (loopAt 3 (codeOf Tryz.f204)) σ K) n (impl_merge.s3 x0 x1 x2 x23 x24 x25 xm20) K = obind (impl_merge.l3 lp n x0 x1 x2 x23 x24 x25 xm20) (leK 0 impl_merge.sr3 impl_merge.sx3 K) := by
  intro n
  induction n with
  | zero => intros; rfl
  | succ n ih =>
    intro x0 x1 x2 x23 x24 x25 xm20
    rw [loopK_succ, impl_merge.t_b3, impl_merge.l3, impl_merge.n_b3]
    simp only [ih, obind_some, leK_ret, leK_brk]
theorem impl_merge.t_a10 (lp : Nat) (y : (List Entry) × (List Edit) × (List ByteArray)) : kont (R := (List Entry) × (List ByteArray) × Int) (impl_merge.E lp) impl_merge.an lp (finK (impl_merge.E lp) Tryz.f204 [(.sl TEntry), (.sl .str), (.int .i64)]) (stkAt 10 (codeOf Tryz.f204)) (.exit 2) (impl_merge.sx10 y) = impl_merge.a10 lp y := by kernel_rfl
theorem impl_merge.t_a3 (lp : Nat) (y : (List Entry) × (List Entry) × (List Entry) × (List (ByteArray × Edit))) : kont (R := (List Entry) × (List ByteArray) × Int) (impl_merge.E lp) impl_merge.an lp (finK (impl_merge.E lp) Tryz.f204 [(.sl TEntry), (.sl .str), (.int .i64)]) (stkAt 3 (codeOf Tryz.f204)) (.exit 0) (impl_merge.sx3 y) = impl_merge.a3 lp (fun x1 x36 x37 x38 xm20 xo55 xo64 => loopK impl_merge.la10 (fun σ K => codeK (impl_merge.E lp) impl_merge.an lp (loopAt 10 (codeOf Tryz.f204)) σ K) lp (impl_merge.s10 x1 x36 x37 x38 xm20 xo55 xo64) (kont (impl_merge.E lp) impl_merge.an lp (finK (impl_merge.E lp) Tryz.f204 [(.sl TEntry), (.sl .str), (.int .i64)]) (stkAt 10 (codeOf Tryz.f204)))) y := by kernel_rfl
theorem impl_merge.t_e (lp : Nat) (x0 : List Entry) (x1 : List Entry) (x2 : List Entry) : evalF (impl_merge.E lp) impl_merge.an lp Tryz.f204 [.v (.sl TEntry), .v (.sl TEntry), .v (.sl TEntry)] [(.sl TEntry), (.sl .str), (.int .i64)] (x0, x1, x2, ()) = impl_merge.e lp (fun x0 x1 x2 x23 x24 x25 xm20 => loopK impl_merge.la3 (fun σ K => codeK (impl_merge.E lp) impl_merge.an lp (loopAt 3 (codeOf Tryz.f204)) σ K) lp (impl_merge.s3 x0 x1 x2 x23 x24 x25 xm20) (kont (impl_merge.E lp) impl_merge.an lp (finK (impl_merge.E lp) Tryz.f204 [(.sl TEntry), (.sl .str), (.int .i64)]) (stkAt 3 (codeOf Tryz.f204)))) x0 x1 x2 := by kernel_rfl
theorem impl_merge.eq0 (lp : Nat) (x0 : List Entry) (x1 : List Entry) (x2 : List Entry) : evalF (impl_merge.E lp) impl_merge.an lp Tryz.f204 [.v (.sl TEntry), .v (.sl TEntry), .v (.sl TEntry)] [(.sl TEntry), (.sl .str), (.int .i64)] (x0, x1, x2, ()) = impl_merge lp x0 x1 x2 := by
  rw [impl_merge.t_e]; unfold impl_merge
  simp only [leK_ret0 _ impl_merge.sr3 impl_merge.sx3, leK_ret0 _ impl_merge.sr10 impl_merge.sx10, impl_merge.k3, impl_merge.k10, impl_merge.t_a10, impl_merge.t_a3]
theorem impl_merge.eq (lp : Nat) (x : ADens [.v (.sl TEntry), .v (.sl TEntry), .v (.sl TEntry)]) : evalF (impl_merge.E lp) impl_merge.an lp Tryz.f204 [.v (.sl TEntry), .v (.sl TEntry), .v (.sl TEntry)] [(.sl TEntry), (.sl .str), (.int .i64)] x = (impl_merge.S lp).F x := impl_merge.eq0 lp x.1 x.2.1 x.2.2.1
theorem impl_merge.ok (lp : Nat) : Sound Tryz.prog 204 (impl_merge.S lp) := sound_of (E := impl_merge.E lp) (env_ok tabFits tabEqs ⟨impl_diff.ok lp, impl_edited.ok lp, impl_limited.ok, trivial⟩ trivial) mixed Tryz.func204 (by kernel_rfl) (c := codeOf Tryz.f204) (by kernel_rfl) (by kernel_rfl) impl_merge.an (fun x r h => ⟨lp, (impl_merge.eq lp x).trans h⟩)
def impl_Base_commitAt.E (lp : Nat) : Env := { tab := tab, fns := [(203, impl_edited.S lp), (202, impl_limited.S), (204, impl_merge.S lp), (157, slices_Equal_Entry.S lp), (190, impl_planned.S)], ann := { own := [], ro := [3, 4] } }
def impl_Base_commitAt.an : An := { pre := [] }
def impl_Base_commitAt.S (lp : Nat) : Spec := { ats := [.v TBase, .v TOp, .v (.int .i64)], rts := [TPlan], F := fun x => impl_Base_commitAt lp x.1 x.2.1 x.2.2.1 }
theorem impl_Base_commitAt.eq (lp : Nat) (x : ADens [.v TBase, .v TOp, .v (.int .i64)]) : evalF (impl_Base_commitAt.E lp) impl_Base_commitAt.an lp Tryz.f187 [.v TBase, .v TOp, .v (.int .i64)] [TPlan] x = (impl_Base_commitAt.S lp).F x := by kernel_rfl
theorem impl_Base_commitAt.ok (lp : Nat) : Sound Tryz.prog 187 (impl_Base_commitAt.S lp) := sound_of (E := impl_Base_commitAt.E lp) (env_ok tabFits tabEqs ⟨impl_edited.ok lp, impl_limited.ok, impl_merge.ok lp, slices_Equal_Entry.ok lp, impl_planned.ok, trivial⟩ trivial) mixed Tryz.func187 (by kernel_rfl) (c := codeOf Tryz.f187) (by kernel_rfl) (by kernel_rfl) impl_Base_commitAt.an (fun x r h => ⟨lp, (impl_Base_commitAt.eq lp x).trans h⟩)
def impl_ancestors.E (lp : Nat) : Env := { tab := tab, fns := [], ann := { own := [], ro := [] } }
def impl_ancestors.la4 : LoopAn := { kn := { tms := [0, 5, 6], obs := [12] }, kx := { tms := [5], obs := [12] }, kr := {} }
def impl_ancestors.la8 : LoopAn := { kn := { tms := [0, 5, 6, 30, 31, 32], obs := [12] }, kx := { tms := [0, 5, 6], obs := [12] }, kr := {} }
def impl_ancestors.an : An := { loops := [(4, impl_ancestors.la4), (8, impl_ancestors.la8)] }
def impl_ancestors.s4 (x0 : List Commit) (x6 : Int) (xo12 : List Bool) : St := ⟨.v (.one (.b (.d (.sl TCommit) x0))) :: (sk 4 (.v (.one (.row 12 0)) :: .v (.one (.b (.d (.int .i64) x6))) :: (sk 34 ([])))), sko 12 (some (.row 4 .bool xo12 0) :: (sko 28 ([])))⟩
def impl_ancestors.sx4 (y : (List Bool)) : St := ⟨sk 5 (.v (.one (.row 12 0)) :: (sk 35 ([]))), sko 12 (some (.row 4 .bool y 0) :: (sko 28 ([])))⟩
def impl_ancestors.sr4 (z : Empty) : St := z.elim
def impl_ancestors.s8 (x0 : List Commit) (x6 : Int) (x30 : List Int) (x31 : Int) (x32 : Int) (xo12 : List Bool) : St := ⟨.v (.one (.b (.d (.sl TCommit) x0))) :: (sk 4 (.v (.one (.row 12 0)) :: .v (.one (.b (.d (.int .i64) x6))) :: (sk 23 (.v (.one (.b (.d (.sl (.int .i64)) x30))) :: .v (.one (.b (.d (.int .i64) x31))) :: .v (.one (.b (.d (.int .i64) x32))) :: (sk 8 ([])))))), sko 12 (some (.row 4 .bool xo12 0) :: (sko 28 ([])))⟩
def impl_ancestors.sx8 (y : (List Commit) × Int × (List Bool)) : St := ⟨.v (.one (.b (.d (.sl TCommit) y.1))) :: (sk 4 (.v (.one (.row 12 0)) :: .v (.one (.b (.d (.int .i64) y.2.1))) :: (sk 34 ([])))), sko 12 (some (.row 4 .bool y.2.2 0) :: (sko 28 ([])))⟩
def impl_ancestors.sr8 (z : Empty) : St := z.elim
def impl_ancestors.S (lp : Nat) : Spec := { ats := [.v (.sl TCommit), .v (.int .i64)], rts := [(.sl .bool)], F := fun x => impl_ancestors lp x.1 x.2.1 }
theorem impl_ancestors.t_b8 (lp : Nat) {R : Type} (N : St → Option R) (X : Out → St → Option R) (x0 : List Commit) (x6 : Int) (x30 : List Int) (x31 : Int) (x32 : Int) (xo12 : List Bool) : codeK (impl_ancestors.E lp) impl_ancestors.an lp (loopAt 8 (codeOf Tryz.f205)) (impl_ancestors.s8 x0 x6 x30 x31 x32 xo12) (lpK impl_ancestors.la8 N X) = impl_ancestors.b8 lp (fun x0 x6 x30 x31 x32 xo12 => N (impl_ancestors.s8 x0 x6 x30 x31 x32 xo12)) (fun y => X (.exit 2) (impl_ancestors.sx8 y)) (fun z => X .ret (impl_ancestors.sr8 z)) x0 x6 x30 x31 x32 xo12 := by kernel_rfl
theorem impl_ancestors.n_b8 (lp : Nat) {R S : Type} (N : List Commit → Int → List Int → Int → Int → List Bool → Option R) (X : ((List Commit) × Int × (List Bool)) → Option R) (Q : Empty → Option R) (x0 : List Commit) (x6 : Int) (x30 : List Int) (x31 : Int) (x32 : Int) (xo12 : List Bool) (k : R → Option S) : obind (impl_ancestors.b8 lp N X Q x0 x6 x30 x31 x32 xo12) k = impl_ancestors.b8 lp (fun x0 x6 x30 x31 x32 xo12 => obind (N x0 x6 x30 x31 x32 xo12) k) (fun y => obind (X y) k) (fun z => obind (Q z) k) x0 x6 x30 x31 x32 xo12 := by
  unfold impl_ancestors.b8; simp only [obind_none, obind_some, obind_cond, obind_oif, obind_oget, obind_obind]
theorem impl_ancestors.k8 (lp : Nat) {R : Type} (K : Out → St → Option R) : ∀ (n : Nat) (x0 : List Commit) (x6 : Int) (x30 : List Int) (x31 : Int) (x32 : Int) (xo12 : List Bool), loopK impl_ancestors.la8 (fun σ K => codeK (impl_ancestors.E lp) impl_ancestors.an lp (loopAt 8 (codeOf Tryz.f205)) σ K) n (impl_ancestors.s8 x0 x6 x30 x31 x32 xo12) K = obind (impl_ancestors.l8 lp n x0 x6 x30 x31 x32 xo12) (leK 2 impl_ancestors.sr8 impl_ancestors.sx8 K) := by
  intro n
  induction n with
  | zero => intros; rfl
  | succ n ih =>
    intro x0 x6 x30 x31 x32 xo12
    rw [loopK_succ, impl_ancestors.t_b8, impl_ancestors.l8, impl_ancestors.n_b8]
    simp only [ih, obind_some, leK_ret, leK_brk]
theorem impl_ancestors.t_a8 (lp : Nat) {R : Type} (N : St → Option R) (X : Out → St → Option R) (y : (List Commit) × Int × (List Bool)) : kont (impl_ancestors.E lp) impl_ancestors.an lp (lpK impl_ancestors.la4 N X) (stkAt 8 (loopAt 4 (codeOf Tryz.f205))) (.exit 2) (impl_ancestors.sx8 y) = impl_ancestors.a8 lp (fun x0 x6 xo12 => N (impl_ancestors.s4 x0 x6 xo12)) (fun y => X (.exit 0) (impl_ancestors.sx4 y)) (fun z => X .ret (impl_ancestors.sr4 z)) y := by kernel_rfl
theorem impl_ancestors.n_a8 (lp : Nat) {R S : Type} (N : List Commit → Int → List Bool → Option R) (X : ((List Bool)) → Option R) (Q : Empty → Option R) (y : (List Commit) × Int × (List Bool)) (k : R → Option S) : obind (impl_ancestors.a8 lp N X Q y) k = impl_ancestors.a8 lp (fun x0 x6 xo12 => obind (N x0 x6 xo12) k) (fun y => obind (X y) k) (fun z => obind (Q z) k) y := by
  unfold impl_ancestors.a8; simp only [obind_none, obind_some, obind_cond, obind_oif, obind_oget, obind_obind]
theorem impl_ancestors.t_b4 (lp : Nat) {R : Type} (N : St → Option R) (X : Out → St → Option R) (x0 : List Commit) (x6 : Int) (xo12 : List Bool) : codeK (impl_ancestors.E lp) impl_ancestors.an lp (loopAt 4 (codeOf Tryz.f205)) (impl_ancestors.s4 x0 x6 xo12) (lpK impl_ancestors.la4 N X) = impl_ancestors.b4 lp (fun x0 x6 xo12 => N (impl_ancestors.s4 x0 x6 xo12)) (fun y => X (.exit 0) (impl_ancestors.sx4 y)) (fun z => X .ret (impl_ancestors.sr4 z)) (fun x0 x6 x30 x31 x32 xo12 => loopK impl_ancestors.la8 (fun σ K => codeK (impl_ancestors.E lp) impl_ancestors.an lp (loopAt 8 (codeOf Tryz.f205)) σ K) lp (impl_ancestors.s8 x0 x6 x30 x31 x32 xo12) (kont (impl_ancestors.E lp) impl_ancestors.an lp (lpK impl_ancestors.la4 N X) (stkAt 8 (loopAt 4 (codeOf Tryz.f205))))) x0 x6 xo12 := by kernel_rfl
theorem impl_ancestors.n_b4 (lp : Nat) {R S : Type} (N : List Commit → Int → List Bool → Option R) (X : ((List Bool)) → Option R) (Q : Empty → Option R) (L8 : List Commit → Int → List Int → Int → Int → List Bool → Option R) (x0 : List Commit) (x6 : Int) (xo12 : List Bool) (k : R → Option S) : obind (impl_ancestors.b4 lp N X Q L8 x0 x6 xo12) k = impl_ancestors.b4 lp (fun x0 x6 xo12 => obind (N x0 x6 xo12) k) (fun y => obind (X y) k) (fun z => obind (Q z) k) (fun x0 x6 x30 x31 x32 xo12 => obind (L8 x0 x6 x30 x31 x32 xo12) k) x0 x6 xo12 := by
  unfold impl_ancestors.b4; simp only [obind_none, obind_some, obind_cond, obind_oif, obind_oget, obind_obind]
theorem impl_ancestors.k4 (lp : Nat) {R : Type} (K : Out → St → Option R) : ∀ (n : Nat) (x0 : List Commit) (x6 : Int) (xo12 : List Bool), loopK impl_ancestors.la4 (fun σ K => codeK (impl_ancestors.E lp) impl_ancestors.an lp (loopAt 4 (codeOf Tryz.f205)) σ K) n (impl_ancestors.s4 x0 x6 xo12) K = obind (impl_ancestors.l4 lp n x0 x6 xo12) (leK 0 impl_ancestors.sr4 impl_ancestors.sx4 K) := by
  intro n
  induction n with
  | zero => intros; rfl
  | succ n ih =>
    intro x0 x6 xo12
    rw [loopK_succ, impl_ancestors.t_b4, impl_ancestors.l4, impl_ancestors.n_b4]
    simp only [ih, obind_some, leK_ret, leK_brk, leF_ret, leF_brk, obind_obind, obind_leF, obind_elim, leK_ret0 _ impl_ancestors.sr8 impl_ancestors.sx8, impl_ancestors.k8, impl_ancestors.t_a8, impl_ancestors.n_a8]
theorem impl_ancestors.t_a4 (lp : Nat) (y : (List Bool)) : kont (R := (List Bool)) (impl_ancestors.E lp) impl_ancestors.an lp (finK (impl_ancestors.E lp) Tryz.f205 [(.sl .bool)]) (stkAt 4 (codeOf Tryz.f205)) (.exit 0) (impl_ancestors.sx4 y) = impl_ancestors.a4 lp y := by kernel_rfl
theorem impl_ancestors.t_e (lp : Nat) (x0 : List Commit) (x1 : Int) : evalF (impl_ancestors.E lp) impl_ancestors.an lp Tryz.f205 [.v (.sl TCommit), .v (.int .i64)] [(.sl .bool)] (x0, x1, ()) = impl_ancestors.e lp (fun x0 x6 xo12 => loopK impl_ancestors.la4 (fun σ K => codeK (impl_ancestors.E lp) impl_ancestors.an lp (loopAt 4 (codeOf Tryz.f205)) σ K) lp (impl_ancestors.s4 x0 x6 xo12) (kont (impl_ancestors.E lp) impl_ancestors.an lp (finK (impl_ancestors.E lp) Tryz.f205 [(.sl .bool)]) (stkAt 4 (codeOf Tryz.f205)))) x0 x1 := by kernel_rfl
theorem impl_ancestors.eq0 (lp : Nat) (x0 : List Commit) (x1 : Int) : evalF (impl_ancestors.E lp) impl_ancestors.an lp Tryz.f205 [.v (.sl TCommit), .v (.int .i64)] [(.sl .bool)] (x0, x1, ()) = impl_ancestors lp x0 x1 := by
  rw [impl_ancestors.t_e]; unfold impl_ancestors
  simp only [leK_ret0 _ impl_ancestors.sr4 impl_ancestors.sx4, impl_ancestors.k4, impl_ancestors.t_a4]
theorem impl_ancestors.eq (lp : Nat) (x : ADens [.v (.sl TCommit), .v (.int .i64)]) : evalF (impl_ancestors.E lp) impl_ancestors.an lp Tryz.f205 [.v (.sl TCommit), .v (.int .i64)] [(.sl .bool)] x = (impl_ancestors.S lp).F x := impl_ancestors.eq0 lp x.1 x.2.1
theorem impl_ancestors.ok (lp : Nat) : Sound Tryz.prog 205 (impl_ancestors.S lp) := sound_of (E := impl_ancestors.E lp) (env_ok tabFits tabEqs trivial trivial) mixed Tryz.func205 (by kernel_rfl) (c := codeOf Tryz.f205) (by kernel_rfl) (by kernel_rfl) impl_ancestors.an (fun x r h => ⟨lp, (impl_ancestors.eq lp x).trans h⟩)
def impl_baseOf.E (lp : Nat) : Env := { tab := tab, fns := [(205, impl_ancestors.S lp)], ann := { own := [], ro := [] } }
def impl_baseOf.la3 : LoopAn := { kn := { tms := [7, 8, 9] }, kx := { tms := [9] }, kr := {} }
def impl_baseOf.an : An := { loops := [(3, impl_baseOf.la3)] }
def impl_baseOf.s3 (x7 : List Bool) (x8 : List Bool) (x9 : Int) : St := ⟨sk 7 (.v (.one (.b (.d (.sl .bool) x7))) :: .v (.one (.b (.d (.sl .bool) x8))) :: .v (.one (.b (.d (.int .i64) x9))) :: (sk 24 ([]))), sko 34 ([])⟩
def impl_baseOf.sx3 (y : Int) : St := ⟨sk 9 (.v (.one (.b (.d (.int .i64) y))) :: (sk 24 ([]))), sko 34 ([])⟩
def impl_baseOf.sr3 (z : Empty) : St := z.elim
def impl_baseOf.S (lp : Nat) : Spec := { ats := [.v (.sl TCommit), .v (.int .i64), .v (.int .i64)], rts := [(.int .i64)], F := fun x => impl_baseOf lp x.1 x.2.1 x.2.2.1 }
theorem impl_baseOf.t_b3 (lp : Nat) {R : Type} (N : St → Option R) (X : Out → St → Option R) (x7 : List Bool) (x8 : List Bool) (x9 : Int) : codeK (impl_baseOf.E lp) impl_baseOf.an lp (loopAt 3 (codeOf Tryz.f188)) (impl_baseOf.s3 x7 x8 x9) (lpK impl_baseOf.la3 N X) = impl_baseOf.b3 lp (fun x7 x8 x9 => N (impl_baseOf.s3 x7 x8 x9)) (fun y => X (.exit 0) (impl_baseOf.sx3 y)) (fun z => X .ret (impl_baseOf.sr3 z)) x7 x8 x9 := by kernel_rfl
theorem impl_baseOf.n_b3 (lp : Nat) {R S : Type} (N : List Bool → List Bool → Int → Option R) (X : Int → Option R) (Q : Empty → Option R) (x7 : List Bool) (x8 : List Bool) (x9 : Int) (k : R → Option S) : obind (impl_baseOf.b3 lp N X Q x7 x8 x9) k = impl_baseOf.b3 lp (fun x7 x8 x9 => obind (N x7 x8 x9) k) (fun y => obind (X y) k) (fun z => obind (Q z) k) x7 x8 x9 := by
  unfold impl_baseOf.b3; simp only [obind_none, obind_some, obind_cond, obind_oif, obind_oget, obind_obind]
theorem impl_baseOf.k3 (lp : Nat) {R : Type} (K : Out → St → Option R) : ∀ (n : Nat) (x7 : List Bool) (x8 : List Bool) (x9 : Int), loopK impl_baseOf.la3 (fun σ K => codeK (impl_baseOf.E lp) impl_baseOf.an lp (loopAt 3 (codeOf Tryz.f188)) σ K) n (impl_baseOf.s3 x7 x8 x9) K = obind (impl_baseOf.l3 lp n x7 x8 x9) (leK 0 impl_baseOf.sr3 impl_baseOf.sx3 K) := by
  intro n
  induction n with
  | zero => intros; rfl
  | succ n ih =>
    intro x7 x8 x9
    rw [loopK_succ, impl_baseOf.t_b3, impl_baseOf.l3, impl_baseOf.n_b3]
    simp only [ih, obind_some, leK_ret, leK_brk]
theorem impl_baseOf.t_a3 (lp : Nat) (y : Int) : kont (R := Int) (impl_baseOf.E lp) impl_baseOf.an lp (finK (impl_baseOf.E lp) Tryz.f188 [(.int .i64)]) (stkAt 3 (codeOf Tryz.f188)) (.exit 0) (impl_baseOf.sx3 y) = impl_baseOf.a3 lp y := by kernel_rfl
theorem impl_baseOf.t_e (lp : Nat) (x0 : List Commit) (x1 : Int) (x2 : Int) : evalF (impl_baseOf.E lp) impl_baseOf.an lp Tryz.f188 [.v (.sl TCommit), .v (.int .i64), .v (.int .i64)] [(.int .i64)] (x0, x1, x2, ()) = impl_baseOf.e lp (fun x7 x8 x9 => loopK impl_baseOf.la3 (fun σ K => codeK (impl_baseOf.E lp) impl_baseOf.an lp (loopAt 3 (codeOf Tryz.f188)) σ K) lp (impl_baseOf.s3 x7 x8 x9) (kont (impl_baseOf.E lp) impl_baseOf.an lp (finK (impl_baseOf.E lp) Tryz.f188 [(.int .i64)]) (stkAt 3 (codeOf Tryz.f188)))) x0 x1 x2 := by kernel_rfl
theorem impl_baseOf.eq0 (lp : Nat) (x0 : List Commit) (x1 : Int) (x2 : Int) : evalF (impl_baseOf.E lp) impl_baseOf.an lp Tryz.f188 [.v (.sl TCommit), .v (.int .i64), .v (.int .i64)] [(.int .i64)] (x0, x1, x2, ()) = impl_baseOf lp x0 x1 x2 := by
  rw [impl_baseOf.t_e]; unfold impl_baseOf
  simp only [leK_ret0 _ impl_baseOf.sr3 impl_baseOf.sx3, impl_baseOf.k3, impl_baseOf.t_a3]
theorem impl_baseOf.eq (lp : Nat) (x : ADens [.v (.sl TCommit), .v (.int .i64), .v (.int .i64)]) : evalF (impl_baseOf.E lp) impl_baseOf.an lp Tryz.f188 [.v (.sl TCommit), .v (.int .i64), .v (.int .i64)] [(.int .i64)] x = (impl_baseOf.S lp).F x := impl_baseOf.eq0 lp x.1 x.2.1 x.2.2.1
theorem impl_baseOf.ok (lp : Nat) : Sound Tryz.prog 188 (impl_baseOf.S lp) := sound_of (E := impl_baseOf.E lp) (env_ok tabFits tabEqs ⟨impl_ancestors.ok lp, trivial⟩ trivial) mixed Tryz.func188 (by kernel_rfl) (c := codeOf Tryz.f188) (by kernel_rfl) (by kernel_rfl) impl_baseOf.an (fun x r h => ⟨lp, (impl_baseOf.eq lp x).trans h⟩)
def impl_mergeCommits.E (lp : Nat) : Env := { tab := tab, fns := [(188, impl_baseOf.S lp), (204, impl_merge.S lp)], ann := { own := [], ro := [] } }
def impl_mergeCommits.an : An := { pre := [] }
def impl_mergeCommits.S (lp : Nat) : Spec := { ats := [.v (.sl TCommit), .v (.int .i64), .v (.int .i64)], rts := [(.sl TEntry), (.sl .str), (.int .i64)], F := fun x => impl_mergeCommits lp x.1 x.2.1 x.2.2.1 }
theorem impl_mergeCommits.eq (lp : Nat) (x : ADens [.v (.sl TCommit), .v (.int .i64), .v (.int .i64)]) : evalF (impl_mergeCommits.E lp) impl_mergeCommits.an lp Tryz.f189 [.v (.sl TCommit), .v (.int .i64), .v (.int .i64)] [(.sl TEntry), (.sl .str), (.int .i64)] x = (impl_mergeCommits.S lp).F x := by kernel_rfl
theorem impl_mergeCommits.ok (lp : Nat) : Sound Tryz.prog 189 (impl_mergeCommits.S lp) := sound_of (E := impl_mergeCommits.E lp) (env_ok tabFits tabEqs ⟨impl_baseOf.ok lp, impl_merge.ok lp, trivial⟩ trivial) mixed Tryz.func189 (by kernel_rfl) (c := codeOf Tryz.f189) (by kernel_rfl) (by kernel_rfl) impl_mergeCommits.an (fun x r h => ⟨lp, (impl_mergeCommits.eq lp x).trans h⟩)
def impl_Base_planAt.E (lp : Nat) : Env := { tab := tab, fns := [(187, impl_Base_commitAt.S lp), (188, impl_baseOf.S lp), (189, impl_mergeCommits.S lp), (190, impl_planned.S)], ann := { own := [], ro := [3, 4] } }
def impl_Base_planAt.an : An := { pre := [] }
def impl_Base_planAt.S (lp : Nat) : Spec := { ats := [.v TBase, .v TOp, .v (.int .i64)], rts := [TPlan], F := fun x => impl_Base_planAt lp x.1 x.2.1 x.2.2.1 }
theorem impl_Base_planAt.eq (lp : Nat) (x : ADens [.v TBase, .v TOp, .v (.int .i64)]) : evalF (impl_Base_planAt.E lp) impl_Base_planAt.an lp Tryz.f155 [.v TBase, .v TOp, .v (.int .i64)] [TPlan] x = (impl_Base_planAt.S lp).F x := by kernel_rfl
theorem impl_Base_planAt.ok (lp : Nat) : Sound Tryz.prog 155 (impl_Base_planAt.S lp) := sound_of (E := impl_Base_planAt.E lp) (env_ok tabFits tabEqs ⟨impl_Base_commitAt.ok lp, impl_baseOf.ok lp, impl_mergeCommits.ok lp, impl_planned.ok, trivial⟩ trivial) mixed Tryz.func155 (by kernel_rfl) (c := codeOf Tryz.f155) (by kernel_rfl) (by kernel_rfl) impl_Base_planAt.an (fun x r h => ⟨lp, (impl_Base_planAt.eq lp x).trans h⟩)
def impl_flag.E : Env := { tab := tab, fns := [], ann := { own := [], ro := [] } }
def impl_flag.an : An := { pre := [] }
def impl_flag.S : Spec := { ats := [.v .bool], rts := [(.int .i64)], F := fun x => impl_flag x.1 }
theorem impl_flag.eq (lp : Nat) (x : ADens [.v .bool]) : evalF (impl_flag.E) impl_flag.an lp Tryz.f156 [.v .bool] [(.int .i64)] x = (impl_flag.S).F x := by kernel_rfl
theorem impl_flag.ok : Sound Tryz.prog 156 (impl_flag.S) := sound_of (E := impl_flag.E) (env_ok tabFits tabEqs trivial trivial) mixed Tryz.func156 (by kernel_rfl) (c := codeOf Tryz.f156) (by kernel_rfl) (by kernel_rfl) impl_flag.an (fun x r h => ⟨0, (impl_flag.eq 0 x).trans h⟩)
def impl_Client_isPossible.E (lp : Nat) : Env := { tab := tab, fns := [(154, impl_Client_isFresh.S), (61, impl_within.S), (75, impl_Client_isDone.S), (76, impl_Client_wish.S), (77, impl_hasSource.S), (153, impl_Wish_op.S), (155, impl_Base_planAt.S lp), (156, impl_flag.S), (157, slices_Equal_Entry.S lp)], ann := { own := [], ro := [2, 3] } }
def impl_Client_isPossible.an : An := { pre := [] }
def impl_Client_isPossible.S (lp : Nat) : Spec := { ats := [.v TClient, .v TBase], rts := [.bool], F := fun x => impl_Client_isPossible lp x.1 x.2.1 }
theorem impl_Client_isPossible.eq (lp : Nat) (x : ADens [.v TClient, .v TBase]) : evalF (impl_Client_isPossible.E lp) impl_Client_isPossible.an lp Tryz.f107 [.v TClient, .v TBase] [.bool] x = (impl_Client_isPossible.S lp).F x := by kernel_rfl
theorem impl_Client_isPossible.ok (lp : Nat) : Sound Tryz.prog 107 (impl_Client_isPossible.S lp) := sound_of (E := impl_Client_isPossible.E lp) (env_ok tabFits tabEqs ⟨impl_Client_isFresh.ok, impl_within.ok, impl_Client_isDone.ok, impl_Client_wish.ok, impl_hasSource.ok, impl_Wish_op.ok, impl_Base_planAt.ok lp, impl_flag.ok, slices_Equal_Entry.ok lp, trivial⟩ trivial) mixed Tryz.func107 (by kernel_rfl) (c := codeOf Tryz.f107) (by kernel_rfl) (by kernel_rfl) impl_Client_isPossible.an (fun x r h => ⟨lp, (impl_Client_isPossible.eq lp x).trans h⟩)
def impl_Client_isFor.E (lp : Nat) : Env := { tab := tab, fns := [(106, impl_WishOK.S lp), (105, impl_areAll_Wish.S lp), (61, impl_within.S), (107, impl_Client_isPossible.S lp)], ann := { own := [], ro := [2, 3] } }
def impl_Client_isFor.an : An := { pre := [] }
def impl_Client_isFor.S (lp : Nat) : Spec := { ats := [.v TClient, .v TBase], rts := [.bool], F := fun x => impl_Client_isFor lp x.1 x.2.1 }
theorem impl_Client_isFor.eq (lp : Nat) (x : ADens [.v TClient, .v TBase]) : evalF (impl_Client_isFor.E lp) impl_Client_isFor.an lp Tryz.f62 [.v TClient, .v TBase] [.bool] x = (impl_Client_isFor.S lp).F x := by kernel_rfl
theorem impl_Client_isFor.ok (lp : Nat) : Sound Tryz.prog 62 (impl_Client_isFor.S lp) := sound_of (E := impl_Client_isFor.E lp) (env_ok tabFits tabEqs ⟨impl_WishOK.ok lp, impl_areAll_Wish.ok lp, impl_within.ok, impl_Client_isPossible.ok lp, trivial⟩ trivial) mixed Tryz.func62 (by kernel_rfl) (c := codeOf Tryz.f62) (by kernel_rfl) (by kernel_rfl) impl_Client_isFor.an (fun x r h => ⟨lp, (impl_Client_isFor.eq lp x).trans h⟩)
def slices_IndexFunc_Moment.E (lp : Nat) : Env := { tab := tab, fns := [], ann := { own := [], ro := [] } }
def slices_IndexFunc_Moment.la2 : LoopAn := { kn := { tms := [0, 1, 7, 8] }, kx := {}, kr := { tms := [4] } }
def slices_IndexFunc_Moment.an : An := { loops := [(2, slices_IndexFunc_Moment.la2)] }
def slices_IndexFunc_Moment.s2 (x0 : List Moment) (x1 : (Moment × Unit) → Option Bool) (x7 : Int) (x8 : Int) : St := ⟨.v (.one (.b (.d (.sl TMoment) x0))) :: .v (.one (.b (.cl (.pair TMoment .unit) .bool x1))) :: (sk 5 (.v (.one (.b (.d (.int .i64) x7))) :: .v (.one (.b (.d (.int .i64) x8))) :: (sk 10 ([])))), sko 19 ([])⟩
def slices_IndexFunc_Moment.sx2 (y : Unit) : St := ⟨sk 19 ([]), sko 19 ([])⟩
def slices_IndexFunc_Moment.sr2 (z : Int) : St := ⟨sk 4 (.v (.one (.b (.d (.int .i64) z))) :: (sk 14 ([]))), sko 19 ([])⟩
def slices_IndexFunc_Moment.S (lp : Nat) : Spec := { ats := [.v (.sl TMoment), .clo (.pair TMoment .unit) .bool], rts := [(.int .i64)], F := fun x => slices_IndexFunc_Moment lp x.1 x.2.1 }
theorem slices_IndexFunc_Moment.t_b2 (lp : Nat) {R : Type} (N : St → Option R) (X : Out → St → Option R) (x0 : List Moment) (x1 : (Moment × Unit) → Option Bool) (x7 : Int) (x8 : Int) : codeK (slices_IndexFunc_Moment.E lp) slices_IndexFunc_Moment.an lp (loopAt 2 (codeOf Tryz.f158)) (slices_IndexFunc_Moment.s2 x0 x1 x7 x8) (lpK slices_IndexFunc_Moment.la2 N X) = slices_IndexFunc_Moment.b2 lp (fun x0 x1 x7 x8 => N (slices_IndexFunc_Moment.s2 x0 x1 x7 x8)) (fun y => X (.exit 0) (slices_IndexFunc_Moment.sx2 y)) (fun z => X .ret (slices_IndexFunc_Moment.sr2 z)) x0 x1 x7 x8 := by kernel_rfl
theorem slices_IndexFunc_Moment.n_b2 (lp : Nat) {R S : Type} (N : List Moment → ((Moment × Unit) → Option Bool) → Int → Int → Option R) (X : Unit → Option R) (Q : Int → Option R) (x0 : List Moment) (x1 : (Moment × Unit) → Option Bool) (x7 : Int) (x8 : Int) (k : R → Option S) : obind (slices_IndexFunc_Moment.b2 lp N X Q x0 x1 x7 x8) k = slices_IndexFunc_Moment.b2 lp (fun x0 x1 x7 x8 => obind (N x0 x1 x7 x8) k) (fun y => obind (X y) k) (fun z => obind (Q z) k) x0 x1 x7 x8 := by
  unfold slices_IndexFunc_Moment.b2; simp only [obind_none, obind_some, obind_cond, obind_oif, obind_oget, obind_obind]
theorem slices_IndexFunc_Moment.k2 (lp : Nat) {R : Type} (K : Out → St → Option R) : ∀ (n : Nat) (x0 : List Moment) (x1 : (Moment × Unit) → Option Bool) (x7 : Int) (x8 : Int), loopK slices_IndexFunc_Moment.la2 (fun σ K => codeK (slices_IndexFunc_Moment.E lp) slices_IndexFunc_Moment.an lp (loopAt 2 (codeOf Tryz.f158)) σ K) n (slices_IndexFunc_Moment.s2 x0 x1 x7 x8) K = obind (slices_IndexFunc_Moment.l2 lp n x0 x1 x7 x8) (leK 0 slices_IndexFunc_Moment.sr2 slices_IndexFunc_Moment.sx2 K) := by
  intro n
  induction n with
  | zero => intros; rfl
  | succ n ih =>
    intro x0 x1 x7 x8
    rw [loopK_succ, slices_IndexFunc_Moment.t_b2, slices_IndexFunc_Moment.l2, slices_IndexFunc_Moment.n_b2]
    simp only [ih, obind_some, leK_ret, leK_brk]
theorem slices_IndexFunc_Moment.t_a2 (lp : Nat) (y : Unit) : kont (R := Int) (slices_IndexFunc_Moment.E lp) slices_IndexFunc_Moment.an lp (finK (slices_IndexFunc_Moment.E lp) Tryz.f158 [(.int .i64)]) (stkAt 2 (codeOf Tryz.f158)) (.exit 0) (slices_IndexFunc_Moment.sx2 y) = slices_IndexFunc_Moment.a2 lp y := by kernel_rfl
theorem slices_IndexFunc_Moment.t_q2 (lp : Nat) (z : Int) : kont (R := Int) (slices_IndexFunc_Moment.E lp) slices_IndexFunc_Moment.an lp (finK (slices_IndexFunc_Moment.E lp) Tryz.f158 [(.int .i64)]) (stkAt 2 (codeOf Tryz.f158)) .ret (slices_IndexFunc_Moment.sr2 z) = slices_IndexFunc_Moment.q2 lp z := by kernel_rfl
theorem slices_IndexFunc_Moment.t_e (lp : Nat) (x0 : List Moment) (x1 : (Moment × Unit) → Option Bool) : evalF (slices_IndexFunc_Moment.E lp) slices_IndexFunc_Moment.an lp Tryz.f158 [.v (.sl TMoment), .clo (.pair TMoment .unit) .bool] [(.int .i64)] (x0, x1, ()) = slices_IndexFunc_Moment.e lp (fun x0 x1 x7 x8 => loopK slices_IndexFunc_Moment.la2 (fun σ K => codeK (slices_IndexFunc_Moment.E lp) slices_IndexFunc_Moment.an lp (loopAt 2 (codeOf Tryz.f158)) σ K) lp (slices_IndexFunc_Moment.s2 x0 x1 x7 x8) (kont (slices_IndexFunc_Moment.E lp) slices_IndexFunc_Moment.an lp (finK (slices_IndexFunc_Moment.E lp) Tryz.f158 [(.int .i64)]) (stkAt 2 (codeOf Tryz.f158)))) x0 x1 := by kernel_rfl
theorem slices_IndexFunc_Moment.eq0 (lp : Nat) (x0 : List Moment) (x1 : (Moment × Unit) → Option Bool) : evalF (slices_IndexFunc_Moment.E lp) slices_IndexFunc_Moment.an lp Tryz.f158 [.v (.sl TMoment), .clo (.pair TMoment .unit) .bool] [(.int .i64)] (x0, x1, ()) = slices_IndexFunc_Moment lp x0 x1 := by
  rw [slices_IndexFunc_Moment.t_e]; unfold slices_IndexFunc_Moment
  simp only [leK_leF _ slices_IndexFunc_Moment.sr2 slices_IndexFunc_Moment.sx2, slices_IndexFunc_Moment.k2, slices_IndexFunc_Moment.t_a2, slices_IndexFunc_Moment.t_q2]
theorem slices_IndexFunc_Moment.eq (lp : Nat) (x : ADens [.v (.sl TMoment), .clo (.pair TMoment .unit) .bool]) : evalF (slices_IndexFunc_Moment.E lp) slices_IndexFunc_Moment.an lp Tryz.f158 [.v (.sl TMoment), .clo (.pair TMoment .unit) .bool] [(.int .i64)] x = (slices_IndexFunc_Moment.S lp).F x := slices_IndexFunc_Moment.eq0 lp x.1 x.2.1
theorem slices_IndexFunc_Moment.ok (lp : Nat) : Sound Tryz.prog 158 (slices_IndexFunc_Moment.S lp) := sound_of (E := slices_IndexFunc_Moment.E lp) (env_ok tabFits tabEqs trivial trivial) mixed Tryz.func158 (by kernel_rfl) (c := codeOf Tryz.f158) (by kernel_rfl) (by kernel_rfl) slices_IndexFunc_Moment.an (fun x r h => ⟨lp, (slices_IndexFunc_Moment.eq lp x).trans h⟩)
def slices_ContainsFunc_Moment.E (lp : Nat) : Env := { tab := tab, fns := [(158, slices_IndexFunc_Moment.S lp)], ann := { own := [], ro := [] } }
def slices_ContainsFunc_Moment.an : An := { pre := [] }
def slices_ContainsFunc_Moment.S (lp : Nat) : Spec := { ats := [.v (.sl TMoment), .clo (.pair TMoment .unit) .bool], rts := [.bool], F := fun x => slices_ContainsFunc_Moment lp x.1 x.2.1 }
theorem slices_ContainsFunc_Moment.eq (lp : Nat) (x : ADens [.v (.sl TMoment), .clo (.pair TMoment .unit) .bool]) : evalF (slices_ContainsFunc_Moment.E lp) slices_ContainsFunc_Moment.an lp Tryz.f108 [.v (.sl TMoment), .clo (.pair TMoment .unit) .bool] [.bool] x = (slices_ContainsFunc_Moment.S lp).F x := by kernel_rfl
theorem slices_ContainsFunc_Moment.ok (lp : Nat) : Sound Tryz.prog 108 (slices_ContainsFunc_Moment.S lp) := sound_of (E := slices_ContainsFunc_Moment.E lp) (env_ok tabFits tabEqs ⟨slices_IndexFunc_Moment.ok lp, trivial⟩ trivial) mixed Tryz.func108 (by kernel_rfl) (c := codeOf Tryz.f108) (by kernel_rfl) (by kernel_rfl) slices_ContainsFunc_Moment.an (fun x r h => ⟨lp, (slices_ContainsFunc_Moment.eq lp x).trans h⟩)
def impl_areAll_Moment_c1.E : Env := { tab := tab, fns := [], ann := { own := [], ro := [2] } }
def impl_areAll_Moment_c1.an : An := { pre := [] }
def impl_areAll_Moment_c1.S : Spec := { ats := [.v TMoment, .ptrC (.pair TMoment .unit) .bool], rts := [.bool], F := fun x => impl_areAll_Moment_c1 x.1 x.2.1 }
theorem impl_areAll_Moment_c1.eq (lp : Nat) (x : ADens [.v TMoment, .ptrC (.pair TMoment .unit) .bool]) : evalF (impl_areAll_Moment_c1.E) impl_areAll_Moment_c1.an lp Tryz.f109 [.v TMoment, .ptrC (.pair TMoment .unit) .bool] [.bool] x = (impl_areAll_Moment_c1.S).F x := by kernel_rfl
theorem impl_areAll_Moment_c1.ok : Sound Tryz.prog 109 (impl_areAll_Moment_c1.S) := sound_of (E := impl_areAll_Moment_c1.E) (env_ok tabFits tabEqs trivial trivial) mixed Tryz.func109 (by kernel_rfl) (c := codeOf Tryz.f109) (by kernel_rfl) (by kernel_rfl) impl_areAll_Moment_c1.an (fun x r h => ⟨0, (impl_areAll_Moment_c1.eq 0 x).trans h⟩)
def impl_areAll_Moment.E (lp : Nat) : Env := { tab := tab, fns := [(109, impl_areAll_Moment_c1.S), (108, slices_ContainsFunc_Moment.S lp)], ann := { own := [], ro := [3] } }
def impl_areAll_Moment.an : An := { pre := [] }
def impl_areAll_Moment.S (lp : Nat) : Spec := { ats := [.v (.sl TMoment), .clo (.pair TMoment .unit) .bool], rts := [.bool], F := fun x => impl_areAll_Moment lp x.1 x.2.1 }
theorem impl_areAll_Moment.eq (lp : Nat) (x : ADens [.v (.sl TMoment), .clo (.pair TMoment .unit) .bool]) : evalF (impl_areAll_Moment.E lp) impl_areAll_Moment.an lp Tryz.f63 [.v (.sl TMoment), .clo (.pair TMoment .unit) .bool] [.bool] x = (impl_areAll_Moment.S lp).F x := by kernel_rfl
theorem impl_areAll_Moment.ok (lp : Nat) : Sound Tryz.prog 63 (impl_areAll_Moment.S lp) := sound_of (E := impl_areAll_Moment.E lp) (env_ok tabFits tabEqs ⟨impl_areAll_Moment_c1.ok, slices_ContainsFunc_Moment.ok lp, trivial⟩ trivial) mixed Tryz.func63 (by kernel_rfl) (c := codeOf Tryz.f63) (by kernel_rfl) (by kernel_rfl) impl_areAll_Moment.an (fun x r h => ⟨lp, (impl_areAll_Moment.eq lp x).trans h⟩)
def impl_Op_isZero.E : Env := { tab := tab, fns := [], ann := { own := [], ro := [1] } }
def impl_Op_isZero.an : An := { pre := [] }
def impl_Op_isZero.S : Spec := { ats := [.v TOp], rts := [.bool], F := fun x => impl_Op_isZero x.1 }
theorem impl_Op_isZero.eq (lp : Nat) (x : ADens [.v TOp]) : evalF (impl_Op_isZero.E) impl_Op_isZero.an lp Tryz.f110 [.v TOp] [.bool] x = (impl_Op_isZero.S).F x := by kernel_rfl
theorem impl_Op_isZero.ok : Sound Tryz.prog 110 (impl_Op_isZero.S) := sound_of (E := impl_Op_isZero.E) (env_ok tabFits tabEqs trivial trivial) mixed Tryz.func110 (by kernel_rfl) (c := codeOf Tryz.f110) (by kernel_rfl) (by kernel_rfl) impl_Op_isZero.an (fun x r h => ⟨0, (impl_Op_isZero.eq 0 x).trans h⟩)
def impl_isCode.E : Env := { tab := tab, fns := [(61, impl_within.S)], ann := { own := [], ro := [] } }
def impl_isCode.an : An := { pre := [] }
def impl_isCode.S : Spec := { ats := [.v (.int .i64)], rts := [.bool], F := fun x => impl_isCode x.1 }
theorem impl_isCode.eq (lp : Nat) (x : ADens [.v (.int .i64)]) : evalF (impl_isCode.E) impl_isCode.an lp Tryz.f161 [.v (.int .i64)] [.bool] x = (impl_isCode.S).F x := by kernel_rfl
theorem impl_isCode.ok : Sound Tryz.prog 161 (impl_isCode.S) := sound_of (E := impl_isCode.E) (env_ok tabFits tabEqs ⟨impl_within.ok, trivial⟩ trivial) mixed Tryz.func161 (by kernel_rfl) (c := codeOf Tryz.f161) (by kernel_rfl) (by kernel_rfl) impl_isCode.an (fun x r h => ⟨0, (impl_isCode.eq 0 x).trans h⟩)
def impl_isResult.E (lp : Nat) : Env := { tab := tab, fns := [(161, impl_isCode.S), (61, impl_within.S), (162, impl_isValue.S), (163, impl_MapOK.S lp)], ann := { own := [], ro := [2] } }
def impl_isResult.an : An := { pre := [] }
def impl_isResult.S (lp : Nat) : Spec := { ats := [.v TResult, .v (.int .i64)], rts := [.bool], F := fun x => impl_isResult lp x.1 x.2.1 }
theorem impl_isResult.eq (lp : Nat) (x : ADens [.v TResult, .v (.int .i64)]) : evalF (impl_isResult.E lp) impl_isResult.an lp Tryz.f112 [.v TResult, .v (.int .i64)] [.bool] x = (impl_isResult.S lp).F x := by kernel_rfl
theorem impl_isResult.ok (lp : Nat) : Sound Tryz.prog 112 (impl_isResult.S lp) := sound_of (E := impl_isResult.E lp) (env_ok tabFits tabEqs ⟨impl_isCode.ok, impl_within.ok, impl_isValue.ok, impl_MapOK.ok lp, trivial⟩ trivial) mixed Tryz.func112 (by kernel_rfl) (c := codeOf Tryz.f112) (by kernel_rfl) (by kernel_rfl) impl_isResult.an (fun x r h => ⟨lp, (impl_isResult.eq lp x).trans h⟩)
def impl_World_isMoment.E (lp : Nat) : Env := { tab := tab, fns := [(61, impl_within.S), (110, impl_Op_isZero.S), (112, impl_isResult.S lp), (111, impl_OpOK.S lp)], ann := { own := [], ro := [2, 3] } }
def impl_World_isMoment.an : An := { pre := [] }
def impl_World_isMoment.S (lp : Nat) : Spec := { ats := [.v TWorld, .v TMoment], rts := [.bool], F := fun x => impl_World_isMoment lp x.1 x.2.1 }
theorem impl_World_isMoment.eq (lp : Nat) (x : ADens [.v TWorld, .v TMoment]) : evalF (impl_World_isMoment.E lp) impl_World_isMoment.an lp Tryz.f64 [.v TWorld, .v TMoment] [.bool] x = (impl_World_isMoment.S lp).F x := by kernel_rfl
theorem impl_World_isMoment.ok (lp : Nat) : Sound Tryz.prog 64 (impl_World_isMoment.S lp) := sound_of (E := impl_World_isMoment.E lp) (env_ok tabFits tabEqs ⟨impl_within.ok, impl_Op_isZero.ok, impl_isResult.ok lp, impl_OpOK.ok lp, trivial⟩ trivial) mixed Tryz.func64 (by kernel_rfl) (c := codeOf Tryz.f64) (by kernel_rfl) (by kernel_rfl) impl_World_isMoment.an (fun x r h => ⟨lp, (impl_World_isMoment.eq lp x).trans h⟩)
def slices_IndexFunc_Watch.E (lp : Nat) : Env := { tab := tab, fns := [], ann := { own := [], ro := [] } }
def slices_IndexFunc_Watch.la2 : LoopAn := { kn := { tms := [0, 1, 7, 8] }, kx := {}, kr := { tms := [4] } }
def slices_IndexFunc_Watch.an : An := { loops := [(2, slices_IndexFunc_Watch.la2)] }
def slices_IndexFunc_Watch.s2 (x0 : List Watch) (x1 : (Watch × Unit) → Option Bool) (x7 : Int) (x8 : Int) : St := ⟨.v (.one (.b (.d (.sl TWatch) x0))) :: .v (.one (.b (.cl (.pair TWatch .unit) .bool x1))) :: (sk 5 (.v (.one (.b (.d (.int .i64) x7))) :: .v (.one (.b (.d (.int .i64) x8))) :: (sk 10 ([])))), sko 19 ([])⟩
def slices_IndexFunc_Watch.sx2 (y : Unit) : St := ⟨sk 19 ([]), sko 19 ([])⟩
def slices_IndexFunc_Watch.sr2 (z : Int) : St := ⟨sk 4 (.v (.one (.b (.d (.int .i64) z))) :: (sk 14 ([]))), sko 19 ([])⟩
def slices_IndexFunc_Watch.S (lp : Nat) : Spec := { ats := [.v (.sl TWatch), .clo (.pair TWatch .unit) .bool], rts := [(.int .i64)], F := fun x => slices_IndexFunc_Watch lp x.1 x.2.1 }
theorem slices_IndexFunc_Watch.t_b2 (lp : Nat) {R : Type} (N : St → Option R) (X : Out → St → Option R) (x0 : List Watch) (x1 : (Watch × Unit) → Option Bool) (x7 : Int) (x8 : Int) : codeK (slices_IndexFunc_Watch.E lp) slices_IndexFunc_Watch.an lp (loopAt 2 (codeOf Tryz.f164)) (slices_IndexFunc_Watch.s2 x0 x1 x7 x8) (lpK slices_IndexFunc_Watch.la2 N X) = slices_IndexFunc_Watch.b2 lp (fun x0 x1 x7 x8 => N (slices_IndexFunc_Watch.s2 x0 x1 x7 x8)) (fun y => X (.exit 0) (slices_IndexFunc_Watch.sx2 y)) (fun z => X .ret (slices_IndexFunc_Watch.sr2 z)) x0 x1 x7 x8 := by kernel_rfl
theorem slices_IndexFunc_Watch.n_b2 (lp : Nat) {R S : Type} (N : List Watch → ((Watch × Unit) → Option Bool) → Int → Int → Option R) (X : Unit → Option R) (Q : Int → Option R) (x0 : List Watch) (x1 : (Watch × Unit) → Option Bool) (x7 : Int) (x8 : Int) (k : R → Option S) : obind (slices_IndexFunc_Watch.b2 lp N X Q x0 x1 x7 x8) k = slices_IndexFunc_Watch.b2 lp (fun x0 x1 x7 x8 => obind (N x0 x1 x7 x8) k) (fun y => obind (X y) k) (fun z => obind (Q z) k) x0 x1 x7 x8 := by
  unfold slices_IndexFunc_Watch.b2; simp only [obind_none, obind_some, obind_cond, obind_oif, obind_oget, obind_obind]
theorem slices_IndexFunc_Watch.k2 (lp : Nat) {R : Type} (K : Out → St → Option R) : ∀ (n : Nat) (x0 : List Watch) (x1 : (Watch × Unit) → Option Bool) (x7 : Int) (x8 : Int), loopK slices_IndexFunc_Watch.la2 (fun σ K => codeK (slices_IndexFunc_Watch.E lp) slices_IndexFunc_Watch.an lp (loopAt 2 (codeOf Tryz.f164)) σ K) n (slices_IndexFunc_Watch.s2 x0 x1 x7 x8) K = obind (slices_IndexFunc_Watch.l2 lp n x0 x1 x7 x8) (leK 0 slices_IndexFunc_Watch.sr2 slices_IndexFunc_Watch.sx2 K) := by
  intro n
  induction n with
  | zero => intros; rfl
  | succ n ih =>
    intro x0 x1 x7 x8
    rw [loopK_succ, slices_IndexFunc_Watch.t_b2, slices_IndexFunc_Watch.l2, slices_IndexFunc_Watch.n_b2]
    simp only [ih, obind_some, leK_ret, leK_brk]
theorem slices_IndexFunc_Watch.t_a2 (lp : Nat) (y : Unit) : kont (R := Int) (slices_IndexFunc_Watch.E lp) slices_IndexFunc_Watch.an lp (finK (slices_IndexFunc_Watch.E lp) Tryz.f164 [(.int .i64)]) (stkAt 2 (codeOf Tryz.f164)) (.exit 0) (slices_IndexFunc_Watch.sx2 y) = slices_IndexFunc_Watch.a2 lp y := by kernel_rfl
theorem slices_IndexFunc_Watch.t_q2 (lp : Nat) (z : Int) : kont (R := Int) (slices_IndexFunc_Watch.E lp) slices_IndexFunc_Watch.an lp (finK (slices_IndexFunc_Watch.E lp) Tryz.f164 [(.int .i64)]) (stkAt 2 (codeOf Tryz.f164)) .ret (slices_IndexFunc_Watch.sr2 z) = slices_IndexFunc_Watch.q2 lp z := by kernel_rfl
theorem slices_IndexFunc_Watch.t_e (lp : Nat) (x0 : List Watch) (x1 : (Watch × Unit) → Option Bool) : evalF (slices_IndexFunc_Watch.E lp) slices_IndexFunc_Watch.an lp Tryz.f164 [.v (.sl TWatch), .clo (.pair TWatch .unit) .bool] [(.int .i64)] (x0, x1, ()) = slices_IndexFunc_Watch.e lp (fun x0 x1 x7 x8 => loopK slices_IndexFunc_Watch.la2 (fun σ K => codeK (slices_IndexFunc_Watch.E lp) slices_IndexFunc_Watch.an lp (loopAt 2 (codeOf Tryz.f164)) σ K) lp (slices_IndexFunc_Watch.s2 x0 x1 x7 x8) (kont (slices_IndexFunc_Watch.E lp) slices_IndexFunc_Watch.an lp (finK (slices_IndexFunc_Watch.E lp) Tryz.f164 [(.int .i64)]) (stkAt 2 (codeOf Tryz.f164)))) x0 x1 := by kernel_rfl
theorem slices_IndexFunc_Watch.eq0 (lp : Nat) (x0 : List Watch) (x1 : (Watch × Unit) → Option Bool) : evalF (slices_IndexFunc_Watch.E lp) slices_IndexFunc_Watch.an lp Tryz.f164 [.v (.sl TWatch), .clo (.pair TWatch .unit) .bool] [(.int .i64)] (x0, x1, ()) = slices_IndexFunc_Watch lp x0 x1 := by
  rw [slices_IndexFunc_Watch.t_e]; unfold slices_IndexFunc_Watch
  simp only [leK_leF _ slices_IndexFunc_Watch.sr2 slices_IndexFunc_Watch.sx2, slices_IndexFunc_Watch.k2, slices_IndexFunc_Watch.t_a2, slices_IndexFunc_Watch.t_q2]
theorem slices_IndexFunc_Watch.eq (lp : Nat) (x : ADens [.v (.sl TWatch), .clo (.pair TWatch .unit) .bool]) : evalF (slices_IndexFunc_Watch.E lp) slices_IndexFunc_Watch.an lp Tryz.f164 [.v (.sl TWatch), .clo (.pair TWatch .unit) .bool] [(.int .i64)] x = (slices_IndexFunc_Watch.S lp).F x := slices_IndexFunc_Watch.eq0 lp x.1 x.2.1
theorem slices_IndexFunc_Watch.ok (lp : Nat) : Sound Tryz.prog 164 (slices_IndexFunc_Watch.S lp) := sound_of (E := slices_IndexFunc_Watch.E lp) (env_ok tabFits tabEqs trivial trivial) mixed Tryz.func164 (by kernel_rfl) (c := codeOf Tryz.f164) (by kernel_rfl) (by kernel_rfl) slices_IndexFunc_Watch.an (fun x r h => ⟨lp, (slices_IndexFunc_Watch.eq lp x).trans h⟩)
def slices_ContainsFunc_Watch.E (lp : Nat) : Env := { tab := tab, fns := [(164, slices_IndexFunc_Watch.S lp)], ann := { own := [], ro := [] } }
def slices_ContainsFunc_Watch.an : An := { pre := [] }
def slices_ContainsFunc_Watch.S (lp : Nat) : Spec := { ats := [.v (.sl TWatch), .clo (.pair TWatch .unit) .bool], rts := [.bool], F := fun x => slices_ContainsFunc_Watch lp x.1 x.2.1 }
theorem slices_ContainsFunc_Watch.eq (lp : Nat) (x : ADens [.v (.sl TWatch), .clo (.pair TWatch .unit) .bool]) : evalF (slices_ContainsFunc_Watch.E lp) slices_ContainsFunc_Watch.an lp Tryz.f113 [.v (.sl TWatch), .clo (.pair TWatch .unit) .bool] [.bool] x = (slices_ContainsFunc_Watch.S lp).F x := by kernel_rfl
theorem slices_ContainsFunc_Watch.ok (lp : Nat) : Sound Tryz.prog 113 (slices_ContainsFunc_Watch.S lp) := sound_of (E := slices_ContainsFunc_Watch.E lp) (env_ok tabFits tabEqs ⟨slices_IndexFunc_Watch.ok lp, trivial⟩ trivial) mixed Tryz.func113 (by kernel_rfl) (c := codeOf Tryz.f113) (by kernel_rfl) (by kernel_rfl) slices_ContainsFunc_Watch.an (fun x r h => ⟨lp, (slices_ContainsFunc_Watch.eq lp x).trans h⟩)
def impl_areAll_Watch_c1.E : Env := { tab := tab, fns := [], ann := { own := [], ro := [2] } }
def impl_areAll_Watch_c1.an : An := { pre := [] }
def impl_areAll_Watch_c1.S : Spec := { ats := [.v TWatch, .ptrC (.pair TWatch .unit) .bool], rts := [.bool], F := fun x => impl_areAll_Watch_c1 x.1 x.2.1 }
theorem impl_areAll_Watch_c1.eq (lp : Nat) (x : ADens [.v TWatch, .ptrC (.pair TWatch .unit) .bool]) : evalF (impl_areAll_Watch_c1.E) impl_areAll_Watch_c1.an lp Tryz.f114 [.v TWatch, .ptrC (.pair TWatch .unit) .bool] [.bool] x = (impl_areAll_Watch_c1.S).F x := by kernel_rfl
theorem impl_areAll_Watch_c1.ok : Sound Tryz.prog 114 (impl_areAll_Watch_c1.S) := sound_of (E := impl_areAll_Watch_c1.E) (env_ok tabFits tabEqs trivial trivial) mixed Tryz.func114 (by kernel_rfl) (c := codeOf Tryz.f114) (by kernel_rfl) (by kernel_rfl) impl_areAll_Watch_c1.an (fun x r h => ⟨0, (impl_areAll_Watch_c1.eq 0 x).trans h⟩)
def impl_areAll_Watch.E (lp : Nat) : Env := { tab := tab, fns := [(114, impl_areAll_Watch_c1.S), (113, slices_ContainsFunc_Watch.S lp)], ann := { own := [], ro := [3] } }
def impl_areAll_Watch.an : An := { pre := [] }
def impl_areAll_Watch.S (lp : Nat) : Spec := { ats := [.v (.sl TWatch), .clo (.pair TWatch .unit) .bool], rts := [.bool], F := fun x => impl_areAll_Watch lp x.1 x.2.1 }
theorem impl_areAll_Watch.eq (lp : Nat) (x : ADens [.v (.sl TWatch), .clo (.pair TWatch .unit) .bool]) : evalF (impl_areAll_Watch.E lp) impl_areAll_Watch.an lp Tryz.f65 [.v (.sl TWatch), .clo (.pair TWatch .unit) .bool] [.bool] x = (impl_areAll_Watch.S lp).F x := by kernel_rfl
theorem impl_areAll_Watch.ok (lp : Nat) : Sound Tryz.prog 65 (impl_areAll_Watch.S lp) := sound_of (E := impl_areAll_Watch.E lp) (env_ok tabFits tabEqs ⟨impl_areAll_Watch_c1.ok, slices_ContainsFunc_Watch.ok lp, trivial⟩ trivial) mixed Tryz.func65 (by kernel_rfl) (c := codeOf Tryz.f65) (by kernel_rfl) (by kernel_rfl) impl_areAll_Watch.an (fun x r h => ⟨lp, (impl_areAll_Watch.eq lp x).trans h⟩)
def impl_isList_Event.E : Env := { tab := tab, fns := [], ann := { own := [], ro := [] } }
def impl_isList_Event.an : An := { pre := [] }
def impl_isList_Event.S : Spec := { ats := [.v (.sl TEvent)], rts := [.bool], F := fun x => impl_isList_Event x.1 }
theorem impl_isList_Event.eq (lp : Nat) (x : ADens [.v (.sl TEvent)]) : evalF (impl_isList_Event.E) impl_isList_Event.an lp Tryz.f169 [.v (.sl TEvent)] [.bool] x = (impl_isList_Event.S).F x := by kernel_rfl
theorem impl_isList_Event.ok : Sound Tryz.prog 169 (impl_isList_Event.S) := sound_of (E := impl_isList_Event.E) (env_ok tabFits tabEqs trivial trivial) mixed Tryz.func169 (by kernel_rfl) (c := codeOf Tryz.f169) (by kernel_rfl) (by kernel_rfl) impl_isList_Event.an (fun x r h => ⟨0, (impl_isList_Event.eq 0 x).trans h⟩)
def impl_EventsOK.E (lp : Nat) : Env := { tab := tab, fns := [(61, impl_within.S), (169, impl_isList_Event.S)], ann := { own := [], ro := [] } }
def impl_EventsOK.la2 : LoopAn := { kn := { tms := [0, 5, 6, 7] }, kx := { tms := [0] }, kr := { tms := [2] } }
def impl_EventsOK.an : An := { loops := [(2, impl_EventsOK.la2)] }
def impl_EventsOK.s2 (x0 : List Event) (x5 : List Event) (x6 : Int) (x7 : Int) : St := ⟨.v (.one (.b (.d (.sl TEvent) x0))) :: (sk 4 (.v (.one (.b (.d (.sl TEvent) x5))) :: .v (.one (.b (.d (.int .i64) x6))) :: .v (.one (.b (.d (.int .i64) x7))) :: (sk 47 ([])))), sko 55 ([])⟩
def impl_EventsOK.sx2 (y : (List Event)) : St := ⟨.v (.one (.b (.d (.sl TEvent) y))) :: (sk 54 ([])), sko 55 ([])⟩
def impl_EventsOK.sr2 (z : Bool) : St := ⟨sk 2 (.v (.one (.b (.d .bool z))) :: (sk 52 ([]))), sko 55 ([])⟩
def impl_EventsOK.S (lp : Nat) : Spec := { ats := [.v (.sl TEvent)], rts := [.bool], F := fun x => impl_EventsOK lp x.1 }
theorem impl_EventsOK.t_b2 (lp : Nat) {R : Type} (N : St → Option R) (X : Out → St → Option R) (x0 : List Event) (x5 : List Event) (x6 : Int) (x7 : Int) : codeK (impl_EventsOK.E lp) impl_EventsOK.an lp (loopAt 2 (codeOf Tryz.f116)) (impl_EventsOK.s2 x0 x5 x6 x7) (lpK impl_EventsOK.la2 N X) = impl_EventsOK.b2 lp (fun x0 x5 x6 x7 => N (impl_EventsOK.s2 x0 x5 x6 x7)) (fun y => X (.exit 0) (impl_EventsOK.sx2 y)) (fun z => X .ret (impl_EventsOK.sr2 z)) x0 x5 x6 x7 := by kernel_rfl
theorem impl_EventsOK.n_b2 (lp : Nat) {R S : Type} (N : List Event → List Event → Int → Int → Option R) (X : ((List Event)) → Option R) (Q : Bool → Option R) (x0 : List Event) (x5 : List Event) (x6 : Int) (x7 : Int) (k : R → Option S) : obind (impl_EventsOK.b2 lp N X Q x0 x5 x6 x7) k = impl_EventsOK.b2 lp (fun x0 x5 x6 x7 => obind (N x0 x5 x6 x7) k) (fun y => obind (X y) k) (fun z => obind (Q z) k) x0 x5 x6 x7 := by
  unfold impl_EventsOK.b2; simp only [obind_none, obind_some, obind_cond, obind_oif, obind_oget, obind_obind]
theorem impl_EventsOK.k2 (lp : Nat) {R : Type} (K : Out → St → Option R) : ∀ (n : Nat) (x0 : List Event) (x5 : List Event) (x6 : Int) (x7 : Int), loopK impl_EventsOK.la2 (fun σ K => codeK (impl_EventsOK.E lp) impl_EventsOK.an lp (loopAt 2 (codeOf Tryz.f116)) σ K) n (impl_EventsOK.s2 x0 x5 x6 x7) K = obind (impl_EventsOK.l2 lp n x0 x5 x6 x7) (leK 0 impl_EventsOK.sr2 impl_EventsOK.sx2 K) := by
  intro n
  induction n with
  | zero => intros; rfl
  | succ n ih =>
    intro x0 x5 x6 x7
    rw [loopK_succ, impl_EventsOK.t_b2, impl_EventsOK.l2, impl_EventsOK.n_b2]
    simp only [ih, obind_some, leK_ret, leK_brk]
theorem impl_EventsOK.t_a2 (lp : Nat) (y : (List Event)) : kont (R := Bool) (impl_EventsOK.E lp) impl_EventsOK.an lp (finK (impl_EventsOK.E lp) Tryz.f116 [.bool]) (stkAt 2 (codeOf Tryz.f116)) (.exit 0) (impl_EventsOK.sx2 y) = impl_EventsOK.a2 lp y := by kernel_rfl
theorem impl_EventsOK.t_q2 (lp : Nat) (z : Bool) : kont (R := Bool) (impl_EventsOK.E lp) impl_EventsOK.an lp (finK (impl_EventsOK.E lp) Tryz.f116 [.bool]) (stkAt 2 (codeOf Tryz.f116)) .ret (impl_EventsOK.sr2 z) = impl_EventsOK.q2 lp z := by kernel_rfl
theorem impl_EventsOK.t_e (lp : Nat) (x0 : List Event) : evalF (impl_EventsOK.E lp) impl_EventsOK.an lp Tryz.f116 [.v (.sl TEvent)] [.bool] (x0, ()) = impl_EventsOK.e lp (fun x0 x5 x6 x7 => loopK impl_EventsOK.la2 (fun σ K => codeK (impl_EventsOK.E lp) impl_EventsOK.an lp (loopAt 2 (codeOf Tryz.f116)) σ K) lp (impl_EventsOK.s2 x0 x5 x6 x7) (kont (impl_EventsOK.E lp) impl_EventsOK.an lp (finK (impl_EventsOK.E lp) Tryz.f116 [.bool]) (stkAt 2 (codeOf Tryz.f116)))) x0 := by kernel_rfl
theorem impl_EventsOK.eq0 (lp : Nat) (x0 : List Event) : evalF (impl_EventsOK.E lp) impl_EventsOK.an lp Tryz.f116 [.v (.sl TEvent)] [.bool] (x0, ()) = impl_EventsOK lp x0 := by
  rw [impl_EventsOK.t_e]; unfold impl_EventsOK
  simp only [leK_leF _ impl_EventsOK.sr2 impl_EventsOK.sx2, impl_EventsOK.k2, impl_EventsOK.t_a2, impl_EventsOK.t_q2]
theorem impl_EventsOK.eq (lp : Nat) (x : ADens [.v (.sl TEvent)]) : evalF (impl_EventsOK.E lp) impl_EventsOK.an lp Tryz.f116 [.v (.sl TEvent)] [.bool] x = (impl_EventsOK.S lp).F x := impl_EventsOK.eq0 lp x.1
theorem impl_EventsOK.ok (lp : Nat) : Sound Tryz.prog 116 (impl_EventsOK.S lp) := sound_of (E := impl_EventsOK.E lp) (env_ok tabFits tabEqs ⟨impl_within.ok, impl_isList_Event.ok, trivial⟩ trivial) mixed Tryz.func116 (by kernel_rfl) (c := codeOf Tryz.f116) (by kernel_rfl) (by kernel_rfl) impl_EventsOK.an (fun x r h => ⟨lp, (impl_EventsOK.eq lp x).trans h⟩)
def slices_IndexFunc_Event.E (lp : Nat) : Env := { tab := tab, fns := [], ann := { own := [], ro := [] } }
def slices_IndexFunc_Event.la2 : LoopAn := { kn := { tms := [0, 1, 7, 8] }, kx := {}, kr := { tms := [4] } }
def slices_IndexFunc_Event.an : An := { loops := [(2, slices_IndexFunc_Event.la2)] }
def slices_IndexFunc_Event.s2 (x0 : List Event) (x1 : (Event × Unit) → Option Bool) (x7 : Int) (x8 : Int) : St := ⟨.v (.one (.b (.d (.sl TEvent) x0))) :: .v (.one (.b (.cl (.pair TEvent .unit) .bool x1))) :: (sk 5 (.v (.one (.b (.d (.int .i64) x7))) :: .v (.one (.b (.d (.int .i64) x8))) :: (sk 10 ([])))), sko 19 ([])⟩
def slices_IndexFunc_Event.sx2 (y : Unit) : St := ⟨sk 19 ([]), sko 19 ([])⟩
def slices_IndexFunc_Event.sr2 (z : Int) : St := ⟨sk 4 (.v (.one (.b (.d (.int .i64) z))) :: (sk 14 ([]))), sko 19 ([])⟩
def slices_IndexFunc_Event.S (lp : Nat) : Spec := { ats := [.v (.sl TEvent), .clo (.pair TEvent .unit) .bool], rts := [(.int .i64)], F := fun x => slices_IndexFunc_Event lp x.1 x.2.1 }
theorem slices_IndexFunc_Event.t_b2 (lp : Nat) {R : Type} (N : St → Option R) (X : Out → St → Option R) (x0 : List Event) (x1 : (Event × Unit) → Option Bool) (x7 : Int) (x8 : Int) : codeK (slices_IndexFunc_Event.E lp) slices_IndexFunc_Event.an lp (loopAt 2 (codeOf Tryz.f193)) (slices_IndexFunc_Event.s2 x0 x1 x7 x8) (lpK slices_IndexFunc_Event.la2 N X) = slices_IndexFunc_Event.b2 lp (fun x0 x1 x7 x8 => N (slices_IndexFunc_Event.s2 x0 x1 x7 x8)) (fun y => X (.exit 0) (slices_IndexFunc_Event.sx2 y)) (fun z => X .ret (slices_IndexFunc_Event.sr2 z)) x0 x1 x7 x8 := by kernel_rfl
theorem slices_IndexFunc_Event.n_b2 (lp : Nat) {R S : Type} (N : List Event → ((Event × Unit) → Option Bool) → Int → Int → Option R) (X : Unit → Option R) (Q : Int → Option R) (x0 : List Event) (x1 : (Event × Unit) → Option Bool) (x7 : Int) (x8 : Int) (k : R → Option S) : obind (slices_IndexFunc_Event.b2 lp N X Q x0 x1 x7 x8) k = slices_IndexFunc_Event.b2 lp (fun x0 x1 x7 x8 => obind (N x0 x1 x7 x8) k) (fun y => obind (X y) k) (fun z => obind (Q z) k) x0 x1 x7 x8 := by
  unfold slices_IndexFunc_Event.b2; simp only [obind_none, obind_some, obind_cond, obind_oif, obind_oget, obind_obind]
theorem slices_IndexFunc_Event.k2 (lp : Nat) {R : Type} (K : Out → St → Option R) : ∀ (n : Nat) (x0 : List Event) (x1 : (Event × Unit) → Option Bool) (x7 : Int) (x8 : Int), loopK slices_IndexFunc_Event.la2 (fun σ K => codeK (slices_IndexFunc_Event.E lp) slices_IndexFunc_Event.an lp (loopAt 2 (codeOf Tryz.f193)) σ K) n (slices_IndexFunc_Event.s2 x0 x1 x7 x8) K = obind (slices_IndexFunc_Event.l2 lp n x0 x1 x7 x8) (leK 0 slices_IndexFunc_Event.sr2 slices_IndexFunc_Event.sx2 K) := by
  intro n
  induction n with
  | zero => intros; rfl
  | succ n ih =>
    intro x0 x1 x7 x8
    rw [loopK_succ, slices_IndexFunc_Event.t_b2, slices_IndexFunc_Event.l2, slices_IndexFunc_Event.n_b2]
    simp only [ih, obind_some, leK_ret, leK_brk]
theorem slices_IndexFunc_Event.t_a2 (lp : Nat) (y : Unit) : kont (R := Int) (slices_IndexFunc_Event.E lp) slices_IndexFunc_Event.an lp (finK (slices_IndexFunc_Event.E lp) Tryz.f193 [(.int .i64)]) (stkAt 2 (codeOf Tryz.f193)) (.exit 0) (slices_IndexFunc_Event.sx2 y) = slices_IndexFunc_Event.a2 lp y := by kernel_rfl
theorem slices_IndexFunc_Event.t_q2 (lp : Nat) (z : Int) : kont (R := Int) (slices_IndexFunc_Event.E lp) slices_IndexFunc_Event.an lp (finK (slices_IndexFunc_Event.E lp) Tryz.f193 [(.int .i64)]) (stkAt 2 (codeOf Tryz.f193)) .ret (slices_IndexFunc_Event.sr2 z) = slices_IndexFunc_Event.q2 lp z := by kernel_rfl
theorem slices_IndexFunc_Event.t_e (lp : Nat) (x0 : List Event) (x1 : (Event × Unit) → Option Bool) : evalF (slices_IndexFunc_Event.E lp) slices_IndexFunc_Event.an lp Tryz.f193 [.v (.sl TEvent), .clo (.pair TEvent .unit) .bool] [(.int .i64)] (x0, x1, ()) = slices_IndexFunc_Event.e lp (fun x0 x1 x7 x8 => loopK slices_IndexFunc_Event.la2 (fun σ K => codeK (slices_IndexFunc_Event.E lp) slices_IndexFunc_Event.an lp (loopAt 2 (codeOf Tryz.f193)) σ K) lp (slices_IndexFunc_Event.s2 x0 x1 x7 x8) (kont (slices_IndexFunc_Event.E lp) slices_IndexFunc_Event.an lp (finK (slices_IndexFunc_Event.E lp) Tryz.f193 [(.int .i64)]) (stkAt 2 (codeOf Tryz.f193)))) x0 x1 := by kernel_rfl
theorem slices_IndexFunc_Event.eq0 (lp : Nat) (x0 : List Event) (x1 : (Event × Unit) → Option Bool) : evalF (slices_IndexFunc_Event.E lp) slices_IndexFunc_Event.an lp Tryz.f193 [.v (.sl TEvent), .clo (.pair TEvent .unit) .bool] [(.int .i64)] (x0, x1, ()) = slices_IndexFunc_Event lp x0 x1 := by
  rw [slices_IndexFunc_Event.t_e]; unfold slices_IndexFunc_Event
  simp only [leK_leF _ slices_IndexFunc_Event.sr2 slices_IndexFunc_Event.sx2, slices_IndexFunc_Event.k2, slices_IndexFunc_Event.t_a2, slices_IndexFunc_Event.t_q2]
theorem slices_IndexFunc_Event.eq (lp : Nat) (x : ADens [.v (.sl TEvent), .clo (.pair TEvent .unit) .bool]) : evalF (slices_IndexFunc_Event.E lp) slices_IndexFunc_Event.an lp Tryz.f193 [.v (.sl TEvent), .clo (.pair TEvent .unit) .bool] [(.int .i64)] x = (slices_IndexFunc_Event.S lp).F x := slices_IndexFunc_Event.eq0 lp x.1 x.2.1
theorem slices_IndexFunc_Event.ok (lp : Nat) : Sound Tryz.prog 193 (slices_IndexFunc_Event.S lp) := sound_of (E := slices_IndexFunc_Event.E lp) (env_ok tabFits tabEqs trivial trivial) mixed Tryz.func193 (by kernel_rfl) (c := codeOf Tryz.f193) (by kernel_rfl) (by kernel_rfl) slices_IndexFunc_Event.an (fun x r h => ⟨lp, (slices_IndexFunc_Event.eq lp x).trans h⟩)
def slices_ContainsFunc_Event.E (lp : Nat) : Env := { tab := tab, fns := [(193, slices_IndexFunc_Event.S lp)], ann := { own := [], ro := [] } }
def slices_ContainsFunc_Event.an : An := { pre := [] }
def slices_ContainsFunc_Event.S (lp : Nat) : Spec := { ats := [.v (.sl TEvent), .clo (.pair TEvent .unit) .bool], rts := [.bool], F := fun x => slices_ContainsFunc_Event lp x.1 x.2.1 }
theorem slices_ContainsFunc_Event.eq (lp : Nat) (x : ADens [.v (.sl TEvent), .clo (.pair TEvent .unit) .bool]) : evalF (slices_ContainsFunc_Event.E lp) slices_ContainsFunc_Event.an lp Tryz.f170 [.v (.sl TEvent), .clo (.pair TEvent .unit) .bool] [.bool] x = (slices_ContainsFunc_Event.S lp).F x := by kernel_rfl
theorem slices_ContainsFunc_Event.ok (lp : Nat) : Sound Tryz.prog 170 (slices_ContainsFunc_Event.S lp) := sound_of (E := slices_ContainsFunc_Event.E lp) (env_ok tabFits tabEqs ⟨slices_IndexFunc_Event.ok lp, trivial⟩ trivial) mixed Tryz.func170 (by kernel_rfl) (c := codeOf Tryz.f170) (by kernel_rfl) (by kernel_rfl) slices_ContainsFunc_Event.an (fun x r h => ⟨lp, (slices_ContainsFunc_Event.eq lp x).trans h⟩)
def impl_areAll_Event_c1.E : Env := { tab := tab, fns := [], ann := { own := [], ro := [2] } }
def impl_areAll_Event_c1.an : An := { pre := [] }
def impl_areAll_Event_c1.S : Spec := { ats := [.v TEvent, .ptrC (.pair TEvent .unit) .bool], rts := [.bool], F := fun x => impl_areAll_Event_c1 x.1 x.2.1 }
theorem impl_areAll_Event_c1.eq (lp : Nat) (x : ADens [.v TEvent, .ptrC (.pair TEvent .unit) .bool]) : evalF (impl_areAll_Event_c1.E) impl_areAll_Event_c1.an lp Tryz.f171 [.v TEvent, .ptrC (.pair TEvent .unit) .bool] [.bool] x = (impl_areAll_Event_c1.S).F x := by kernel_rfl
theorem impl_areAll_Event_c1.ok : Sound Tryz.prog 171 (impl_areAll_Event_c1.S) := sound_of (E := impl_areAll_Event_c1.E) (env_ok tabFits tabEqs trivial trivial) mixed Tryz.func171 (by kernel_rfl) (c := codeOf Tryz.f171) (by kernel_rfl) (by kernel_rfl) impl_areAll_Event_c1.an (fun x r h => ⟨0, (impl_areAll_Event_c1.eq 0 x).trans h⟩)
def impl_areAll_Event.E (lp : Nat) : Env := { tab := tab, fns := [(171, impl_areAll_Event_c1.S), (170, slices_ContainsFunc_Event.S lp)], ann := { own := [], ro := [3] } }
def impl_areAll_Event.an : An := { pre := [] }
def impl_areAll_Event.S (lp : Nat) : Spec := { ats := [.v (.sl TEvent), .clo (.pair TEvent .unit) .bool], rts := [.bool], F := fun x => impl_areAll_Event lp x.1 x.2.1 }
theorem impl_areAll_Event.eq (lp : Nat) (x : ADens [.v (.sl TEvent), .clo (.pair TEvent .unit) .bool]) : evalF (impl_areAll_Event.E lp) impl_areAll_Event.an lp Tryz.f117 [.v (.sl TEvent), .clo (.pair TEvent .unit) .bool] [.bool] x = (impl_areAll_Event.S lp).F x := by kernel_rfl
theorem impl_areAll_Event.ok (lp : Nat) : Sound Tryz.prog 117 (impl_areAll_Event.S lp) := sound_of (E := impl_areAll_Event.E lp) (env_ok tabFits tabEqs ⟨impl_areAll_Event_c1.ok, slices_ContainsFunc_Event.ok lp, trivial⟩ trivial) mixed Tryz.func117 (by kernel_rfl) (c := codeOf Tryz.f117) (by kernel_rfl) (by kernel_rfl) impl_areAll_Event.an (fun x r h => ⟨lp, (impl_areAll_Event.eq lp x).trans h⟩)
def impl_WatchOK_c1.E : Env := { tab := tab, fns := [], ann := { own := [], ro := [1] } }
def impl_WatchOK_c1.an : An := { pre := [] }
def impl_WatchOK_c1.S : Spec := { ats := [.v TEvent], rts := [.bool], F := fun x => impl_WatchOK_c1 x.1 }
theorem impl_WatchOK_c1.eq (lp : Nat) (x : ADens [.v TEvent]) : evalF (impl_WatchOK_c1.E) impl_WatchOK_c1.an lp Tryz.f118 [.v TEvent] [.bool] x = (impl_WatchOK_c1.S).F x := by kernel_rfl
theorem impl_WatchOK_c1.ok : Sound Tryz.prog 118 (impl_WatchOK_c1.S) := sound_of (E := impl_WatchOK_c1.E) (env_ok tabFits tabEqs trivial trivial) mixed Tryz.func118 (by kernel_rfl) (c := codeOf Tryz.f118) (by kernel_rfl) (by kernel_rfl) impl_WatchOK_c1.an (fun x r h => ⟨0, (impl_WatchOK_c1.eq 0 x).trans h⟩)
def impl_WatchOK.E (lp : Nat) : Env := { tab := tab, fns := [(115, impl_NameOK.S lp), (61, impl_within.S), (116, impl_EventsOK.S lp), (118, impl_WatchOK_c1.S), (117, impl_areAll_Event.S lp)], ann := { own := [], ro := [1] } }
def impl_WatchOK.an : An := { pre := [] }
def impl_WatchOK.S (lp : Nat) : Spec := { ats := [.v TWatch], rts := [.bool], F := fun x => impl_WatchOK lp x.1 }
theorem impl_WatchOK.eq (lp : Nat) (x : ADens [.v TWatch]) : evalF (impl_WatchOK.E lp) impl_WatchOK.an lp Tryz.f67 [.v TWatch] [.bool] x = (impl_WatchOK.S lp).F x := by kernel_rfl
theorem impl_WatchOK.ok (lp : Nat) : Sound Tryz.prog 67 (impl_WatchOK.S lp) := sound_of (E := impl_WatchOK.E lp) (env_ok tabFits tabEqs ⟨impl_NameOK.ok lp, impl_within.ok, impl_EventsOK.ok lp, impl_WatchOK_c1.ok, impl_areAll_Event.ok lp, trivial⟩ trivial) mixed Tryz.func67 (by kernel_rfl) (c := codeOf Tryz.f67) (by kernel_rfl) (by kernel_rfl) impl_WatchOK.an (fun x r h => ⟨lp, (impl_WatchOK.eq lp x).trans h⟩)
def impl_versionOf.E (lp : Nat) : Env := { tab := tab, fns := [(119, impl_place.S lp)], ann := { own := [], ro := [] } }
def impl_versionOf.an : An := { pre := [] }
def impl_versionOf.S (lp : Nat) : Spec := { ats := [.v (.sl TRef), .v .str], rts := [(.int .i64)], F := fun x => impl_versionOf lp x.1 x.2.1 }
theorem impl_versionOf.eq (lp : Nat) (x : ADens [.v (.sl TRef), .v .str]) : evalF (impl_versionOf.E lp) impl_versionOf.an lp Tryz.f68 [.v (.sl TRef), .v .str] [(.int .i64)] x = (impl_versionOf.S lp).F x := by kernel_rfl
theorem impl_versionOf.ok (lp : Nat) : Sound Tryz.prog 68 (impl_versionOf.S lp) := sound_of (E := impl_versionOf.E lp) (env_ok tabFits tabEqs ⟨impl_place.ok lp, trivial⟩ trivial) mixed Tryz.func68 (by kernel_rfl) (c := codeOf Tryz.f68) (by kernel_rfl) (by kernel_rfl) impl_versionOf.an (fun x r h => ⟨lp, (impl_versionOf.eq lp x).trans h⟩)
def impl_WorldOK_c1.E (lp : Nat) : Env := { tab := tab, fns := [(67, impl_WatchOK.S lp), (68, impl_versionOf.S lp)], ann := { own := [], ro := [2] } }
def impl_WorldOK_c1.an : An := { pre := [] }
def impl_WorldOK_c1.S (lp : Nat) : Spec := { ats := [.v TWatch, .ptrD TWorld], rts := [.bool], F := fun x => impl_WorldOK_c1 lp x.1 x.2.1 }
theorem impl_WorldOK_c1.eq (lp : Nat) (x : ADens [.v TWatch, .ptrD TWorld]) : evalF (impl_WorldOK_c1.E lp) impl_WorldOK_c1.an lp Tryz.f66 [.v TWatch, .ptrD TWorld] [.bool] x = (impl_WorldOK_c1.S lp).F x := by kernel_rfl
theorem impl_WorldOK_c1.ok (lp : Nat) : Sound Tryz.prog 66 (impl_WorldOK_c1.S lp) := sound_of (E := impl_WorldOK_c1.E lp) (env_ok tabFits tabEqs ⟨impl_WatchOK.ok lp, impl_versionOf.ok lp, trivial⟩ trivial) mixed Tryz.func66 (by kernel_rfl) (c := codeOf Tryz.f66) (by kernel_rfl) (by kernel_rfl) impl_WorldOK_c1.an (fun x r h => ⟨lp, (impl_WorldOK_c1.eq lp x).trans h⟩)
def impl_WorldOK.E (lp : Nat) : Env := { tab := tab, fns := [(60, impl_BaseOK.S lp), (61, impl_within.S), (62, impl_Client_isFor.S lp), (64, impl_World_isMoment.S lp), (63, impl_areAll_Moment.S lp), (66, impl_WorldOK_c1.S lp), (65, impl_areAll_Watch.S lp)], ann := { own := [], ro := [1] } }
def impl_WorldOK.la5 : LoopAn := { kn := { tms := [1, 3, 30, 31, 32] }, kx := { tms := [1, 3] }, kr := { tms := [2] } }
def impl_WorldOK.la14 : LoopAn := { kn := { tms := [1, 6] }, kx := { tms := [1] }, kr := { tms := [2] } }
def impl_WorldOK.an : An := { loops := [(5, impl_WorldOK.la5), (14, impl_WorldOK.la14)] }
def impl_WorldOK.s5 (x1_0 : List Commit) (x1_1 : List Ref) (x1_2 : List Client) (x1_3 : List Watch) (x1_4 : List Moment) (x1_5 : Int) (x3 : Int) (x30 : List Client) (x31 : Int) (x32 : Int) : St := ⟨sk 1 (.v (.one (.rdp [.d (.sl TCommit) x1_0, .d (.sl TRef) x1_1, .d (.sl TClient) x1_2, .d (.sl TWatch) x1_3, .d (.sl TMoment) x1_4, .d (.int .i64) x1_5])) :: (sk 1 (.v (.one (.b (.d (.int .i64) x3))) :: (sk 26 (.v (.one (.b (.d (.sl TClient) x30))) :: .v (.one (.b (.d (.int .i64) x31))) :: .v (.one (.b (.d (.int .i64) x32))) :: (sk 51 ([]))))))), sko 84 ([])⟩
def impl_WorldOK.sx5 (y : (List Commit) × (List Ref) × (List Client) × (List Watch) × (List Moment) × Int × Int) : St := ⟨sk 1 (.v (.one (.rdp [.d (.sl TCommit) y.1, .d (.sl TRef) y.2.1, .d (.sl TClient) y.2.2.1, .d (.sl TWatch) y.2.2.2.1, .d (.sl TMoment) y.2.2.2.2.1, .d (.int .i64) y.2.2.2.2.2.1])) :: (sk 1 (.v (.one (.b (.d (.int .i64) y.2.2.2.2.2.2))) :: (sk 80 ([]))))), sko 84 ([])⟩
def impl_WorldOK.sr5 (z : Bool) : St := ⟨sk 2 (.v (.one (.b (.d .bool z))) :: (sk 81 ([]))), sko 84 ([])⟩
def impl_WorldOK.s14 (x1_0 : List Commit) (x1_1 : List Ref) (x1_2 : List Client) (x1_3 : List Watch) (x1_4 : List Moment) (x1_5 : Int) (x6 : Int) : St := ⟨sk 1 (.v (.one (.rdp [.d (.sl TCommit) x1_0, .d (.sl TRef) x1_1, .d (.sl TClient) x1_2, .d (.sl TWatch) x1_3, .d (.sl TMoment) x1_4, .d (.int .i64) x1_5])) :: (sk 4 (.v (.one (.b (.d (.int .i64) x6))) :: (sk 77 ([]))))), sko 84 ([])⟩
def impl_WorldOK.sx14 (y : (List Commit) × (List Ref) × (List Client) × (List Watch) × (List Moment) × Int) : St := ⟨sk 1 (.v (.one (.rdp [.d (.sl TCommit) y.1, .d (.sl TRef) y.2.1, .d (.sl TClient) y.2.2.1, .d (.sl TWatch) y.2.2.2.1, .d (.sl TMoment) y.2.2.2.2.1, .d (.int .i64) y.2.2.2.2.2])) :: (sk 82 ([]))), sko 84 ([])⟩
def impl_WorldOK.sr14 (z : Bool) : St := ⟨sk 2 (.v (.one (.b (.d .bool z))) :: (sk 81 ([]))), sko 84 ([])⟩
def impl_WorldOK.S (lp : Nat) : Spec := { ats := [.v TWorld], rts := [.bool], F := fun x => impl_WorldOK lp x.1 }
theorem impl_WorldOK.t_b14 (lp : Nat) {R : Type} (N : St → Option R) (X : Out → St → Option R) (x1_0 : List Commit) (x1_1 : List Ref) (x1_2 : List Client) (x1_3 : List Watch) (x1_4 : List Moment) (x1_5 : Int) (x6 : Int) : codeK (impl_WorldOK.E lp) impl_WorldOK.an lp (loopAt 14 (codeOf Tryz.f31)) (impl_WorldOK.s14 x1_0 x1_1 x1_2 x1_3 x1_4 x1_5 x6) (lpK impl_WorldOK.la14 N X) = impl_WorldOK.b14 lp (fun x1_0 x1_1 x1_2 x1_3 x1_4 x1_5 x6 => N (impl_WorldOK.s14 x1_0 x1_1 x1_2 x1_3 x1_4 x1_5 x6)) (fun y => X (.exit 2) (impl_WorldOK.sx14 y)) (fun z => X .ret (impl_WorldOK.sr14 z)) x1_0 x1_1 x1_2 x1_3 x1_4 x1_5 x6 := by kernel_rfl
theorem impl_WorldOK.n_b14 (lp : Nat) {R S : Type} (N : List Commit → List Ref → List Client → List Watch → List Moment → Int → Int → Option R) (X : ((List Commit) × (List Ref) × (List Client) × (List Watch) × (List Moment) × Int) → Option R) (Q : Bool → Option R) (x1_0 : List Commit) (x1_1 : List Ref) (x1_2 : List Client) (x1_3 : List Watch) (x1_4 : List Moment) (x1_5 : Int) (x6 : Int) (k : R → Option S) : obind (impl_WorldOK.b14 lp N X Q x1_0 x1_1 x1_2 x1_3 x1_4 x1_5 x6) k = impl_WorldOK.b14 lp (fun x1_0 x1_1 x1_2 x1_3 x1_4 x1_5 x6 => obind (N x1_0 x1_1 x1_2 x1_3 x1_4 x1_5 x6) k) (fun y => obind (X y) k) (fun z => obind (Q z) k) x1_0 x1_1 x1_2 x1_3 x1_4 x1_5 x6 := by
  unfold impl_WorldOK.b14; simp only [obind_none, obind_some, obind_cond, obind_oif, obind_oget, obind_obind]
theorem impl_WorldOK.k14 (lp : Nat) {R : Type} (K : Out → St → Option R) : ∀ (n : Nat) (x1_0 : List Commit) (x1_1 : List Ref) (x1_2 : List Client) (x1_3 : List Watch) (x1_4 : List Moment) (x1_5 : Int) (x6 : Int), loopK impl_WorldOK.la14 (fun σ K => codeK (impl_WorldOK.E lp) impl_WorldOK.an lp (loopAt 14 (codeOf Tryz.f31)) σ K) n (impl_WorldOK.s14 x1_0 x1_1 x1_2 x1_3 x1_4 x1_5 x6) K = obind (impl_WorldOK.l14 lp n x1_0 x1_1 x1_2 x1_3 x1_4 x1_5 x6) (leK 2 impl_WorldOK.sr14 impl_WorldOK.sx14 K) := by
  intro n
  induction n with
  | zero => intros; rfl
  | succ n ih =>
    intro x1_0 x1_1 x1_2 x1_3 x1_4 x1_5 x6
    rw [loopK_succ, impl_WorldOK.t_b14, impl_WorldOK.l14, impl_WorldOK.n_b14]
    simp only [ih, obind_some, leK_ret, leK_brk]
theorem impl_WorldOK.t_b5 (lp : Nat) {R : Type} (N : St → Option R) (X : Out → St → Option R) (x1_0 : List Commit) (x1_1 : List Ref) (x1_2 : List Client) (x1_3 : List Watch) (x1_4 : List Moment) (x1_5 : Int) (x3 : Int) (x30 : List Client) (x31 : Int) (x32 : Int) : codeK (impl_WorldOK.E lp) impl_WorldOK.an lp (loopAt 5 (codeOf Tryz.f31)) (impl_WorldOK.s5 x1_0 x1_1 x1_2 x1_3 x1_4 x1_5 x3 x30 x31 x32) (lpK impl_WorldOK.la5 N X) = impl_WorldOK.b5 lp (fun x1_0 x1_1 x1_2 x1_3 x1_4 x1_5 x3 x30 x31 x32 => N (impl_WorldOK.s5 x1_0 x1_1 x1_2 x1_3 x1_4 x1_5 x3 x30 x31 x32)) (fun y => X (.exit 0) (impl_WorldOK.sx5 y)) (fun z => X .ret (impl_WorldOK.sr5 z)) x1_0 x1_1 x1_2 x1_3 x1_4 x1_5 x3 x30 x31 x32 := by kernel_rfl
theorem impl_WorldOK.n_b5 (lp : Nat) {R S : Type} (N : List Commit → List Ref → List Client → List Watch → List Moment → Int → Int → List Client → Int → Int → Option R) (X : ((List Commit) × (List Ref) × (List Client) × (List Watch) × (List Moment) × Int × Int) → Option R) (Q : Bool → Option R) (x1_0 : List Commit) (x1_1 : List Ref) (x1_2 : List Client) (x1_3 : List Watch) (x1_4 : List Moment) (x1_5 : Int) (x3 : Int) (x30 : List Client) (x31 : Int) (x32 : Int) (k : R → Option S) : obind (impl_WorldOK.b5 lp N X Q x1_0 x1_1 x1_2 x1_3 x1_4 x1_5 x3 x30 x31 x32) k = impl_WorldOK.b5 lp (fun x1_0 x1_1 x1_2 x1_3 x1_4 x1_5 x3 x30 x31 x32 => obind (N x1_0 x1_1 x1_2 x1_3 x1_4 x1_5 x3 x30 x31 x32) k) (fun y => obind (X y) k) (fun z => obind (Q z) k) x1_0 x1_1 x1_2 x1_3 x1_4 x1_5 x3 x30 x31 x32 := by
  unfold impl_WorldOK.b5; simp only [obind_none, obind_some, obind_cond, obind_oif, obind_oget, obind_obind]
theorem impl_WorldOK.k5 (lp : Nat) {R : Type} (K : Out → St → Option R) : ∀ (n : Nat) (x1_0 : List Commit) (x1_1 : List Ref) (x1_2 : List Client) (x1_3 : List Watch) (x1_4 : List Moment) (x1_5 : Int) (x3 : Int) (x30 : List Client) (x31 : Int) (x32 : Int), loopK impl_WorldOK.la5 (fun σ K => codeK (impl_WorldOK.E lp) impl_WorldOK.an lp (loopAt 5 (codeOf Tryz.f31)) σ K) n (impl_WorldOK.s5 x1_0 x1_1 x1_2 x1_3 x1_4 x1_5 x3 x30 x31 x32) K = obind (impl_WorldOK.l5 lp n x1_0 x1_1 x1_2 x1_3 x1_4 x1_5 x3 x30 x31 x32) (leK 0 impl_WorldOK.sr5 impl_WorldOK.sx5 K) := by
  intro n
  induction n with
  | zero => intros; rfl
  | succ n ih =>
    intro x1_0 x1_1 x1_2 x1_3 x1_4 x1_5 x3 x30 x31 x32
    rw [loopK_succ, impl_WorldOK.t_b5, impl_WorldOK.l5, impl_WorldOK.n_b5]
    simp only [ih, obind_some, leK_ret, leK_brk]
theorem impl_WorldOK.t_a14 (lp : Nat) (y : (List Commit) × (List Ref) × (List Client) × (List Watch) × (List Moment) × Int) : kont (R := Bool) (impl_WorldOK.E lp) impl_WorldOK.an lp (finK (impl_WorldOK.E lp) Tryz.f31 [.bool]) (stkAt 14 (codeOf Tryz.f31)) (.exit 2) (impl_WorldOK.sx14 y) = impl_WorldOK.a14 lp y := by kernel_rfl
theorem impl_WorldOK.t_q14 (lp : Nat) (z : Bool) : kont (R := Bool) (impl_WorldOK.E lp) impl_WorldOK.an lp (finK (impl_WorldOK.E lp) Tryz.f31 [.bool]) (stkAt 14 (codeOf Tryz.f31)) .ret (impl_WorldOK.sr14 z) = impl_WorldOK.q14 lp z := by kernel_rfl
theorem impl_WorldOK.t_a5 (lp : Nat) (y : (List Commit) × (List Ref) × (List Client) × (List Watch) × (List Moment) × Int × Int) : kont (R := Bool) (impl_WorldOK.E lp) impl_WorldOK.an lp (finK (impl_WorldOK.E lp) Tryz.f31 [.bool]) (stkAt 5 (codeOf Tryz.f31)) (.exit 0) (impl_WorldOK.sx5 y) = impl_WorldOK.a5 lp (fun x1_0 x1_1 x1_2 x1_3 x1_4 x1_5 x6 => loopK impl_WorldOK.la14 (fun σ K => codeK (impl_WorldOK.E lp) impl_WorldOK.an lp (loopAt 14 (codeOf Tryz.f31)) σ K) lp (impl_WorldOK.s14 x1_0 x1_1 x1_2 x1_3 x1_4 x1_5 x6) (kont (impl_WorldOK.E lp) impl_WorldOK.an lp (finK (impl_WorldOK.E lp) Tryz.f31 [.bool]) (stkAt 14 (codeOf Tryz.f31)))) y := by kernel_rfl
theorem impl_WorldOK.t_q5 (lp : Nat) (z : Bool) : kont (R := Bool) (impl_WorldOK.E lp) impl_WorldOK.an lp (finK (impl_WorldOK.E lp) Tryz.f31 [.bool]) (stkAt 5 (codeOf Tryz.f31)) .ret (impl_WorldOK.sr5 z) = impl_WorldOK.q5 lp z := by kernel_rfl
theorem impl_WorldOK.t_e (lp : Nat) (x0 : World) : evalF (impl_WorldOK.E lp) impl_WorldOK.an lp Tryz.f31 [.v TWorld] [.bool] (x0, ()) = impl_WorldOK.e lp (fun x1_0 x1_1 x1_2 x1_3 x1_4 x1_5 x3 x30 x31 x32 => loopK impl_WorldOK.la5 (fun σ K => codeK (impl_WorldOK.E lp) impl_WorldOK.an lp (loopAt 5 (codeOf Tryz.f31)) σ K) lp (impl_WorldOK.s5 x1_0 x1_1 x1_2 x1_3 x1_4 x1_5 x3 x30 x31 x32) (kont (impl_WorldOK.E lp) impl_WorldOK.an lp (finK (impl_WorldOK.E lp) Tryz.f31 [.bool]) (stkAt 5 (codeOf Tryz.f31)))) x0 := by kernel_rfl
theorem impl_WorldOK.eq0 (lp : Nat) (x0 : World) : evalF (impl_WorldOK.E lp) impl_WorldOK.an lp Tryz.f31 [.v TWorld] [.bool] (x0, ()) = impl_WorldOK lp x0 := by
  rw [impl_WorldOK.t_e]; unfold impl_WorldOK
  simp only [leK_leF _ impl_WorldOK.sr5 impl_WorldOK.sx5, leK_leF _ impl_WorldOK.sr14 impl_WorldOK.sx14, impl_WorldOK.k5, impl_WorldOK.k14, impl_WorldOK.t_a14, impl_WorldOK.t_q14, impl_WorldOK.t_a5, impl_WorldOK.t_q5]
theorem impl_WorldOK.eq (lp : Nat) (x : ADens [.v TWorld]) : evalF (impl_WorldOK.E lp) impl_WorldOK.an lp Tryz.f31 [.v TWorld] [.bool] x = (impl_WorldOK.S lp).F x := impl_WorldOK.eq0 lp x.1
theorem impl_WorldOK.ok (lp : Nat) : Sound Tryz.prog 31 (impl_WorldOK.S lp) := sound_of (E := impl_WorldOK.E lp) (env_ok tabFits tabEqs ⟨impl_BaseOK.ok lp, impl_within.ok, impl_Client_isFor.ok lp, impl_World_isMoment.ok lp, impl_areAll_Moment.ok lp, impl_WorldOK_c1.ok lp, impl_areAll_Watch.ok lp, trivial⟩ trivial) mixed Tryz.func31 (by kernel_rfl) (c := codeOf Tryz.f31) (by kernel_rfl) (by kernel_rfl) impl_WorldOK.an (fun x r h => ⟨lp, (impl_WorldOK.eq lp x).trans h⟩)
def impl_World_tally.E (lp : Nat) : Env := { tab := tab, fns := [], ann := { own := [], ro := [1] } }
def impl_World_tally.la3 : LoopAn := { kn := { tms := [2, 3, 11, 12, 13], obs := [2, 3] }, kx := { tms := [2, 3], obs := [2, 3] }, kr := {} }
def impl_World_tally.an : An := { loops := [(3, impl_World_tally.la3)] }
def impl_World_tally.s3 (x11 : List Moment) (x12 : Int) (x13 : Int) (xb2_0 : Int) (xb2_1 : Int) (xb2_2 : Int) (xb2_3 : Int) (xb2_4 : Int) (xb2_5 : Int) (xb3_0 : Int) (xb3_1 : Int) (xb3_2 : Int) (xb3_3 : Int) (xb3_4 : Int) (xb3_5 : Int) : St := ⟨sk 2 (.v (.one (.ptr 2 0)) :: .v (.one (.ptr 3 0)) :: (sk 7 (.v (.one (.b (.d (.sl TMoment) x11))) :: .v (.one (.b (.d (.int .i64) x12))) :: .v (.one (.b (.d (.int .i64) x13))) :: (sk 36 ([]))))), sko 2 (some (.box [.b (.d (.int .i64) xb2_0), .b (.d (.int .i64) xb2_1), .b (.d (.int .i64) xb2_2), .b (.d (.int .i64) xb2_3), .b (.d (.int .i64) xb2_4), .b (.d (.int .i64) xb2_5)]) :: some (.box [.b (.d (.int .i64) xb3_0), .b (.d (.int .i64) xb3_1), .b (.d (.int .i64) xb3_2), .b (.d (.int .i64) xb3_3), .b (.d (.int .i64) xb3_4), .b (.d (.int .i64) xb3_5)]) :: (sko 46 ([])))⟩
def impl_World_tally.sx3 (y : Int × Int × Int × Int × Int × Int × Int × Int × Int × Int × Int × Int) : St := ⟨sk 2 (.v (.one (.ptr 2 0)) :: .v (.one (.ptr 3 0)) :: (sk 46 ([]))), sko 2 (some (.box [.b (.d (.int .i64) y.1), .b (.d (.int .i64) y.2.1), .b (.d (.int .i64) y.2.2.1), .b (.d (.int .i64) y.2.2.2.1), .b (.d (.int .i64) y.2.2.2.2.1), .b (.d (.int .i64) y.2.2.2.2.2.1)]) :: some (.box [.b (.d (.int .i64) y.2.2.2.2.2.2.1), .b (.d (.int .i64) y.2.2.2.2.2.2.2.1), .b (.d (.int .i64) y.2.2.2.2.2.2.2.2.1), .b (.d (.int .i64) y.2.2.2.2.2.2.2.2.2.1), .b (.d (.int .i64) y.2.2.2.2.2.2.2.2.2.2.1), .b (.d (.int .i64) y.2.2.2.2.2.2.2.2.2.2.2)]) :: (sko 46 ([])))⟩
def impl_World_tally.sr3 (z : Empty) : St := z.elim
def impl_World_tally.S (lp : Nat) : Spec := { ats := [.v TWorld], rts := [TTally], F := fun x => impl_World_tally lp x.1 }
theorem impl_World_tally.t_b3 (lp : Nat) {R : Type} (N : St → Option R) (X : Out → St → Option R) (x11 : List Moment) (x12 : Int) (x13 : Int) (xb2_0 : Int) (xb2_1 : Int) (xb2_2 : Int) (xb2_3 : Int) (xb2_4 : Int) (xb2_5 : Int) (xb3_0 : Int) (xb3_1 : Int) (xb3_2 : Int) (xb3_3 : Int) (xb3_4 : Int) (xb3_5 : Int) : codeK (impl_World_tally.E lp) impl_World_tally.an lp (loopAt 3 (codeOf Tryz.f44)) (impl_World_tally.s3 x11 x12 x13 xb2_0 xb2_1 xb2_2 xb2_3 xb2_4 xb2_5 xb3_0 xb3_1 xb3_2 xb3_3 xb3_4 xb3_5) (lpK impl_World_tally.la3 N X) = impl_World_tally.b3 lp (fun x11 x12 x13 xb2_0 xb2_1 xb2_2 xb2_3 xb2_4 xb2_5 xb3_0 xb3_1 xb3_2 xb3_3 xb3_4 xb3_5 => N (impl_World_tally.s3 x11 x12 x13 xb2_0 xb2_1 xb2_2 xb2_3 xb2_4 xb2_5 xb3_0 xb3_1 xb3_2 xb3_3 xb3_4 xb3_5)) (fun y => X (.exit 0) (impl_World_tally.sx3 y)) (fun z => X .ret (impl_World_tally.sr3 z)) x11 x12 x13 xb2_0 xb2_1 xb2_2 xb2_3 xb2_4 xb2_5 xb3_0 xb3_1 xb3_2 xb3_3 xb3_4 xb3_5 := by kernel_rfl
theorem impl_World_tally.n_b3 (lp : Nat) {R S : Type} (N : List Moment → Int → Int → Int → Int → Int → Int → Int → Int → Int → Int → Int → Int → Int → Int → Option R) (X : (Int × Int × Int × Int × Int × Int × Int × Int × Int × Int × Int × Int) → Option R) (Q : Empty → Option R) (x11 : List Moment) (x12 : Int) (x13 : Int) (xb2_0 : Int) (xb2_1 : Int) (xb2_2 : Int) (xb2_3 : Int) (xb2_4 : Int) (xb2_5 : Int) (xb3_0 : Int) (xb3_1 : Int) (xb3_2 : Int) (xb3_3 : Int) (xb3_4 : Int) (xb3_5 : Int) (k : R → Option S) : obind (impl_World_tally.b3 lp N X Q x11 x12 x13 xb2_0 xb2_1 xb2_2 xb2_3 xb2_4 xb2_5 xb3_0 xb3_1 xb3_2 xb3_3 xb3_4 xb3_5) k = impl_World_tally.b3 lp (fun x11 x12 x13 xb2_0 xb2_1 xb2_2 xb2_3 xb2_4 xb2_5 xb3_0 xb3_1 xb3_2 xb3_3 xb3_4 xb3_5 => obind (N x11 x12 x13 xb2_0 xb2_1 xb2_2 xb2_3 xb2_4 xb2_5 xb3_0 xb3_1 xb3_2 xb3_3 xb3_4 xb3_5) k) (fun y => obind (X y) k) (fun z => obind (Q z) k) x11 x12 x13 xb2_0 xb2_1 xb2_2 xb2_3 xb2_4 xb2_5 xb3_0 xb3_1 xb3_2 xb3_3 xb3_4 xb3_5 := by
  unfold impl_World_tally.b3; simp only [obind_none, obind_some, obind_cond, obind_oif, obind_oget, obind_obind]
theorem impl_World_tally.k3 (lp : Nat) {R : Type} (K : Out → St → Option R) : ∀ (n : Nat) (x11 : List Moment) (x12 : Int) (x13 : Int) (xb2_0 : Int) (xb2_1 : Int) (xb2_2 : Int) (xb2_3 : Int) (xb2_4 : Int) (xb2_5 : Int) (xb3_0 : Int) (xb3_1 : Int) (xb3_2 : Int) (xb3_3 : Int) (xb3_4 : Int) (xb3_5 : Int), loopK impl_World_tally.la3 (fun σ K => codeK (impl_World_tally.E lp) impl_World_tally.an lp (loopAt 3 (codeOf Tryz.f44)) σ K) n (impl_World_tally.s3 x11 x12 x13 xb2_0 xb2_1 xb2_2 xb2_3 xb2_4 xb2_5 xb3_0 xb3_1 xb3_2 xb3_3 xb3_4 xb3_5) K = obind (impl_World_tally.l3 lp n x11 x12 x13 xb2_0 xb2_1 xb2_2 xb2_3 xb2_4 xb2_5 xb3_0 xb3_1 xb3_2 xb3_3 xb3_4 xb3_5) (leK 0 impl_World_tally.sr3 impl_World_tally.sx3 K) := by
  intro n
  induction n with
  | zero => intros; rfl
  | succ n ih =>
    intro x11 x12 x13 xb2_0 xb2_1 xb2_2 xb2_3 xb2_4 xb2_5 xb3_0 xb3_1 xb3_2 xb3_3 xb3_4 xb3_5
    rw [loopK_succ, impl_World_tally.t_b3, impl_World_tally.l3, impl_World_tally.n_b3]
    simp only [ih, obind_some, leK_ret, leK_brk]
theorem impl_World_tally.t_a3 (lp : Nat) (y : Int × Int × Int × Int × Int × Int × Int × Int × Int × Int × Int × Int) : kont (R := Tally) (impl_World_tally.E lp) impl_World_tally.an lp (finK (impl_World_tally.E lp) Tryz.f44 [TTally]) (stkAt 3 (codeOf Tryz.f44)) (.exit 0) (impl_World_tally.sx3 y) = impl_World_tally.a3 lp y := by kernel_rfl
theorem impl_World_tally.t_e (lp : Nat) (x0 : World) : evalF (impl_World_tally.E lp) impl_World_tally.an lp Tryz.f44 [.v TWorld] [TTally] (x0, ()) = impl_World_tally.e lp (fun x11 x12 x13 xb2_0 xb2_1 xb2_2 xb2_3 xb2_4 xb2_5 xb3_0 xb3_1 xb3_2 xb3_3 xb3_4 xb3_5 => loopK impl_World_tally.la3 (fun σ K => codeK (impl_World_tally.E lp) impl_World_tally.an lp (loopAt 3 (codeOf Tryz.f44)) σ K) lp (impl_World_tally.s3 x11 x12 x13 xb2_0 xb2_1 xb2_2 xb2_3 xb2_4 xb2_5 xb3_0 xb3_1 xb3_2 xb3_3 xb3_4 xb3_5) (kont (impl_World_tally.E lp) impl_World_tally.an lp (finK (impl_World_tally.E lp) Tryz.f44 [TTally]) (stkAt 3 (codeOf Tryz.f44)))) x0 := by kernel_rfl
theorem impl_World_tally.eq0 (lp : Nat) (x0 : World) : evalF (impl_World_tally.E lp) impl_World_tally.an lp Tryz.f44 [.v TWorld] [TTally] (x0, ()) = impl_World_tally lp x0 := by
  rw [impl_World_tally.t_e]; unfold impl_World_tally
  simp only [leK_ret0 _ impl_World_tally.sr3 impl_World_tally.sx3, impl_World_tally.k3, impl_World_tally.t_a3]
theorem impl_World_tally.eq (lp : Nat) (x : ADens [.v TWorld]) : evalF (impl_World_tally.E lp) impl_World_tally.an lp Tryz.f44 [.v TWorld] [TTally] x = (impl_World_tally.S lp).F x := impl_World_tally.eq0 lp x.1
theorem impl_World_tally.ok (lp : Nat) : Sound Tryz.prog 44 (impl_World_tally.S lp) := sound_of (E := impl_World_tally.E lp) (env_ok tabFits tabEqs trivial trivial) mixed Tryz.func44 (by kernel_rfl) (c := codeOf Tryz.f44) (by kernel_rfl) (by kernel_rfl) impl_World_tally.an (fun x r h => ⟨lp, (impl_World_tally.eq lp x).trans h⟩)
def impl_TallyOf.E (lp : Nat) : Env := { tab := tab, fns := [(31, impl_WorldOK.S lp), (44, impl_World_tally.S lp)], ann := { own := [], ro := [1] } }
def impl_TallyOf.an : An := { pre := [] }
def impl_TallyOf.S (lp : Nat) : Spec := { ats := [.v TWorld], rts := [TTally, (.int .i64)], F := fun x => impl_TallyOf lp x.1 }
theorem impl_TallyOf.eq (lp : Nat) (x : ADens [.v TWorld]) : evalF (impl_TallyOf.E lp) impl_TallyOf.an lp Tryz.f20 [.v TWorld] [TTally, (.int .i64)] x = (impl_TallyOf.S lp).F x := by kernel_rfl
theorem impl_TallyOf.ok (lp : Nat) : Sound Tryz.prog 20 (impl_TallyOf.S lp) := sound_of (E := impl_TallyOf.E lp) (env_ok tabFits tabEqs ⟨impl_WorldOK.ok lp, impl_World_tally.ok lp, trivial⟩ trivial) mixed Tryz.func20 (by kernel_rfl) (c := codeOf Tryz.f20) (by kernel_rfl) (by kernel_rfl) impl_TallyOf.an (fun x r h => ⟨lp, (impl_TallyOf.eq lp x).trans h⟩)
def laws_eqTally.E : Env := { tab := tab, fns := [], ann := { own := [], ro := [2, 3] } }
def laws_eqTally.an : An := { pre := [] }
def laws_eqTally.S : Spec := { ats := [.v TTally, .v TTally], rts := [.bool], F := fun x => laws_eqTally x.1 x.2.1 }
theorem laws_eqTally.eq (lp : Nat) (x : ADens [.v TTally, .v TTally]) : evalF (laws_eqTally.E) laws_eqTally.an lp Tryz.f21 [.v TTally, .v TTally] [.bool] x = (laws_eqTally.S).F x := by kernel_rfl
theorem laws_eqTally.ok : Sound Tryz.prog 21 (laws_eqTally.S) := sound_of (E := laws_eqTally.E) (env_ok tabFits tabEqs trivial trivial) mixed Tryz.func21 (by kernel_rfl) (c := codeOf Tryz.f21) (by kernel_rfl) (by kernel_rfl) laws_eqTally.an (fun x r h => ⟨0, (laws_eqTally.eq 0 x).trans h⟩)
def laws_FnExactTallyOf.E (lp : Nat) : Env := { tab := tab, fns := [(8, laws_szWorld.S lp), (10, laws_toWorld.S lp), (19, spec_TallyOf.S lp), (20, impl_TallyOf.S lp), (21, laws_eqTally.S), (12, laws_eqWorld.S lp)], ann := { own := [], ro := [1] } }
def laws_FnExactTallyOf.an : An := { pre := [] }
def laws_FnExactTallyOf.S (lp : Nat) : Spec := { ats := [.v TWorld], rts := [.bool], F := fun x => laws_FnExactTallyOf lp x.1 }
theorem laws_FnExactTallyOf.eq (lp : Nat) (x : ADens [.v TWorld]) : evalF (laws_FnExactTallyOf.E lp) laws_FnExactTallyOf.an lp Tryz.f7 [.v TWorld] [.bool] x = (laws_FnExactTallyOf.S lp).F x := by kernel_rfl
theorem laws_FnExactTallyOf.ok (lp : Nat) : Sound Tryz.prog 7 (laws_FnExactTallyOf.S lp) := sound_of (E := laws_FnExactTallyOf.E lp) (env_ok tabFits tabEqs ⟨laws_szWorld.ok lp, laws_toWorld.ok lp, spec_TallyOf.ok lp, impl_TallyOf.ok lp, laws_eqTally.ok, laws_eqWorld.ok lp, trivial⟩ trivial) mixed Tryz.func7 (by kernel_rfl) (c := codeOf Tryz.f7) (by kernel_rfl) (by kernel_rfl) laws_FnExactTallyOf.an (fun x r h => ⟨lp, (laws_FnExactTallyOf.eq lp x).trans h⟩)
end Go.Vx

end
section

end
section
set_option linter.unusedVariables false
namespace Go.Vx
open Go Go.Proofs Go.RowKit Go.Lib
theorem laws_FnExactTallyOf_true (x0 : Den TWorld) (w0 : Wf TWorld x0) : ∃ lp, (laws_FnExactTallyOf.S lp).F (x0, ()) = some true :=
  ⟨LP, laws_FnExactTallyOf_eq x0 w0⟩
end Go.Vx

end
