/- Merged out of smaller texts. -/
import Derived.Test.YtiafbadciofohaaGreatSwPartE
section
set_option linter.unusedVariables false
set_option linter.unusedSimpArgs false
set_option maxRecDepth 100000
namespace Go.Vx
open Go Go.Proofs Go.Shelf Go.Lib Go.RowKit
def z0f.la4 : LoopAn := { kn := { tms := [1, 2, 15, 16, 17] }, kx := {}, kr := { tms := [6] } }
def z0f.E (lp : Nat) : Env := { tab := tab, fns := [], ann := { own := [], ro := [] } }
def z0f.an : An := { loops := [(4, z0f.la4)] }
def z0f.s4 (x1 : List Wish) (x2 : (Wish × Wish × Unit) → Option Bool) (x15 : List Wish) (x16 : Int) (x17 : Int) : St := ⟨sk 1 (.v (.one (.b (.d (.sl TWish) x1))) :: .v (.one (.b (.cl (.pair TWish (.pair TWish .unit)) .bool x2))) :: (sk 12 (.v (.one (.b (.d (.sl TWish) x15))) :: .v (.one (.b (.d (.int .i64) x16))) :: .v (.one (.b (.d (.int .i64) x17))) :: (sk 14 ([]))))), sko 32 ([])⟩
def z0f.sx4 (y : Unit) : St := ⟨sk 32 ([]), sko 32 ([])⟩
def z0f.sr4 (z : Bool) : St := ⟨sk 6 (.v (.one (.b (.d .bool z))) :: (sk 25 ([]))), sko 32 ([])⟩
def z0f.S (lp : Nat) : Spec := { ats := [.v (.sl TWish), .v (.sl TWish), .clo (.pair TWish (.pair TWish .unit)) .bool], rts := [.bool], F := fun x => z0f lp x.1 x.2.1 x.2.2.1 }
theorem z0f.t_b4 (lp : Nat) {R : Type} (N : St → Option R) (X : Out → St → Option R) (x1 : List Wish) (x2 : (Wish × Wish × Unit) → Option Bool) (x15 : List Wish) (x16 : Int) (x17 : Int) : codeK (z0f.E lp) z0f.an lp (loopAt 4 (codeOf Tryz.f62)) (z0f.s4 x1 x2 x15 x16 x17) (lpK z0f.la4 N X) = z0f.b4 lp (fun x1 x2 x15 x16 x17 => N (z0f.s4 x1 x2 x15 x16 x17)) (fun y => X (.exit 0) (z0f.sx4 y)) (fun z => X .ret (z0f.sr4 z)) x1 x2 x15 x16 x17 := by kernel_rfl
theorem z0f.n_b4 (lp : Nat) {R S : Type} (N : List Wish → ((Wish × Wish × Unit) → Option Bool) → List Wish → Int → Int → Option R) (X : Unit → Option R) (Q : Bool → Option R) (x1 : List Wish) (x2 : (Wish × Wish × Unit) → Option Bool) (x15 : List Wish) (x16 : Int) (x17 : Int) (k : R → Option S) : obind (z0f.b4 lp N X Q x1 x2 x15 x16 x17) k = z0f.b4 lp (fun x1 x2 x15 x16 x17 => obind (N x1 x2 x15 x16 x17) k) (fun y => obind (X y) k) (fun z => obind (Q z) k) x1 x2 x15 x16 x17 := by
  unfold z0f.b4; simp only [obind_none, obind_some, obind_cond, obind_oif, obind_oget, obind_obind]
theorem z0f.k4 (lp : Nat) {R : Type} (K : Out → St → Option R) : ∀ (n : Nat) (x1 : List Wish) (x2 : (Wish × Wish × Unit) → Option Bool) (x15 : List Wish) (x16 : Int) (x17 : Int), loopK z0f.la4 (fun σ K => codeK (z0f.E lp) z0f.an lp (loopAt 4 (codeOf Tryz.f62)) σ K) n (z0f.s4 x1 x2 x15 x16 x17) K = obind (z0f.l4 lp n x1 x2 x15 x16 x17) (leK 0 z0f.sr4 z0f.sx4 K) := by
  intro n
  induction n with
  | zero => intros; rfl
  | succ n ih =>
    intro x1 x2 x15 x16 x17
    rw [loopK_succ, z0f.t_b4, z0f.l4, z0f.n_b4]
    simp only [ih, obind_some, leK_ret, leK_brk]
theorem z0f.t_a4 (lp : Nat) (y : Unit) : kont (R := Bool) (z0f.E lp) z0f.an lp (finK (z0f.E lp) Tryz.f62 [.bool]) (stkAt 4 (codeOf Tryz.f62)) (.exit 0) (z0f.sx4 y) = z0f.a4 lp y := by kernel_rfl
theorem z0f.t_q4 (lp : Nat) (z : Bool) : kont (R := Bool) (z0f.E lp) z0f.an lp (finK (z0f.E lp) Tryz.f62 [.bool]) (stkAt 4 (codeOf Tryz.f62)) .ret (z0f.sr4 z) = z0f.q4 lp z := by kernel_rfl
theorem z0f.t_e (lp : Nat) (x0 : List Wish) (x1 : List Wish) (x2 : (Wish × Wish × Unit) → Option Bool) : evalF (z0f.E lp) z0f.an lp Tryz.f62 [.v (.sl TWish), .v (.sl TWish), .clo (.pair TWish (.pair TWish .unit)) .bool] [.bool] (x0, x1, x2, ()) = z0f.e lp (fun x1 x2 x15 x16 x17 => loopK z0f.la4 (fun σ K => codeK (z0f.E lp) z0f.an lp (loopAt 4 (codeOf Tryz.f62)) σ K) lp (z0f.s4 x1 x2 x15 x16 x17) (kont (R := Bool) (z0f.E lp) z0f.an lp (finK (z0f.E lp) Tryz.f62 [.bool]) (stkAt 4 (codeOf Tryz.f62)))) x0 x1 x2 := by kernel_rfl
theorem z0f.eq0 (lp : Nat) (x0 : List Wish) (x1 : List Wish) (x2 : (Wish × Wish × Unit) → Option Bool) : evalF (z0f.E lp) z0f.an lp Tryz.f62 [.v (.sl TWish), .v (.sl TWish), .clo (.pair TWish (.pair TWish .unit)) .bool] [.bool] (x0, x1, x2, ()) = z0f lp x0 x1 x2 := by
  rw [z0f.t_e]; unfold z0f
  simp only [leK_leF _ z0f.sr4 z0f.sx4, z0f.k4, z0f.t_a4, z0f.t_q4]
theorem z0f.eq (lp : Nat) (x : ADens [.v (.sl TWish), .v (.sl TWish), .clo (.pair TWish (.pair TWish .unit)) .bool]) : evalF (z0f.E lp) z0f.an lp Tryz.f62 [.v (.sl TWish), .v (.sl TWish), .clo (.pair TWish (.pair TWish .unit)) .bool] [.bool] x = (z0f.S lp).F x := z0f.eq0 lp x.1 x.2.1 x.2.2.1
theorem z0f.ok (lp : Nat) : Sound Tryz.prog 62 (z0f.S lp) := sound_of (E := z0f.E lp) (env_ok z0s tabEqs trivial trivial) mixed Tryz.func62 (by kernel_rfl) (c := codeOf Tryz.f62) (by kernel_rfl) (by kernel_rfl) z0f.an (fun x r h => ⟨lp, (z0f.eq lp x).trans h⟩)
def z0n.la4 : LoopAn := { kn := { tms := [0, 1, 12, 13] }, kx := {}, kr := { tms := [4] } }
def z0n.E (lp : Nat) : Env := { tab := tab, fns := [], ann := { own := [], ro := [] } }
def z0n.an : An := { loops := [(4, z0n.la4)] }
def z0n.s4 (x0 : List Edit) (x1 : List Edit) (x12 : Int) (x13 : Int) : St := ⟨.v (.one (.b (.d (.sl TEdit) x0))) :: .v (.one (.b (.d (.sl TEdit) x1))) :: (sk 10 (.v (.one (.b (.d (.int .i64) x12))) :: .v (.one (.b (.d (.int .i64) x13))) :: (sk 12 ([])))), sko 26 ([])⟩
def z0n.sx4 (y : Unit) : St := ⟨sk 26 ([]), sko 26 ([])⟩
def z0n.sr4 (z : Bool) : St := ⟨sk 4 (.v (.one (.b (.d .bool z))) :: (sk 21 ([]))), sko 26 ([])⟩
def z0n.S (lp : Nat) : Spec := { ats := [.v (.sl TEdit), .v (.sl TEdit)], rts := [.bool], F := fun x => z0n lp x.1 x.2.1 }
theorem z0n.t_b4 (lp : Nat) {R : Type} (N : St → Option R) (X : Out → St → Option R) (x0 : List Edit) (x1 : List Edit) (x12 : Int) (x13 : Int) : codeK (z0n.E lp) z0n.an lp (loopAt 4 (codeOf Tryz.f182)) (z0n.s4 x0 x1 x12 x13) (lpK z0n.la4 N X) = z0n.b4 lp (fun x0 x1 x12 x13 => N (z0n.s4 x0 x1 x12 x13)) (fun y => X (.exit 0) (z0n.sx4 y)) (fun z => X .ret (z0n.sr4 z)) x0 x1 x12 x13 := by kernel_rfl
theorem z0n.n_b4 (lp : Nat) {R S : Type} (N : List Edit → List Edit → Int → Int → Option R) (X : Unit → Option R) (Q : Bool → Option R) (x0 : List Edit) (x1 : List Edit) (x12 : Int) (x13 : Int) (k : R → Option S) : obind (z0n.b4 lp N X Q x0 x1 x12 x13) k = z0n.b4 lp (fun x0 x1 x12 x13 => obind (N x0 x1 x12 x13) k) (fun y => obind (X y) k) (fun z => obind (Q z) k) x0 x1 x12 x13 := by
  unfold z0n.b4; simp only [obind_none, obind_some, obind_cond, obind_oif, obind_oget, obind_obind]
theorem z0n.k4 (lp : Nat) {R : Type} (K : Out → St → Option R) : ∀ (n : Nat) (x0 : List Edit) (x1 : List Edit) (x12 : Int) (x13 : Int), loopK z0n.la4 (fun σ K => codeK (z0n.E lp) z0n.an lp (loopAt 4 (codeOf Tryz.f182)) σ K) n (z0n.s4 x0 x1 x12 x13) K = obind (z0n.l4 lp n x0 x1 x12 x13) (leK 0 z0n.sr4 z0n.sx4 K) := by
  intro n
  induction n with
  | zero => intros; rfl
  | succ n ih =>
    intro x0 x1 x12 x13
    rw [loopK_succ, z0n.t_b4, z0n.l4, z0n.n_b4]
    simp only [ih, obind_some, leK_ret, leK_brk]
theorem z0n.t_a4 (lp : Nat) (y : Unit) : kont (R := Bool) (z0n.E lp) z0n.an lp (finK (z0n.E lp) Tryz.f182 [.bool]) (stkAt 4 (codeOf Tryz.f182)) (.exit 0) (z0n.sx4 y) = z0n.a4 lp y := by kernel_rfl
theorem z0n.t_q4 (lp : Nat) (z : Bool) : kont (R := Bool) (z0n.E lp) z0n.an lp (finK (z0n.E lp) Tryz.f182 [.bool]) (stkAt 4 (codeOf Tryz.f182)) .ret (z0n.sr4 z) = z0n.q4 lp z := by kernel_rfl
theorem z0n.t_e (lp : Nat) (x0 : List Edit) (x1 : List Edit) : evalF (z0n.E lp) z0n.an lp Tryz.f182 [.v (.sl TEdit), .v (.sl TEdit)] [.bool] (x0, x1, ()) = z0n.e lp (fun x0 x1 x12 x13 => loopK z0n.la4 (fun σ K => codeK (z0n.E lp) z0n.an lp (loopAt 4 (codeOf Tryz.f182)) σ K) lp (z0n.s4 x0 x1 x12 x13) (kont (R := Bool) (z0n.E lp) z0n.an lp (finK (z0n.E lp) Tryz.f182 [.bool]) (stkAt 4 (codeOf Tryz.f182)))) x0 x1 := by kernel_rfl
theorem z0n.eq0 (lp : Nat) (x0 : List Edit) (x1 : List Edit) : evalF (z0n.E lp) z0n.an lp Tryz.f182 [.v (.sl TEdit), .v (.sl TEdit)] [.bool] (x0, x1, ()) = z0n lp x0 x1 := by
  rw [z0n.t_e]; unfold z0n
  simp only [leK_leF _ z0n.sr4 z0n.sx4, z0n.k4, z0n.t_a4, z0n.t_q4]
theorem z0n.eq (lp : Nat) (x : ADens [.v (.sl TEdit), .v (.sl TEdit)]) : evalF (z0n.E lp) z0n.an lp Tryz.f182 [.v (.sl TEdit), .v (.sl TEdit)] [.bool] x = (z0n.S lp).F x := z0n.eq0 lp x.1 x.2.1
theorem z0n.ok (lp : Nat) : Sound Tryz.prog 182 (z0n.S lp) := sound_of (E := z0n.E lp) (env_ok z0s tabEqs trivial trivial) mixed Tryz.func182 (by kernel_rfl) (c := codeOf Tryz.f182) (by kernel_rfl) (by kernel_rfl) z0n.an (fun x r h => ⟨lp, (z0n.eq lp x).trans h⟩)
def z3y.E (lp : Nat) : Env := { tab := tab, fns := [(182, z0n.S lp)], ann := { own := [], ro := [] } }
def z3y.an : An := { pre := [] }
def z3y.S (lp : Nat) : Spec := { ats := [.v (.sl TEdit), .v (.sl TEdit)], rts := [.bool], F := fun x => z3y lp x.1 x.2.1 }
theorem z3y.eq (lp : Nat) (x : ADens [.v (.sl TEdit), .v (.sl TEdit)]) : evalF (z3y.E lp) z3y.an lp Tryz.f123 [.v (.sl TEdit), .v (.sl TEdit)] [.bool] x = (z3y.S lp).F x := by kernel_rfl
theorem z3y.ok (lp : Nat) : Sound Tryz.prog 123 (z3y.S lp) := sound_of (E := z3y.E lp) (env_ok z0s tabEqs ⟨z0n.ok lp, trivial⟩ trivial) mixed Tryz.func123 (by kernel_rfl) (c := codeOf Tryz.f123) (by kernel_rfl) (by kernel_rfl) z3y.an (fun x r h => ⟨lp, (z3y.eq lp x).trans h⟩)
def z5i.E (lp : Nat) : Env := { tab := tab, fns := [(123, z3y.S lp)], ann := { own := [], ro := [2, 3] } }
def z5i.an : An := { pre := [] }
def z5i.S (lp : Nat) : Spec := { ats := [.v TWish, .v TWish], rts := [.bool], F := fun x => z5i lp x.1 x.2.1 }
theorem z5i.eq (lp : Nat) (x : ADens [.v TWish, .v TWish]) : evalF (z5i.E lp) z5i.an lp Tryz.f63 [.v TWish, .v TWish] [.bool] x = (z5i.S lp).F x := by kernel_rfl
theorem z5i.ok (lp : Nat) : Sound Tryz.prog 63 (z5i.S lp) := sound_of (E := z5i.E lp) (env_ok z0s tabEqs ⟨z3y.ok lp, trivial⟩ trivial) mixed Tryz.func63 (by kernel_rfl) (c := codeOf Tryz.f63) (by kernel_rfl) (by kernel_rfl) z5i.an (fun x r h => ⟨lp, (z5i.eq lp x).trans h⟩)
def z4e.E (lp : Nat) : Env := { tab := tab, fns := [(63, z5i.S lp), (62, z0f.S lp), (64, z0h.S lp)], ann := { own := [], ro := [2, 3] } }
def z4e.an : An := { pre := [] }
def z4e.S (lp : Nat) : Spec := { ats := [.v TClient, .v TClient], rts := [.bool], F := fun x => z4e lp x.1 x.2.1 }
theorem z4e.eq (lp : Nat) (x : ADens [.v TClient, .v TClient]) : evalF (z4e.E lp) z4e.an lp Tryz.f22 [.v TClient, .v TClient] [.bool] x = (z4e.S lp).F x := by kernel_rfl
theorem z4e.ok (lp : Nat) : Sound Tryz.prog 22 (z4e.S lp) := sound_of (E := z4e.E lp) (env_ok z0s tabEqs ⟨z5i.ok lp, z0f.ok lp, z0h.ok lp, trivial⟩ trivial) mixed Tryz.func22 (by kernel_rfl) (c := codeOf Tryz.f22) (by kernel_rfl) (by kernel_rfl) z4e.an (fun x r h => ⟨lp, (z4e.eq lp x).trans h⟩)
def z0a.la4 : LoopAn := { kn := { tms := [1, 2, 15, 16, 17] }, kx := {}, kr := { tms := [6] } }
def z0a.E (lp : Nat) : Env := { tab := tab, fns := [], ann := { own := [], ro := [] } }
def z0a.an : An := { loops := [(4, z0a.la4)] }
def z0a.s4 (x1 : List Watch) (x2 : (Watch × Watch × Unit) → Option Bool) (x15 : List Watch) (x16 : Int) (x17 : Int) : St := ⟨sk 1 (.v (.one (.b (.d (.sl TWatch) x1))) :: .v (.one (.b (.cl (.pair TWatch (.pair TWatch .unit)) .bool x2))) :: (sk 12 (.v (.one (.b (.d (.sl TWatch) x15))) :: .v (.one (.b (.d (.int .i64) x16))) :: .v (.one (.b (.d (.int .i64) x17))) :: (sk 14 ([]))))), sko 32 ([])⟩
def z0a.sx4 (y : Unit) : St := ⟨sk 32 ([]), sko 32 ([])⟩
def z0a.sr4 (z : Bool) : St := ⟨sk 6 (.v (.one (.b (.d .bool z))) :: (sk 25 ([]))), sko 32 ([])⟩
def z0a.S (lp : Nat) : Spec := { ats := [.v (.sl TWatch), .v (.sl TWatch), .clo (.pair TWatch (.pair TWatch .unit)) .bool], rts := [.bool], F := fun x => z0a lp x.1 x.2.1 x.2.2.1 }
theorem z0a.t_b4 (lp : Nat) {R : Type} (N : St → Option R) (X : Out → St → Option R) (x1 : List Watch) (x2 : (Watch × Watch × Unit) → Option Bool) (x15 : List Watch) (x16 : Int) (x17 : Int) : codeK (z0a.E lp) z0a.an lp (loopAt 4 (codeOf Tryz.f23)) (z0a.s4 x1 x2 x15 x16 x17) (lpK z0a.la4 N X) = z0a.b4 lp (fun x1 x2 x15 x16 x17 => N (z0a.s4 x1 x2 x15 x16 x17)) (fun y => X (.exit 0) (z0a.sx4 y)) (fun z => X .ret (z0a.sr4 z)) x1 x2 x15 x16 x17 := by kernel_rfl
theorem z0a.n_b4 (lp : Nat) {R S : Type} (N : List Watch → ((Watch × Watch × Unit) → Option Bool) → List Watch → Int → Int → Option R) (X : Unit → Option R) (Q : Bool → Option R) (x1 : List Watch) (x2 : (Watch × Watch × Unit) → Option Bool) (x15 : List Watch) (x16 : Int) (x17 : Int) (k : R → Option S) : obind (z0a.b4 lp N X Q x1 x2 x15 x16 x17) k = z0a.b4 lp (fun x1 x2 x15 x16 x17 => obind (N x1 x2 x15 x16 x17) k) (fun y => obind (X y) k) (fun z => obind (Q z) k) x1 x2 x15 x16 x17 := by
  unfold z0a.b4; simp only [obind_none, obind_some, obind_cond, obind_oif, obind_oget, obind_obind]
theorem z0a.k4 (lp : Nat) {R : Type} (K : Out → St → Option R) : ∀ (n : Nat) (x1 : List Watch) (x2 : (Watch × Watch × Unit) → Option Bool) (x15 : List Watch) (x16 : Int) (x17 : Int), loopK z0a.la4 (fun σ K => codeK (z0a.E lp) z0a.an lp (loopAt 4 (codeOf Tryz.f23)) σ K) n (z0a.s4 x1 x2 x15 x16 x17) K = obind (z0a.l4 lp n x1 x2 x15 x16 x17) (leK 0 z0a.sr4 z0a.sx4 K) := by
  intro n
  induction n with
  | zero => intros; rfl
  | succ n ih =>
    intro x1 x2 x15 x16 x17
    rw [loopK_succ, z0a.t_b4, z0a.l4, z0a.n_b4]
    simp only [ih, obind_some, leK_ret, leK_brk]
theorem z0a.t_a4 (lp : Nat) (y : Unit) : kont (R := Bool) (z0a.E lp) z0a.an lp (finK (z0a.E lp) Tryz.f23 [.bool]) (stkAt 4 (codeOf Tryz.f23)) (.exit 0) (z0a.sx4 y) = z0a.a4 lp y := by kernel_rfl
theorem z0a.t_q4 (lp : Nat) (z : Bool) : kont (R := Bool) (z0a.E lp) z0a.an lp (finK (z0a.E lp) Tryz.f23 [.bool]) (stkAt 4 (codeOf Tryz.f23)) .ret (z0a.sr4 z) = z0a.q4 lp z := by kernel_rfl
theorem z0a.t_e (lp : Nat) (x0 : List Watch) (x1 : List Watch) (x2 : (Watch × Watch × Unit) → Option Bool) : evalF (z0a.E lp) z0a.an lp Tryz.f23 [.v (.sl TWatch), .v (.sl TWatch), .clo (.pair TWatch (.pair TWatch .unit)) .bool] [.bool] (x0, x1, x2, ()) = z0a.e lp (fun x1 x2 x15 x16 x17 => loopK z0a.la4 (fun σ K => codeK (z0a.E lp) z0a.an lp (loopAt 4 (codeOf Tryz.f23)) σ K) lp (z0a.s4 x1 x2 x15 x16 x17) (kont (R := Bool) (z0a.E lp) z0a.an lp (finK (z0a.E lp) Tryz.f23 [.bool]) (stkAt 4 (codeOf Tryz.f23)))) x0 x1 x2 := by kernel_rfl
theorem z0a.eq0 (lp : Nat) (x0 : List Watch) (x1 : List Watch) (x2 : (Watch × Watch × Unit) → Option Bool) : evalF (z0a.E lp) z0a.an lp Tryz.f23 [.v (.sl TWatch), .v (.sl TWatch), .clo (.pair TWatch (.pair TWatch .unit)) .bool] [.bool] (x0, x1, x2, ()) = z0a lp x0 x1 x2 := by
  rw [z0a.t_e]; unfold z0a
  simp only [leK_leF _ z0a.sr4 z0a.sx4, z0a.k4, z0a.t_a4, z0a.t_q4]
theorem z0a.eq (lp : Nat) (x : ADens [.v (.sl TWatch), .v (.sl TWatch), .clo (.pair TWatch (.pair TWatch .unit)) .bool]) : evalF (z0a.E lp) z0a.an lp Tryz.f23 [.v (.sl TWatch), .v (.sl TWatch), .clo (.pair TWatch (.pair TWatch .unit)) .bool] [.bool] x = (z0a.S lp).F x := z0a.eq0 lp x.1 x.2.1 x.2.2.1
theorem z0a.ok (lp : Nat) : Sound Tryz.prog 23 (z0a.S lp) := sound_of (E := z0a.E lp) (env_ok z0s tabEqs trivial trivial) mixed Tryz.func23 (by kernel_rfl) (c := codeOf Tryz.f23) (by kernel_rfl) (by kernel_rfl) z0a.an (fun x r h => ⟨lp, (z0a.eq lp x).trans h⟩)
def z0k.la4 : LoopAn := { kn := { tms := [0, 1, 12, 13] }, kx := {}, kr := { tms := [4] } }
def z0k.E (lp : Nat) : Env := { tab := tab, fns := [], ann := { own := [], ro := [] } }
def z0k.an : An := { loops := [(4, z0k.la4)] }
def z0k.s4 (x0 : List Event) (x1 : List Event) (x12 : Int) (x13 : Int) : St := ⟨.v (.one (.b (.d (.sl TEvent) x0))) :: .v (.one (.b (.d (.sl TEvent) x1))) :: (sk 10 (.v (.one (.b (.d (.int .i64) x12))) :: .v (.one (.b (.d (.int .i64) x13))) :: (sk 12 ([])))), sko 26 ([])⟩
def z0k.sx4 (y : Unit) : St := ⟨sk 26 ([]), sko 26 ([])⟩
def z0k.sr4 (z : Bool) : St := ⟨sk 4 (.v (.one (.b (.d .bool z))) :: (sk 21 ([]))), sko 26 ([])⟩
def z0k.S (lp : Nat) : Spec := { ats := [.v (.sl TEvent), .v (.sl TEvent)], rts := [.bool], F := fun x => z0k lp x.1 x.2.1 }
theorem z0k.t_b4 (lp : Nat) {R : Type} (N : St → Option R) (X : Out → St → Option R) (x0 : List Event) (x1 : List Event) (x12 : Int) (x13 : Int) : codeK (z0k.E lp) z0k.an lp (loopAt 4 (codeOf Tryz.f65)) (z0k.s4 x0 x1 x12 x13) (lpK z0k.la4 N X) = z0k.b4 lp (fun x0 x1 x12 x13 => N (z0k.s4 x0 x1 x12 x13)) (fun y => X (.exit 0) (z0k.sx4 y)) (fun z => X .ret (z0k.sr4 z)) x0 x1 x12 x13 := by kernel_rfl
theorem z0k.n_b4 (lp : Nat) {R S : Type} (N : List Event → List Event → Int → Int → Option R) (X : Unit → Option R) (Q : Bool → Option R) (x0 : List Event) (x1 : List Event) (x12 : Int) (x13 : Int) (k : R → Option S) : obind (z0k.b4 lp N X Q x0 x1 x12 x13) k = z0k.b4 lp (fun x0 x1 x12 x13 => obind (N x0 x1 x12 x13) k) (fun y => obind (X y) k) (fun z => obind (Q z) k) x0 x1 x12 x13 := by
  unfold z0k.b4; simp only [obind_none, obind_some, obind_cond, obind_oif, obind_oget, obind_obind]
theorem z0k.k4 (lp : Nat) {R : Type} (K : Out → St → Option R) : ∀ (n : Nat) (x0 : List Event) (x1 : List Event) (x12 : Int) (x13 : Int), loopK z0k.la4 (fun σ K => codeK (z0k.E lp) z0k.an lp (loopAt 4 (codeOf Tryz.f65)) σ K) n (z0k.s4 x0 x1 x12 x13) K = obind (z0k.l4 lp n x0 x1 x12 x13) (leK 0 z0k.sr4 z0k.sx4 K) := by
  intro n
  induction n with
  | zero => intros; rfl
  | succ n ih =>
    intro x0 x1 x12 x13
    rw [loopK_succ, z0k.t_b4, z0k.l4, z0k.n_b4]
    simp only [ih, obind_some, leK_ret, leK_brk]
theorem z0k.t_a4 (lp : Nat) (y : Unit) : kont (R := Bool) (z0k.E lp) z0k.an lp (finK (z0k.E lp) Tryz.f65 [.bool]) (stkAt 4 (codeOf Tryz.f65)) (.exit 0) (z0k.sx4 y) = z0k.a4 lp y := by kernel_rfl
theorem z0k.t_q4 (lp : Nat) (z : Bool) : kont (R := Bool) (z0k.E lp) z0k.an lp (finK (z0k.E lp) Tryz.f65 [.bool]) (stkAt 4 (codeOf Tryz.f65)) .ret (z0k.sr4 z) = z0k.q4 lp z := by kernel_rfl
theorem z0k.t_e (lp : Nat) (x0 : List Event) (x1 : List Event) : evalF (z0k.E lp) z0k.an lp Tryz.f65 [.v (.sl TEvent), .v (.sl TEvent)] [.bool] (x0, x1, ()) = z0k.e lp (fun x0 x1 x12 x13 => loopK z0k.la4 (fun σ K => codeK (z0k.E lp) z0k.an lp (loopAt 4 (codeOf Tryz.f65)) σ K) lp (z0k.s4 x0 x1 x12 x13) (kont (R := Bool) (z0k.E lp) z0k.an lp (finK (z0k.E lp) Tryz.f65 [.bool]) (stkAt 4 (codeOf Tryz.f65)))) x0 x1 := by kernel_rfl
theorem z0k.eq0 (lp : Nat) (x0 : List Event) (x1 : List Event) : evalF (z0k.E lp) z0k.an lp Tryz.f65 [.v (.sl TEvent), .v (.sl TEvent)] [.bool] (x0, x1, ()) = z0k lp x0 x1 := by
  rw [z0k.t_e]; unfold z0k
  simp only [leK_leF _ z0k.sr4 z0k.sx4, z0k.k4, z0k.t_a4, z0k.t_q4]
theorem z0k.eq (lp : Nat) (x : ADens [.v (.sl TEvent), .v (.sl TEvent)]) : evalF (z0k.E lp) z0k.an lp Tryz.f65 [.v (.sl TEvent), .v (.sl TEvent)] [.bool] x = (z0k.S lp).F x := z0k.eq0 lp x.1 x.2.1
theorem z0k.ok (lp : Nat) : Sound Tryz.prog 65 (z0k.S lp) := sound_of (E := z0k.E lp) (env_ok z0s tabEqs trivial trivial) mixed Tryz.func65 (by kernel_rfl) (c := codeOf Tryz.f65) (by kernel_rfl) (by kernel_rfl) z0k.an (fun x r h => ⟨lp, (z0k.eq lp x).trans h⟩)
def z4u.E (lp : Nat) : Env := { tab := tab, fns := [(65, z0k.S lp)], ann := { own := [], ro := [2, 3] } }
def z4u.an : An := { pre := [] }
def z4u.S (lp : Nat) : Spec := { ats := [.v TWatch, .v TWatch], rts := [.bool], F := fun x => z4u lp x.1 x.2.1 }
theorem z4u.eq (lp : Nat) (x : ADens [.v TWatch, .v TWatch]) : evalF (z4u.E lp) z4u.an lp Tryz.f24 [.v TWatch, .v TWatch] [.bool] x = (z4u.S lp).F x := by kernel_rfl
theorem z4u.ok (lp : Nat) : Sound Tryz.prog 24 (z4u.S lp) := sound_of (E := z4u.E lp) (env_ok z0s tabEqs ⟨z0k.ok lp, trivial⟩ trivial) mixed Tryz.func24 (by kernel_rfl) (c := codeOf Tryz.f24) (by kernel_rfl) (by kernel_rfl) z4u.an (fun x r h => ⟨lp, (z4u.eq lp x).trans h⟩)
def z06.la4 : LoopAn := { kn := { tms := [1, 2, 15, 16, 17] }, kx := {}, kr := { tms := [6] } }
def z06.E (lp : Nat) : Env := { tab := tab, fns := [], ann := { own := [], ro := [] } }
def z06.an : An := { loops := [(4, z06.la4)] }
def z06.s4 (x1 : List Moment) (x2 : (Moment × Moment × Unit) → Option Bool) (x15 : List Moment) (x16 : Int) (x17 : Int) : St := ⟨sk 1 (.v (.one (.b (.d (.sl TMoment) x1))) :: .v (.one (.b (.cl (.pair TMoment (.pair TMoment .unit)) .bool x2))) :: (sk 12 (.v (.one (.b (.d (.sl TMoment) x15))) :: .v (.one (.b (.d (.int .i64) x16))) :: .v (.one (.b (.d (.int .i64) x17))) :: (sk 14 ([]))))), sko 32 ([])⟩
def z06.sx4 (y : Unit) : St := ⟨sk 32 ([]), sko 32 ([])⟩
def z06.sr4 (z : Bool) : St := ⟨sk 6 (.v (.one (.b (.d .bool z))) :: (sk 25 ([]))), sko 32 ([])⟩
def z06.S (lp : Nat) : Spec := { ats := [.v (.sl TMoment), .v (.sl TMoment), .clo (.pair TMoment (.pair TMoment .unit)) .bool], rts := [.bool], F := fun x => z06 lp x.1 x.2.1 x.2.2.1 }
theorem z06.t_b4 (lp : Nat) {R : Type} (N : St → Option R) (X : Out → St → Option R) (x1 : List Moment) (x2 : (Moment × Moment × Unit) → Option Bool) (x15 : List Moment) (x16 : Int) (x17 : Int) : codeK (z06.E lp) z06.an lp (loopAt 4 (codeOf Tryz.f25)) (z06.s4 x1 x2 x15 x16 x17) (lpK z06.la4 N X) = z06.b4 lp (fun x1 x2 x15 x16 x17 => N (z06.s4 x1 x2 x15 x16 x17)) (fun y => X (.exit 0) (z06.sx4 y)) (fun z => X .ret (z06.sr4 z)) x1 x2 x15 x16 x17 := by kernel_rfl
theorem z06.n_b4 (lp : Nat) {R S : Type} (N : List Moment → ((Moment × Moment × Unit) → Option Bool) → List Moment → Int → Int → Option R) (X : Unit → Option R) (Q : Bool → Option R) (x1 : List Moment) (x2 : (Moment × Moment × Unit) → Option Bool) (x15 : List Moment) (x16 : Int) (x17 : Int) (k : R → Option S) : obind (z06.b4 lp N X Q x1 x2 x15 x16 x17) k = z06.b4 lp (fun x1 x2 x15 x16 x17 => obind (N x1 x2 x15 x16 x17) k) (fun y => obind (X y) k) (fun z => obind (Q z) k) x1 x2 x15 x16 x17 := by
  unfold z06.b4; simp only [obind_none, obind_some, obind_cond, obind_oif, obind_oget, obind_obind]
theorem z06.k4 (lp : Nat) {R : Type} (K : Out → St → Option R) : ∀ (n : Nat) (x1 : List Moment) (x2 : (Moment × Moment × Unit) → Option Bool) (x15 : List Moment) (x16 : Int) (x17 : Int), loopK z06.la4 (fun σ K => codeK (z06.E lp) z06.an lp (loopAt 4 (codeOf Tryz.f25)) σ K) n (z06.s4 x1 x2 x15 x16 x17) K = obind (z06.l4 lp n x1 x2 x15 x16 x17) (leK 0 z06.sr4 z06.sx4 K) := by
  intro n
  induction n with
  | zero => intros; rfl
  | succ n ih =>
    intro x1 x2 x15 x16 x17
    rw [loopK_succ, z06.t_b4, z06.l4, z06.n_b4]
    simp only [ih, obind_some, leK_ret, leK_brk]
theorem z06.t_a4 (lp : Nat) (y : Unit) : kont (R := Bool) (z06.E lp) z06.an lp (finK (z06.E lp) Tryz.f25 [.bool]) (stkAt 4 (codeOf Tryz.f25)) (.exit 0) (z06.sx4 y) = z06.a4 lp y := by kernel_rfl
theorem z06.t_q4 (lp : Nat) (z : Bool) : kont (R := Bool) (z06.E lp) z06.an lp (finK (z06.E lp) Tryz.f25 [.bool]) (stkAt 4 (codeOf Tryz.f25)) .ret (z06.sr4 z) = z06.q4 lp z := by kernel_rfl
theorem z06.t_e (lp : Nat) (x0 : List Moment) (x1 : List Moment) (x2 : (Moment × Moment × Unit) → Option Bool) : evalF (z06.E lp) z06.an lp Tryz.f25 [.v (.sl TMoment), .v (.sl TMoment), .clo (.pair TMoment (.pair TMoment .unit)) .bool] [.bool] (x0, x1, x2, ()) = z06.e lp (fun x1 x2 x15 x16 x17 => loopK z06.la4 (fun σ K => codeK (z06.E lp) z06.an lp (loopAt 4 (codeOf Tryz.f25)) σ K) lp (z06.s4 x1 x2 x15 x16 x17) (kont (R := Bool) (z06.E lp) z06.an lp (finK (z06.E lp) Tryz.f25 [.bool]) (stkAt 4 (codeOf Tryz.f25)))) x0 x1 x2 := by kernel_rfl
theorem z06.eq0 (lp : Nat) (x0 : List Moment) (x1 : List Moment) (x2 : (Moment × Moment × Unit) → Option Bool) : evalF (z06.E lp) z06.an lp Tryz.f25 [.v (.sl TMoment), .v (.sl TMoment), .clo (.pair TMoment (.pair TMoment .unit)) .bool] [.bool] (x0, x1, x2, ()) = z06 lp x0 x1 x2 := by
  rw [z06.t_e]; unfold z06
  simp only [leK_leF _ z06.sr4 z06.sx4, z06.k4, z06.t_a4, z06.t_q4]
theorem z06.eq (lp : Nat) (x : ADens [.v (.sl TMoment), .v (.sl TMoment), .clo (.pair TMoment (.pair TMoment .unit)) .bool]) : evalF (z06.E lp) z06.an lp Tryz.f25 [.v (.sl TMoment), .v (.sl TMoment), .clo (.pair TMoment (.pair TMoment .unit)) .bool] [.bool] x = (z06.S lp).F x := z06.eq0 lp x.1 x.2.1 x.2.2.1
theorem z06.ok (lp : Nat) : Sound Tryz.prog 25 (z06.S lp) := sound_of (E := z06.E lp) (env_ok z0s tabEqs trivial trivial) mixed Tryz.func25 (by kernel_rfl) (c := codeOf Tryz.f25) (by kernel_rfl) (by kernel_rfl) z06.an (fun x r h => ⟨lp, (z06.eq lp x).trans h⟩)
def z6i.E (lp : Nat) : Env := { tab := tab, fns := [(123, z3y.S lp)], ann := { own := [], ro := [2, 3] } }
def z6i.an : An := { pre := [] }
def z6i.S (lp : Nat) : Spec := { ats := [.v TOp, .v TOp], rts := [.bool], F := fun x => z6i lp x.1 x.2.1 }
theorem z6i.eq (lp : Nat) (x : ADens [.v TOp, .v TOp]) : evalF (z6i.E lp) z6i.an lp Tryz.f67 [.v TOp, .v TOp] [.bool] x = (z6i.S lp).F x := by kernel_rfl
theorem z6i.ok (lp : Nat) : Sound Tryz.prog 67 (z6i.S lp) := sound_of (E := z6i.E lp) (env_ok z0s tabEqs ⟨z3y.ok lp, trivial⟩ trivial) mixed Tryz.func67 (by kernel_rfl) (c := codeOf Tryz.f67) (by kernel_rfl) (by kernel_rfl) z6i.an (fun x r h => ⟨lp, (z6i.eq lp x).trans h⟩)
def z0j.la4 : LoopAn := { kn := { tms := [0, 1, 12, 13] }, kx := {}, kr := { tms := [4] } }
def z0j.E (lp : Nat) : Env := { tab := tab, fns := [], ann := { own := [], ro := [] } }
def z0j.an : An := { loops := [(4, z0j.la4)] }
def z0j.s4 (x0 : List ByteArray) (x1 : List ByteArray) (x12 : Int) (x13 : Int) : St := ⟨.v (.one (.b (.d (.sl .str) x0))) :: .v (.one (.b (.d (.sl .str) x1))) :: (sk 10 (.v (.one (.b (.d (.int .i64) x12))) :: .v (.one (.b (.d (.int .i64) x13))) :: (sk 12 ([])))), sko 26 ([])⟩
def z0j.sx4 (y : Unit) : St := ⟨sk 26 ([]), sko 26 ([])⟩
def z0j.sr4 (z : Bool) : St := ⟨sk 4 (.v (.one (.b (.d .bool z))) :: (sk 21 ([]))), sko 26 ([])⟩
def z0j.S (lp : Nat) : Spec := { ats := [.v (.sl .str), .v (.sl .str)], rts := [.bool], F := fun x => z0j lp x.1 x.2.1 }
theorem z0j.t_b4 (lp : Nat) {R : Type} (N : St → Option R) (X : Out → St → Option R) (x0 : List ByteArray) (x1 : List ByteArray) (x12 : Int) (x13 : Int) : codeK (z0j.E lp) z0j.an lp (loopAt 4 (codeOf Tryz.f126)) (z0j.s4 x0 x1 x12 x13) (lpK z0j.la4 N X) = z0j.b4 lp (fun x0 x1 x12 x13 => N (z0j.s4 x0 x1 x12 x13)) (fun y => X (.exit 0) (z0j.sx4 y)) (fun z => X .ret (z0j.sr4 z)) x0 x1 x12 x13 := by kernel_rfl
theorem z0j.n_b4 (lp : Nat) {R S : Type} (N : List ByteArray → List ByteArray → Int → Int → Option R) (X : Unit → Option R) (Q : Bool → Option R) (x0 : List ByteArray) (x1 : List ByteArray) (x12 : Int) (x13 : Int) (k : R → Option S) : obind (z0j.b4 lp N X Q x0 x1 x12 x13) k = z0j.b4 lp (fun x0 x1 x12 x13 => obind (N x0 x1 x12 x13) k) (fun y => obind (X y) k) (fun z => obind (Q z) k) x0 x1 x12 x13 := by
  unfold z0j.b4; simp only [obind_none, obind_some, obind_cond, obind_oif, obind_oget, obind_obind]
theorem z0j.k4 (lp : Nat) {R : Type} (K : Out → St → Option R) : ∀ (n : Nat) (x0 : List ByteArray) (x1 : List ByteArray) (x12 : Int) (x13 : Int), loopK z0j.la4 (fun σ K => codeK (z0j.E lp) z0j.an lp (loopAt 4 (codeOf Tryz.f126)) σ K) n (z0j.s4 x0 x1 x12 x13) K = obind (z0j.l4 lp n x0 x1 x12 x13) (leK 0 z0j.sr4 z0j.sx4 K) := by
  intro n
  induction n with
  | zero => intros; rfl
  | succ n ih =>
    intro x0 x1 x12 x13
    rw [loopK_succ, z0j.t_b4, z0j.l4, z0j.n_b4]
    simp only [ih, obind_some, leK_ret, leK_brk]
theorem z0j.t_a4 (lp : Nat) (y : Unit) : kont (R := Bool) (z0j.E lp) z0j.an lp (finK (z0j.E lp) Tryz.f126 [.bool]) (stkAt 4 (codeOf Tryz.f126)) (.exit 0) (z0j.sx4 y) = z0j.a4 lp y := by kernel_rfl
theorem z0j.t_q4 (lp : Nat) (z : Bool) : kont (R := Bool) (z0j.E lp) z0j.an lp (finK (z0j.E lp) Tryz.f126 [.bool]) (stkAt 4 (codeOf Tryz.f126)) .ret (z0j.sr4 z) = z0j.q4 lp z := by kernel_rfl
theorem z0j.t_e (lp : Nat) (x0 : List ByteArray) (x1 : List ByteArray) : evalF (z0j.E lp) z0j.an lp Tryz.f126 [.v (.sl .str), .v (.sl .str)] [.bool] (x0, x1, ()) = z0j.e lp (fun x0 x1 x12 x13 => loopK z0j.la4 (fun σ K => codeK (z0j.E lp) z0j.an lp (loopAt 4 (codeOf Tryz.f126)) σ K) lp (z0j.s4 x0 x1 x12 x13) (kont (R := Bool) (z0j.E lp) z0j.an lp (finK (z0j.E lp) Tryz.f126 [.bool]) (stkAt 4 (codeOf Tryz.f126)))) x0 x1 := by kernel_rfl
theorem z0j.eq0 (lp : Nat) (x0 : List ByteArray) (x1 : List ByteArray) : evalF (z0j.E lp) z0j.an lp Tryz.f126 [.v (.sl .str), .v (.sl .str)] [.bool] (x0, x1, ()) = z0j lp x0 x1 := by
  rw [z0j.t_e]; unfold z0j
  simp only [leK_leF _ z0j.sr4 z0j.sx4, z0j.k4, z0j.t_a4, z0j.t_q4]
theorem z0j.eq (lp : Nat) (x : ADens [.v (.sl .str), .v (.sl .str)]) : evalF (z0j.E lp) z0j.an lp Tryz.f126 [.v (.sl .str), .v (.sl .str)] [.bool] x = (z0j.S lp).F x := z0j.eq0 lp x.1 x.2.1
theorem z0j.ok (lp : Nat) : Sound Tryz.prog 126 (z0j.S lp) := sound_of (E := z0j.E lp) (env_ok z0s tabEqs trivial trivial) mixed Tryz.func126 (by kernel_rfl) (c := codeOf Tryz.f126) (by kernel_rfl) (by kernel_rfl) z0j.an (fun x r h => ⟨lp, (z0j.eq lp x).trans h⟩)
def z4c.E (lp : Nat) : Env := { tab := tab, fns := [(125, z2i.S lp), (126, z0j.S lp), (64, z0h.S lp)], ann := { own := [], ro := [2, 3] } }
def z4c.an : An := { pre := [] }
def z4c.S (lp : Nat) : Spec := { ats := [.v TResult, .v TResult], rts := [.bool], F := fun x => z4c lp x.1 x.2.1 }
theorem z4c.eq (lp : Nat) (x : ADens [.v TResult, .v TResult]) : evalF (z4c.E lp) z4c.an lp Tryz.f68 [.v TResult, .v TResult] [.bool] x = (z4c.S lp).F x := by kernel_rfl
theorem z4c.ok (lp : Nat) : Sound Tryz.prog 68 (z4c.S lp) := sound_of (E := z4c.E lp) (env_ok z0s tabEqs ⟨z2i.ok lp, z0j.ok lp, z0h.ok lp, trivial⟩ trivial) mixed Tryz.func68 (by kernel_rfl) (c := codeOf Tryz.f68) (by kernel_rfl) (by kernel_rfl) z4c.an (fun x r h => ⟨lp, (z4c.eq lp x).trans h⟩)
def z4d.E (lp : Nat) : Env := { tab := tab, fns := [(66, z1d.S lp), (67, z6i.S lp), (68, z4c.S lp)], ann := { own := [], ro := [2, 3] } }
def z4d.an : An := { pre := [] }
def z4d.S (lp : Nat) : Spec := { ats := [.v TMoment, .v TMoment], rts := [.bool], F := fun x => z4d lp x.1 x.2.1 }
theorem z4d.eq (lp : Nat) (x : ADens [.v TMoment, .v TMoment]) : evalF (z4d.E lp) z4d.an lp Tryz.f26 [.v TMoment, .v TMoment] [.bool] x = (z4d.S lp).F x := by kernel_rfl
theorem z4d.ok (lp : Nat) : Sound Tryz.prog 26 (z4d.S lp) := sound_of (E := z4d.E lp) (env_ok z0s tabEqs ⟨z1d.ok lp, z6i.ok lp, z4c.ok lp, trivial⟩ trivial) mixed Tryz.func26 (by kernel_rfl) (c := codeOf Tryz.f26) (by kernel_rfl) (by kernel_rfl) z4d.an (fun x r h => ⟨lp, (z4d.eq lp x).trans h⟩)
def z4r.E (lp : Nat) : Env := { tab := tab, fns := [(19, z0g.S lp), (20, z5f.S lp), (22, z4e.S lp), (21, z04.S lp), (24, z4u.S lp), (23, z0a.S lp), (26, z4d.S lp), (25, z06.S lp)], ann := { own := [], ro := [2, 3] } }
def z4r.an : An := { pre := [] }
def z4r.S (lp : Nat) : Spec := { ats := [.v TWorld, .v TWorld], rts := [.bool], F := fun x => z4r lp x.1 x.2.1 }
theorem z4r.eq (lp : Nat) (x : ADens [.v TWorld, .v TWorld]) : evalF (z4r.E lp) z4r.an lp Tryz.f7 [.v TWorld, .v TWorld] [.bool] x = (z4r.S lp).F x := by kernel_rfl
theorem z4r.ok (lp : Nat) : Sound Tryz.prog 7 (z4r.S lp) := sound_of (E := z4r.E lp) (env_ok z0s tabEqs ⟨z0g.ok lp, z5f.ok lp, z4e.ok lp, z04.ok lp, z4u.ok lp, z0a.ok lp, z4d.ok lp, z06.ok lp, trivial⟩ trivial) mixed Tryz.func7 (by kernel_rfl) (c := codeOf Tryz.f7) (by kernel_rfl) (by kernel_rfl) z4r.an (fun x r h => ⟨lp, (z4r.eq lp x).trans h⟩)
def z65.E : Env := { tab := tab, fns := [], ann := { own := [], ro := [2, 3] } }
def z65.an : An := { pre := [] }
def z65.S : Spec := { ats := [.v TEntry, .v TEntry], rts := [.bool], F := fun x => z65 x.1 x.2.1 }
theorem z65.eq (lp : Nat) (x : ADens [.v TEntry, .v TEntry]) : evalF (z65.E) z65.an lp Tryz.f185 [.v TEntry, .v TEntry] [.bool] x = (z65.S).F x := by kernel_rfl
theorem z65.ok : Sound Tryz.prog 185 (z65.S) := sound_of (E := z65.E) (env_ok z0s tabEqs trivial trivial) mixed Tryz.func185 (by kernel_rfl) (c := codeOf Tryz.f185) (by kernel_rfl) (by kernel_rfl) z65.an (fun x r h => ⟨0, (z65.eq 0 x).trans h⟩)
def z1a.la4 : LoopAn := { kn := { tms := [0, 1, 5] }, kx := {}, kr := { tms := [4] } }
def z1a.E (lp : Nat) : Env := { tab := tab, fns := [(185, z65.S)], ann := { own := [], ro := [] } }
def z1a.an : An := { loops := [(4, z1a.la4)] }
def z1a.s4 (x0 : List Entry) (x1 : List Entry) (x5 : Int) : St := ⟨.v (.one (.b (.d (.sl TEntry) x0))) :: .v (.one (.b (.d (.sl TEntry) x1))) :: (sk 3 (.v (.one (.b (.d (.int .i64) x5))) :: (sk 21 ([])))), sko 27 ([])⟩
def z1a.sx4 (y : Unit) : St := ⟨sk 27 ([]), sko 27 ([])⟩
def z1a.sr4 (z : Bool) : St := ⟨sk 4 (.v (.one (.b (.d .bool z))) :: (sk 22 ([]))), sko 27 ([])⟩
def z1a.S (lp : Nat) : Spec := { ats := [.v (.sl TEntry), .v (.sl TEntry)], rts := [.bool], F := fun x => z1a lp x.1 x.2.1 }
theorem z1a.t_b4 (lp : Nat) {R : Type} (N : St → Option R) (X : Out → St → Option R) (x0 : List Entry) (x1 : List Entry) (x5 : Int) : codeK (z1a.E lp) z1a.an lp (loopAt 4 (codeOf Tryz.f130)) (z1a.s4 x0 x1 x5) (lpK z1a.la4 N X) = z1a.b4 lp (fun x0 x1 x5 => N (z1a.s4 x0 x1 x5)) (fun y => X (.exit 0) (z1a.sx4 y)) (fun z => X .ret (z1a.sr4 z)) x0 x1 x5 := by kernel_rfl
theorem z1a.n_b4 (lp : Nat) {R S : Type} (N : List Entry → List Entry → Int → Option R) (X : Unit → Option R) (Q : Bool → Option R) (x0 : List Entry) (x1 : List Entry) (x5 : Int) (k : R → Option S) : obind (z1a.b4 lp N X Q x0 x1 x5) k = z1a.b4 lp (fun x0 x1 x5 => obind (N x0 x1 x5) k) (fun y => obind (X y) k) (fun z => obind (Q z) k) x0 x1 x5 := by
  unfold z1a.b4; simp only [obind_none, obind_some, obind_cond, obind_oif, obind_oget, obind_obind]
theorem z1a.k4 (lp : Nat) {R : Type} (K : Out → St → Option R) : ∀ (n : Nat) (x0 : List Entry) (x1 : List Entry) (x5 : Int), loopK z1a.la4 (fun σ K => codeK (z1a.E lp) z1a.an lp (loopAt 4 (codeOf Tryz.f130)) σ K) n (z1a.s4 x0 x1 x5) K = obind (z1a.l4 lp n x0 x1 x5) (leK 0 z1a.sr4 z1a.sx4 K) := by
  intro n
  induction n with
  | zero => intros; rfl
  | succ n ih =>
    intro x0 x1 x5
    rw [loopK_succ, z1a.t_b4, z1a.l4, z1a.n_b4]
    simp only [ih, obind_some, leK_ret, leK_brk]
theorem z1a.t_a4 (lp : Nat) (y : Unit) : kont (R := Bool) (z1a.E lp) z1a.an lp (finK (z1a.E lp) Tryz.f130 [.bool]) (stkAt 4 (codeOf Tryz.f130)) (.exit 0) (z1a.sx4 y) = z1a.a4 lp y := by kernel_rfl
theorem z1a.t_q4 (lp : Nat) (z : Bool) : kont (R := Bool) (z1a.E lp) z1a.an lp (finK (z1a.E lp) Tryz.f130 [.bool]) (stkAt 4 (codeOf Tryz.f130)) .ret (z1a.sr4 z) = z1a.q4 lp z := by kernel_rfl
theorem z1a.t_e (lp : Nat) (x0 : List Entry) (x1 : List Entry) : evalF (z1a.E lp) z1a.an lp Tryz.f130 [.v (.sl TEntry), .v (.sl TEntry)] [.bool] (x0, x1, ()) = z1a.e lp (fun x0 x1 x5 => loopK z1a.la4 (fun σ K => codeK (z1a.E lp) z1a.an lp (loopAt 4 (codeOf Tryz.f130)) σ K) lp (z1a.s4 x0 x1 x5) (kont (R := Bool) (z1a.E lp) z1a.an lp (finK (z1a.E lp) Tryz.f130 [.bool]) (stkAt 4 (codeOf Tryz.f130)))) x0 x1 := by kernel_rfl
theorem z1a.eq0 (lp : Nat) (x0 : List Entry) (x1 : List Entry) : evalF (z1a.E lp) z1a.an lp Tryz.f130 [.v (.sl TEntry), .v (.sl TEntry)] [.bool] (x0, x1, ()) = z1a lp x0 x1 := by
  rw [z1a.t_e]; unfold z1a
  simp only [leK_leF _ z1a.sr4 z1a.sx4, z1a.k4, z1a.t_a4, z1a.t_q4]
theorem z1a.eq (lp : Nat) (x : ADens [.v (.sl TEntry), .v (.sl TEntry)]) : evalF (z1a.E lp) z1a.an lp Tryz.f130 [.v (.sl TEntry), .v (.sl TEntry)] [.bool] x = (z1a.S lp).F x := z1a.eq0 lp x.1 x.2.1
theorem z1a.ok (lp : Nat) : Sound Tryz.prog 130 (z1a.S lp) := sound_of (E := z1a.E lp) (env_ok z0s tabEqs ⟨z65.ok, trivial⟩ trivial) mixed Tryz.func130 (by kernel_rfl) (c := codeOf Tryz.f130) (by kernel_rfl) (by kernel_rfl) z1a.an (fun x r h => ⟨lp, (z1a.eq lp x).trans h⟩)
def z2b.la4 : LoopAn := { kn := { tms := [0, 1, 5] }, kx := {}, kr := { tms := [4] } }
def z2b.E (lp : Nat) : Env := { tab := tab, fns := [], ann := { own := [], ro := [] } }
def z2b.an : An := { loops := [(4, z2b.la4)] }
def z2b.s4 (x0 : List Int) (x1 : List Int) (x5 : Int) : St := ⟨.v (.one (.b (.d (.sl (.int .i64)) x0))) :: .v (.one (.b (.d (.sl (.int .i64)) x1))) :: (sk 3 (.v (.one (.b (.d (.int .i64) x5))) :: (sk 20 ([])))), sko 26 ([])⟩
def z2b.sx4 (y : Unit) : St := ⟨sk 26 ([]), sko 26 ([])⟩
def z2b.sr4 (z : Bool) : St := ⟨sk 4 (.v (.one (.b (.d .bool z))) :: (sk 21 ([]))), sko 26 ([])⟩
def z2b.S (lp : Nat) : Spec := { ats := [.v (.sl (.int .i64)), .v (.sl (.int .i64))], rts := [.bool], F := fun x => z2b lp x.1 x.2.1 }
theorem z2b.t_b4 (lp : Nat) {R : Type} (N : St → Option R) (X : Out → St → Option R) (x0 : List Int) (x1 : List Int) (x5 : Int) : codeK (z2b.E lp) z2b.an lp (loopAt 4 (codeOf Tryz.f183)) (z2b.s4 x0 x1 x5) (lpK z2b.la4 N X) = z2b.b4 lp (fun x0 x1 x5 => N (z2b.s4 x0 x1 x5)) (fun y => X (.exit 0) (z2b.sx4 y)) (fun z => X .ret (z2b.sr4 z)) x0 x1 x5 := by kernel_rfl
theorem z2b.n_b4 (lp : Nat) {R S : Type} (N : List Int → List Int → Int → Option R) (X : Unit → Option R) (Q : Bool → Option R) (x0 : List Int) (x1 : List Int) (x5 : Int) (k : R → Option S) : obind (z2b.b4 lp N X Q x0 x1 x5) k = z2b.b4 lp (fun x0 x1 x5 => obind (N x0 x1 x5) k) (fun y => obind (X y) k) (fun z => obind (Q z) k) x0 x1 x5 := by
  unfold z2b.b4; simp only [obind_none, obind_some, obind_cond, obind_oif, obind_oget, obind_obind]
theorem z2b.k4 (lp : Nat) {R : Type} (K : Out → St → Option R) : ∀ (n : Nat) (x0 : List Int) (x1 : List Int) (x5 : Int), loopK z2b.la4 (fun σ K => codeK (z2b.E lp) z2b.an lp (loopAt 4 (codeOf Tryz.f183)) σ K) n (z2b.s4 x0 x1 x5) K = obind (z2b.l4 lp n x0 x1 x5) (leK 0 z2b.sr4 z2b.sx4 K) := by
  intro n
  induction n with
  | zero => intros; rfl
  | succ n ih =>
    intro x0 x1 x5
    rw [loopK_succ, z2b.t_b4, z2b.l4, z2b.n_b4]
    simp only [ih, obind_some, leK_ret, leK_brk]
theorem z2b.t_a4 (lp : Nat) (y : Unit) : kont (R := Bool) (z2b.E lp) z2b.an lp (finK (z2b.E lp) Tryz.f183 [.bool]) (stkAt 4 (codeOf Tryz.f183)) (.exit 0) (z2b.sx4 y) = z2b.a4 lp y := by kernel_rfl
theorem z2b.t_q4 (lp : Nat) (z : Bool) : kont (R := Bool) (z2b.E lp) z2b.an lp (finK (z2b.E lp) Tryz.f183 [.bool]) (stkAt 4 (codeOf Tryz.f183)) .ret (z2b.sr4 z) = z2b.q4 lp z := by kernel_rfl
theorem z2b.t_e (lp : Nat) (x0 : List Int) (x1 : List Int) : evalF (z2b.E lp) z2b.an lp Tryz.f183 [.v (.sl (.int .i64)), .v (.sl (.int .i64))] [.bool] (x0, x1, ()) = z2b.e lp (fun x0 x1 x5 => loopK z2b.la4 (fun σ K => codeK (z2b.E lp) z2b.an lp (loopAt 4 (codeOf Tryz.f183)) σ K) lp (z2b.s4 x0 x1 x5) (kont (R := Bool) (z2b.E lp) z2b.an lp (finK (z2b.E lp) Tryz.f183 [.bool]) (stkAt 4 (codeOf Tryz.f183)))) x0 x1 := by kernel_rfl
theorem z2b.eq0 (lp : Nat) (x0 : List Int) (x1 : List Int) : evalF (z2b.E lp) z2b.an lp Tryz.f183 [.v (.sl (.int .i64)), .v (.sl (.int .i64))] [.bool] (x0, x1, ()) = z2b lp x0 x1 := by
  rw [z2b.t_e]; unfold z2b
  simp only [leK_leF _ z2b.sr4 z2b.sx4, z2b.k4, z2b.t_a4, z2b.t_q4]
theorem z2b.eq (lp : Nat) (x : ADens [.v (.sl (.int .i64)), .v (.sl (.int .i64))]) : evalF (z2b.E lp) z2b.an lp Tryz.f183 [.v (.sl (.int .i64)), .v (.sl (.int .i64))] [.bool] x = (z2b.S lp).F x := z2b.eq0 lp x.1 x.2.1
theorem z2b.ok (lp : Nat) : Sound Tryz.prog 183 (z2b.S lp) := sound_of (E := z2b.E lp) (env_ok z0s tabEqs trivial trivial) mixed Tryz.func183 (by kernel_rfl) (c := codeOf Tryz.f183) (by kernel_rfl) (by kernel_rfl) z2b.an (fun x r h => ⟨lp, (z2b.eq lp x).trans h⟩)
def z5d.E (lp : Nat) : Env := { tab := tab, fns := [(183, z2b.S lp), (130, z1a.S lp)], ann := { own := [], ro := [2, 3] } }
def z5d.an : An := { pre := [] }
def z5d.S (lp : Nat) : Spec := { ats := [.v TCommit, .v TCommit], rts := [.bool], F := fun x => z5d lp x.1 x.2.1 }
theorem z5d.eq (lp : Nat) (x : ADens [.v TCommit, .v TCommit]) : evalF (z5d.E lp) z5d.an lp Tryz.f127 [.v TCommit, .v TCommit] [.bool] x = (z5d.S lp).F x := by kernel_rfl
theorem z5d.ok (lp : Nat) : Sound Tryz.prog 127 (z5d.S lp) := sound_of (E := z5d.E lp) (env_ok z0s tabEqs ⟨z2b.ok lp, z1a.ok lp, trivial⟩ trivial) mixed Tryz.func127 (by kernel_rfl) (c := codeOf Tryz.f127) (by kernel_rfl) (by kernel_rfl) z5d.an (fun x r h => ⟨lp, (z5d.eq lp x).trans h⟩)
def z13.la4 : LoopAn := { kn := { tms := [0, 1, 5] }, kx := {}, kr := { tms := [4] } }
def z13.E (lp : Nat) : Env := { tab := tab, fns := [(127, z5d.S lp)], ann := { own := [], ro := [] } }
def z13.an : An := { loops := [(4, z13.la4)] }
def z13.s4 (x0 : List Commit) (x1 : List Commit) (x5 : Int) : St := ⟨.v (.one (.b (.d (.sl TCommit) x0))) :: .v (.one (.b (.d (.sl TCommit) x1))) :: (sk 3 (.v (.one (.b (.d (.int .i64) x5))) :: (sk 21 ([])))), sko 27 ([])⟩
def z13.sx4 (y : Unit) : St := ⟨sk 27 ([]), sko 27 ([])⟩
def z13.sr4 (z : Bool) : St := ⟨sk 4 (.v (.one (.b (.d .bool z))) :: (sk 22 ([]))), sko 27 ([])⟩
def z13.S (lp : Nat) : Spec := { ats := [.v (.sl TCommit), .v (.sl TCommit)], rts := [.bool], F := fun x => z13 lp x.1 x.2.1 }
theorem z13.t_b4 (lp : Nat) {R : Type} (N : St → Option R) (X : Out → St → Option R) (x0 : List Commit) (x1 : List Commit) (x5 : Int) : codeK (z13.E lp) z13.an lp (loopAt 4 (codeOf Tryz.f69)) (z13.s4 x0 x1 x5) (lpK z13.la4 N X) = z13.b4 lp (fun x0 x1 x5 => N (z13.s4 x0 x1 x5)) (fun y => X (.exit 0) (z13.sx4 y)) (fun z => X .ret (z13.sr4 z)) x0 x1 x5 := by kernel_rfl
theorem z13.n_b4 (lp : Nat) {R S : Type} (N : List Commit → List Commit → Int → Option R) (X : Unit → Option R) (Q : Bool → Option R) (x0 : List Commit) (x1 : List Commit) (x5 : Int) (k : R → Option S) : obind (z13.b4 lp N X Q x0 x1 x5) k = z13.b4 lp (fun x0 x1 x5 => obind (N x0 x1 x5) k) (fun y => obind (X y) k) (fun z => obind (Q z) k) x0 x1 x5 := by
  unfold z13.b4; simp only [obind_none, obind_some, obind_cond, obind_oif, obind_oget, obind_obind]
theorem z13.k4 (lp : Nat) {R : Type} (K : Out → St → Option R) : ∀ (n : Nat) (x0 : List Commit) (x1 : List Commit) (x5 : Int), loopK z13.la4 (fun σ K => codeK (z13.E lp) z13.an lp (loopAt 4 (codeOf Tryz.f69)) σ K) n (z13.s4 x0 x1 x5) K = obind (z13.l4 lp n x0 x1 x5) (leK 0 z13.sr4 z13.sx4 K) := by
  intro n
  induction n with
  | zero => intros; rfl
  | succ n ih =>
    intro x0 x1 x5
    rw [loopK_succ, z13.t_b4, z13.l4, z13.n_b4]
    simp only [ih, obind_some, leK_ret, leK_brk]
theorem z13.t_a4 (lp : Nat) (y : Unit) : kont (R := Bool) (z13.E lp) z13.an lp (finK (z13.E lp) Tryz.f69 [.bool]) (stkAt 4 (codeOf Tryz.f69)) (.exit 0) (z13.sx4 y) = z13.a4 lp y := by kernel_rfl
theorem z13.t_q4 (lp : Nat) (z : Bool) : kont (R := Bool) (z13.E lp) z13.an lp (finK (z13.E lp) Tryz.f69 [.bool]) (stkAt 4 (codeOf Tryz.f69)) .ret (z13.sr4 z) = z13.q4 lp z := by kernel_rfl
theorem z13.t_e (lp : Nat) (x0 : List Commit) (x1 : List Commit) : evalF (z13.E lp) z13.an lp Tryz.f69 [.v (.sl TCommit), .v (.sl TCommit)] [.bool] (x0, x1, ()) = z13.e lp (fun x0 x1 x5 => loopK z13.la4 (fun σ K => codeK (z13.E lp) z13.an lp (loopAt 4 (codeOf Tryz.f69)) σ K) lp (z13.s4 x0 x1 x5) (kont (R := Bool) (z13.E lp) z13.an lp (finK (z13.E lp) Tryz.f69 [.bool]) (stkAt 4 (codeOf Tryz.f69)))) x0 x1 := by kernel_rfl
theorem z13.eq0 (lp : Nat) (x0 : List Commit) (x1 : List Commit) : evalF (z13.E lp) z13.an lp Tryz.f69 [.v (.sl TCommit), .v (.sl TCommit)] [.bool] (x0, x1, ()) = z13 lp x0 x1 := by
  rw [z13.t_e]; unfold z13
  simp only [leK_leF _ z13.sr4 z13.sx4, z13.k4, z13.t_a4, z13.t_q4]
theorem z13.eq (lp : Nat) (x : ADens [.v (.sl TCommit), .v (.sl TCommit)]) : evalF (z13.E lp) z13.an lp Tryz.f69 [.v (.sl TCommit), .v (.sl TCommit)] [.bool] x = (z13.S lp).F x := z13.eq0 lp x.1 x.2.1
theorem z13.ok (lp : Nat) : Sound Tryz.prog 69 (z13.S lp) := sound_of (E := z13.E lp) (env_ok z0s tabEqs ⟨z5d.ok lp, trivial⟩ trivial) mixed Tryz.func69 (by kernel_rfl) (c := codeOf Tryz.f69) (by kernel_rfl) (by kernel_rfl) z13.an (fun x r h => ⟨lp, (z13.eq lp x).trans h⟩)
def z6y.E : Env := { tab := tab, fns := [], ann := { own := [], ro := [2, 3] } }
def z6y.an : An := { pre := [] }
def z6y.S : Spec := { ats := [.v TRef, .v TRef], rts := [.bool], F := fun x => z6y x.1 x.2.1 }
theorem z6y.eq (lp : Nat) (x : ADens [.v TRef, .v TRef]) : evalF (z6y.E) z6y.an lp Tryz.f128 [.v TRef, .v TRef] [.bool] x = (z6y.S).F x := by kernel_rfl
theorem z6y.ok : Sound Tryz.prog 128 (z6y.S) := sound_of (E := z6y.E) (env_ok z0s tabEqs trivial trivial) mixed Tryz.func128 (by kernel_rfl) (c := codeOf Tryz.f128) (by kernel_rfl) (by kernel_rfl) z6y.an (fun x r h => ⟨0, (z6y.eq 0 x).trans h⟩)
def z2a.la4 : LoopAn := { kn := { tms := [0, 1, 5] }, kx := {}, kr := { tms := [4] } }
def z2a.E (lp : Nat) : Env := { tab := tab, fns := [(128, z6y.S)], ann := { own := [], ro := [] } }
def z2a.an : An := { loops := [(4, z2a.la4)] }
def z2a.s4 (x0 : List Ref) (x1 : List Ref) (x5 : Int) : St := ⟨.v (.one (.b (.d (.sl TRef) x0))) :: .v (.one (.b (.d (.sl TRef) x1))) :: (sk 3 (.v (.one (.b (.d (.int .i64) x5))) :: (sk 21 ([])))), sko 27 ([])⟩
def z2a.sx4 (y : Unit) : St := ⟨sk 27 ([]), sko 27 ([])⟩
def z2a.sr4 (z : Bool) : St := ⟨sk 4 (.v (.one (.b (.d .bool z))) :: (sk 22 ([]))), sko 27 ([])⟩
def z2a.S (lp : Nat) : Spec := { ats := [.v (.sl TRef), .v (.sl TRef)], rts := [.bool], F := fun x => z2a lp x.1 x.2.1 }
theorem z2a.t_b4 (lp : Nat) {R : Type} (N : St → Option R) (X : Out → St → Option R) (x0 : List Ref) (x1 : List Ref) (x5 : Int) : codeK (z2a.E lp) z2a.an lp (loopAt 4 (codeOf Tryz.f70)) (z2a.s4 x0 x1 x5) (lpK z2a.la4 N X) = z2a.b4 lp (fun x0 x1 x5 => N (z2a.s4 x0 x1 x5)) (fun y => X (.exit 0) (z2a.sx4 y)) (fun z => X .ret (z2a.sr4 z)) x0 x1 x5 := by kernel_rfl
theorem z2a.n_b4 (lp : Nat) {R S : Type} (N : List Ref → List Ref → Int → Option R) (X : Unit → Option R) (Q : Bool → Option R) (x0 : List Ref) (x1 : List Ref) (x5 : Int) (k : R → Option S) : obind (z2a.b4 lp N X Q x0 x1 x5) k = z2a.b4 lp (fun x0 x1 x5 => obind (N x0 x1 x5) k) (fun y => obind (X y) k) (fun z => obind (Q z) k) x0 x1 x5 := by
  unfold z2a.b4; simp only [obind_none, obind_some, obind_cond, obind_oif, obind_oget, obind_obind]
theorem z2a.k4 (lp : Nat) {R : Type} (K : Out → St → Option R) : ∀ (n : Nat) (x0 : List Ref) (x1 : List Ref) (x5 : Int), loopK z2a.la4 (fun σ K => codeK (z2a.E lp) z2a.an lp (loopAt 4 (codeOf Tryz.f70)) σ K) n (z2a.s4 x0 x1 x5) K = obind (z2a.l4 lp n x0 x1 x5) (leK 0 z2a.sr4 z2a.sx4 K) := by
  intro n
  induction n with
  | zero => intros; rfl
  | succ n ih =>
    intro x0 x1 x5
    rw [loopK_succ, z2a.t_b4, z2a.l4, z2a.n_b4]
    simp only [ih, obind_some, leK_ret, leK_brk]
theorem z2a.t_a4 (lp : Nat) (y : Unit) : kont (R := Bool) (z2a.E lp) z2a.an lp (finK (z2a.E lp) Tryz.f70 [.bool]) (stkAt 4 (codeOf Tryz.f70)) (.exit 0) (z2a.sx4 y) = z2a.a4 lp y := by kernel_rfl
theorem z2a.t_q4 (lp : Nat) (z : Bool) : kont (R := Bool) (z2a.E lp) z2a.an lp (finK (z2a.E lp) Tryz.f70 [.bool]) (stkAt 4 (codeOf Tryz.f70)) .ret (z2a.sr4 z) = z2a.q4 lp z := by kernel_rfl
theorem z2a.t_e (lp : Nat) (x0 : List Ref) (x1 : List Ref) : evalF (z2a.E lp) z2a.an lp Tryz.f70 [.v (.sl TRef), .v (.sl TRef)] [.bool] (x0, x1, ()) = z2a.e lp (fun x0 x1 x5 => loopK z2a.la4 (fun σ K => codeK (z2a.E lp) z2a.an lp (loopAt 4 (codeOf Tryz.f70)) σ K) lp (z2a.s4 x0 x1 x5) (kont (R := Bool) (z2a.E lp) z2a.an lp (finK (z2a.E lp) Tryz.f70 [.bool]) (stkAt 4 (codeOf Tryz.f70)))) x0 x1 := by kernel_rfl
theorem z2a.eq0 (lp : Nat) (x0 : List Ref) (x1 : List Ref) : evalF (z2a.E lp) z2a.an lp Tryz.f70 [.v (.sl TRef), .v (.sl TRef)] [.bool] (x0, x1, ()) = z2a lp x0 x1 := by
  rw [z2a.t_e]; unfold z2a
  simp only [leK_leF _ z2a.sr4 z2a.sx4, z2a.k4, z2a.t_a4, z2a.t_q4]
theorem z2a.eq (lp : Nat) (x : ADens [.v (.sl TRef), .v (.sl TRef)]) : evalF (z2a.E lp) z2a.an lp Tryz.f70 [.v (.sl TRef), .v (.sl TRef)] [.bool] x = (z2a.S lp).F x := z2a.eq0 lp x.1 x.2.1
theorem z2a.ok (lp : Nat) : Sound Tryz.prog 70 (z2a.S lp) := sound_of (E := z2a.E lp) (env_ok z0s tabEqs ⟨z6y.ok, trivial⟩ trivial) mixed Tryz.func70 (by kernel_rfl) (c := codeOf Tryz.f70) (by kernel_rfl) (by kernel_rfl) z2a.an (fun x r h => ⟨lp, (z2a.eq lp x).trans h⟩)
def z6k.E (lp : Nat) : Env := { tab := tab, fns := [(69, z13.S lp), (70, z2a.S lp)], ann := { own := [], ro := [2, 3] } }
def z6k.an : An := { pre := [] }
def z6k.S (lp : Nat) : Spec := { ats := [.v TBase, .v TBase], rts := [.bool], F := fun x => z6k lp x.1 x.2.1 }
theorem z6k.eq (lp : Nat) (x : ADens [.v TBase, .v TBase]) : evalF (z6k.E lp) z6k.an lp Tryz.f27 [.v TBase, .v TBase] [.bool] x = (z6k.S lp).F x := by kernel_rfl
theorem z6k.ok (lp : Nat) : Sound Tryz.prog 27 (z6k.S lp) := sound_of (E := z6k.E lp) (env_ok z0s tabEqs ⟨z13.ok lp, z2a.ok lp, trivial⟩ trivial) mixed Tryz.func27 (by kernel_rfl) (c := codeOf Tryz.f27) (by kernel_rfl) (by kernel_rfl) z6k.an (fun x r h => ⟨lp, (z6k.eq lp x).trans h⟩)
def z6j.E : Env := { tab := tab, fns := [], ann := { own := [], ro := [2, 3] } }
def z6j.an : An := { pre := [] }
def z6j.S : Spec := { ats := [.v TEdit, .v TEdit], rts := [.bool], F := fun x => z6j x.1 x.2.1 }
theorem z6j.eq (lp : Nat) (x : ADens [.v TEdit, .v TEdit]) : evalF (z6j.E) z6j.an lp Tryz.f204 [.v TEdit, .v TEdit] [.bool] x = (z6j.S).F x := by kernel_rfl
theorem z6j.ok : Sound Tryz.prog 204 (z6j.S) := sound_of (E := z6j.E) (env_ok z0s tabEqs trivial trivial) mixed Tryz.func204 (by kernel_rfl) (c := codeOf Tryz.f204) (by kernel_rfl) (by kernel_rfl) z6j.an (fun x r h => ⟨0, (z6j.eq 0 x).trans h⟩)
def z1q.la4 : LoopAn := { kn := { tms := [0, 1, 5] }, kx := {}, kr := { tms := [4] } }
def z1q.E (lp : Nat) : Env := { tab := tab, fns := [(204, z6j.S)], ann := { own := [], ro := [] } }
def z1q.an : An := { loops := [(4, z1q.la4)] }
def z1q.s4 (x0 : List Edit) (x1 : List Edit) (x5 : Int) : St := ⟨.v (.one (.b (.d (.sl TEdit) x0))) :: .v (.one (.b (.d (.sl TEdit) x1))) :: (sk 3 (.v (.one (.b (.d (.int .i64) x5))) :: (sk 21 ([])))), sko 27 ([])⟩
def z1q.sx4 (y : Unit) : St := ⟨sk 27 ([]), sko 27 ([])⟩
def z1q.sr4 (z : Bool) : St := ⟨sk 4 (.v (.one (.b (.d .bool z))) :: (sk 22 ([]))), sko 27 ([])⟩
def z1q.S (lp : Nat) : Spec := { ats := [.v (.sl TEdit), .v (.sl TEdit)], rts := [.bool], F := fun x => z1q lp x.1 x.2.1 }
theorem z1q.t_b4 (lp : Nat) {R : Type} (N : St → Option R) (X : Out → St → Option R) (x0 : List Edit) (x1 : List Edit) (x5 : Int) : codeK (z1q.E lp) z1q.an lp (loopAt 4 (codeOf Tryz.f187)) (z1q.s4 x0 x1 x5) (lpK z1q.la4 N X) = z1q.b4 lp (fun x0 x1 x5 => N (z1q.s4 x0 x1 x5)) (fun y => X (.exit 0) (z1q.sx4 y)) (fun z => X .ret (z1q.sr4 z)) x0 x1 x5 := by kernel_rfl
theorem z1q.n_b4 (lp : Nat) {R S : Type} (N : List Edit → List Edit → Int → Option R) (X : Unit → Option R) (Q : Bool → Option R) (x0 : List Edit) (x1 : List Edit) (x5 : Int) (k : R → Option S) : obind (z1q.b4 lp N X Q x0 x1 x5) k = z1q.b4 lp (fun x0 x1 x5 => obind (N x0 x1 x5) k) (fun y => obind (X y) k) (fun z => obind (Q z) k) x0 x1 x5 := by
  unfold z1q.b4; simp only [obind_none, obind_some, obind_cond, obind_oif, obind_oget, obind_obind]
theorem z1q.k4 (lp : Nat) {R : Type} (K : Out → St → Option R) : ∀ (n : Nat) (x0 : List Edit) (x1 : List Edit) (x5 : Int), loopK z1q.la4 (fun σ K => codeK (z1q.E lp) z1q.an lp (loopAt 4 (codeOf Tryz.f187)) σ K) n (z1q.s4 x0 x1 x5) K = obind (z1q.l4 lp n x0 x1 x5) (leK 0 z1q.sr4 z1q.sx4 K) := by
  intro n
  induction n with
  | zero => intros; rfl
  | succ n ih =>
    intro x0 x1 x5
    rw [loopK_succ, z1q.t_b4, z1q.l4, z1q.n_b4]
    simp only [ih, obind_some, leK_ret, leK_brk]
theorem z1q.t_a4 (lp : Nat) (y : Unit) : kont (R := Bool) (z1q.E lp) z1q.an lp (finK (z1q.E lp) Tryz.f187 [.bool]) (stkAt 4 (codeOf Tryz.f187)) (.exit 0) (z1q.sx4 y) = z1q.a4 lp y := by kernel_rfl
theorem z1q.t_q4 (lp : Nat) (z : Bool) : kont (R := Bool) (z1q.E lp) z1q.an lp (finK (z1q.E lp) Tryz.f187 [.bool]) (stkAt 4 (codeOf Tryz.f187)) .ret (z1q.sr4 z) = z1q.q4 lp z := by kernel_rfl
theorem z1q.t_e (lp : Nat) (x0 : List Edit) (x1 : List Edit) : evalF (z1q.E lp) z1q.an lp Tryz.f187 [.v (.sl TEdit), .v (.sl TEdit)] [.bool] (x0, x1, ()) = z1q.e lp (fun x0 x1 x5 => loopK z1q.la4 (fun σ K => codeK (z1q.E lp) z1q.an lp (loopAt 4 (codeOf Tryz.f187)) σ K) lp (z1q.s4 x0 x1 x5) (kont (R := Bool) (z1q.E lp) z1q.an lp (finK (z1q.E lp) Tryz.f187 [.bool]) (stkAt 4 (codeOf Tryz.f187)))) x0 x1 := by kernel_rfl
theorem z1q.eq0 (lp : Nat) (x0 : List Edit) (x1 : List Edit) : evalF (z1q.E lp) z1q.an lp Tryz.f187 [.v (.sl TEdit), .v (.sl TEdit)] [.bool] (x0, x1, ()) = z1q lp x0 x1 := by
  rw [z1q.t_e]; unfold z1q
  simp only [leK_leF _ z1q.sr4 z1q.sx4, z1q.k4, z1q.t_a4, z1q.t_q4]
theorem z1q.eq (lp : Nat) (x : ADens [.v (.sl TEdit), .v (.sl TEdit)]) : evalF (z1q.E lp) z1q.an lp Tryz.f187 [.v (.sl TEdit), .v (.sl TEdit)] [.bool] x = (z1q.S lp).F x := z1q.eq0 lp x.1 x.2.1
theorem z1q.ok (lp : Nat) : Sound Tryz.prog 187 (z1q.S lp) := sound_of (E := z1q.E lp) (env_ok z0s tabEqs ⟨z6j.ok, trivial⟩ trivial) mixed Tryz.func187 (by kernel_rfl) (c := codeOf Tryz.f187) (by kernel_rfl) (by kernel_rfl) z1q.an (fun x r h => ⟨lp, (z1q.eq lp x).trans h⟩)
def z6n.E (lp : Nat) : Env := { tab := tab, fns := [(187, z1q.S lp)], ann := { own := [], ro := [2, 3] } }
def z6n.an : An := { pre := [] }
def z6n.S (lp : Nat) : Spec := { ats := [.v TWish, .v TWish], rts := [.bool], F := fun x => z6n lp x.1 x.2.1 }
theorem z6n.eq (lp : Nat) (x : ADens [.v TWish, .v TWish]) : evalF (z6n.E lp) z6n.an lp Tryz.f184 [.v TWish, .v TWish] [.bool] x = (z6n.S lp).F x := by kernel_rfl
theorem z6n.ok (lp : Nat) : Sound Tryz.prog 184 (z6n.S lp) := sound_of (E := z6n.E lp) (env_ok z0s tabEqs ⟨z1q.ok lp, trivial⟩ trivial) mixed Tryz.func184 (by kernel_rfl) (c := codeOf Tryz.f184) (by kernel_rfl) (by kernel_rfl) z6n.an (fun x r h => ⟨lp, (z6n.eq lp x).trans h⟩)
def z1v.la4 : LoopAn := { kn := { tms := [0, 1, 5] }, kx := {}, kr := { tms := [4] } }
def z1v.E (lp : Nat) : Env := { tab := tab, fns := [(184, z6n.S lp)], ann := { own := [], ro := [] } }
def z1v.an : An := { loops := [(4, z1v.la4)] }
def z1v.s4 (x0 : List Wish) (x1 : List Wish) (x5 : Int) : St := ⟨.v (.one (.b (.d (.sl TWish) x0))) :: .v (.one (.b (.d (.sl TWish) x1))) :: (sk 3 (.v (.one (.b (.d (.int .i64) x5))) :: (sk 21 ([])))), sko 27 ([])⟩
def z1v.sx4 (y : Unit) : St := ⟨sk 27 ([]), sko 27 ([])⟩
def z1v.sr4 (z : Bool) : St := ⟨sk 4 (.v (.one (.b (.d .bool z))) :: (sk 22 ([]))), sko 27 ([])⟩
def z1v.S (lp : Nat) : Spec := { ats := [.v (.sl TWish), .v (.sl TWish)], rts := [.bool], F := fun x => z1v lp x.1 x.2.1 }
theorem z1v.t_b4 (lp : Nat) {R : Type} (N : St → Option R) (X : Out → St → Option R) (x0 : List Wish) (x1 : List Wish) (x5 : Int) : codeK (z1v.E lp) z1v.an lp (loopAt 4 (codeOf Tryz.f129)) (z1v.s4 x0 x1 x5) (lpK z1v.la4 N X) = z1v.b4 lp (fun x0 x1 x5 => N (z1v.s4 x0 x1 x5)) (fun y => X (.exit 0) (z1v.sx4 y)) (fun z => X .ret (z1v.sr4 z)) x0 x1 x5 := by kernel_rfl
theorem z1v.n_b4 (lp : Nat) {R S : Type} (N : List Wish → List Wish → Int → Option R) (X : Unit → Option R) (Q : Bool → Option R) (x0 : List Wish) (x1 : List Wish) (x5 : Int) (k : R → Option S) : obind (z1v.b4 lp N X Q x0 x1 x5) k = z1v.b4 lp (fun x0 x1 x5 => obind (N x0 x1 x5) k) (fun y => obind (X y) k) (fun z => obind (Q z) k) x0 x1 x5 := by
  unfold z1v.b4; simp only [obind_none, obind_some, obind_cond, obind_oif, obind_oget, obind_obind]
theorem z1v.k4 (lp : Nat) {R : Type} (K : Out → St → Option R) : ∀ (n : Nat) (x0 : List Wish) (x1 : List Wish) (x5 : Int), loopK z1v.la4 (fun σ K => codeK (z1v.E lp) z1v.an lp (loopAt 4 (codeOf Tryz.f129)) σ K) n (z1v.s4 x0 x1 x5) K = obind (z1v.l4 lp n x0 x1 x5) (leK 0 z1v.sr4 z1v.sx4 K) := by
  intro n
  induction n with
  | zero => intros; rfl
  | succ n ih =>
    intro x0 x1 x5
    rw [loopK_succ, z1v.t_b4, z1v.l4, z1v.n_b4]
    simp only [ih, obind_some, leK_ret, leK_brk]
theorem z1v.t_a4 (lp : Nat) (y : Unit) : kont (R := Bool) (z1v.E lp) z1v.an lp (finK (z1v.E lp) Tryz.f129 [.bool]) (stkAt 4 (codeOf Tryz.f129)) (.exit 0) (z1v.sx4 y) = z1v.a4 lp y := by kernel_rfl
theorem z1v.t_q4 (lp : Nat) (z : Bool) : kont (R := Bool) (z1v.E lp) z1v.an lp (finK (z1v.E lp) Tryz.f129 [.bool]) (stkAt 4 (codeOf Tryz.f129)) .ret (z1v.sr4 z) = z1v.q4 lp z := by kernel_rfl
theorem z1v.t_e (lp : Nat) (x0 : List Wish) (x1 : List Wish) : evalF (z1v.E lp) z1v.an lp Tryz.f129 [.v (.sl TWish), .v (.sl TWish)] [.bool] (x0, x1, ()) = z1v.e lp (fun x0 x1 x5 => loopK z1v.la4 (fun σ K => codeK (z1v.E lp) z1v.an lp (loopAt 4 (codeOf Tryz.f129)) σ K) lp (z1v.s4 x0 x1 x5) (kont (R := Bool) (z1v.E lp) z1v.an lp (finK (z1v.E lp) Tryz.f129 [.bool]) (stkAt 4 (codeOf Tryz.f129)))) x0 x1 := by kernel_rfl
theorem z1v.eq0 (lp : Nat) (x0 : List Wish) (x1 : List Wish) : evalF (z1v.E lp) z1v.an lp Tryz.f129 [.v (.sl TWish), .v (.sl TWish)] [.bool] (x0, x1, ()) = z1v lp x0 x1 := by
  rw [z1v.t_e]; unfold z1v
  simp only [leK_leF _ z1v.sr4 z1v.sx4, z1v.k4, z1v.t_a4, z1v.t_q4]
theorem z1v.eq (lp : Nat) (x : ADens [.v (.sl TWish), .v (.sl TWish)]) : evalF (z1v.E lp) z1v.an lp Tryz.f129 [.v (.sl TWish), .v (.sl TWish)] [.bool] x = (z1v.S lp).F x := z1v.eq0 lp x.1 x.2.1
theorem z1v.ok (lp : Nat) : Sound Tryz.prog 129 (z1v.S lp) := sound_of (E := z1v.E lp) (env_ok z0s tabEqs ⟨z6n.ok lp, trivial⟩ trivial) mixed Tryz.func129 (by kernel_rfl) (c := codeOf Tryz.f129) (by kernel_rfl) (by kernel_rfl) z1v.an (fun x r h => ⟨lp, (z1v.eq lp x).trans h⟩)
def z5l.E (lp : Nat) : Env := { tab := tab, fns := [(129, z1v.S lp), (130, z1a.S lp)], ann := { own := [], ro := [2, 3] } }
def z5l.an : An := { pre := [] }
def z5l.S (lp : Nat) : Spec := { ats := [.v TClient, .v TClient], rts := [.bool], F := fun x => z5l lp x.1 x.2.1 }
theorem z5l.eq (lp : Nat) (x : ADens [.v TClient, .v TClient]) : evalF (z5l.E lp) z5l.an lp Tryz.f71 [.v TClient, .v TClient] [.bool] x = (z5l.S lp).F x := by kernel_rfl
theorem z5l.ok (lp : Nat) : Sound Tryz.prog 71 (z5l.S lp) := sound_of (E := z5l.E lp) (env_ok z0s tabEqs ⟨z1v.ok lp, z1a.ok lp, trivial⟩ trivial) mixed Tryz.func71 (by kernel_rfl) (c := codeOf Tryz.f71) (by kernel_rfl) (by kernel_rfl) z5l.an (fun x r h => ⟨lp, (z5l.eq lp x).trans h⟩)
def z16.la4 : LoopAn := { kn := { tms := [0, 1, 5] }, kx := {}, kr := { tms := [4] } }
def z16.E (lp : Nat) : Env := { tab := tab, fns := [(71, z5l.S lp)], ann := { own := [], ro := [] } }
def z16.an : An := { loops := [(4, z16.la4)] }
def z16.s4 (x0 : List Client) (x1 : List Client) (x5 : Int) : St := ⟨.v (.one (.b (.d (.sl TClient) x0))) :: .v (.one (.b (.d (.sl TClient) x1))) :: (sk 3 (.v (.one (.b (.d (.int .i64) x5))) :: (sk 21 ([])))), sko 27 ([])⟩
def z16.sx4 (y : Unit) : St := ⟨sk 27 ([]), sko 27 ([])⟩
def z16.sr4 (z : Bool) : St := ⟨sk 4 (.v (.one (.b (.d .bool z))) :: (sk 22 ([]))), sko 27 ([])⟩
def z16.S (lp : Nat) : Spec := { ats := [.v (.sl TClient), .v (.sl TClient)], rts := [.bool], F := fun x => z16 lp x.1 x.2.1 }
theorem z16.t_b4 (lp : Nat) {R : Type} (N : St → Option R) (X : Out → St → Option R) (x0 : List Client) (x1 : List Client) (x5 : Int) : codeK (z16.E lp) z16.an lp (loopAt 4 (codeOf Tryz.f28)) (z16.s4 x0 x1 x5) (lpK z16.la4 N X) = z16.b4 lp (fun x0 x1 x5 => N (z16.s4 x0 x1 x5)) (fun y => X (.exit 0) (z16.sx4 y)) (fun z => X .ret (z16.sr4 z)) x0 x1 x5 := by kernel_rfl
theorem z16.n_b4 (lp : Nat) {R S : Type} (N : List Client → List Client → Int → Option R) (X : Unit → Option R) (Q : Bool → Option R) (x0 : List Client) (x1 : List Client) (x5 : Int) (k : R → Option S) : obind (z16.b4 lp N X Q x0 x1 x5) k = z16.b4 lp (fun x0 x1 x5 => obind (N x0 x1 x5) k) (fun y => obind (X y) k) (fun z => obind (Q z) k) x0 x1 x5 := by
  unfold z16.b4; simp only [obind_none, obind_some, obind_cond, obind_oif, obind_oget, obind_obind]
theorem z16.k4 (lp : Nat) {R : Type} (K : Out → St → Option R) : ∀ (n : Nat) (x0 : List Client) (x1 : List Client) (x5 : Int), loopK z16.la4 (fun σ K => codeK (z16.E lp) z16.an lp (loopAt 4 (codeOf Tryz.f28)) σ K) n (z16.s4 x0 x1 x5) K = obind (z16.l4 lp n x0 x1 x5) (leK 0 z16.sr4 z16.sx4 K) := by
  intro n
  induction n with
  | zero => intros; rfl
  | succ n ih =>
    intro x0 x1 x5
    rw [loopK_succ, z16.t_b4, z16.l4, z16.n_b4]
    simp only [ih, obind_some, leK_ret, leK_brk]
theorem z16.t_a4 (lp : Nat) (y : Unit) : kont (R := Bool) (z16.E lp) z16.an lp (finK (z16.E lp) Tryz.f28 [.bool]) (stkAt 4 (codeOf Tryz.f28)) (.exit 0) (z16.sx4 y) = z16.a4 lp y := by kernel_rfl
theorem z16.t_q4 (lp : Nat) (z : Bool) : kont (R := Bool) (z16.E lp) z16.an lp (finK (z16.E lp) Tryz.f28 [.bool]) (stkAt 4 (codeOf Tryz.f28)) .ret (z16.sr4 z) = z16.q4 lp z := by kernel_rfl
theorem z16.t_e (lp : Nat) (x0 : List Client) (x1 : List Client) : evalF (z16.E lp) z16.an lp Tryz.f28 [.v (.sl TClient), .v (.sl TClient)] [.bool] (x0, x1, ()) = z16.e lp (fun x0 x1 x5 => loopK z16.la4 (fun σ K => codeK (z16.E lp) z16.an lp (loopAt 4 (codeOf Tryz.f28)) σ K) lp (z16.s4 x0 x1 x5) (kont (R := Bool) (z16.E lp) z16.an lp (finK (z16.E lp) Tryz.f28 [.bool]) (stkAt 4 (codeOf Tryz.f28)))) x0 x1 := by kernel_rfl
theorem z16.eq0 (lp : Nat) (x0 : List Client) (x1 : List Client) : evalF (z16.E lp) z16.an lp Tryz.f28 [.v (.sl TClient), .v (.sl TClient)] [.bool] (x0, x1, ()) = z16 lp x0 x1 := by
  rw [z16.t_e]; unfold z16
  simp only [leK_leF _ z16.sr4 z16.sx4, z16.k4, z16.t_a4, z16.t_q4]
theorem z16.eq (lp : Nat) (x : ADens [.v (.sl TClient), .v (.sl TClient)]) : evalF (z16.E lp) z16.an lp Tryz.f28 [.v (.sl TClient), .v (.sl TClient)] [.bool] x = (z16.S lp).F x := z16.eq0 lp x.1 x.2.1
theorem z16.ok (lp : Nat) : Sound Tryz.prog 28 (z16.S lp) := sound_of (E := z16.E lp) (env_ok z0s tabEqs ⟨z5l.ok lp, trivial⟩ trivial) mixed Tryz.func28 (by kernel_rfl) (c := codeOf Tryz.f28) (by kernel_rfl) (by kernel_rfl) z16.an (fun x r h => ⟨lp, (z16.eq lp x).trans h⟩)
def z64.E : Env := { tab := tab, fns := [], ann := { own := [], ro := [2, 3] } }
def z64.an : An := { pre := [] }
def z64.S : Spec := { ats := [.v TEvent, .v TEvent], rts := [.bool], F := fun x => z64 x.1 x.2.1 }
theorem z64.eq (lp : Nat) (x : ADens [.v TEvent, .v TEvent]) : evalF (z64.E) z64.an lp Tryz.f186 [.v TEvent, .v TEvent] [.bool] x = (z64.S).F x := by kernel_rfl
theorem z64.ok : Sound Tryz.prog 186 (z64.S) := sound_of (E := z64.E) (env_ok z0s tabEqs trivial trivial) mixed Tryz.func186 (by kernel_rfl) (c := codeOf Tryz.f186) (by kernel_rfl) (by kernel_rfl) z64.an (fun x r h => ⟨0, (z64.eq 0 x).trans h⟩)
def z1i.la4 : LoopAn := { kn := { tms := [0, 1, 5] }, kx := {}, kr := { tms := [4] } }
def z1i.E (lp : Nat) : Env := { tab := tab, fns := [(186, z64.S)], ann := { own := [], ro := [] } }
def z1i.an : An := { loops := [(4, z1i.la4)] }
def z1i.s4 (x0 : List Event) (x1 : List Event) (x5 : Int) : St := ⟨.v (.one (.b (.d (.sl TEvent) x0))) :: .v (.one (.b (.d (.sl TEvent) x1))) :: (sk 3 (.v (.one (.b (.d (.int .i64) x5))) :: (sk 21 ([])))), sko 27 ([])⟩
def z1i.sx4 (y : Unit) : St := ⟨sk 27 ([]), sko 27 ([])⟩
def z1i.sr4 (z : Bool) : St := ⟨sk 4 (.v (.one (.b (.d .bool z))) :: (sk 22 ([]))), sko 27 ([])⟩
def z1i.S (lp : Nat) : Spec := { ats := [.v (.sl TEvent), .v (.sl TEvent)], rts := [.bool], F := fun x => z1i lp x.1 x.2.1 }
theorem z1i.t_b4 (lp : Nat) {R : Type} (N : St → Option R) (X : Out → St → Option R) (x0 : List Event) (x1 : List Event) (x5 : Int) : codeK (z1i.E lp) z1i.an lp (loopAt 4 (codeOf Tryz.f131)) (z1i.s4 x0 x1 x5) (lpK z1i.la4 N X) = z1i.b4 lp (fun x0 x1 x5 => N (z1i.s4 x0 x1 x5)) (fun y => X (.exit 0) (z1i.sx4 y)) (fun z => X .ret (z1i.sr4 z)) x0 x1 x5 := by kernel_rfl
theorem z1i.n_b4 (lp : Nat) {R S : Type} (N : List Event → List Event → Int → Option R) (X : Unit → Option R) (Q : Bool → Option R) (x0 : List Event) (x1 : List Event) (x5 : Int) (k : R → Option S) : obind (z1i.b4 lp N X Q x0 x1 x5) k = z1i.b4 lp (fun x0 x1 x5 => obind (N x0 x1 x5) k) (fun y => obind (X y) k) (fun z => obind (Q z) k) x0 x1 x5 := by
  unfold z1i.b4; simp only [obind_none, obind_some, obind_cond, obind_oif, obind_oget, obind_obind]
theorem z1i.k4 (lp : Nat) {R : Type} (K : Out → St → Option R) : ∀ (n : Nat) (x0 : List Event) (x1 : List Event) (x5 : Int), loopK z1i.la4 (fun σ K => codeK (z1i.E lp) z1i.an lp (loopAt 4 (codeOf Tryz.f131)) σ K) n (z1i.s4 x0 x1 x5) K = obind (z1i.l4 lp n x0 x1 x5) (leK 0 z1i.sr4 z1i.sx4 K) := by
  intro n
  induction n with
  | zero => intros; rfl
  | succ n ih =>
    intro x0 x1 x5
    rw [loopK_succ, z1i.t_b4, z1i.l4, z1i.n_b4]
    simp only [ih, obind_some, leK_ret, leK_brk]
theorem z1i.t_a4 (lp : Nat) (y : Unit) : kont (R := Bool) (z1i.E lp) z1i.an lp (finK (z1i.E lp) Tryz.f131 [.bool]) (stkAt 4 (codeOf Tryz.f131)) (.exit 0) (z1i.sx4 y) = z1i.a4 lp y := by kernel_rfl
theorem z1i.t_q4 (lp : Nat) (z : Bool) : kont (R := Bool) (z1i.E lp) z1i.an lp (finK (z1i.E lp) Tryz.f131 [.bool]) (stkAt 4 (codeOf Tryz.f131)) .ret (z1i.sr4 z) = z1i.q4 lp z := by kernel_rfl
theorem z1i.t_e (lp : Nat) (x0 : List Event) (x1 : List Event) : evalF (z1i.E lp) z1i.an lp Tryz.f131 [.v (.sl TEvent), .v (.sl TEvent)] [.bool] (x0, x1, ()) = z1i.e lp (fun x0 x1 x5 => loopK z1i.la4 (fun σ K => codeK (z1i.E lp) z1i.an lp (loopAt 4 (codeOf Tryz.f131)) σ K) lp (z1i.s4 x0 x1 x5) (kont (R := Bool) (z1i.E lp) z1i.an lp (finK (z1i.E lp) Tryz.f131 [.bool]) (stkAt 4 (codeOf Tryz.f131)))) x0 x1 := by kernel_rfl
theorem z1i.eq0 (lp : Nat) (x0 : List Event) (x1 : List Event) : evalF (z1i.E lp) z1i.an lp Tryz.f131 [.v (.sl TEvent), .v (.sl TEvent)] [.bool] (x0, x1, ()) = z1i lp x0 x1 := by
  rw [z1i.t_e]; unfold z1i
  simp only [leK_leF _ z1i.sr4 z1i.sx4, z1i.k4, z1i.t_a4, z1i.t_q4]
theorem z1i.eq (lp : Nat) (x : ADens [.v (.sl TEvent), .v (.sl TEvent)]) : evalF (z1i.E lp) z1i.an lp Tryz.f131 [.v (.sl TEvent), .v (.sl TEvent)] [.bool] x = (z1i.S lp).F x := z1i.eq0 lp x.1 x.2.1
theorem z1i.ok (lp : Nat) : Sound Tryz.prog 131 (z1i.S lp) := sound_of (E := z1i.E lp) (env_ok z0s tabEqs ⟨z64.ok, trivial⟩ trivial) mixed Tryz.func131 (by kernel_rfl) (c := codeOf Tryz.f131) (by kernel_rfl) (by kernel_rfl) z1i.an (fun x r h => ⟨lp, (z1i.eq lp x).trans h⟩)
def z67.E (lp : Nat) : Env := { tab := tab, fns := [(131, z1i.S lp)], ann := { own := [], ro := [2, 3] } }
def z67.an : An := { pre := [] }
def z67.S (lp : Nat) : Spec := { ats := [.v TWatch, .v TWatch], rts := [.bool], F := fun x => z67 lp x.1 x.2.1 }
theorem z67.eq (lp : Nat) (x : ADens [.v TWatch, .v TWatch]) : evalF (z67.E lp) z67.an lp Tryz.f72 [.v TWatch, .v TWatch] [.bool] x = (z67.S lp).F x := by kernel_rfl
theorem z67.ok (lp : Nat) : Sound Tryz.prog 72 (z67.S lp) := sound_of (E := z67.E lp) (env_ok z0s tabEqs ⟨z1i.ok lp, trivial⟩ trivial) mixed Tryz.func72 (by kernel_rfl) (c := codeOf Tryz.f72) (by kernel_rfl) (by kernel_rfl) z67.an (fun x r h => ⟨lp, (z67.eq lp x).trans h⟩)
def z1k.la4 : LoopAn := { kn := { tms := [0, 1, 5] }, kx := {}, kr := { tms := [4] } }
def z1k.E (lp : Nat) : Env := { tab := tab, fns := [(72, z67.S lp)], ann := { own := [], ro := [] } }
def z1k.an : An := { loops := [(4, z1k.la4)] }
def z1k.s4 (x0 : List Watch) (x1 : List Watch) (x5 : Int) : St := ⟨.v (.one (.b (.d (.sl TWatch) x0))) :: .v (.one (.b (.d (.sl TWatch) x1))) :: (sk 3 (.v (.one (.b (.d (.int .i64) x5))) :: (sk 21 ([])))), sko 27 ([])⟩
def z1k.sx4 (y : Unit) : St := ⟨sk 27 ([]), sko 27 ([])⟩
def z1k.sr4 (z : Bool) : St := ⟨sk 4 (.v (.one (.b (.d .bool z))) :: (sk 22 ([]))), sko 27 ([])⟩
def z1k.S (lp : Nat) : Spec := { ats := [.v (.sl TWatch), .v (.sl TWatch)], rts := [.bool], F := fun x => z1k lp x.1 x.2.1 }
theorem z1k.t_b4 (lp : Nat) {R : Type} (N : St → Option R) (X : Out → St → Option R) (x0 : List Watch) (x1 : List Watch) (x5 : Int) : codeK (z1k.E lp) z1k.an lp (loopAt 4 (codeOf Tryz.f29)) (z1k.s4 x0 x1 x5) (lpK z1k.la4 N X) = z1k.b4 lp (fun x0 x1 x5 => N (z1k.s4 x0 x1 x5)) (fun y => X (.exit 0) (z1k.sx4 y)) (fun z => X .ret (z1k.sr4 z)) x0 x1 x5 := by kernel_rfl
theorem z1k.n_b4 (lp : Nat) {R S : Type} (N : List Watch → List Watch → Int → Option R) (X : Unit → Option R) (Q : Bool → Option R) (x0 : List Watch) (x1 : List Watch) (x5 : Int) (k : R → Option S) : obind (z1k.b4 lp N X Q x0 x1 x5) k = z1k.b4 lp (fun x0 x1 x5 => obind (N x0 x1 x5) k) (fun y => obind (X y) k) (fun z => obind (Q z) k) x0 x1 x5 := by
  unfold z1k.b4; simp only [obind_none, obind_some, obind_cond, obind_oif, obind_oget, obind_obind]
theorem z1k.k4 (lp : Nat) {R : Type} (K : Out → St → Option R) : ∀ (n : Nat) (x0 : List Watch) (x1 : List Watch) (x5 : Int), loopK z1k.la4 (fun σ K => codeK (z1k.E lp) z1k.an lp (loopAt 4 (codeOf Tryz.f29)) σ K) n (z1k.s4 x0 x1 x5) K = obind (z1k.l4 lp n x0 x1 x5) (leK 0 z1k.sr4 z1k.sx4 K) := by
  intro n
  induction n with
  | zero => intros; rfl
  | succ n ih =>
    intro x0 x1 x5
    rw [loopK_succ, z1k.t_b4, z1k.l4, z1k.n_b4]
    simp only [ih, obind_some, leK_ret, leK_brk]
theorem z1k.t_a4 (lp : Nat) (y : Unit) : kont (R := Bool) (z1k.E lp) z1k.an lp (finK (z1k.E lp) Tryz.f29 [.bool]) (stkAt 4 (codeOf Tryz.f29)) (.exit 0) (z1k.sx4 y) = z1k.a4 lp y := by kernel_rfl
theorem z1k.t_q4 (lp : Nat) (z : Bool) : kont (R := Bool) (z1k.E lp) z1k.an lp (finK (z1k.E lp) Tryz.f29 [.bool]) (stkAt 4 (codeOf Tryz.f29)) .ret (z1k.sr4 z) = z1k.q4 lp z := by kernel_rfl
theorem z1k.t_e (lp : Nat) (x0 : List Watch) (x1 : List Watch) : evalF (z1k.E lp) z1k.an lp Tryz.f29 [.v (.sl TWatch), .v (.sl TWatch)] [.bool] (x0, x1, ()) = z1k.e lp (fun x0 x1 x5 => loopK z1k.la4 (fun σ K => codeK (z1k.E lp) z1k.an lp (loopAt 4 (codeOf Tryz.f29)) σ K) lp (z1k.s4 x0 x1 x5) (kont (R := Bool) (z1k.E lp) z1k.an lp (finK (z1k.E lp) Tryz.f29 [.bool]) (stkAt 4 (codeOf Tryz.f29)))) x0 x1 := by kernel_rfl
theorem z1k.eq0 (lp : Nat) (x0 : List Watch) (x1 : List Watch) : evalF (z1k.E lp) z1k.an lp Tryz.f29 [.v (.sl TWatch), .v (.sl TWatch)] [.bool] (x0, x1, ()) = z1k lp x0 x1 := by
  rw [z1k.t_e]; unfold z1k
  simp only [leK_leF _ z1k.sr4 z1k.sx4, z1k.k4, z1k.t_a4, z1k.t_q4]
theorem z1k.eq (lp : Nat) (x : ADens [.v (.sl TWatch), .v (.sl TWatch)]) : evalF (z1k.E lp) z1k.an lp Tryz.f29 [.v (.sl TWatch), .v (.sl TWatch)] [.bool] x = (z1k.S lp).F x := z1k.eq0 lp x.1 x.2.1
theorem z1k.ok (lp : Nat) : Sound Tryz.prog 29 (z1k.S lp) := sound_of (E := z1k.E lp) (env_ok z0s tabEqs ⟨z67.ok lp, trivial⟩ trivial) mixed Tryz.func29 (by kernel_rfl) (c := codeOf Tryz.f29) (by kernel_rfl) (by kernel_rfl) z1k.an (fun x r h => ⟨lp, (z1k.eq lp x).trans h⟩)
def z78.E (lp : Nat) : Env := { tab := tab, fns := [(187, z1q.S lp)], ann := { own := [], ro := [2, 3] } }
def z78.an : An := { pre := [] }
def z78.S (lp : Nat) : Spec := { ats := [.v TOp, .v TOp], rts := [.bool], F := fun x => z78 lp x.1 x.2.1 }
theorem z78.eq (lp : Nat) (x : ADens [.v TOp, .v TOp]) : evalF (z78.E lp) z78.an lp Tryz.f132 [.v TOp, .v TOp] [.bool] x = (z78.S lp).F x := by kernel_rfl
theorem z78.ok (lp : Nat) : Sound Tryz.prog 132 (z78.S lp) := sound_of (E := z78.E lp) (env_ok z0s tabEqs ⟨z1q.ok lp, trivial⟩ trivial) mixed Tryz.func132 (by kernel_rfl) (c := codeOf Tryz.f132) (by kernel_rfl) (by kernel_rfl) z78.an (fun x r h => ⟨lp, (z78.eq lp x).trans h⟩)
def z15.la4 : LoopAn := { kn := { tms := [0, 1, 5] }, kx := {}, kr := { tms := [4] } }
def z15.E (lp : Nat) : Env := { tab := tab, fns := [], ann := { own := [], ro := [] } }
def z15.an : An := { loops := [(4, z15.la4)] }
def z15.s4 (x0 : List ByteArray) (x1 : List ByteArray) (x5 : Int) : St := ⟨.v (.one (.b (.d (.sl .str) x0))) :: .v (.one (.b (.d (.sl .str) x1))) :: (sk 3 (.v (.one (.b (.d (.int .i64) x5))) :: (sk 20 ([])))), sko 26 ([])⟩
def z15.sx4 (y : Unit) : St := ⟨sk 26 ([]), sko 26 ([])⟩
def z15.sr4 (z : Bool) : St := ⟨sk 4 (.v (.one (.b (.d .bool z))) :: (sk 21 ([]))), sko 26 ([])⟩
def z15.S (lp : Nat) : Spec := { ats := [.v (.sl .str), .v (.sl .str)], rts := [.bool], F := fun x => z15 lp x.1 x.2.1 }
theorem z15.t_b4 (lp : Nat) {R : Type} (N : St → Option R) (X : Out → St → Option R) (x0 : List ByteArray) (x1 : List ByteArray) (x5 : Int) : codeK (z15.E lp) z15.an lp (loopAt 4 (codeOf Tryz.f188)) (z15.s4 x0 x1 x5) (lpK z15.la4 N X) = z15.b4 lp (fun x0 x1 x5 => N (z15.s4 x0 x1 x5)) (fun y => X (.exit 0) (z15.sx4 y)) (fun z => X .ret (z15.sr4 z)) x0 x1 x5 := by kernel_rfl
theorem z15.n_b4 (lp : Nat) {R S : Type} (N : List ByteArray → List ByteArray → Int → Option R) (X : Unit → Option R) (Q : Bool → Option R) (x0 : List ByteArray) (x1 : List ByteArray) (x5 : Int) (k : R → Option S) : obind (z15.b4 lp N X Q x0 x1 x5) k = z15.b4 lp (fun x0 x1 x5 => obind (N x0 x1 x5) k) (fun y => obind (X y) k) (fun z => obind (Q z) k) x0 x1 x5 := by
  unfold z15.b4; simp only [obind_none, obind_some, obind_cond, obind_oif, obind_oget, obind_obind]
theorem z15.k4 (lp : Nat) {R : Type} (K : Out → St → Option R) : ∀ (n : Nat) (x0 : List ByteArray) (x1 : List ByteArray) (x5 : Int), loopK z15.la4 (fun σ K => codeK (z15.E lp) z15.an lp (loopAt 4 (codeOf Tryz.f188)) σ K) n (z15.s4 x0 x1 x5) K = obind (z15.l4 lp n x0 x1 x5) (leK 0 z15.sr4 z15.sx4 K) := by
  intro n
  induction n with
  | zero => intros; rfl
  | succ n ih =>
    intro x0 x1 x5
    rw [loopK_succ, z15.t_b4, z15.l4, z15.n_b4]
    simp only [ih, obind_some, leK_ret, leK_brk]
theorem z15.t_a4 (lp : Nat) (y : Unit) : kont (R := Bool) (z15.E lp) z15.an lp (finK (z15.E lp) Tryz.f188 [.bool]) (stkAt 4 (codeOf Tryz.f188)) (.exit 0) (z15.sx4 y) = z15.a4 lp y := by kernel_rfl
theorem z15.t_q4 (lp : Nat) (z : Bool) : kont (R := Bool) (z15.E lp) z15.an lp (finK (z15.E lp) Tryz.f188 [.bool]) (stkAt 4 (codeOf Tryz.f188)) .ret (z15.sr4 z) = z15.q4 lp z := by kernel_rfl
theorem z15.t_e (lp : Nat) (x0 : List ByteArray) (x1 : List ByteArray) : evalF (z15.E lp) z15.an lp Tryz.f188 [.v (.sl .str), .v (.sl .str)] [.bool] (x0, x1, ()) = z15.e lp (fun x0 x1 x5 => loopK z15.la4 (fun σ K => codeK (z15.E lp) z15.an lp (loopAt 4 (codeOf Tryz.f188)) σ K) lp (z15.s4 x0 x1 x5) (kont (R := Bool) (z15.E lp) z15.an lp (finK (z15.E lp) Tryz.f188 [.bool]) (stkAt 4 (codeOf Tryz.f188)))) x0 x1 := by kernel_rfl
theorem z15.eq0 (lp : Nat) (x0 : List ByteArray) (x1 : List ByteArray) : evalF (z15.E lp) z15.an lp Tryz.f188 [.v (.sl .str), .v (.sl .str)] [.bool] (x0, x1, ()) = z15 lp x0 x1 := by
  rw [z15.t_e]; unfold z15
  simp only [leK_leF _ z15.sr4 z15.sx4, z15.k4, z15.t_a4, z15.t_q4]
theorem z15.eq (lp : Nat) (x : ADens [.v (.sl .str), .v (.sl .str)]) : evalF (z15.E lp) z15.an lp Tryz.f188 [.v (.sl .str), .v (.sl .str)] [.bool] x = (z15.S lp).F x := z15.eq0 lp x.1 x.2.1
theorem z15.ok (lp : Nat) : Sound Tryz.prog 188 (z15.S lp) := sound_of (E := z15.E lp) (env_ok z0s tabEqs trivial trivial) mixed Tryz.func188 (by kernel_rfl) (c := codeOf Tryz.f188) (by kernel_rfl) (by kernel_rfl) z15.an (fun x r h => ⟨lp, (z15.eq lp x).trans h⟩)
def z5a.E (lp : Nat) : Env := { tab := tab, fns := [(188, z15.S lp), (130, z1a.S lp)], ann := { own := [], ro := [2, 3] } }
def z5a.an : An := { pre := [] }
def z5a.S (lp : Nat) : Spec := { ats := [.v TResult, .v TResult], rts := [.bool], F := fun x => z5a lp x.1 x.2.1 }
theorem z5a.eq (lp : Nat) (x : ADens [.v TResult, .v TResult]) : evalF (z5a.E lp) z5a.an lp Tryz.f133 [.v TResult, .v TResult] [.bool] x = (z5a.S lp).F x := by kernel_rfl
theorem z5a.ok (lp : Nat) : Sound Tryz.prog 133 (z5a.S lp) := sound_of (E := z5a.E lp) (env_ok z0s tabEqs ⟨z15.ok lp, z1a.ok lp, trivial⟩ trivial) mixed Tryz.func133 (by kernel_rfl) (c := codeOf Tryz.f133) (by kernel_rfl) (by kernel_rfl) z5a.an (fun x r h => ⟨lp, (z5a.eq lp x).trans h⟩)
def z5k.E (lp : Nat) : Env := { tab := tab, fns := [(132, z78.S lp), (133, z5a.S lp)], ann := { own := [], ro := [2, 3] } }
def z5k.an : An := { pre := [] }
def z5k.S (lp : Nat) : Spec := { ats := [.v TMoment, .v TMoment], rts := [.bool], F := fun x => z5k lp x.1 x.2.1 }
theorem z5k.eq (lp : Nat) (x : ADens [.v TMoment, .v TMoment]) : evalF (z5k.E lp) z5k.an lp Tryz.f73 [.v TMoment, .v TMoment] [.bool] x = (z5k.S lp).F x := by kernel_rfl
theorem z5k.ok (lp : Nat) : Sound Tryz.prog 73 (z5k.S lp) := sound_of (E := z5k.E lp) (env_ok z0s tabEqs ⟨z78.ok lp, z5a.ok lp, trivial⟩ trivial) mixed Tryz.func73 (by kernel_rfl) (c := codeOf Tryz.f73) (by kernel_rfl) (by kernel_rfl) z5k.an (fun x r h => ⟨lp, (z5k.eq lp x).trans h⟩)
def z12.la4 : LoopAn := { kn := { tms := [0, 1, 5] }, kx := {}, kr := { tms := [4] } }
def z12.E (lp : Nat) : Env := { tab := tab, fns := [(73, z5k.S lp)], ann := { own := [], ro := [] } }
def z12.an : An := { loops := [(4, z12.la4)] }
def z12.s4 (x0 : List Moment) (x1 : List Moment) (x5 : Int) : St := ⟨.v (.one (.b (.d (.sl TMoment) x0))) :: .v (.one (.b (.d (.sl TMoment) x1))) :: (sk 3 (.v (.one (.b (.d (.int .i64) x5))) :: (sk 21 ([])))), sko 27 ([])⟩
def z12.sx4 (y : Unit) : St := ⟨sk 27 ([]), sko 27 ([])⟩
def z12.sr4 (z : Bool) : St := ⟨sk 4 (.v (.one (.b (.d .bool z))) :: (sk 22 ([]))), sko 27 ([])⟩
def z12.S (lp : Nat) : Spec := { ats := [.v (.sl TMoment), .v (.sl TMoment)], rts := [.bool], F := fun x => z12 lp x.1 x.2.1 }
theorem z12.t_b4 (lp : Nat) {R : Type} (N : St → Option R) (X : Out → St → Option R) (x0 : List Moment) (x1 : List Moment) (x5 : Int) : codeK (z12.E lp) z12.an lp (loopAt 4 (codeOf Tryz.f30)) (z12.s4 x0 x1 x5) (lpK z12.la4 N X) = z12.b4 lp (fun x0 x1 x5 => N (z12.s4 x0 x1 x5)) (fun y => X (.exit 0) (z12.sx4 y)) (fun z => X .ret (z12.sr4 z)) x0 x1 x5 := by kernel_rfl
theorem z12.n_b4 (lp : Nat) {R S : Type} (N : List Moment → List Moment → Int → Option R) (X : Unit → Option R) (Q : Bool → Option R) (x0 : List Moment) (x1 : List Moment) (x5 : Int) (k : R → Option S) : obind (z12.b4 lp N X Q x0 x1 x5) k = z12.b4 lp (fun x0 x1 x5 => obind (N x0 x1 x5) k) (fun y => obind (X y) k) (fun z => obind (Q z) k) x0 x1 x5 := by
  unfold z12.b4; simp only [obind_none, obind_some, obind_cond, obind_oif, obind_oget, obind_obind]
theorem z12.k4 (lp : Nat) {R : Type} (K : Out → St → Option R) : ∀ (n : Nat) (x0 : List Moment) (x1 : List Moment) (x5 : Int), loopK z12.la4 (fun σ K => codeK (z12.E lp) z12.an lp (loopAt 4 (codeOf Tryz.f30)) σ K) n (z12.s4 x0 x1 x5) K = obind (z12.l4 lp n x0 x1 x5) (leK 0 z12.sr4 z12.sx4 K) := by
  intro n
  induction n with
  | zero => intros; rfl
  | succ n ih =>
    intro x0 x1 x5
    rw [loopK_succ, z12.t_b4, z12.l4, z12.n_b4]
    simp only [ih, obind_some, leK_ret, leK_brk]
theorem z12.t_a4 (lp : Nat) (y : Unit) : kont (R := Bool) (z12.E lp) z12.an lp (finK (z12.E lp) Tryz.f30 [.bool]) (stkAt 4 (codeOf Tryz.f30)) (.exit 0) (z12.sx4 y) = z12.a4 lp y := by kernel_rfl
theorem z12.t_q4 (lp : Nat) (z : Bool) : kont (R := Bool) (z12.E lp) z12.an lp (finK (z12.E lp) Tryz.f30 [.bool]) (stkAt 4 (codeOf Tryz.f30)) .ret (z12.sr4 z) = z12.q4 lp z := by kernel_rfl
theorem z12.t_e (lp : Nat) (x0 : List Moment) (x1 : List Moment) : evalF (z12.E lp) z12.an lp Tryz.f30 [.v (.sl TMoment), .v (.sl TMoment)] [.bool] (x0, x1, ()) = z12.e lp (fun x0 x1 x5 => loopK z12.la4 (fun σ K => codeK (z12.E lp) z12.an lp (loopAt 4 (codeOf Tryz.f30)) σ K) lp (z12.s4 x0 x1 x5) (kont (R := Bool) (z12.E lp) z12.an lp (finK (z12.E lp) Tryz.f30 [.bool]) (stkAt 4 (codeOf Tryz.f30)))) x0 x1 := by kernel_rfl
theorem z12.eq0 (lp : Nat) (x0 : List Moment) (x1 : List Moment) : evalF (z12.E lp) z12.an lp Tryz.f30 [.v (.sl TMoment), .v (.sl TMoment)] [.bool] (x0, x1, ()) = z12 lp x0 x1 := by
  rw [z12.t_e]; unfold z12
  simp only [leK_leF _ z12.sr4 z12.sx4, z12.k4, z12.t_a4, z12.t_q4]
theorem z12.eq (lp : Nat) (x : ADens [.v (.sl TMoment), .v (.sl TMoment)]) : evalF (z12.E lp) z12.an lp Tryz.f30 [.v (.sl TMoment), .v (.sl TMoment)] [.bool] x = (z12.S lp).F x := z12.eq0 lp x.1 x.2.1
theorem z12.ok (lp : Nat) : Sound Tryz.prog 30 (z12.S lp) := sound_of (E := z12.E lp) (env_ok z0s tabEqs ⟨z5k.ok lp, trivial⟩ trivial) mixed Tryz.func30 (by kernel_rfl) (c := codeOf Tryz.f30) (by kernel_rfl) (by kernel_rfl) z12.an (fun x r h => ⟨lp, (z12.eq lp x).trans h⟩)
def z5r.E (lp : Nat) : Env := { tab := tab, fns := [(27, z6k.S lp), (28, z16.S lp), (29, z1k.S lp), (30, z12.S lp)], ann := { own := [], ro := [2, 3] } }
def z5r.an : An := { pre := [] }
def z5r.S (lp : Nat) : Spec := { ats := [.v TWorld, .v TWorld], rts := [.bool], F := fun x => z5r lp x.1 x.2.1 }
theorem z5r.eq (lp : Nat) (x : ADens [.v TWorld, .v TWorld]) : evalF (z5r.E lp) z5r.an lp Tryz.f8 [.v TWorld, .v TWorld] [.bool] x = (z5r.S lp).F x := by kernel_rfl
theorem z5r.ok (lp : Nat) : Sound Tryz.prog 8 (z5r.S lp) := sound_of (E := z5r.E lp) (env_ok z0s tabEqs ⟨z6k.ok lp, z16.ok lp, z1k.ok lp, z12.ok lp, trivial⟩ trivial) mixed Tryz.func8 (by kernel_rfl) (c := codeOf Tryz.f8) (by kernel_rfl) (by kernel_rfl) z5r.an (fun x r h => ⟨lp, (z5r.eq lp x).trans h⟩)
def z3b.E (lp : Nat) : Env := { tab := tab, fns := [(4, z5o.S lp), (6, z48.S lp), (5, z4p.S lp), (7, z4r.S lp), (8, z5r.S lp)], ann := { own := [], ro := [2, 3] } }
def z3b.an : An := { pre := [] }
def z3b.S (lp : Nat) : Spec := { ats := [.v TWorld, .v TWorld], rts := [.bool], F := fun x => z3b lp x.1 x.2.1 }
theorem z3b.eq (lp : Nat) (x : ADens [.v TWorld, .v TWorld]) : evalF (z3b.E lp) z3b.an lp Tryz.f3 [.v TWorld, .v TWorld] [.bool] x = (z3b.S lp).F x := by kernel_rfl
theorem z3b.ok (lp : Nat) : Sound Tryz.prog 3 (z3b.S lp) := sound_of (E := z3b.E lp) (env_ok z0s tabEqs ⟨z5o.ok lp, z48.ok lp, z4p.ok lp, z4r.ok lp, z5r.ok lp, trivial⟩ trivial) mixed Tryz.func3 (by kernel_rfl) (c := codeOf Tryz.f3) (by kernel_rfl) (by kernel_rfl) z3b.an (fun x r h => ⟨lp, (z3b.eq lp x).trans h⟩)
end Go.Vx

end
section
set_option linter.unusedVariables false
namespace Go.Vx
open Go Go.Proofs Go.RowKit Go.Lib
theorem z8s (x0 : Den TWorld) (x1 : Den TWorld) (w0 : Wf TWorld x0) (w1 : Wf TWorld x1) : ∃ lp, (z3b.S lp).F (x0, x1, ()) = some true :=
  ⟨LP, z9i x0 x1 w0 w1⟩
end Go.Vx

end
