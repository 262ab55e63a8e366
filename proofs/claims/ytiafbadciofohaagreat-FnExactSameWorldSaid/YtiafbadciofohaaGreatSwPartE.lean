/- Merged out of smaller texts. -/
import Derived.Test.YtiafbadciofohaaGreatSwPartD
section
set_option linter.unusedVariables false
set_option linter.unusedSimpArgs false
set_option maxRecDepth 100000
namespace Go.Vx
open Go Go.Proofs Go.Shelf Go.Lib Go.RowKit
def z21.la3 : LoopAn := { kn := { tms := [0, 3, 4], obs := [7] }, kx := { tms := [3], obs := [7] }, kr := {} }
def z21.E (lp : Nat) : Env := { tab := tab, fns := [(193, z6p.S)], ann := { own := [], ro := [] } }
def z21.an : An := { loops := [(3, z21.la3)] }
def z21.s3 (x0 : List Edit) (x4 : Int) (xo7 : List Edit) : St := ⟨.v (.one (.b (.d (.sl TEdit) x0))) :: (sk 2 (.v (.one (.row 7 0)) :: .v (.one (.b (.d (.int .i64) x4))) :: (sk 18 ([])))), sko 7 (some (.row 168 TEdit xo7 0) :: (sko 15 ([])))⟩
def z21.sx3 (y : (List Edit)) : St := ⟨sk 3 (.v (.one (.row 7 0)) :: (sk 19 ([]))), sko 7 (some (.row 168 TEdit y 0) :: (sko 15 ([])))⟩
def z21.sr3 (z : Empty) : St := z.elim
def z21.S (lp : Nat) : Spec := { ats := [.v (.sl TEdit)], rts := [(.sl TEdit)], F := fun x => z21 lp x.1 }
theorem z21.t_b3 (lp : Nat) {R : Type} (N : St → Option R) (X : Out → St → Option R) (x0 : List Edit) (x4 : Int) (xo7 : List Edit) : codeK (z21.E lp) z21.an lp (loopAt 3 (codeOf Tryz.f152)) (z21.s3 x0 x4 xo7) (lpK z21.la3 N X) = z21.b3 lp (fun x0 x4 xo7 => N (z21.s3 x0 x4 xo7)) (fun y => X (.exit 0) (z21.sx3 y)) (fun z => X .ret (z21.sr3 z)) x0 x4 xo7 := by kernel_rfl
theorem z21.n_b3 (lp : Nat) {R S : Type} (N : List Edit → Int → List Edit → Option R) (X : ((List Edit)) → Option R) (Q : Empty → Option R) (x0 : List Edit) (x4 : Int) (xo7 : List Edit) (k : R → Option S) : obind (z21.b3 lp N X Q x0 x4 xo7) k = z21.b3 lp (fun x0 x4 xo7 => obind (N x0 x4 xo7) k) (fun y => obind (X y) k) (fun z => obind (Q z) k) x0 x4 xo7 := by
  unfold z21.b3; simp only [obind_none, obind_some, obind_cond, obind_oif, obind_oget, obind_obind]
theorem z21.k3 (lp : Nat) {R : Type} (K : Out → St → Option R) : ∀ (n : Nat) (x0 : List Edit) (x4 : Int) (xo7 : List Edit), loopK z21.la3 (fun σ K => codeK (z21.E lp) z21.an lp (loopAt 3 (codeOf Tryz.f152)) σ K) n (z21.s3 x0 x4 xo7) K = obind (z21.l3 lp n x0 x4 xo7) (leK 0 z21.sr3 z21.sx3 K) := by
  intro n
  induction n with
  | zero => intros; rfl
  | succ n ih =>
    intro x0 x4 xo7
    rw [loopK_succ, z21.t_b3, z21.l3, z21.n_b3]
    simp only [ih, obind_some, leK_ret, leK_brk]
theorem z21.t_a3 (lp : Nat) (y : (List Edit)) : kont (R := (List Edit)) (z21.E lp) z21.an lp (finK (z21.E lp) Tryz.f152 [(.sl TEdit)]) (stkAt 3 (codeOf Tryz.f152)) (.exit 0) (z21.sx3 y) = z21.a3 lp y := by kernel_rfl
theorem z21.t_e (lp : Nat) (x0 : List Edit) : evalF (z21.E lp) z21.an lp Tryz.f152 [.v (.sl TEdit)] [(.sl TEdit)] (x0, ()) = z21.e lp (fun x0 x4 xo7 => loopK z21.la3 (fun σ K => codeK (z21.E lp) z21.an lp (loopAt 3 (codeOf Tryz.f152)) σ K) lp (z21.s3 x0 x4 xo7) (kont (R := (List Edit)) (z21.E lp) z21.an lp (finK (z21.E lp) Tryz.f152 [(.sl TEdit)]) (stkAt 3 (codeOf Tryz.f152)))) x0 := by kernel_rfl
theorem z21.eq0 (lp : Nat) (x0 : List Edit) : evalF (z21.E lp) z21.an lp Tryz.f152 [.v (.sl TEdit)] [(.sl TEdit)] (x0, ()) = z21 lp x0 := by
  rw [z21.t_e]; unfold z21
  simp only [leK_ret0 _ z21.sr3 z21.sx3, z21.k3, z21.t_a3]
theorem z21.eq (lp : Nat) (x : ADens [.v (.sl TEdit)]) : evalF (z21.E lp) z21.an lp Tryz.f152 [.v (.sl TEdit)] [(.sl TEdit)] x = (z21.S lp).F x := z21.eq0 lp x.1
theorem z21.ok (lp : Nat) : Sound Tryz.prog 152 (z21.S lp) := sound_of (E := z21.E lp) (env_ok z0s tabEqs ⟨z6p.ok, trivial⟩ trivial) mixed Tryz.func152 (by kernel_rfl) (c := codeOf Tryz.f152) (by kernel_rfl) (by kernel_rfl) z21.an (fun x r h => ⟨lp, (z21.eq lp x).trans h⟩)
def z6h.E (lp : Nat) : Env := { tab := tab, fns := [(152, z21.S lp)], ann := { own := [], ro := [1] } }
def z6h.an : An := { pre := [] }
def z6h.S (lp : Nat) : Spec := { ats := [.v TWish], rts := [TWish], F := fun x => z6h lp x.1 }
theorem z6h.eq (lp : Nat) (x : ADens [.v TWish]) : evalF (z6h.E lp) z6h.an lp Tryz.f149 [.v TWish] [TWish] x = (z6h.S lp).F x := by kernel_rfl
theorem z6h.ok (lp : Nat) : Sound Tryz.prog 149 (z6h.S lp) := sound_of (E := z6h.E lp) (env_ok z0s tabEqs ⟨z21.ok lp, trivial⟩ trivial) mixed Tryz.func149 (by kernel_rfl) (c := codeOf Tryz.f149) (by kernel_rfl) (by kernel_rfl) z6h.an (fun x r h => ⟨lp, (z6h.eq lp x).trans h⟩)
def z27.la3 : LoopAn := { kn := { tms := [0, 3, 4], obs := [7] }, kx := { tms := [3], obs := [7] }, kr := {} }
def z27.E (lp : Nat) : Env := { tab := tab, fns := [(149, z6h.S lp)], ann := { own := [], ro := [] } }
def z27.an : An := { loops := [(3, z27.la3)] }
def z27.s3 (x0 : List Wish) (x4 : Int) (xo7 : List Wish) : St := ⟨.v (.one (.b (.d (.sl TWish) x0))) :: (sk 2 (.v (.one (.row 7 0)) :: .v (.one (.b (.d (.int .i64) x4))) :: (sk 18 ([])))), sko 7 (some (.row 118 TWish xo7 0) :: (sko 15 ([])))⟩
def z27.sx3 (y : (List Wish)) : St := ⟨sk 3 (.v (.one (.row 7 0)) :: (sk 19 ([]))), sko 7 (some (.row 118 TWish y 0) :: (sko 15 ([])))⟩
def z27.sr3 (z : Empty) : St := z.elim
def z27.S (lp : Nat) : Spec := { ats := [.v (.sl TWish)], rts := [(.sl TWish)], F := fun x => z27 lp x.1 }
theorem z27.t_b3 (lp : Nat) {R : Type} (N : St → Option R) (X : Out → St → Option R) (x0 : List Wish) (x4 : Int) (xo7 : List Wish) : codeK (z27.E lp) z27.an lp (loopAt 3 (codeOf Tryz.f97)) (z27.s3 x0 x4 xo7) (lpK z27.la3 N X) = z27.b3 lp (fun x0 x4 xo7 => N (z27.s3 x0 x4 xo7)) (fun y => X (.exit 0) (z27.sx3 y)) (fun z => X .ret (z27.sr3 z)) x0 x4 xo7 := by kernel_rfl
theorem z27.n_b3 (lp : Nat) {R S : Type} (N : List Wish → Int → List Wish → Option R) (X : ((List Wish)) → Option R) (Q : Empty → Option R) (x0 : List Wish) (x4 : Int) (xo7 : List Wish) (k : R → Option S) : obind (z27.b3 lp N X Q x0 x4 xo7) k = z27.b3 lp (fun x0 x4 xo7 => obind (N x0 x4 xo7) k) (fun y => obind (X y) k) (fun z => obind (Q z) k) x0 x4 xo7 := by
  unfold z27.b3; simp only [obind_none, obind_some, obind_cond, obind_oif, obind_oget, obind_obind]
theorem z27.k3 (lp : Nat) {R : Type} (K : Out → St → Option R) : ∀ (n : Nat) (x0 : List Wish) (x4 : Int) (xo7 : List Wish), loopK z27.la3 (fun σ K => codeK (z27.E lp) z27.an lp (loopAt 3 (codeOf Tryz.f97)) σ K) n (z27.s3 x0 x4 xo7) K = obind (z27.l3 lp n x0 x4 xo7) (leK 0 z27.sr3 z27.sx3 K) := by
  intro n
  induction n with
  | zero => intros; rfl
  | succ n ih =>
    intro x0 x4 xo7
    rw [loopK_succ, z27.t_b3, z27.l3, z27.n_b3]
    simp only [ih, obind_some, leK_ret, leK_brk]
theorem z27.t_a3 (lp : Nat) (y : (List Wish)) : kont (R := (List Wish)) (z27.E lp) z27.an lp (finK (z27.E lp) Tryz.f97 [(.sl TWish)]) (stkAt 3 (codeOf Tryz.f97)) (.exit 0) (z27.sx3 y) = z27.a3 lp y := by kernel_rfl
theorem z27.t_e (lp : Nat) (x0 : List Wish) : evalF (z27.E lp) z27.an lp Tryz.f97 [.v (.sl TWish)] [(.sl TWish)] (x0, ()) = z27.e lp (fun x0 x4 xo7 => loopK z27.la3 (fun σ K => codeK (z27.E lp) z27.an lp (loopAt 3 (codeOf Tryz.f97)) σ K) lp (z27.s3 x0 x4 xo7) (kont (R := (List Wish)) (z27.E lp) z27.an lp (finK (z27.E lp) Tryz.f97 [(.sl TWish)]) (stkAt 3 (codeOf Tryz.f97)))) x0 := by kernel_rfl
theorem z27.eq0 (lp : Nat) (x0 : List Wish) : evalF (z27.E lp) z27.an lp Tryz.f97 [.v (.sl TWish)] [(.sl TWish)] (x0, ()) = z27 lp x0 := by
  rw [z27.t_e]; unfold z27
  simp only [leK_ret0 _ z27.sr3 z27.sx3, z27.k3, z27.t_a3]
theorem z27.eq (lp : Nat) (x : ADens [.v (.sl TWish)]) : evalF (z27.E lp) z27.an lp Tryz.f97 [.v (.sl TWish)] [(.sl TWish)] x = (z27.S lp).F x := z27.eq0 lp x.1
theorem z27.ok (lp : Nat) : Sound Tryz.prog 97 (z27.S lp) := sound_of (E := z27.E lp) (env_ok z0s tabEqs ⟨z6h.ok lp, trivial⟩ trivial) mixed Tryz.func97 (by kernel_rfl) (c := codeOf Tryz.f97) (by kernel_rfl) (by kernel_rfl) z27.an (fun x r h => ⟨lp, (z27.eq lp x).trans h⟩)
def z5e.E (lp : Nat) : Env := { tab := tab, fns := [(97, z27.S lp), (98, z1l.S lp)], ann := { own := [], ro := [1] } }
def z5e.an : An := { pre := [] }
def z5e.S (lp : Nat) : Spec := { ats := [.v TClient], rts := [TClient], F := fun x => z5e lp x.1 }
theorem z5e.eq (lp : Nat) (x : ADens [.v TClient]) : evalF (z5e.E lp) z5e.an lp Tryz.f48 [.v TClient] [TClient] x = (z5e.S lp).F x := by kernel_rfl
theorem z5e.ok (lp : Nat) : Sound Tryz.prog 48 (z5e.S lp) := sound_of (E := z5e.E lp) (env_ok z0s tabEqs ⟨z27.ok lp, z1l.ok lp, trivial⟩ trivial) mixed Tryz.func48 (by kernel_rfl) (c := codeOf Tryz.f48) (by kernel_rfl) (by kernel_rfl) z5e.an (fun x r h => ⟨lp, (z5e.eq lp x).trans h⟩)
def z1f.la3 : LoopAn := { kn := { tms := [0, 3, 4], obs := [7] }, kx := { tms := [3], obs := [7] }, kr := {} }
def z1f.E (lp : Nat) : Env := { tab := tab, fns := [(48, z5e.S lp)], ann := { own := [], ro := [] } }
def z1f.an : An := { loops := [(3, z1f.la3)] }
def z1f.s3 (x0 : List Client) (x4 : Int) (xo7 : List Client) : St := ⟨.v (.one (.b (.d (.sl TClient) x0))) :: (sk 2 (.v (.one (.row 7 0)) :: .v (.one (.b (.d (.int .i64) x4))) :: (sk 18 ([])))), sko 7 (some (.row 58 TClient xo7 0) :: (sko 15 ([])))⟩
def z1f.sx3 (y : (List Client)) : St := ⟨sk 3 (.v (.one (.row 7 0)) :: (sk 19 ([]))), sko 7 (some (.row 58 TClient y 0) :: (sko 15 ([])))⟩
def z1f.sr3 (z : Empty) : St := z.elim
def z1f.S (lp : Nat) : Spec := { ats := [.v (.sl TClient)], rts := [(.sl TClient)], F := fun x => z1f lp x.1 }
theorem z1f.t_b3 (lp : Nat) {R : Type} (N : St → Option R) (X : Out → St → Option R) (x0 : List Client) (x4 : Int) (xo7 : List Client) : codeK (z1f.E lp) z1f.an lp (loopAt 3 (codeOf Tryz.f16)) (z1f.s3 x0 x4 xo7) (lpK z1f.la3 N X) = z1f.b3 lp (fun x0 x4 xo7 => N (z1f.s3 x0 x4 xo7)) (fun y => X (.exit 0) (z1f.sx3 y)) (fun z => X .ret (z1f.sr3 z)) x0 x4 xo7 := by kernel_rfl
theorem z1f.n_b3 (lp : Nat) {R S : Type} (N : List Client → Int → List Client → Option R) (X : ((List Client)) → Option R) (Q : Empty → Option R) (x0 : List Client) (x4 : Int) (xo7 : List Client) (k : R → Option S) : obind (z1f.b3 lp N X Q x0 x4 xo7) k = z1f.b3 lp (fun x0 x4 xo7 => obind (N x0 x4 xo7) k) (fun y => obind (X y) k) (fun z => obind (Q z) k) x0 x4 xo7 := by
  unfold z1f.b3; simp only [obind_none, obind_some, obind_cond, obind_oif, obind_oget, obind_obind]
theorem z1f.k3 (lp : Nat) {R : Type} (K : Out → St → Option R) : ∀ (n : Nat) (x0 : List Client) (x4 : Int) (xo7 : List Client), loopK z1f.la3 (fun σ K => codeK (z1f.E lp) z1f.an lp (loopAt 3 (codeOf Tryz.f16)) σ K) n (z1f.s3 x0 x4 xo7) K = obind (z1f.l3 lp n x0 x4 xo7) (leK 0 z1f.sr3 z1f.sx3 K) := by
  intro n
  induction n with
  | zero => intros; rfl
  | succ n ih =>
    intro x0 x4 xo7
    rw [loopK_succ, z1f.t_b3, z1f.l3, z1f.n_b3]
    simp only [ih, obind_some, leK_ret, leK_brk]
theorem z1f.t_a3 (lp : Nat) (y : (List Client)) : kont (R := (List Client)) (z1f.E lp) z1f.an lp (finK (z1f.E lp) Tryz.f16 [(.sl TClient)]) (stkAt 3 (codeOf Tryz.f16)) (.exit 0) (z1f.sx3 y) = z1f.a3 lp y := by kernel_rfl
theorem z1f.t_e (lp : Nat) (x0 : List Client) : evalF (z1f.E lp) z1f.an lp Tryz.f16 [.v (.sl TClient)] [(.sl TClient)] (x0, ()) = z1f.e lp (fun x0 x4 xo7 => loopK z1f.la3 (fun σ K => codeK (z1f.E lp) z1f.an lp (loopAt 3 (codeOf Tryz.f16)) σ K) lp (z1f.s3 x0 x4 xo7) (kont (R := (List Client)) (z1f.E lp) z1f.an lp (finK (z1f.E lp) Tryz.f16 [(.sl TClient)]) (stkAt 3 (codeOf Tryz.f16)))) x0 := by kernel_rfl
theorem z1f.eq0 (lp : Nat) (x0 : List Client) : evalF (z1f.E lp) z1f.an lp Tryz.f16 [.v (.sl TClient)] [(.sl TClient)] (x0, ()) = z1f lp x0 := by
  rw [z1f.t_e]; unfold z1f
  simp only [leK_ret0 _ z1f.sr3 z1f.sx3, z1f.k3, z1f.t_a3]
theorem z1f.eq (lp : Nat) (x : ADens [.v (.sl TClient)]) : evalF (z1f.E lp) z1f.an lp Tryz.f16 [.v (.sl TClient)] [(.sl TClient)] x = (z1f.S lp).F x := z1f.eq0 lp x.1
theorem z1f.ok (lp : Nat) : Sound Tryz.prog 16 (z1f.S lp) := sound_of (E := z1f.E lp) (env_ok z0s tabEqs ⟨z5e.ok lp, trivial⟩ trivial) mixed Tryz.func16 (by kernel_rfl) (c := codeOf Tryz.f16) (by kernel_rfl) (by kernel_rfl) z1f.an (fun x r h => ⟨lp, (z1f.eq lp x).trans h⟩)
def z62.E : Env := { tab := tab, fns := [], ann := { own := [], ro := [1] } }
def z62.an : An := { pre := [] }
def z62.S : Spec := { ats := [.v TEvent], rts := [TEvent], F := fun x => z62 x.1 }
theorem z62.eq (lp : Nat) (x : ADens [.v TEvent]) : evalF (z62.E) z62.an lp Tryz.f151 [.v TEvent] [TEvent] x = (z62.S).F x := by kernel_rfl
theorem z62.ok : Sound Tryz.prog 151 (z62.S) := sound_of (E := z62.E) (env_ok z0s tabEqs trivial trivial) mixed Tryz.func151 (by kernel_rfl) (c := codeOf Tryz.f151) (by kernel_rfl) (by kernel_rfl) z62.an (fun x r h => ⟨0, (z62.eq 0 x).trans h⟩)
def z1u.la3 : LoopAn := { kn := { tms := [0, 3, 4], obs := [7] }, kx := { tms := [3], obs := [7] }, kr := {} }
def z1u.E (lp : Nat) : Env := { tab := tab, fns := [(151, z62.S)], ann := { own := [], ro := [] } }
def z1u.an : An := { loops := [(3, z1u.la3)] }
def z1u.s3 (x0 : List Event) (x4 : Int) (xo7 : List Event) : St := ⟨.v (.one (.b (.d (.sl TEvent) x0))) :: (sk 2 (.v (.one (.row 7 0)) :: .v (.one (.b (.d (.int .i64) x4))) :: (sk 18 ([])))), sko 7 (some (.row 125 TEvent xo7 0) :: (sko 15 ([])))⟩
def z1u.sx3 (y : (List Event)) : St := ⟨sk 3 (.v (.one (.row 7 0)) :: (sk 19 ([]))), sko 7 (some (.row 125 TEvent y 0) :: (sko 15 ([])))⟩
def z1u.sr3 (z : Empty) : St := z.elim
def z1u.S (lp : Nat) : Spec := { ats := [.v (.sl TEvent)], rts := [(.sl TEvent)], F := fun x => z1u lp x.1 }
theorem z1u.t_b3 (lp : Nat) {R : Type} (N : St → Option R) (X : Out → St → Option R) (x0 : List Event) (x4 : Int) (xo7 : List Event) : codeK (z1u.E lp) z1u.an lp (loopAt 3 (codeOf Tryz.f99)) (z1u.s3 x0 x4 xo7) (lpK z1u.la3 N X) = z1u.b3 lp (fun x0 x4 xo7 => N (z1u.s3 x0 x4 xo7)) (fun y => X (.exit 0) (z1u.sx3 y)) (fun z => X .ret (z1u.sr3 z)) x0 x4 xo7 := by kernel_rfl
theorem z1u.n_b3 (lp : Nat) {R S : Type} (N : List Event → Int → List Event → Option R) (X : ((List Event)) → Option R) (Q : Empty → Option R) (x0 : List Event) (x4 : Int) (xo7 : List Event) (k : R → Option S) : obind (z1u.b3 lp N X Q x0 x4 xo7) k = z1u.b3 lp (fun x0 x4 xo7 => obind (N x0 x4 xo7) k) (fun y => obind (X y) k) (fun z => obind (Q z) k) x0 x4 xo7 := by
  unfold z1u.b3; simp only [obind_none, obind_some, obind_cond, obind_oif, obind_oget, obind_obind]
theorem z1u.k3 (lp : Nat) {R : Type} (K : Out → St → Option R) : ∀ (n : Nat) (x0 : List Event) (x4 : Int) (xo7 : List Event), loopK z1u.la3 (fun σ K => codeK (z1u.E lp) z1u.an lp (loopAt 3 (codeOf Tryz.f99)) σ K) n (z1u.s3 x0 x4 xo7) K = obind (z1u.l3 lp n x0 x4 xo7) (leK 0 z1u.sr3 z1u.sx3 K) := by
  intro n
  induction n with
  | zero => intros; rfl
  | succ n ih =>
    intro x0 x4 xo7
    rw [loopK_succ, z1u.t_b3, z1u.l3, z1u.n_b3]
    simp only [ih, obind_some, leK_ret, leK_brk]
theorem z1u.t_a3 (lp : Nat) (y : (List Event)) : kont (R := (List Event)) (z1u.E lp) z1u.an lp (finK (z1u.E lp) Tryz.f99 [(.sl TEvent)]) (stkAt 3 (codeOf Tryz.f99)) (.exit 0) (z1u.sx3 y) = z1u.a3 lp y := by kernel_rfl
theorem z1u.t_e (lp : Nat) (x0 : List Event) : evalF (z1u.E lp) z1u.an lp Tryz.f99 [.v (.sl TEvent)] [(.sl TEvent)] (x0, ()) = z1u.e lp (fun x0 x4 xo7 => loopK z1u.la3 (fun σ K => codeK (z1u.E lp) z1u.an lp (loopAt 3 (codeOf Tryz.f99)) σ K) lp (z1u.s3 x0 x4 xo7) (kont (R := (List Event)) (z1u.E lp) z1u.an lp (finK (z1u.E lp) Tryz.f99 [(.sl TEvent)]) (stkAt 3 (codeOf Tryz.f99)))) x0 := by kernel_rfl
theorem z1u.eq0 (lp : Nat) (x0 : List Event) : evalF (z1u.E lp) z1u.an lp Tryz.f99 [.v (.sl TEvent)] [(.sl TEvent)] (x0, ()) = z1u lp x0 := by
  rw [z1u.t_e]; unfold z1u
  simp only [leK_ret0 _ z1u.sr3 z1u.sx3, z1u.k3, z1u.t_a3]
theorem z1u.eq (lp : Nat) (x : ADens [.v (.sl TEvent)]) : evalF (z1u.E lp) z1u.an lp Tryz.f99 [.v (.sl TEvent)] [(.sl TEvent)] x = (z1u.S lp).F x := z1u.eq0 lp x.1
theorem z1u.ok (lp : Nat) : Sound Tryz.prog 99 (z1u.S lp) := sound_of (E := z1u.E lp) (env_ok z0s tabEqs ⟨z62.ok, trivial⟩ trivial) mixed Tryz.func99 (by kernel_rfl) (c := codeOf Tryz.f99) (by kernel_rfl) (by kernel_rfl) z1u.an (fun x r h => ⟨lp, (z1u.eq lp x).trans h⟩)
def z5x.E (lp : Nat) : Env := { tab := tab, fns := [(99, z1u.S lp)], ann := { own := [], ro := [1] } }
def z5x.an : An := { pre := [] }
def z5x.S (lp : Nat) : Spec := { ats := [.v TWatch], rts := [TWatch], F := fun x => z5x lp x.1 }
theorem z5x.eq (lp : Nat) (x : ADens [.v TWatch]) : evalF (z5x.E lp) z5x.an lp Tryz.f49 [.v TWatch] [TWatch] x = (z5x.S lp).F x := by kernel_rfl
theorem z5x.ok (lp : Nat) : Sound Tryz.prog 49 (z5x.S lp) := sound_of (E := z5x.E lp) (env_ok z0s tabEqs ⟨z1u.ok lp, trivial⟩ trivial) mixed Tryz.func49 (by kernel_rfl) (c := codeOf Tryz.f49) (by kernel_rfl) (by kernel_rfl) z5x.an (fun x r h => ⟨lp, (z5x.eq lp x).trans h⟩)
def z1t.la3 : LoopAn := { kn := { tms := [0, 3, 4], obs := [7] }, kx := { tms := [3], obs := [7] }, kr := {} }
def z1t.E (lp : Nat) : Env := { tab := tab, fns := [(49, z5x.S lp)], ann := { own := [], ro := [] } }
def z1t.an : An := { loops := [(3, z1t.la3)] }
def z1t.s3 (x0 : List Watch) (x4 : Int) (xo7 : List Watch) : St := ⟨.v (.one (.b (.d (.sl TWatch) x0))) :: (sk 2 (.v (.one (.row 7 0)) :: .v (.one (.b (.d (.int .i64) x4))) :: (sk 18 ([])))), sko 7 (some (.row 63 TWatch xo7 0) :: (sko 15 ([])))⟩
def z1t.sx3 (y : (List Watch)) : St := ⟨sk 3 (.v (.one (.row 7 0)) :: (sk 19 ([]))), sko 7 (some (.row 63 TWatch y 0) :: (sko 15 ([])))⟩
def z1t.sr3 (z : Empty) : St := z.elim
def z1t.S (lp : Nat) : Spec := { ats := [.v (.sl TWatch)], rts := [(.sl TWatch)], F := fun x => z1t lp x.1 }
theorem z1t.t_b3 (lp : Nat) {R : Type} (N : St → Option R) (X : Out → St → Option R) (x0 : List Watch) (x4 : Int) (xo7 : List Watch) : codeK (z1t.E lp) z1t.an lp (loopAt 3 (codeOf Tryz.f17)) (z1t.s3 x0 x4 xo7) (lpK z1t.la3 N X) = z1t.b3 lp (fun x0 x4 xo7 => N (z1t.s3 x0 x4 xo7)) (fun y => X (.exit 0) (z1t.sx3 y)) (fun z => X .ret (z1t.sr3 z)) x0 x4 xo7 := by kernel_rfl
theorem z1t.n_b3 (lp : Nat) {R S : Type} (N : List Watch → Int → List Watch → Option R) (X : ((List Watch)) → Option R) (Q : Empty → Option R) (x0 : List Watch) (x4 : Int) (xo7 : List Watch) (k : R → Option S) : obind (z1t.b3 lp N X Q x0 x4 xo7) k = z1t.b3 lp (fun x0 x4 xo7 => obind (N x0 x4 xo7) k) (fun y => obind (X y) k) (fun z => obind (Q z) k) x0 x4 xo7 := by
  unfold z1t.b3; simp only [obind_none, obind_some, obind_cond, obind_oif, obind_oget, obind_obind]
theorem z1t.k3 (lp : Nat) {R : Type} (K : Out → St → Option R) : ∀ (n : Nat) (x0 : List Watch) (x4 : Int) (xo7 : List Watch), loopK z1t.la3 (fun σ K => codeK (z1t.E lp) z1t.an lp (loopAt 3 (codeOf Tryz.f17)) σ K) n (z1t.s3 x0 x4 xo7) K = obind (z1t.l3 lp n x0 x4 xo7) (leK 0 z1t.sr3 z1t.sx3 K) := by
  intro n
  induction n with
  | zero => intros; rfl
  | succ n ih =>
    intro x0 x4 xo7
    rw [loopK_succ, z1t.t_b3, z1t.l3, z1t.n_b3]
    simp only [ih, obind_some, leK_ret, leK_brk]
theorem z1t.t_a3 (lp : Nat) (y : (List Watch)) : kont (R := (List Watch)) (z1t.E lp) z1t.an lp (finK (z1t.E lp) Tryz.f17 [(.sl TWatch)]) (stkAt 3 (codeOf Tryz.f17)) (.exit 0) (z1t.sx3 y) = z1t.a3 lp y := by kernel_rfl
theorem z1t.t_e (lp : Nat) (x0 : List Watch) : evalF (z1t.E lp) z1t.an lp Tryz.f17 [.v (.sl TWatch)] [(.sl TWatch)] (x0, ()) = z1t.e lp (fun x0 x4 xo7 => loopK z1t.la3 (fun σ K => codeK (z1t.E lp) z1t.an lp (loopAt 3 (codeOf Tryz.f17)) σ K) lp (z1t.s3 x0 x4 xo7) (kont (R := (List Watch)) (z1t.E lp) z1t.an lp (finK (z1t.E lp) Tryz.f17 [(.sl TWatch)]) (stkAt 3 (codeOf Tryz.f17)))) x0 := by kernel_rfl
theorem z1t.eq0 (lp : Nat) (x0 : List Watch) : evalF (z1t.E lp) z1t.an lp Tryz.f17 [.v (.sl TWatch)] [(.sl TWatch)] (x0, ()) = z1t lp x0 := by
  rw [z1t.t_e]; unfold z1t
  simp only [leK_ret0 _ z1t.sr3 z1t.sx3, z1t.k3, z1t.t_a3]
theorem z1t.eq (lp : Nat) (x : ADens [.v (.sl TWatch)]) : evalF (z1t.E lp) z1t.an lp Tryz.f17 [.v (.sl TWatch)] [(.sl TWatch)] x = (z1t.S lp).F x := z1t.eq0 lp x.1
theorem z1t.ok (lp : Nat) : Sound Tryz.prog 17 (z1t.S lp) := sound_of (E := z1t.E lp) (env_ok z0s tabEqs ⟨z5x.ok lp, trivial⟩ trivial) mixed Tryz.func17 (by kernel_rfl) (c := codeOf Tryz.f17) (by kernel_rfl) (by kernel_rfl) z1t.an (fun x r h => ⟨lp, (z1t.eq lp x).trans h⟩)
def z7a.E (lp : Nat) : Env := { tab := tab, fns := [(152, z21.S lp)], ann := { own := [], ro := [1] } }
def z7a.an : An := { pre := [] }
def z7a.S (lp : Nat) : Spec := { ats := [.v TOp], rts := [TOp], F := fun x => z7a lp x.1 }
theorem z7a.eq (lp : Nat) (x : ADens [.v TOp]) : evalF (z7a.E lp) z7a.an lp Tryz.f100 [.v TOp] [TOp] x = (z7a.S lp).F x := by kernel_rfl
theorem z7a.ok (lp : Nat) : Sound Tryz.prog 100 (z7a.S lp) := sound_of (E := z7a.E lp) (env_ok z0s tabEqs ⟨z21.ok lp, trivial⟩ trivial) mixed Tryz.func100 (by kernel_rfl) (c := codeOf Tryz.f100) (by kernel_rfl) (by kernel_rfl) z7a.an (fun x r h => ⟨lp, (z7a.eq lp x).trans h⟩)
def z1e.la3 : LoopAn := { kn := { tms := [0, 3, 4], obs := [7] }, kx := { tms := [3], obs := [7] }, kr := {} }
def z1e.E (lp : Nat) : Env := { tab := tab, fns := [], ann := { own := [], ro := [] } }
def z1e.an : An := { loops := [(3, z1e.la3)] }
def z1e.s3 (x0 : List ByteArray) (x4 : Int) (xo7 : List ByteArray) : St := ⟨.v (.one (.b (.d (.sl .str) x0))) :: (sk 2 (.v (.one (.row 7 0)) :: .v (.one (.b (.d (.int .i64) x4))) :: (sk 17 ([])))), sko 7 (some (.row 9 .str xo7 0) :: (sko 14 ([])))⟩
def z1e.sx3 (y : (List ByteArray)) : St := ⟨sk 3 (.v (.one (.row 7 0)) :: (sk 18 ([]))), sko 7 (some (.row 9 .str y 0) :: (sko 14 ([])))⟩
def z1e.sr3 (z : Empty) : St := z.elim
def z1e.S (lp : Nat) : Spec := { ats := [.v (.sl .str)], rts := [(.sl .str)], F := fun x => z1e lp x.1 }
theorem z1e.t_b3 (lp : Nat) {R : Type} (N : St → Option R) (X : Out → St → Option R) (x0 : List ByteArray) (x4 : Int) (xo7 : List ByteArray) : codeK (z1e.E lp) z1e.an lp (loopAt 3 (codeOf Tryz.f153)) (z1e.s3 x0 x4 xo7) (lpK z1e.la3 N X) = z1e.b3 lp (fun x0 x4 xo7 => N (z1e.s3 x0 x4 xo7)) (fun y => X (.exit 0) (z1e.sx3 y)) (fun z => X .ret (z1e.sr3 z)) x0 x4 xo7 := by kernel_rfl
theorem z1e.n_b3 (lp : Nat) {R S : Type} (N : List ByteArray → Int → List ByteArray → Option R) (X : ((List ByteArray)) → Option R) (Q : Empty → Option R) (x0 : List ByteArray) (x4 : Int) (xo7 : List ByteArray) (k : R → Option S) : obind (z1e.b3 lp N X Q x0 x4 xo7) k = z1e.b3 lp (fun x0 x4 xo7 => obind (N x0 x4 xo7) k) (fun y => obind (X y) k) (fun z => obind (Q z) k) x0 x4 xo7 := by
  unfold z1e.b3; simp only [obind_none, obind_some, obind_cond, obind_oif, obind_oget, obind_obind]
theorem z1e.k3 (lp : Nat) {R : Type} (K : Out → St → Option R) : ∀ (n : Nat) (x0 : List ByteArray) (x4 : Int) (xo7 : List ByteArray), loopK z1e.la3 (fun σ K => codeK (z1e.E lp) z1e.an lp (loopAt 3 (codeOf Tryz.f153)) σ K) n (z1e.s3 x0 x4 xo7) K = obind (z1e.l3 lp n x0 x4 xo7) (leK 0 z1e.sr3 z1e.sx3 K) := by
  intro n
  induction n with
  | zero => intros; rfl
  | succ n ih =>
    intro x0 x4 xo7
    rw [loopK_succ, z1e.t_b3, z1e.l3, z1e.n_b3]
    simp only [ih, obind_some, leK_ret, leK_brk]
theorem z1e.t_a3 (lp : Nat) (y : (List ByteArray)) : kont (R := (List ByteArray)) (z1e.E lp) z1e.an lp (finK (z1e.E lp) Tryz.f153 [(.sl .str)]) (stkAt 3 (codeOf Tryz.f153)) (.exit 0) (z1e.sx3 y) = z1e.a3 lp y := by kernel_rfl
theorem z1e.t_e (lp : Nat) (x0 : List ByteArray) : evalF (z1e.E lp) z1e.an lp Tryz.f153 [.v (.sl .str)] [(.sl .str)] (x0, ()) = z1e.e lp (fun x0 x4 xo7 => loopK z1e.la3 (fun σ K => codeK (z1e.E lp) z1e.an lp (loopAt 3 (codeOf Tryz.f153)) σ K) lp (z1e.s3 x0 x4 xo7) (kont (R := (List ByteArray)) (z1e.E lp) z1e.an lp (finK (z1e.E lp) Tryz.f153 [(.sl .str)]) (stkAt 3 (codeOf Tryz.f153)))) x0 := by kernel_rfl
theorem z1e.eq0 (lp : Nat) (x0 : List ByteArray) : evalF (z1e.E lp) z1e.an lp Tryz.f153 [.v (.sl .str)] [(.sl .str)] (x0, ()) = z1e lp x0 := by
  rw [z1e.t_e]; unfold z1e
  simp only [leK_ret0 _ z1e.sr3 z1e.sx3, z1e.k3, z1e.t_a3]
theorem z1e.eq (lp : Nat) (x : ADens [.v (.sl .str)]) : evalF (z1e.E lp) z1e.an lp Tryz.f153 [.v (.sl .str)] [(.sl .str)] x = (z1e.S lp).F x := z1e.eq0 lp x.1
theorem z1e.ok (lp : Nat) : Sound Tryz.prog 153 (z1e.S lp) := sound_of (E := z1e.E lp) (env_ok z0s tabEqs trivial trivial) mixed Tryz.func153 (by kernel_rfl) (c := codeOf Tryz.f153) (by kernel_rfl) (by kernel_rfl) z1e.an (fun x r h => ⟨lp, (z1e.eq lp x).trans h⟩)
def z5h.E (lp : Nat) : Env := { tab := tab, fns := [(153, z1e.S lp), (98, z1l.S lp)], ann := { own := [], ro := [1] } }
def z5h.an : An := { pre := [] }
def z5h.S (lp : Nat) : Spec := { ats := [.v TResult], rts := [TResult], F := fun x => z5h lp x.1 }
theorem z5h.eq (lp : Nat) (x : ADens [.v TResult]) : evalF (z5h.E lp) z5h.an lp Tryz.f101 [.v TResult] [TResult] x = (z5h.S lp).F x := by kernel_rfl
theorem z5h.ok (lp : Nat) : Sound Tryz.prog 101 (z5h.S lp) := sound_of (E := z5h.E lp) (env_ok z0s tabEqs ⟨z1e.ok lp, z1l.ok lp, trivial⟩ trivial) mixed Tryz.func101 (by kernel_rfl) (c := codeOf Tryz.f101) (by kernel_rfl) (by kernel_rfl) z5h.an (fun x r h => ⟨lp, (z5h.eq lp x).trans h⟩)
def z5c.E (lp : Nat) : Env := { tab := tab, fns := [(100, z7a.S lp), (101, z5h.S lp)], ann := { own := [], ro := [1] } }
def z5c.an : An := { pre := [] }
def z5c.S (lp : Nat) : Spec := { ats := [.v TMoment], rts := [TMoment], F := fun x => z5c lp x.1 }
theorem z5c.eq (lp : Nat) (x : ADens [.v TMoment]) : evalF (z5c.E lp) z5c.an lp Tryz.f50 [.v TMoment] [TMoment] x = (z5c.S lp).F x := by kernel_rfl
theorem z5c.ok (lp : Nat) : Sound Tryz.prog 50 (z5c.S lp) := sound_of (E := z5c.E lp) (env_ok z0s tabEqs ⟨z7a.ok lp, z5h.ok lp, trivial⟩ trivial) mixed Tryz.func50 (by kernel_rfl) (c := codeOf Tryz.f50) (by kernel_rfl) (by kernel_rfl) z5c.an (fun x r h => ⟨lp, (z5c.eq lp x).trans h⟩)
def z1g.la3 : LoopAn := { kn := { tms := [0, 3, 4], obs := [7] }, kx := { tms := [3], obs := [7] }, kr := {} }
def z1g.E (lp : Nat) : Env := { tab := tab, fns := [(50, z5c.S lp)], ann := { own := [], ro := [] } }
def z1g.an : An := { loops := [(3, z1g.la3)] }
def z1g.s3 (x0 : List Moment) (x4 : Int) (xo7 : List Moment) : St := ⟨.v (.one (.b (.d (.sl TMoment) x0))) :: (sk 2 (.v (.one (.row 7 0)) :: .v (.one (.b (.d (.int .i64) x4))) :: (sk 18 ([])))), sko 7 (some (.row 73 TMoment xo7 0) :: (sko 15 ([])))⟩
def z1g.sx3 (y : (List Moment)) : St := ⟨sk 3 (.v (.one (.row 7 0)) :: (sk 19 ([]))), sko 7 (some (.row 73 TMoment y 0) :: (sko 15 ([])))⟩
def z1g.sr3 (z : Empty) : St := z.elim
def z1g.S (lp : Nat) : Spec := { ats := [.v (.sl TMoment)], rts := [(.sl TMoment)], F := fun x => z1g lp x.1 }
theorem z1g.t_b3 (lp : Nat) {R : Type} (N : St → Option R) (X : Out → St → Option R) (x0 : List Moment) (x4 : Int) (xo7 : List Moment) : codeK (z1g.E lp) z1g.an lp (loopAt 3 (codeOf Tryz.f18)) (z1g.s3 x0 x4 xo7) (lpK z1g.la3 N X) = z1g.b3 lp (fun x0 x4 xo7 => N (z1g.s3 x0 x4 xo7)) (fun y => X (.exit 0) (z1g.sx3 y)) (fun z => X .ret (z1g.sr3 z)) x0 x4 xo7 := by kernel_rfl
theorem z1g.n_b3 (lp : Nat) {R S : Type} (N : List Moment → Int → List Moment → Option R) (X : ((List Moment)) → Option R) (Q : Empty → Option R) (x0 : List Moment) (x4 : Int) (xo7 : List Moment) (k : R → Option S) : obind (z1g.b3 lp N X Q x0 x4 xo7) k = z1g.b3 lp (fun x0 x4 xo7 => obind (N x0 x4 xo7) k) (fun y => obind (X y) k) (fun z => obind (Q z) k) x0 x4 xo7 := by
  unfold z1g.b3; simp only [obind_none, obind_some, obind_cond, obind_oif, obind_oget, obind_obind]
theorem z1g.k3 (lp : Nat) {R : Type} (K : Out → St → Option R) : ∀ (n : Nat) (x0 : List Moment) (x4 : Int) (xo7 : List Moment), loopK z1g.la3 (fun σ K => codeK (z1g.E lp) z1g.an lp (loopAt 3 (codeOf Tryz.f18)) σ K) n (z1g.s3 x0 x4 xo7) K = obind (z1g.l3 lp n x0 x4 xo7) (leK 0 z1g.sr3 z1g.sx3 K) := by
  intro n
  induction n with
  | zero => intros; rfl
  | succ n ih =>
    intro x0 x4 xo7
    rw [loopK_succ, z1g.t_b3, z1g.l3, z1g.n_b3]
    simp only [ih, obind_some, leK_ret, leK_brk]
theorem z1g.t_a3 (lp : Nat) (y : (List Moment)) : kont (R := (List Moment)) (z1g.E lp) z1g.an lp (finK (z1g.E lp) Tryz.f18 [(.sl TMoment)]) (stkAt 3 (codeOf Tryz.f18)) (.exit 0) (z1g.sx3 y) = z1g.a3 lp y := by kernel_rfl
theorem z1g.t_e (lp : Nat) (x0 : List Moment) : evalF (z1g.E lp) z1g.an lp Tryz.f18 [.v (.sl TMoment)] [(.sl TMoment)] (x0, ()) = z1g.e lp (fun x0 x4 xo7 => loopK z1g.la3 (fun σ K => codeK (z1g.E lp) z1g.an lp (loopAt 3 (codeOf Tryz.f18)) σ K) lp (z1g.s3 x0 x4 xo7) (kont (R := (List Moment)) (z1g.E lp) z1g.an lp (finK (z1g.E lp) Tryz.f18 [(.sl TMoment)]) (stkAt 3 (codeOf Tryz.f18)))) x0 := by kernel_rfl
theorem z1g.eq0 (lp : Nat) (x0 : List Moment) : evalF (z1g.E lp) z1g.an lp Tryz.f18 [.v (.sl TMoment)] [(.sl TMoment)] (x0, ()) = z1g lp x0 := by
  rw [z1g.t_e]; unfold z1g
  simp only [leK_ret0 _ z1g.sr3 z1g.sx3, z1g.k3, z1g.t_a3]
theorem z1g.eq (lp : Nat) (x : ADens [.v (.sl TMoment)]) : evalF (z1g.E lp) z1g.an lp Tryz.f18 [.v (.sl TMoment)] [(.sl TMoment)] x = (z1g.S lp).F x := z1g.eq0 lp x.1
theorem z1g.ok (lp : Nat) : Sound Tryz.prog 18 (z1g.S lp) := sound_of (E := z1g.E lp) (env_ok z0s tabEqs ⟨z5c.ok lp, trivial⟩ trivial) mixed Tryz.func18 (by kernel_rfl) (c := codeOf Tryz.f18) (by kernel_rfl) (by kernel_rfl) z1g.an (fun x r h => ⟨lp, (z1g.eq lp x).trans h⟩)
def z48.E (lp : Nat) : Env := { tab := tab, fns := [(15, z6o.S lp), (16, z1f.S lp), (17, z1t.S lp), (18, z1g.S lp)], ann := { own := [], ro := [1] } }
def z48.an : An := { pre := [] }
def z48.S (lp : Nat) : Spec := { ats := [.v TWorld], rts := [TWorld], F := fun x => z48 lp x.1 }
theorem z48.eq (lp : Nat) (x : ADens [.v TWorld]) : evalF (z48.E lp) z48.an lp Tryz.f6 [.v TWorld] [TWorld] x = (z48.S lp).F x := by kernel_rfl
theorem z48.ok (lp : Nat) : Sound Tryz.prog 6 (z48.S lp) := sound_of (E := z48.E lp) (env_ok z0s tabEqs ⟨z6o.ok lp, z1f.ok lp, z1t.ok lp, z1g.ok lp, trivial⟩ trivial) mixed Tryz.func6 (by kernel_rfl) (c := codeOf Tryz.f6) (by kernel_rfl) (by kernel_rfl) z48.an (fun x r h => ⟨lp, (z48.eq lp x).trans h⟩)
def z3p.E : Env := { tab := tab, fns := [], ann := { own := [], ro := [] } }
def z3p.an : An := { pre := [] }
def z3p.S : Spec := { ats := [.v (.sl TCommit)], rts := [.bool], F := fun x => z3p x.1 }
theorem z3p.eq (lp : Nat) (x : ADens [.v (.sl TCommit)]) : evalF (z3p.E) z3p.an lp Tryz.f154 [.v (.sl TCommit)] [.bool] x = (z3p.S).F x := by kernel_rfl
theorem z3p.ok : Sound Tryz.prog 154 (z3p.S) := sound_of (E := z3p.E) (env_ok z0s tabEqs trivial trivial) mixed Tryz.func154 (by kernel_rfl) (c := codeOf Tryz.f154) (by kernel_rfl) (by kernel_rfl) z3p.an (fun x r h => ⟨0, (z3p.eq 0 x).trans h⟩)
def z2t.E : Env := { tab := tab, fns := [], ann := { own := [], ro := [] } }
def z2t.an : An := { pre := [] }
def z2t.S : Spec := { ats := [.v (.int .i64), .v (.int .i64), .v (.int .i64)], rts := [.bool], F := fun x => z2t x.1 x.2.1 x.2.2.1 }
theorem z2t.eq (lp : Nat) (x : ADens [.v (.int .i64), .v (.int .i64), .v (.int .i64)]) : evalF (z2t.E) z2t.an lp Tryz.f52 [.v (.int .i64), .v (.int .i64), .v (.int .i64)] [.bool] x = (z2t.S).F x := by kernel_rfl
theorem z2t.ok : Sound Tryz.prog 52 (z2t.S) := sound_of (E := z2t.E) (env_ok z0s tabEqs trivial trivial) mixed Tryz.func52 (by kernel_rfl) (c := codeOf Tryz.f52) (by kernel_rfl) (by kernel_rfl) z2t.an (fun x r h => ⟨0, (z2t.eq 0 x).trans h⟩)
def z4m.E : Env := { tab := tab, fns := [], ann := { own := [], ro := [] } }
def z4m.an : An := { pre := [] }
def z4m.S : Spec := { ats := [.v (.int .u8)], rts := [.bool], F := fun x => z4m x.1 }
theorem z4m.eq (lp : Nat) (x : ADens [.v (.int .u8)]) : evalF (z4m.E) z4m.an lp Tryz.f172 [.v (.int .u8)] [.bool] x = (z4m.S).F x := by kernel_rfl
theorem z4m.ok : Sound Tryz.prog 172 (z4m.S) := sound_of (E := z4m.E) (env_ok z0s tabEqs trivial trivial) mixed Tryz.func172 (by kernel_rfl) (c := codeOf Tryz.f172) (by kernel_rfl) (by kernel_rfl) z4m.an (fun x r h => ⟨0, (z4m.eq 0 x).trans h⟩)
def z0b.la2 : LoopAn := { kn := { tms := [0, 1, 7, 8] }, kx := {}, kr := { tms := [4] } }
def z0b.E (lp : Nat) : Env := { tab := tab, fns := [], ann := { own := [], ro := [] } }
def z0b.an : An := { loops := [(2, z0b.la2)] }
def z0b.s2 (x0 : List Int) (x1 : (Int × Unit) → Option Bool) (x7 : Int) (x8 : Int) : St := ⟨.v (.one (.b (.d (.sl (.int .u8)) x0))) :: .v (.one (.b (.cl (.pair (.int .u8) .unit) .bool x1))) :: (sk 5 (.v (.one (.b (.d (.int .i64) x7))) :: .v (.one (.b (.d (.int .i64) x8))) :: (sk 10 ([])))), sko 19 ([])⟩
def z0b.sx2 (y : Unit) : St := ⟨sk 19 ([]), sko 19 ([])⟩
def z0b.sr2 (z : Int) : St := ⟨sk 4 (.v (.one (.b (.d (.int .i64) z))) :: (sk 14 ([]))), sko 19 ([])⟩
def z0b.S (lp : Nat) : Spec := { ats := [.v (.sl (.int .u8)), .clo (.pair (.int .u8) .unit) .bool], rts := [(.int .i64)], F := fun x => z0b lp x.1 x.2.1 }
theorem z0b.t_b2 (lp : Nat) {R : Type} (N : St → Option R) (X : Out → St → Option R) (x0 : List Int) (x1 : (Int × Unit) → Option Bool) (x7 : Int) (x8 : Int) : codeK (z0b.E lp) z0b.an lp (loopAt 2 (codeOf Tryz.f216)) (z0b.s2 x0 x1 x7 x8) (lpK z0b.la2 N X) = z0b.b2 lp (fun x0 x1 x7 x8 => N (z0b.s2 x0 x1 x7 x8)) (fun y => X (.exit 0) (z0b.sx2 y)) (fun z => X .ret (z0b.sr2 z)) x0 x1 x7 x8 := by kernel_rfl
theorem z0b.n_b2 (lp : Nat) {R S : Type} (N : List Int → ((Int × Unit) → Option Bool) → Int → Int → Option R) (X : Unit → Option R) (Q : Int → Option R) (x0 : List Int) (x1 : (Int × Unit) → Option Bool) (x7 : Int) (x8 : Int) (k : R → Option S) : obind (z0b.b2 lp N X Q x0 x1 x7 x8) k = z0b.b2 lp (fun x0 x1 x7 x8 => obind (N x0 x1 x7 x8) k) (fun y => obind (X y) k) (fun z => obind (Q z) k) x0 x1 x7 x8 := by
  unfold z0b.b2; simp only [obind_none, obind_some, obind_cond, obind_oif, obind_oget, obind_obind]
theorem z0b.k2 (lp : Nat) {R : Type} (K : Out → St → Option R) : ∀ (n : Nat) (x0 : List Int) (x1 : (Int × Unit) → Option Bool) (x7 : Int) (x8 : Int), loopK z0b.la2 (fun σ K => codeK (z0b.E lp) z0b.an lp (loopAt 2 (codeOf Tryz.f216)) σ K) n (z0b.s2 x0 x1 x7 x8) K = obind (z0b.l2 lp n x0 x1 x7 x8) (leK 0 z0b.sr2 z0b.sx2 K) := by
  intro n
  induction n with
  | zero => intros; rfl
  | succ n ih =>
    intro x0 x1 x7 x8
    rw [loopK_succ, z0b.t_b2, z0b.l2, z0b.n_b2]
    simp only [ih, obind_some, leK_ret, leK_brk]
theorem z0b.t_a2 (lp : Nat) (y : Unit) : kont (R := Int) (z0b.E lp) z0b.an lp (finK (z0b.E lp) Tryz.f216 [(.int .i64)]) (stkAt 2 (codeOf Tryz.f216)) (.exit 0) (z0b.sx2 y) = z0b.a2 lp y := by kernel_rfl
theorem z0b.t_q2 (lp : Nat) (z : Int) : kont (R := Int) (z0b.E lp) z0b.an lp (finK (z0b.E lp) Tryz.f216 [(.int .i64)]) (stkAt 2 (codeOf Tryz.f216)) .ret (z0b.sr2 z) = z0b.q2 lp z := by kernel_rfl
theorem z0b.t_e (lp : Nat) (x0 : List Int) (x1 : (Int × Unit) → Option Bool) : evalF (z0b.E lp) z0b.an lp Tryz.f216 [.v (.sl (.int .u8)), .clo (.pair (.int .u8) .unit) .bool] [(.int .i64)] (x0, x1, ()) = z0b.e lp (fun x0 x1 x7 x8 => loopK z0b.la2 (fun σ K => codeK (z0b.E lp) z0b.an lp (loopAt 2 (codeOf Tryz.f216)) σ K) lp (z0b.s2 x0 x1 x7 x8) (kont (R := Int) (z0b.E lp) z0b.an lp (finK (z0b.E lp) Tryz.f216 [(.int .i64)]) (stkAt 2 (codeOf Tryz.f216)))) x0 x1 := by kernel_rfl
theorem z0b.eq0 (lp : Nat) (x0 : List Int) (x1 : (Int × Unit) → Option Bool) : evalF (z0b.E lp) z0b.an lp Tryz.f216 [.v (.sl (.int .u8)), .clo (.pair (.int .u8) .unit) .bool] [(.int .i64)] (x0, x1, ()) = z0b lp x0 x1 := by
  rw [z0b.t_e]; unfold z0b
  simp only [leK_leF _ z0b.sr2 z0b.sx2, z0b.k2, z0b.t_a2, z0b.t_q2]
theorem z0b.eq (lp : Nat) (x : ADens [.v (.sl (.int .u8)), .clo (.pair (.int .u8) .unit) .bool]) : evalF (z0b.E lp) z0b.an lp Tryz.f216 [.v (.sl (.int .u8)), .clo (.pair (.int .u8) .unit) .bool] [(.int .i64)] x = (z0b.S lp).F x := z0b.eq0 lp x.1 x.2.1
theorem z0b.ok (lp : Nat) : Sound Tryz.prog 216 (z0b.S lp) := sound_of (E := z0b.E lp) (env_ok z0s tabEqs trivial trivial) mixed Tryz.func216 (by kernel_rfl) (c := codeOf Tryz.f216) (by kernel_rfl) (by kernel_rfl) z0b.an (fun x r h => ⟨lp, (z0b.eq lp x).trans h⟩)
def z2y.E (lp : Nat) : Env := { tab := tab, fns := [(216, z0b.S lp)], ann := { own := [], ro := [] } }
def z2y.an : An := { pre := [] }
def z2y.S (lp : Nat) : Spec := { ats := [.v (.sl (.int .u8)), .clo (.pair (.int .u8) .unit) .bool], rts := [.bool], F := fun x => z2y lp x.1 x.2.1 }
theorem z2y.eq (lp : Nat) (x : ADens [.v (.sl (.int .u8)), .clo (.pair (.int .u8) .unit) .bool]) : evalF (z2y.E lp) z2y.an lp Tryz.f201 [.v (.sl (.int .u8)), .clo (.pair (.int .u8) .unit) .bool] [.bool] x = (z2y.S lp).F x := by kernel_rfl
theorem z2y.ok (lp : Nat) : Sound Tryz.prog 201 (z2y.S lp) := sound_of (E := z2y.E lp) (env_ok z0s tabEqs ⟨z0b.ok lp, trivial⟩ trivial) mixed Tryz.func201 (by kernel_rfl) (c := codeOf Tryz.f201) (by kernel_rfl) (by kernel_rfl) z2y.an (fun x r h => ⟨lp, (z2y.eq lp x).trans h⟩)
def z3e.E : Env := { tab := tab, fns := [], ann := { own := [], ro := [] } }
def z3e.an : An := { pre := [] }
def z3e.S : Spec := { ats := [.v (.int .u8), .ptrC (.pair (.int .u8) .unit) .bool], rts := [.bool], F := fun x => z3e x.1 x.2.1 }
theorem z3e.eq (lp : Nat) (x : ADens [.v (.int .u8), .ptrC (.pair (.int .u8) .unit) .bool]) : evalF (z3e.E) z3e.an lp Tryz.f202 [.v (.int .u8), .ptrC (.pair (.int .u8) .unit) .bool] [.bool] x = (z3e.S).F x := by kernel_rfl
theorem z3e.ok : Sound Tryz.prog 202 (z3e.S) := sound_of (E := z3e.E) (env_ok z0s tabEqs trivial trivial) mixed Tryz.func202 (by kernel_rfl) (c := codeOf Tryz.f202) (by kernel_rfl) (by kernel_rfl) z3e.an (fun x r h => ⟨0, (z3e.eq 0 x).trans h⟩)
def z42.E (lp : Nat) : Env := { tab := tab, fns := [(202, z3e.S), (201, z2y.S lp)], ann := { own := [], ro := [3] } }
def z42.an : An := { pre := [] }
def z42.S (lp : Nat) : Spec := { ats := [.v (.sl (.int .u8)), .clo (.pair (.int .u8) .unit) .bool], rts := [.bool], F := fun x => z42 lp x.1 x.2.1 }
theorem z42.eq (lp : Nat) (x : ADens [.v (.sl (.int .u8)), .clo (.pair (.int .u8) .unit) .bool]) : evalF (z42.E lp) z42.an lp Tryz.f173 [.v (.sl (.int .u8)), .clo (.pair (.int .u8) .unit) .bool] [.bool] x = (z42.S lp).F x := by kernel_rfl
theorem z42.ok (lp : Nat) : Sound Tryz.prog 173 (z42.S lp) := sound_of (E := z42.E lp) (env_ok z0s tabEqs ⟨z3e.ok, z2y.ok lp, trivial⟩ trivial) mixed Tryz.func173 (by kernel_rfl) (c := codeOf Tryz.f173) (by kernel_rfl) (by kernel_rfl) z42.an (fun x r h => ⟨lp, (z42.eq lp x).trans h⟩)
def z6g.E : Env := { tab := tab, fns := [], ann := { own := [], ro := [] } }
def z6g.an : An := { pre := [] }
def z6g.S : Spec := { ats := [.v (.int .u8)], rts := [.bool], F := fun x => z6g x.1 }
theorem z6g.eq (lp : Nat) (x : ADens [.v (.int .u8)]) : evalF (z6g.E) z6g.an lp Tryz.f175 [.v (.int .u8)] [.bool] x = (z6g.S).F x := by kernel_rfl
theorem z6g.ok : Sound Tryz.prog 175 (z6g.S) := sound_of (E := z6g.E) (env_ok z0s tabEqs trivial trivial) mixed Tryz.func175 (by kernel_rfl) (c := codeOf Tryz.f175) (by kernel_rfl) (by kernel_rfl) z6g.an (fun x r h => ⟨0, (z6g.eq 0 x).trans h⟩)
def z4q.E : Env := { tab := tab, fns := [(172, z4m.S), (175, z6g.S)], ann := { own := [], ro := [] } }
def z4q.an : An := { pre := [] }
def z4q.S : Spec := { ats := [.v (.int .u8)], rts := [.bool], F := fun x => z4q x.1 }
theorem z4q.eq (lp : Nat) (x : ADens [.v (.int .u8)]) : evalF (z4q.E) z4q.an lp Tryz.f174 [.v (.int .u8)] [.bool] x = (z4q.S).F x := by kernel_rfl
theorem z4q.ok : Sound Tryz.prog 174 (z4q.S) := sound_of (E := z4q.E) (env_ok z0s tabEqs ⟨z4m.ok, z6g.ok, trivial⟩ trivial) mixed Tryz.func174 (by kernel_rfl) (c := codeOf Tryz.f174) (by kernel_rfl) (by kernel_rfl) z4q.an (fun x r h => ⟨0, (z4q.eq 0 x).trans h⟩)
def z33.E (lp : Nat) : Env := { tab := tab, fns := [(52, z2t.S), (172, z4m.S), (174, z4q.S), (173, z42.S lp)], ann := { own := [], ro := [] } }
def z33.an : An := { pre := [] }
def z33.S (lp : Nat) : Spec := { ats := [.v .str], rts := [.bool], F := fun x => z33 lp x.1 }
theorem z33.eq (lp : Nat) (x : ADens [.v .str]) : evalF (z33.E lp) z33.an lp Tryz.f116 [.v .str] [.bool] x = (z33.S lp).F x := by kernel_rfl
theorem z33.ok (lp : Nat) : Sound Tryz.prog 116 (z33.S lp) := sound_of (E := z33.E lp) (env_ok z0s tabEqs ⟨z2t.ok, z4m.ok, z4q.ok, z42.ok lp, trivial⟩ trivial) mixed Tryz.func116 (by kernel_rfl) (c := codeOf Tryz.f116) (by kernel_rfl) (by kernel_rfl) z33.an (fun x r h => ⟨lp, (z33.eq lp x).trans h⟩)
def z43.E : Env := { tab := tab, fns := [(52, z2t.S)], ann := { own := [], ro := [] } }
def z43.an : An := { pre := [] }
def z43.S : Spec := { ats := [.v (.int .i64)], rts := [.bool], F := fun x => z43 x.1 }
theorem z43.eq (lp : Nat) (x : ADens [.v (.int .i64)]) : evalF (z43.E) z43.an lp Tryz.f124 [.v (.int .i64)] [.bool] x = (z43.S).F x := by kernel_rfl
theorem z43.ok : Sound Tryz.prog 124 (z43.S) := sound_of (E := z43.E) (env_ok z0s tabEqs ⟨z2t.ok, trivial⟩ trivial) mixed Tryz.func124 (by kernel_rfl) (c := codeOf Tryz.f124) (by kernel_rfl) (by kernel_rfl) z43.an (fun x r h => ⟨0, (z43.eq 0 x).trans h⟩)
def z2i.la2 : LoopAn := { kn := { tms := [0, 5, 6, 7] }, kx := { tms := [0] }, kr := { tms := [2] } }
def z2i.E (lp : Nat) : Env := { tab := tab, fns := [(116, z33.S lp), (124, z43.S)], ann := { own := [], ro := [] } }
def z2i.an : An := { loops := [(2, z2i.la2)] }
def z2i.s2 (x0 : List Entry) (x5 : List Entry) (x6 : Int) (x7 : Int) : St := ⟨.v (.one (.b (.d (.sl TEntry) x0))) :: (sk 4 (.v (.one (.b (.d (.sl TEntry) x5))) :: .v (.one (.b (.d (.int .i64) x6))) :: .v (.one (.b (.d (.int .i64) x7))) :: (sk 33 ([])))), sko 41 ([])⟩
def z2i.sx2 (y : (List Entry)) : St := ⟨.v (.one (.b (.d (.sl TEntry) y))) :: (sk 40 ([])), sko 41 ([])⟩
def z2i.sr2 (z : Bool) : St := ⟨sk 2 (.v (.one (.b (.d .bool z))) :: (sk 38 ([]))), sko 41 ([])⟩
def z2i.S (lp : Nat) : Spec := { ats := [.v (.sl TEntry)], rts := [.bool], F := fun x => z2i lp x.1 }
theorem z2i.t_b2 (lp : Nat) {R : Type} (N : St → Option R) (X : Out → St → Option R) (x0 : List Entry) (x5 : List Entry) (x6 : Int) (x7 : Int) : codeK (z2i.E lp) z2i.an lp (loopAt 2 (codeOf Tryz.f125)) (z2i.s2 x0 x5 x6 x7) (lpK z2i.la2 N X) = z2i.b2 lp (fun x0 x5 x6 x7 => N (z2i.s2 x0 x5 x6 x7)) (fun y => X (.exit 0) (z2i.sx2 y)) (fun z => X .ret (z2i.sr2 z)) x0 x5 x6 x7 := by kernel_rfl
theorem z2i.n_b2 (lp : Nat) {R S : Type} (N : List Entry → List Entry → Int → Int → Option R) (X : ((List Entry)) → Option R) (Q : Bool → Option R) (x0 : List Entry) (x5 : List Entry) (x6 : Int) (x7 : Int) (k : R → Option S) : obind (z2i.b2 lp N X Q x0 x5 x6 x7) k = z2i.b2 lp (fun x0 x5 x6 x7 => obind (N x0 x5 x6 x7) k) (fun y => obind (X y) k) (fun z => obind (Q z) k) x0 x5 x6 x7 := by
  unfold z2i.b2; simp only [obind_none, obind_some, obind_cond, obind_oif, obind_oget, obind_obind]
theorem z2i.k2 (lp : Nat) {R : Type} (K : Out → St → Option R) : ∀ (n : Nat) (x0 : List Entry) (x5 : List Entry) (x6 : Int) (x7 : Int), loopK z2i.la2 (fun σ K => codeK (z2i.E lp) z2i.an lp (loopAt 2 (codeOf Tryz.f125)) σ K) n (z2i.s2 x0 x5 x6 x7) K = obind (z2i.l2 lp n x0 x5 x6 x7) (leK 0 z2i.sr2 z2i.sx2 K) := by
  intro n
  induction n with
  | zero => intros; rfl
  | succ n ih =>
    intro x0 x5 x6 x7
    rw [loopK_succ, z2i.t_b2, z2i.l2, z2i.n_b2]
    simp only [ih, obind_some, leK_ret, leK_brk]
theorem z2i.t_a2 (lp : Nat) (y : (List Entry)) : kont (R := Bool) (z2i.E lp) z2i.an lp (finK (z2i.E lp) Tryz.f125 [.bool]) (stkAt 2 (codeOf Tryz.f125)) (.exit 0) (z2i.sx2 y) = z2i.a2 lp y := by kernel_rfl
theorem z2i.t_q2 (lp : Nat) (z : Bool) : kont (R := Bool) (z2i.E lp) z2i.an lp (finK (z2i.E lp) Tryz.f125 [.bool]) (stkAt 2 (codeOf Tryz.f125)) .ret (z2i.sr2 z) = z2i.q2 lp z := by kernel_rfl
theorem z2i.t_e (lp : Nat) (x0 : List Entry) : evalF (z2i.E lp) z2i.an lp Tryz.f125 [.v (.sl TEntry)] [.bool] (x0, ()) = z2i.e lp (fun x0 x5 x6 x7 => loopK z2i.la2 (fun σ K => codeK (z2i.E lp) z2i.an lp (loopAt 2 (codeOf Tryz.f125)) σ K) lp (z2i.s2 x0 x5 x6 x7) (kont (R := Bool) (z2i.E lp) z2i.an lp (finK (z2i.E lp) Tryz.f125 [.bool]) (stkAt 2 (codeOf Tryz.f125)))) x0 := by kernel_rfl
theorem z2i.eq0 (lp : Nat) (x0 : List Entry) : evalF (z2i.E lp) z2i.an lp Tryz.f125 [.v (.sl TEntry)] [.bool] (x0, ()) = z2i lp x0 := by
  rw [z2i.t_e]; unfold z2i
  simp only [leK_leF _ z2i.sr2 z2i.sx2, z2i.k2, z2i.t_a2, z2i.t_q2]
theorem z2i.eq (lp : Nat) (x : ADens [.v (.sl TEntry)]) : evalF (z2i.E lp) z2i.an lp Tryz.f125 [.v (.sl TEntry)] [.bool] x = (z2i.S lp).F x := z2i.eq0 lp x.1
theorem z2i.ok (lp : Nat) : Sound Tryz.prog 125 (z2i.S lp) := sound_of (E := z2i.E lp) (env_ok z0s tabEqs ⟨z33.ok lp, z43.ok, trivial⟩ trivial) mixed Tryz.func125 (by kernel_rfl) (c := codeOf Tryz.f125) (by kernel_rfl) (by kernel_rfl) z2i.an (fun x r h => ⟨lp, (z2i.eq lp x).trans h⟩)
def z0i.la2 : LoopAn := { kn := { tms := [0, 1, 7, 8] }, kx := {}, kr := { tms := [4] } }
def z0i.E (lp : Nat) : Env := { tab := tab, fns := [], ann := { own := [], ro := [] } }
def z0i.an : An := { loops := [(2, z0i.la2)] }
def z0i.s2 (x0 : List Int) (x1 : (Int × Unit) → Option Bool) (x7 : Int) (x8 : Int) : St := ⟨.v (.one (.b (.d (.sl (.int .i64)) x0))) :: .v (.one (.b (.cl (.pair (.int .i64) .unit) .bool x1))) :: (sk 5 (.v (.one (.b (.d (.int .i64) x7))) :: .v (.one (.b (.d (.int .i64) x8))) :: (sk 10 ([])))), sko 19 ([])⟩
def z0i.sx2 (y : Unit) : St := ⟨sk 19 ([]), sko 19 ([])⟩
def z0i.sr2 (z : Int) : St := ⟨sk 4 (.v (.one (.b (.d (.int .i64) z))) :: (sk 14 ([]))), sko 19 ([])⟩
def z0i.S (lp : Nat) : Spec := { ats := [.v (.sl (.int .i64)), .clo (.pair (.int .i64) .unit) .bool], rts := [(.int .i64)], F := fun x => z0i lp x.1 x.2.1 }
theorem z0i.t_b2 (lp : Nat) {R : Type} (N : St → Option R) (X : Out → St → Option R) (x0 : List Int) (x1 : (Int × Unit) → Option Bool) (x7 : Int) (x8 : Int) : codeK (z0i.E lp) z0i.an lp (loopAt 2 (codeOf Tryz.f229)) (z0i.s2 x0 x1 x7 x8) (lpK z0i.la2 N X) = z0i.b2 lp (fun x0 x1 x7 x8 => N (z0i.s2 x0 x1 x7 x8)) (fun y => X (.exit 0) (z0i.sx2 y)) (fun z => X .ret (z0i.sr2 z)) x0 x1 x7 x8 := by kernel_rfl
theorem z0i.n_b2 (lp : Nat) {R S : Type} (N : List Int → ((Int × Unit) → Option Bool) → Int → Int → Option R) (X : Unit → Option R) (Q : Int → Option R) (x0 : List Int) (x1 : (Int × Unit) → Option Bool) (x7 : Int) (x8 : Int) (k : R → Option S) : obind (z0i.b2 lp N X Q x0 x1 x7 x8) k = z0i.b2 lp (fun x0 x1 x7 x8 => obind (N x0 x1 x7 x8) k) (fun y => obind (X y) k) (fun z => obind (Q z) k) x0 x1 x7 x8 := by
  unfold z0i.b2; simp only [obind_none, obind_some, obind_cond, obind_oif, obind_oget, obind_obind]
theorem z0i.k2 (lp : Nat) {R : Type} (K : Out → St → Option R) : ∀ (n : Nat) (x0 : List Int) (x1 : (Int × Unit) → Option Bool) (x7 : Int) (x8 : Int), loopK z0i.la2 (fun σ K => codeK (z0i.E lp) z0i.an lp (loopAt 2 (codeOf Tryz.f229)) σ K) n (z0i.s2 x0 x1 x7 x8) K = obind (z0i.l2 lp n x0 x1 x7 x8) (leK 0 z0i.sr2 z0i.sx2 K) := by
  intro n
  induction n with
  | zero => intros; rfl
  | succ n ih =>
    intro x0 x1 x7 x8
    rw [loopK_succ, z0i.t_b2, z0i.l2, z0i.n_b2]
    simp only [ih, obind_some, leK_ret, leK_brk]
theorem z0i.t_a2 (lp : Nat) (y : Unit) : kont (R := Int) (z0i.E lp) z0i.an lp (finK (z0i.E lp) Tryz.f229 [(.int .i64)]) (stkAt 2 (codeOf Tryz.f229)) (.exit 0) (z0i.sx2 y) = z0i.a2 lp y := by kernel_rfl
theorem z0i.t_q2 (lp : Nat) (z : Int) : kont (R := Int) (z0i.E lp) z0i.an lp (finK (z0i.E lp) Tryz.f229 [(.int .i64)]) (stkAt 2 (codeOf Tryz.f229)) .ret (z0i.sr2 z) = z0i.q2 lp z := by kernel_rfl
theorem z0i.t_e (lp : Nat) (x0 : List Int) (x1 : (Int × Unit) → Option Bool) : evalF (z0i.E lp) z0i.an lp Tryz.f229 [.v (.sl (.int .i64)), .clo (.pair (.int .i64) .unit) .bool] [(.int .i64)] (x0, x1, ()) = z0i.e lp (fun x0 x1 x7 x8 => loopK z0i.la2 (fun σ K => codeK (z0i.E lp) z0i.an lp (loopAt 2 (codeOf Tryz.f229)) σ K) lp (z0i.s2 x0 x1 x7 x8) (kont (R := Int) (z0i.E lp) z0i.an lp (finK (z0i.E lp) Tryz.f229 [(.int .i64)]) (stkAt 2 (codeOf Tryz.f229)))) x0 x1 := by kernel_rfl
theorem z0i.eq0 (lp : Nat) (x0 : List Int) (x1 : (Int × Unit) → Option Bool) : evalF (z0i.E lp) z0i.an lp Tryz.f229 [.v (.sl (.int .i64)), .clo (.pair (.int .i64) .unit) .bool] [(.int .i64)] (x0, x1, ()) = z0i lp x0 x1 := by
  rw [z0i.t_e]; unfold z0i
  simp only [leK_leF _ z0i.sr2 z0i.sx2, z0i.k2, z0i.t_a2, z0i.t_q2]
theorem z0i.eq (lp : Nat) (x : ADens [.v (.sl (.int .i64)), .clo (.pair (.int .i64) .unit) .bool]) : evalF (z0i.E lp) z0i.an lp Tryz.f229 [.v (.sl (.int .i64)), .clo (.pair (.int .i64) .unit) .bool] [(.int .i64)] x = (z0i.S lp).F x := z0i.eq0 lp x.1 x.2.1
theorem z0i.ok (lp : Nat) : Sound Tryz.prog 229 (z0i.S lp) := sound_of (E := z0i.E lp) (env_ok z0s tabEqs trivial trivial) mixed Tryz.func229 (by kernel_rfl) (c := codeOf Tryz.f229) (by kernel_rfl) (by kernel_rfl) z0i.an (fun x r h => ⟨lp, (z0i.eq lp x).trans h⟩)
def z31.E (lp : Nat) : Env := { tab := tab, fns := [(229, z0i.S lp)], ann := { own := [], ro := [] } }
def z31.an : An := { pre := [] }
def z31.S (lp : Nat) : Spec := { ats := [.v (.sl (.int .i64)), .clo (.pair (.int .i64) .unit) .bool], rts := [.bool], F := fun x => z31 lp x.1 x.2.1 }
theorem z31.eq (lp : Nat) (x : ADens [.v (.sl (.int .i64)), .clo (.pair (.int .i64) .unit) .bool]) : evalF (z31.E lp) z31.an lp Tryz.f222 [.v (.sl (.int .i64)), .clo (.pair (.int .i64) .unit) .bool] [.bool] x = (z31.S lp).F x := by kernel_rfl
theorem z31.ok (lp : Nat) : Sound Tryz.prog 222 (z31.S lp) := sound_of (E := z31.E lp) (env_ok z0s tabEqs ⟨z0i.ok lp, trivial⟩ trivial) mixed Tryz.func222 (by kernel_rfl) (c := codeOf Tryz.f222) (by kernel_rfl) (by kernel_rfl) z31.an (fun x r h => ⟨lp, (z31.eq lp x).trans h⟩)
def z3h.E : Env := { tab := tab, fns := [], ann := { own := [], ro := [] } }
def z3h.an : An := { pre := [] }
def z3h.S : Spec := { ats := [.v (.int .i64), .ptrC (.pair (.int .i64) .unit) .bool], rts := [.bool], F := fun x => z3h x.1 x.2.1 }
theorem z3h.eq (lp : Nat) (x : ADens [.v (.int .i64), .ptrC (.pair (.int .i64) .unit) .bool]) : evalF (z3h.E) z3h.an lp Tryz.f223 [.v (.int .i64), .ptrC (.pair (.int .i64) .unit) .bool] [.bool] x = (z3h.S).F x := by kernel_rfl
theorem z3h.ok : Sound Tryz.prog 223 (z3h.S) := sound_of (E := z3h.E) (env_ok z0s tabEqs trivial trivial) mixed Tryz.func223 (by kernel_rfl) (c := codeOf Tryz.f223) (by kernel_rfl) (by kernel_rfl) z3h.an (fun x r h => ⟨0, (z3h.eq 0 x).trans h⟩)
def z3x.E (lp : Nat) : Env := { tab := tab, fns := [(223, z3h.S), (222, z31.S lp)], ann := { own := [], ro := [3] } }
def z3x.an : An := { pre := [] }
def z3x.S (lp : Nat) : Spec := { ats := [.v (.sl (.int .i64)), .clo (.pair (.int .i64) .unit) .bool], rts := [.bool], F := fun x => z3x lp x.1 x.2.1 }
theorem z3x.eq (lp : Nat) (x : ADens [.v (.sl (.int .i64)), .clo (.pair (.int .i64) .unit) .bool]) : evalF (z3x.E lp) z3x.an lp Tryz.f210 [.v (.sl (.int .i64)), .clo (.pair (.int .i64) .unit) .bool] [.bool] x = (z3x.S lp).F x := by kernel_rfl
theorem z3x.ok (lp : Nat) : Sound Tryz.prog 210 (z3x.S lp) := sound_of (E := z3x.E lp) (env_ok z0s tabEqs ⟨z3h.ok, z31.ok lp, trivial⟩ trivial) mixed Tryz.func210 (by kernel_rfl) (c := codeOf Tryz.f210) (by kernel_rfl) (by kernel_rfl) z3x.an (fun x r h => ⟨lp, (z3x.eq lp x).trans h⟩)
def z35.E : Env := { tab := tab, fns := [(52, z2t.S)], ann := { own := [], ro := [] } }
def z35.an : An := { pre := [] }
def z35.S : Spec := { ats := [.v (.int .i64), .ptrD (.int .i64)], rts := [.bool], F := fun x => z35 x.1 x.2.1 }
theorem z35.eq (lp : Nat) (x : ADens [.v (.int .i64), .ptrD (.int .i64)]) : evalF (z35.E) z35.an lp Tryz.f211 [.v (.int .i64), .ptrD (.int .i64)] [.bool] x = (z35.S).F x := by kernel_rfl
theorem z35.ok : Sound Tryz.prog 211 (z35.S) := sound_of (E := z35.E) (env_ok z0s tabEqs ⟨z2t.ok, trivial⟩ trivial) mixed Tryz.func211 (by kernel_rfl) (c := codeOf Tryz.f211) (by kernel_rfl) (by kernel_rfl) z35.an (fun x r h => ⟨0, (z35.eq 0 x).trans h⟩)
def z41.E (lp : Nat) : Env := { tab := tab, fns := [(125, z2i.S lp), (211, z35.S), (210, z3x.S lp)], ann := { own := [], ro := [2, 3] } }
def z41.an : An := { pre := [] }
def z41.S (lp : Nat) : Spec := { ats := [.v TCommit, .v (.int .i64)], rts := [.bool], F := fun x => z41 lp x.1 x.2.1 }
theorem z41.eq (lp : Nat) (x : ADens [.v TCommit, .v (.int .i64)]) : evalF (z41.E lp) z41.an lp Tryz.f194 [.v TCommit, .v (.int .i64)] [.bool] x = (z41.S lp).F x := by kernel_rfl
theorem z41.ok (lp : Nat) : Sound Tryz.prog 194 (z41.S lp) := sound_of (E := z41.E lp) (env_ok z0s tabEqs ⟨z2i.ok lp, z35.ok, z3x.ok lp, trivial⟩ trivial) mixed Tryz.func194 (by kernel_rfl) (c := codeOf Tryz.f194) (by kernel_rfl) (by kernel_rfl) z41.an (fun x r h => ⟨lp, (z41.eq lp x).trans h⟩)
def z0u.la2 : LoopAn := { kn := { tms := [0, 5, 6, 7] }, kx := { tms := [0] }, kr := { tms := [2] } }
def z0u.E (lp : Nat) : Env := { tab := tab, fns := [(194, z41.S lp)], ann := { own := [], ro := [] } }
def z0u.an : An := { loops := [(2, z0u.la2)] }
def z0u.s2 (x0 : List Commit) (x5 : List Commit) (x6 : Int) (x7 : Int) : St := ⟨.v (.one (.b (.d (.sl TCommit) x0))) :: (sk 4 (.v (.one (.b (.d (.sl TCommit) x5))) :: .v (.one (.b (.d (.int .i64) x6))) :: .v (.one (.b (.d (.int .i64) x7))) :: (sk 13 ([])))), sko 21 ([])⟩
def z0u.sx2 (y : (List Commit)) : St := ⟨.v (.one (.b (.d (.sl TCommit) y))) :: (sk 20 ([])), sko 21 ([])⟩
def z0u.sr2 (z : Bool) : St := ⟨sk 2 (.v (.one (.b (.d .bool z))) :: (sk 18 ([]))), sko 21 ([])⟩
def z0u.S (lp : Nat) : Spec := { ats := [.v (.sl TCommit)], rts := [.bool], F := fun x => z0u lp x.1 }
theorem z0u.t_b2 (lp : Nat) {R : Type} (N : St → Option R) (X : Out → St → Option R) (x0 : List Commit) (x5 : List Commit) (x6 : Int) (x7 : Int) : codeK (z0u.E lp) z0u.an lp (loopAt 2 (codeOf Tryz.f155)) (z0u.s2 x0 x5 x6 x7) (lpK z0u.la2 N X) = z0u.b2 lp (fun x0 x5 x6 x7 => N (z0u.s2 x0 x5 x6 x7)) (fun y => X (.exit 0) (z0u.sx2 y)) (fun z => X .ret (z0u.sr2 z)) x0 x5 x6 x7 := by kernel_rfl
theorem z0u.n_b2 (lp : Nat) {R S : Type} (N : List Commit → List Commit → Int → Int → Option R) (X : ((List Commit)) → Option R) (Q : Bool → Option R) (x0 : List Commit) (x5 : List Commit) (x6 : Int) (x7 : Int) (k : R → Option S) : obind (z0u.b2 lp N X Q x0 x5 x6 x7) k = z0u.b2 lp (fun x0 x5 x6 x7 => obind (N x0 x5 x6 x7) k) (fun y => obind (X y) k) (fun z => obind (Q z) k) x0 x5 x6 x7 := by
  unfold z0u.b2; simp only [obind_none, obind_some, obind_cond, obind_oif, obind_oget, obind_obind]
theorem z0u.k2 (lp : Nat) {R : Type} (K : Out → St → Option R) : ∀ (n : Nat) (x0 : List Commit) (x5 : List Commit) (x6 : Int) (x7 : Int), loopK z0u.la2 (fun σ K => codeK (z0u.E lp) z0u.an lp (loopAt 2 (codeOf Tryz.f155)) σ K) n (z0u.s2 x0 x5 x6 x7) K = obind (z0u.l2 lp n x0 x5 x6 x7) (leK 0 z0u.sr2 z0u.sx2 K) := by
  intro n
  induction n with
  | zero => intros; rfl
  | succ n ih =>
    intro x0 x5 x6 x7
    rw [loopK_succ, z0u.t_b2, z0u.l2, z0u.n_b2]
    simp only [ih, obind_some, leK_ret, leK_brk]
theorem z0u.t_a2 (lp : Nat) (y : (List Commit)) : kont (R := Bool) (z0u.E lp) z0u.an lp (finK (z0u.E lp) Tryz.f155 [.bool]) (stkAt 2 (codeOf Tryz.f155)) (.exit 0) (z0u.sx2 y) = z0u.a2 lp y := by kernel_rfl
theorem z0u.t_q2 (lp : Nat) (z : Bool) : kont (R := Bool) (z0u.E lp) z0u.an lp (finK (z0u.E lp) Tryz.f155 [.bool]) (stkAt 2 (codeOf Tryz.f155)) .ret (z0u.sr2 z) = z0u.q2 lp z := by kernel_rfl
theorem z0u.t_e (lp : Nat) (x0 : List Commit) : evalF (z0u.E lp) z0u.an lp Tryz.f155 [.v (.sl TCommit)] [.bool] (x0, ()) = z0u.e lp (fun x0 x5 x6 x7 => loopK z0u.la2 (fun σ K => codeK (z0u.E lp) z0u.an lp (loopAt 2 (codeOf Tryz.f155)) σ K) lp (z0u.s2 x0 x5 x6 x7) (kont (R := Bool) (z0u.E lp) z0u.an lp (finK (z0u.E lp) Tryz.f155 [.bool]) (stkAt 2 (codeOf Tryz.f155)))) x0 := by kernel_rfl
theorem z0u.eq0 (lp : Nat) (x0 : List Commit) : evalF (z0u.E lp) z0u.an lp Tryz.f155 [.v (.sl TCommit)] [.bool] (x0, ()) = z0u lp x0 := by
  rw [z0u.t_e]; unfold z0u
  simp only [leK_leF _ z0u.sr2 z0u.sx2, z0u.k2, z0u.t_a2, z0u.t_q2]
theorem z0u.eq (lp : Nat) (x : ADens [.v (.sl TCommit)]) : evalF (z0u.E lp) z0u.an lp Tryz.f155 [.v (.sl TCommit)] [.bool] x = (z0u.S lp).F x := z0u.eq0 lp x.1
theorem z0u.ok (lp : Nat) : Sound Tryz.prog 155 (z0u.S lp) := sound_of (E := z0u.E lp) (env_ok z0s tabEqs ⟨z41.ok lp, trivial⟩ trivial) mixed Tryz.func155 (by kernel_rfl) (c := codeOf Tryz.f155) (by kernel_rfl) (by kernel_rfl) z0u.an (fun x r h => ⟨lp, (z0u.eq lp x).trans h⟩)
def z4v.E (lp : Nat) : Env := { tab := tab, fns := [(154, z3p.S), (155, z0u.S lp)], ann := { own := [], ro := [] } }
def z4v.an : An := { pre := [] }
def z4v.S (lp : Nat) : Spec := { ats := [.v (.sl TCommit)], rts := [.bool], F := fun x => z4v lp x.1 }
theorem z4v.eq (lp : Nat) (x : ADens [.v (.sl TCommit)]) : evalF (z4v.E lp) z4v.an lp Tryz.f102 [.v (.sl TCommit)] [.bool] x = (z4v.S lp).F x := by kernel_rfl
theorem z4v.ok (lp : Nat) : Sound Tryz.prog 102 (z4v.S lp) := sound_of (E := z4v.E lp) (env_ok z0s tabEqs ⟨z3p.ok, z0u.ok lp, trivial⟩ trivial) mixed Tryz.func102 (by kernel_rfl) (c := codeOf Tryz.f102) (by kernel_rfl) (by kernel_rfl) z4v.an (fun x r h => ⟨lp, (z4v.eq lp x).trans h⟩)
def z0d.la2 : LoopAn := { kn := { tms := [0, 1, 7, 8] }, kx := {}, kr := { tms := [4] } }
def z0d.E (lp : Nat) : Env := { tab := tab, fns := [], ann := { own := [], ro := [] } }
def z0d.an : An := { loops := [(2, z0d.la2)] }
def z0d.s2 (x0 : List Ref) (x1 : (Ref × Unit) → Option Bool) (x7 : Int) (x8 : Int) : St := ⟨.v (.one (.b (.d (.sl TRef) x0))) :: .v (.one (.b (.cl (.pair TRef .unit) .bool x1))) :: (sk 5 (.v (.one (.b (.d (.int .i64) x7))) :: .v (.one (.b (.d (.int .i64) x8))) :: (sk 10 ([])))), sko 19 ([])⟩
def z0d.sx2 (y : Unit) : St := ⟨sk 19 ([]), sko 19 ([])⟩
def z0d.sr2 (z : Int) : St := ⟨sk 4 (.v (.one (.b (.d (.int .i64) z))) :: (sk 14 ([]))), sko 19 ([])⟩
def z0d.S (lp : Nat) : Spec := { ats := [.v (.sl TRef), .clo (.pair TRef .unit) .bool], rts := [(.int .i64)], F := fun x => z0d lp x.1 x.2.1 }
theorem z0d.t_b2 (lp : Nat) {R : Type} (N : St → Option R) (X : Out → St → Option R) (x0 : List Ref) (x1 : (Ref × Unit) → Option Bool) (x7 : Int) (x8 : Int) : codeK (z0d.E lp) z0d.an lp (loopAt 2 (codeOf Tryz.f179)) (z0d.s2 x0 x1 x7 x8) (lpK z0d.la2 N X) = z0d.b2 lp (fun x0 x1 x7 x8 => N (z0d.s2 x0 x1 x7 x8)) (fun y => X (.exit 0) (z0d.sx2 y)) (fun z => X .ret (z0d.sr2 z)) x0 x1 x7 x8 := by kernel_rfl
theorem z0d.n_b2 (lp : Nat) {R S : Type} (N : List Ref → ((Ref × Unit) → Option Bool) → Int → Int → Option R) (X : Unit → Option R) (Q : Int → Option R) (x0 : List Ref) (x1 : (Ref × Unit) → Option Bool) (x7 : Int) (x8 : Int) (k : R → Option S) : obind (z0d.b2 lp N X Q x0 x1 x7 x8) k = z0d.b2 lp (fun x0 x1 x7 x8 => obind (N x0 x1 x7 x8) k) (fun y => obind (X y) k) (fun z => obind (Q z) k) x0 x1 x7 x8 := by
  unfold z0d.b2; simp only [obind_none, obind_some, obind_cond, obind_oif, obind_oget, obind_obind]
theorem z0d.k2 (lp : Nat) {R : Type} (K : Out → St → Option R) : ∀ (n : Nat) (x0 : List Ref) (x1 : (Ref × Unit) → Option Bool) (x7 : Int) (x8 : Int), loopK z0d.la2 (fun σ K => codeK (z0d.E lp) z0d.an lp (loopAt 2 (codeOf Tryz.f179)) σ K) n (z0d.s2 x0 x1 x7 x8) K = obind (z0d.l2 lp n x0 x1 x7 x8) (leK 0 z0d.sr2 z0d.sx2 K) := by
  intro n
  induction n with
  | zero => intros; rfl
  | succ n ih =>
    intro x0 x1 x7 x8
    rw [loopK_succ, z0d.t_b2, z0d.l2, z0d.n_b2]
    simp only [ih, obind_some, leK_ret, leK_brk]
theorem z0d.t_a2 (lp : Nat) (y : Unit) : kont (R := Int) (z0d.E lp) z0d.an lp (finK (z0d.E lp) Tryz.f179 [(.int .i64)]) (stkAt 2 (codeOf Tryz.f179)) (.exit 0) (z0d.sx2 y) = z0d.a2 lp y := by kernel_rfl
theorem z0d.t_q2 (lp : Nat) (z : Int) : kont (R := Int) (z0d.E lp) z0d.an lp (finK (z0d.E lp) Tryz.f179 [(.int .i64)]) (stkAt 2 (codeOf Tryz.f179)) .ret (z0d.sr2 z) = z0d.q2 lp z := by kernel_rfl
theorem z0d.t_e (lp : Nat) (x0 : List Ref) (x1 : (Ref × Unit) → Option Bool) : evalF (z0d.E lp) z0d.an lp Tryz.f179 [.v (.sl TRef), .clo (.pair TRef .unit) .bool] [(.int .i64)] (x0, x1, ()) = z0d.e lp (fun x0 x1 x7 x8 => loopK z0d.la2 (fun σ K => codeK (z0d.E lp) z0d.an lp (loopAt 2 (codeOf Tryz.f179)) σ K) lp (z0d.s2 x0 x1 x7 x8) (kont (R := Int) (z0d.E lp) z0d.an lp (finK (z0d.E lp) Tryz.f179 [(.int .i64)]) (stkAt 2 (codeOf Tryz.f179)))) x0 x1 := by kernel_rfl
theorem z0d.eq0 (lp : Nat) (x0 : List Ref) (x1 : (Ref × Unit) → Option Bool) : evalF (z0d.E lp) z0d.an lp Tryz.f179 [.v (.sl TRef), .clo (.pair TRef .unit) .bool] [(.int .i64)] (x0, x1, ()) = z0d lp x0 x1 := by
  rw [z0d.t_e]; unfold z0d
  simp only [leK_leF _ z0d.sr2 z0d.sx2, z0d.k2, z0d.t_a2, z0d.t_q2]
theorem z0d.eq (lp : Nat) (x : ADens [.v (.sl TRef), .clo (.pair TRef .unit) .bool]) : evalF (z0d.E lp) z0d.an lp Tryz.f179 [.v (.sl TRef), .clo (.pair TRef .unit) .bool] [(.int .i64)] x = (z0d.S lp).F x := z0d.eq0 lp x.1 x.2.1
theorem z0d.ok (lp : Nat) : Sound Tryz.prog 179 (z0d.S lp) := sound_of (E := z0d.E lp) (env_ok z0s tabEqs trivial trivial) mixed Tryz.func179 (by kernel_rfl) (c := codeOf Tryz.f179) (by kernel_rfl) (by kernel_rfl) z0d.an (fun x r h => ⟨lp, (z0d.eq lp x).trans h⟩)
def z32.E (lp : Nat) : Env := { tab := tab, fns := [(179, z0d.S lp)], ann := { own := [], ro := [] } }
def z32.an : An := { pre := [] }
def z32.S (lp : Nat) : Spec := { ats := [.v (.sl TRef), .clo (.pair TRef .unit) .bool], rts := [.bool], F := fun x => z32 lp x.1 x.2.1 }
theorem z32.eq (lp : Nat) (x : ADens [.v (.sl TRef), .clo (.pair TRef .unit) .bool]) : evalF (z32.E lp) z32.an lp Tryz.f157 [.v (.sl TRef), .clo (.pair TRef .unit) .bool] [.bool] x = (z32.S lp).F x := by kernel_rfl
theorem z32.ok (lp : Nat) : Sound Tryz.prog 157 (z32.S lp) := sound_of (E := z32.E lp) (env_ok z0s tabEqs ⟨z0d.ok lp, trivial⟩ trivial) mixed Tryz.func157 (by kernel_rfl) (c := codeOf Tryz.f157) (by kernel_rfl) (by kernel_rfl) z32.an (fun x r h => ⟨lp, (z32.eq lp x).trans h⟩)
def z3k.E : Env := { tab := tab, fns := [], ann := { own := [], ro := [2] } }
def z3k.an : An := { pre := [] }
def z3k.S : Spec := { ats := [.v TRef, .ptrC (.pair TRef .unit) .bool], rts := [.bool], F := fun x => z3k x.1 x.2.1 }
theorem z3k.eq (lp : Nat) (x : ADens [.v TRef, .ptrC (.pair TRef .unit) .bool]) : evalF (z3k.E) z3k.an lp Tryz.f158 [.v TRef, .ptrC (.pair TRef .unit) .bool] [.bool] x = (z3k.S).F x := by kernel_rfl
theorem z3k.ok : Sound Tryz.prog 158 (z3k.S) := sound_of (E := z3k.E) (env_ok z0s tabEqs trivial trivial) mixed Tryz.func158 (by kernel_rfl) (c := codeOf Tryz.f158) (by kernel_rfl) (by kernel_rfl) z3k.an (fun x r h => ⟨0, (z3k.eq 0 x).trans h⟩)
def z3o.E (lp : Nat) : Env := { tab := tab, fns := [(158, z3k.S), (157, z32.S lp)], ann := { own := [], ro := [3] } }
def z3o.an : An := { pre := [] }
def z3o.S (lp : Nat) : Spec := { ats := [.v (.sl TRef), .clo (.pair TRef .unit) .bool], rts := [.bool], F := fun x => z3o lp x.1 x.2.1 }
theorem z3o.eq (lp : Nat) (x : ADens [.v (.sl TRef), .clo (.pair TRef .unit) .bool]) : evalF (z3o.E lp) z3o.an lp Tryz.f104 [.v (.sl TRef), .clo (.pair TRef .unit) .bool] [.bool] x = (z3o.S lp).F x := by kernel_rfl
theorem z3o.ok (lp : Nat) : Sound Tryz.prog 104 (z3o.S lp) := sound_of (E := z3o.E lp) (env_ok z0s tabEqs ⟨z3k.ok, z32.ok lp, trivial⟩ trivial) mixed Tryz.func104 (by kernel_rfl) (c := codeOf Tryz.f104) (by kernel_rfl) (by kernel_rfl) z3o.an (fun x r h => ⟨lp, (z3o.eq lp x).trans h⟩)
def z51.E : Env := { tab := tab, fns := [], ann := { own := [], ro := [2] } }
def z51.an : An := { pre := [] }
def z51.S : Spec := { ats := [.v TRef, .ptrD .str], rts := [.bool], F := fun x => z51 x.1 x.2.1 }
theorem z51.eq (lp : Nat) (x : ADens [.v TRef, .ptrD .str]) : evalF (z51.E) z51.an lp Tryz.f180 [.v TRef, .ptrD .str] [.bool] x = (z51.S).F x := by kernel_rfl
theorem z51.ok : Sound Tryz.prog 180 (z51.S) := sound_of (E := z51.E) (env_ok z0s tabEqs trivial trivial) mixed Tryz.func180 (by kernel_rfl) (c := codeOf Tryz.f180) (by kernel_rfl) (by kernel_rfl) z51.an (fun x r h => ⟨0, (z51.eq 0 x).trans h⟩)
def z5q.E (lp : Nat) : Env := { tab := tab, fns := [(180, z51.S), (179, z0d.S lp)], ann := { own := [], ro := [3] } }
def z5q.an : An := { pre := [] }
def z5q.S (lp : Nat) : Spec := { ats := [.v (.sl TRef), .v .str], rts := [(.int .i64)], F := fun x => z5q lp x.1 x.2.1 }
theorem z5q.eq (lp : Nat) (x : ADens [.v (.sl TRef), .v .str]) : evalF (z5q.E lp) z5q.an lp Tryz.f120 [.v (.sl TRef), .v .str] [(.int .i64)] x = (z5q.S lp).F x := by kernel_rfl
theorem z5q.ok (lp : Nat) : Sound Tryz.prog 120 (z5q.S lp) := sound_of (E := z5q.E lp) (env_ok z0s tabEqs ⟨z51.ok, z0d.ok lp, trivial⟩ trivial) mixed Tryz.func120 (by kernel_rfl) (c := codeOf Tryz.f120) (by kernel_rfl) (by kernel_rfl) z5q.an (fun x r h => ⟨lp, (z5q.eq lp x).trans h⟩)
def z3n.E : Env := { tab := tab, fns := [(52, z2t.S)], ann := { own := [], ro := [] } }
def z3n.an : An := { pre := [] }
def z3n.S : Spec := { ats := [.v (.int .i64)], rts := [.bool], F := fun x => z3n x.1 }
theorem z3n.eq (lp : Nat) (x : ADens [.v (.int .i64)]) : evalF (z3n.E) z3n.an lp Tryz.f169 [.v (.int .i64)] [.bool] x = (z3n.S).F x := by kernel_rfl
theorem z3n.ok : Sound Tryz.prog 169 (z3n.S) := sound_of (E := z3n.E) (env_ok z0s tabEqs ⟨z2t.ok, trivial⟩ trivial) mixed Tryz.func169 (by kernel_rfl) (c := codeOf Tryz.f169) (by kernel_rfl) (by kernel_rfl) z3n.an (fun x r h => ⟨0, (z3n.eq 0 x).trans h⟩)
def z6x.E (lp : Nat) : Env := { tab := tab, fns := [(116, z33.S lp), (52, z2t.S), (169, z3n.S)], ann := { own := [], ro := [1] } }
def z6x.an : An := { pre := [] }
def z6x.S (lp : Nat) : Spec := { ats := [.v TRef], rts := [.bool], F := fun x => z6x lp x.1 }
theorem z6x.eq (lp : Nat) (x : ADens [.v TRef]) : evalF (z6x.E lp) z6x.an lp Tryz.f156 [.v TRef] [.bool] x = (z6x.S lp).F x := by kernel_rfl
theorem z6x.ok (lp : Nat) : Sound Tryz.prog 156 (z6x.S lp) := sound_of (E := z6x.E lp) (env_ok z0s tabEqs ⟨z33.ok lp, z2t.ok, z3n.ok, trivial⟩ trivial) mixed Tryz.func156 (by kernel_rfl) (c := codeOf Tryz.f156) (by kernel_rfl) (by kernel_rfl) z6x.an (fun x r h => ⟨lp, (z6x.eq lp x).trans h⟩)
def z26.la4 : LoopAn := { kn := { tms := [0, 13, 14, 15] }, kx := {}, kr := { tms := [2] } }
def z26.E (lp : Nat) : Env := { tab := tab, fns := [(156, z6x.S lp), (104, z3o.S lp), (120, z5q.S lp)], ann := { own := [], ro := [] } }
def z26.an : An := { loops := [(4, z26.la4)] }
def z26.s4 (x0 : List Ref) (x13 : List Ref) (x14 : Int) (x15 : Int) : St := ⟨.v (.one (.b (.d (.sl TRef) x0))) :: (sk 12 (.v (.one (.b (.d (.sl TRef) x13))) :: .v (.one (.b (.d (.int .i64) x14))) :: .v (.one (.b (.d (.int .i64) x15))) :: (sk 12 ([])))), sko 28 ([])⟩
def z26.sx4 (y : Unit) : St := ⟨sk 28 ([]), sko 28 ([])⟩
def z26.sr4 (z : Bool) : St := ⟨sk 2 (.v (.one (.b (.d .bool z))) :: (sk 25 ([]))), sko 28 ([])⟩
def z26.S (lp : Nat) : Spec := { ats := [.v (.sl TRef)], rts := [.bool], F := fun x => z26 lp x.1 }
theorem z26.t_b4 (lp : Nat) {R : Type} (N : St → Option R) (X : Out → St → Option R) (x0 : List Ref) (x13 : List Ref) (x14 : Int) (x15 : Int) : codeK (z26.E lp) z26.an lp (loopAt 4 (codeOf Tryz.f103)) (z26.s4 x0 x13 x14 x15) (lpK z26.la4 N X) = z26.b4 lp (fun x0 x13 x14 x15 => N (z26.s4 x0 x13 x14 x15)) (fun y => X (.exit 0) (z26.sx4 y)) (fun z => X .ret (z26.sr4 z)) x0 x13 x14 x15 := by kernel_rfl
theorem z26.n_b4 (lp : Nat) {R S : Type} (N : List Ref → List Ref → Int → Int → Option R) (X : Unit → Option R) (Q : Bool → Option R) (x0 : List Ref) (x13 : List Ref) (x14 : Int) (x15 : Int) (k : R → Option S) : obind (z26.b4 lp N X Q x0 x13 x14 x15) k = z26.b4 lp (fun x0 x13 x14 x15 => obind (N x0 x13 x14 x15) k) (fun y => obind (X y) k) (fun z => obind (Q z) k) x0 x13 x14 x15 := by
  unfold z26.b4; simp only [obind_none, obind_some, obind_cond, obind_oif, obind_oget, obind_obind]
theorem z26.k4 (lp : Nat) {R : Type} (K : Out → St → Option R) : ∀ (n : Nat) (x0 : List Ref) (x13 : List Ref) (x14 : Int) (x15 : Int), loopK z26.la4 (fun σ K => codeK (z26.E lp) z26.an lp (loopAt 4 (codeOf Tryz.f103)) σ K) n (z26.s4 x0 x13 x14 x15) K = obind (z26.l4 lp n x0 x13 x14 x15) (leK 0 z26.sr4 z26.sx4 K) := by
  intro n
  induction n with
  | zero => intros; rfl
  | succ n ih =>
    intro x0 x13 x14 x15
    rw [loopK_succ, z26.t_b4, z26.l4, z26.n_b4]
    simp only [ih, obind_some, leK_ret, leK_brk]
theorem z26.t_a4 (lp : Nat) (y : Unit) : kont (R := Bool) (z26.E lp) z26.an lp (finK (z26.E lp) Tryz.f103 [.bool]) (stkAt 4 (codeOf Tryz.f103)) (.exit 0) (z26.sx4 y) = z26.a4 lp y := by kernel_rfl
theorem z26.t_q4 (lp : Nat) (z : Bool) : kont (R := Bool) (z26.E lp) z26.an lp (finK (z26.E lp) Tryz.f103 [.bool]) (stkAt 4 (codeOf Tryz.f103)) .ret (z26.sr4 z) = z26.q4 lp z := by kernel_rfl
theorem z26.t_e (lp : Nat) (x0 : List Ref) : evalF (z26.E lp) z26.an lp Tryz.f103 [.v (.sl TRef)] [.bool] (x0, ()) = z26.e lp (fun x0 x13 x14 x15 => loopK z26.la4 (fun σ K => codeK (z26.E lp) z26.an lp (loopAt 4 (codeOf Tryz.f103)) σ K) lp (z26.s4 x0 x13 x14 x15) (kont (R := Bool) (z26.E lp) z26.an lp (finK (z26.E lp) Tryz.f103 [.bool]) (stkAt 4 (codeOf Tryz.f103)))) x0 := by kernel_rfl
theorem z26.eq0 (lp : Nat) (x0 : List Ref) : evalF (z26.E lp) z26.an lp Tryz.f103 [.v (.sl TRef)] [.bool] (x0, ()) = z26 lp x0 := by
  rw [z26.t_e]; unfold z26
  simp only [leK_leF _ z26.sr4 z26.sx4, z26.k4, z26.t_a4, z26.t_q4]
theorem z26.eq (lp : Nat) (x : ADens [.v (.sl TRef)]) : evalF (z26.E lp) z26.an lp Tryz.f103 [.v (.sl TRef)] [.bool] x = (z26.S lp).F x := z26.eq0 lp x.1
theorem z26.ok (lp : Nat) : Sound Tryz.prog 103 (z26.S lp) := sound_of (E := z26.E lp) (env_ok z0s tabEqs ⟨z6x.ok lp, z3o.ok lp, z5q.ok lp, trivial⟩ trivial) mixed Tryz.func103 (by kernel_rfl) (c := codeOf Tryz.f103) (by kernel_rfl) (by kernel_rfl) z26.an (fun x r h => ⟨lp, (z26.eq lp x).trans h⟩)
def z4t.E : Env := { tab := tab, fns := [], ann := { own := [], ro := [2] } }
def z4t.an : An := { pre := [] }
def z4t.S : Spec := { ats := [.v TRef, .ptrD TBase], rts := [.bool], F := fun x => z4t x.1 x.2.1 }
theorem z4t.eq (lp : Nat) (x : ADens [.v TRef, .ptrD TBase]) : evalF (z4t.E) z4t.an lp Tryz.f105 [.v TRef, .ptrD TBase] [.bool] x = (z4t.S).F x := by kernel_rfl
theorem z4t.ok : Sound Tryz.prog 105 (z4t.S) := sound_of (E := z4t.E) (env_ok z0s tabEqs trivial trivial) mixed Tryz.func105 (by kernel_rfl) (c := codeOf Tryz.f105) (by kernel_rfl) (by kernel_rfl) z4t.an (fun x r h => ⟨0, (z4t.eq 0 x).trans h⟩)
def z5m.E (lp : Nat) : Env := { tab := tab, fns := [(102, z4v.S lp), (103, z26.S lp), (105, z4t.S), (104, z3o.S lp)], ann := { own := [], ro := [1] } }
def z5m.an : An := { pre := [] }
def z5m.S (lp : Nat) : Spec := { ats := [.v TBase], rts := [.bool], F := fun x => z5m lp x.1 }
theorem z5m.eq (lp : Nat) (x : ADens [.v TBase]) : evalF (z5m.E lp) z5m.an lp Tryz.f51 [.v TBase] [.bool] x = (z5m.S lp).F x := by kernel_rfl
theorem z5m.ok (lp : Nat) : Sound Tryz.prog 51 (z5m.S lp) := sound_of (E := z5m.E lp) (env_ok z0s tabEqs ⟨z4v.ok lp, z26.ok lp, z4t.ok, z3o.ok lp, trivial⟩ trivial) mixed Tryz.func51 (by kernel_rfl) (c := codeOf Tryz.f51) (by kernel_rfl) (by kernel_rfl) z5m.an (fun x r h => ⟨lp, (z5m.eq lp x).trans h⟩)
def z0c.la2 : LoopAn := { kn := { tms := [0, 1, 7, 8] }, kx := {}, kr := { tms := [4] } }
def z0c.E (lp : Nat) : Env := { tab := tab, fns := [], ann := { own := [], ro := [] } }
def z0c.an : An := { loops := [(2, z0c.la2)] }
def z0c.s2 (x0 : List Wish) (x1 : (Wish × Unit) → Option Bool) (x7 : Int) (x8 : Int) : St := ⟨.v (.one (.b (.d (.sl TWish) x0))) :: .v (.one (.b (.cl (.pair TWish .unit) .bool x1))) :: (sk 5 (.v (.one (.b (.d (.int .i64) x7))) :: .v (.one (.b (.d (.int .i64) x8))) :: (sk 10 ([])))), sko 19 ([])⟩
def z0c.sx2 (y : Unit) : St := ⟨sk 19 ([]), sko 19 ([])⟩
def z0c.sr2 (z : Int) : St := ⟨sk 4 (.v (.one (.b (.d (.int .i64) z))) :: (sk 14 ([]))), sko 19 ([])⟩
def z0c.S (lp : Nat) : Spec := { ats := [.v (.sl TWish), .clo (.pair TWish .unit) .bool], rts := [(.int .i64)], F := fun x => z0c lp x.1 x.2.1 }
theorem z0c.t_b2 (lp : Nat) {R : Type} (N : St → Option R) (X : Out → St → Option R) (x0 : List Wish) (x1 : (Wish × Unit) → Option Bool) (x7 : Int) (x8 : Int) : codeK (z0c.E lp) z0c.an lp (loopAt 2 (codeOf Tryz.f195)) (z0c.s2 x0 x1 x7 x8) (lpK z0c.la2 N X) = z0c.b2 lp (fun x0 x1 x7 x8 => N (z0c.s2 x0 x1 x7 x8)) (fun y => X (.exit 0) (z0c.sx2 y)) (fun z => X .ret (z0c.sr2 z)) x0 x1 x7 x8 := by kernel_rfl
theorem z0c.n_b2 (lp : Nat) {R S : Type} (N : List Wish → ((Wish × Unit) → Option Bool) → Int → Int → Option R) (X : Unit → Option R) (Q : Int → Option R) (x0 : List Wish) (x1 : (Wish × Unit) → Option Bool) (x7 : Int) (x8 : Int) (k : R → Option S) : obind (z0c.b2 lp N X Q x0 x1 x7 x8) k = z0c.b2 lp (fun x0 x1 x7 x8 => obind (N x0 x1 x7 x8) k) (fun y => obind (X y) k) (fun z => obind (Q z) k) x0 x1 x7 x8 := by
  unfold z0c.b2; simp only [obind_none, obind_some, obind_cond, obind_oif, obind_oget, obind_obind]
theorem z0c.k2 (lp : Nat) {R : Type} (K : Out → St → Option R) : ∀ (n : Nat) (x0 : List Wish) (x1 : (Wish × Unit) → Option Bool) (x7 : Int) (x8 : Int), loopK z0c.la2 (fun σ K => codeK (z0c.E lp) z0c.an lp (loopAt 2 (codeOf Tryz.f195)) σ K) n (z0c.s2 x0 x1 x7 x8) K = obind (z0c.l2 lp n x0 x1 x7 x8) (leK 0 z0c.sr2 z0c.sx2 K) := by
  intro n
  induction n with
  | zero => intros; rfl
  | succ n ih =>
    intro x0 x1 x7 x8
    rw [loopK_succ, z0c.t_b2, z0c.l2, z0c.n_b2]
    simp only [ih, obind_some, leK_ret, leK_brk]
theorem z0c.t_a2 (lp : Nat) (y : Unit) : kont (R := Int) (z0c.E lp) z0c.an lp (finK (z0c.E lp) Tryz.f195 [(.int .i64)]) (stkAt 2 (codeOf Tryz.f195)) (.exit 0) (z0c.sx2 y) = z0c.a2 lp y := by kernel_rfl
theorem z0c.t_q2 (lp : Nat) (z : Int) : kont (R := Int) (z0c.E lp) z0c.an lp (finK (z0c.E lp) Tryz.f195 [(.int .i64)]) (stkAt 2 (codeOf Tryz.f195)) .ret (z0c.sr2 z) = z0c.q2 lp z := by kernel_rfl
theorem z0c.t_e (lp : Nat) (x0 : List Wish) (x1 : (Wish × Unit) → Option Bool) : evalF (z0c.E lp) z0c.an lp Tryz.f195 [.v (.sl TWish), .clo (.pair TWish .unit) .bool] [(.int .i64)] (x0, x1, ()) = z0c.e lp (fun x0 x1 x7 x8 => loopK z0c.la2 (fun σ K => codeK (z0c.E lp) z0c.an lp (loopAt 2 (codeOf Tryz.f195)) σ K) lp (z0c.s2 x0 x1 x7 x8) (kont (R := Int) (z0c.E lp) z0c.an lp (finK (z0c.E lp) Tryz.f195 [(.int .i64)]) (stkAt 2 (codeOf Tryz.f195)))) x0 x1 := by kernel_rfl
theorem z0c.eq0 (lp : Nat) (x0 : List Wish) (x1 : (Wish × Unit) → Option Bool) : evalF (z0c.E lp) z0c.an lp Tryz.f195 [.v (.sl TWish), .clo (.pair TWish .unit) .bool] [(.int .i64)] (x0, x1, ()) = z0c lp x0 x1 := by
  rw [z0c.t_e]; unfold z0c
  simp only [leK_leF _ z0c.sr2 z0c.sx2, z0c.k2, z0c.t_a2, z0c.t_q2]
theorem z0c.eq (lp : Nat) (x : ADens [.v (.sl TWish), .clo (.pair TWish .unit) .bool]) : evalF (z0c.E lp) z0c.an lp Tryz.f195 [.v (.sl TWish), .clo (.pair TWish .unit) .bool] [(.int .i64)] x = (z0c.S lp).F x := z0c.eq0 lp x.1 x.2.1
theorem z0c.ok (lp : Nat) : Sound Tryz.prog 195 (z0c.S lp) := sound_of (E := z0c.E lp) (env_ok z0s tabEqs trivial trivial) mixed Tryz.func195 (by kernel_rfl) (c := codeOf Tryz.f195) (by kernel_rfl) (by kernel_rfl) z0c.an (fun x r h => ⟨lp, (z0c.eq lp x).trans h⟩)
def z2z.E (lp : Nat) : Env := { tab := tab, fns := [(195, z0c.S lp)], ann := { own := [], ro := [] } }
def z2z.an : An := { pre := [] }
def z2z.S (lp : Nat) : Spec := { ats := [.v (.sl TWish), .clo (.pair TWish .unit) .bool], rts := [.bool], F := fun x => z2z lp x.1 x.2.1 }
theorem z2z.eq (lp : Nat) (x : ADens [.v (.sl TWish), .clo (.pair TWish .unit) .bool]) : evalF (z2z.E lp) z2z.an lp Tryz.f159 [.v (.sl TWish), .clo (.pair TWish .unit) .bool] [.bool] x = (z2z.S lp).F x := by kernel_rfl
theorem z2z.ok (lp : Nat) : Sound Tryz.prog 159 (z2z.S lp) := sound_of (E := z2z.E lp) (env_ok z0s tabEqs ⟨z0c.ok lp, trivial⟩ trivial) mixed Tryz.func159 (by kernel_rfl) (c := codeOf Tryz.f159) (by kernel_rfl) (by kernel_rfl) z2z.an (fun x r h => ⟨lp, (z2z.eq lp x).trans h⟩)
def z3d.E : Env := { tab := tab, fns := [], ann := { own := [], ro := [2] } }
def z3d.an : An := { pre := [] }
def z3d.S : Spec := { ats := [.v TWish, .ptrC (.pair TWish .unit) .bool], rts := [.bool], F := fun x => z3d x.1 x.2.1 }
theorem z3d.eq (lp : Nat) (x : ADens [.v TWish, .ptrC (.pair TWish .unit) .bool]) : evalF (z3d.E) z3d.an lp Tryz.f160 [.v TWish, .ptrC (.pair TWish .unit) .bool] [.bool] x = (z3d.S).F x := by kernel_rfl
theorem z3d.ok : Sound Tryz.prog 160 (z3d.S) := sound_of (E := z3d.E) (env_ok z0s tabEqs trivial trivial) mixed Tryz.func160 (by kernel_rfl) (c := codeOf Tryz.f160) (by kernel_rfl) (by kernel_rfl) z3d.an (fun x r h => ⟨0, (z3d.eq 0 x).trans h⟩)
def z3v.E (lp : Nat) : Env := { tab := tab, fns := [(160, z3d.S), (159, z2z.S lp)], ann := { own := [], ro := [3] } }
def z3v.an : An := { pre := [] }
def z3v.S (lp : Nat) : Spec := { ats := [.v (.sl TWish), .clo (.pair TWish .unit) .bool], rts := [.bool], F := fun x => z3v lp x.1 x.2.1 }
theorem z3v.eq (lp : Nat) (x : ADens [.v (.sl TWish), .clo (.pair TWish .unit) .bool]) : evalF (z3v.E lp) z3v.an lp Tryz.f106 [.v (.sl TWish), .clo (.pair TWish .unit) .bool] [.bool] x = (z3v.S lp).F x := by kernel_rfl
theorem z3v.ok (lp : Nat) : Sound Tryz.prog 106 (z3v.S lp) := sound_of (E := z3v.E lp) (env_ok z0s tabEqs ⟨z3d.ok, z2z.ok lp, trivial⟩ trivial) mixed Tryz.func106 (by kernel_rfl) (c := codeOf Tryz.f106) (by kernel_rfl) (by kernel_rfl) z3v.an (fun x r h => ⟨lp, (z3v.eq lp x).trans h⟩)
def z1d.la2 : LoopAn := { kn := { tms := [0, 5, 6, 7] }, kx := { tms := [0] }, kr := { tms := [2] } }
def z1d.E (lp : Nat) : Env := { tab := tab, fns := [(116, z33.S lp), (124, z43.S)], ann := { own := [], ro := [] } }
def z1d.an : An := { loops := [(2, z1d.la2)] }
def z1d.s2 (x0 : List Edit) (x5 : List Edit) (x6 : Int) (x7 : Int) : St := ⟨.v (.one (.b (.d (.sl TEdit) x0))) :: (sk 4 (.v (.one (.b (.d (.sl TEdit) x5))) :: .v (.one (.b (.d (.int .i64) x6))) :: .v (.one (.b (.d (.int .i64) x7))) :: (sk 42 ([])))), sko 50 ([])⟩
def z1d.sx2 (y : (List Edit)) : St := ⟨.v (.one (.b (.d (.sl TEdit) y))) :: (sk 49 ([])), sko 50 ([])⟩
def z1d.sr2 (z : Bool) : St := ⟨sk 2 (.v (.one (.b (.d .bool z))) :: (sk 47 ([]))), sko 50 ([])⟩
def z1d.S (lp : Nat) : Spec := { ats := [.v (.sl TEdit)], rts := [.bool], F := fun x => z1d lp x.1 }
theorem z1d.t_b2 (lp : Nat) {R : Type} (N : St → Option R) (X : Out → St → Option R) (x0 : List Edit) (x5 : List Edit) (x6 : Int) (x7 : Int) : codeK (z1d.E lp) z1d.an lp (loopAt 2 (codeOf Tryz.f66)) (z1d.s2 x0 x5 x6 x7) (lpK z1d.la2 N X) = z1d.b2 lp (fun x0 x5 x6 x7 => N (z1d.s2 x0 x5 x6 x7)) (fun y => X (.exit 0) (z1d.sx2 y)) (fun z => X .ret (z1d.sr2 z)) x0 x5 x6 x7 := by kernel_rfl
theorem z1d.n_b2 (lp : Nat) {R S : Type} (N : List Edit → List Edit → Int → Int → Option R) (X : ((List Edit)) → Option R) (Q : Bool → Option R) (x0 : List Edit) (x5 : List Edit) (x6 : Int) (x7 : Int) (k : R → Option S) : obind (z1d.b2 lp N X Q x0 x5 x6 x7) k = z1d.b2 lp (fun x0 x5 x6 x7 => obind (N x0 x5 x6 x7) k) (fun y => obind (X y) k) (fun z => obind (Q z) k) x0 x5 x6 x7 := by
  unfold z1d.b2; simp only [obind_none, obind_some, obind_cond, obind_oif, obind_oget, obind_obind]
theorem z1d.k2 (lp : Nat) {R : Type} (K : Out → St → Option R) : ∀ (n : Nat) (x0 : List Edit) (x5 : List Edit) (x6 : Int) (x7 : Int), loopK z1d.la2 (fun σ K => codeK (z1d.E lp) z1d.an lp (loopAt 2 (codeOf Tryz.f66)) σ K) n (z1d.s2 x0 x5 x6 x7) K = obind (z1d.l2 lp n x0 x5 x6 x7) (leK 0 z1d.sr2 z1d.sx2 K) := by
  intro n
  induction n with
  | zero => intros; rfl
  | succ n ih =>
    intro x0 x5 x6 x7
    rw [loopK_succ, z1d.t_b2, z1d.l2, z1d.n_b2]
    simp only [ih, obind_some, leK_ret, leK_brk]
theorem z1d.t_a2 (lp : Nat) (y : (List Edit)) : kont (R := Bool) (z1d.E lp) z1d.an lp (finK (z1d.E lp) Tryz.f66 [.bool]) (stkAt 2 (codeOf Tryz.f66)) (.exit 0) (z1d.sx2 y) = z1d.a2 lp y := by kernel_rfl
theorem z1d.t_q2 (lp : Nat) (z : Bool) : kont (R := Bool) (z1d.E lp) z1d.an lp (finK (z1d.E lp) Tryz.f66 [.bool]) (stkAt 2 (codeOf Tryz.f66)) .ret (z1d.sr2 z) = z1d.q2 lp z := by kernel_rfl
theorem z1d.t_e (lp : Nat) (x0 : List Edit) : evalF (z1d.E lp) z1d.an lp Tryz.f66 [.v (.sl TEdit)] [.bool] (x0, ()) = z1d.e lp (fun x0 x5 x6 x7 => loopK z1d.la2 (fun σ K => codeK (z1d.E lp) z1d.an lp (loopAt 2 (codeOf Tryz.f66)) σ K) lp (z1d.s2 x0 x5 x6 x7) (kont (R := Bool) (z1d.E lp) z1d.an lp (finK (z1d.E lp) Tryz.f66 [.bool]) (stkAt 2 (codeOf Tryz.f66)))) x0 := by kernel_rfl
theorem z1d.eq0 (lp : Nat) (x0 : List Edit) : evalF (z1d.E lp) z1d.an lp Tryz.f66 [.v (.sl TEdit)] [.bool] (x0, ()) = z1d lp x0 := by
  rw [z1d.t_e]; unfold z1d
  simp only [leK_leF _ z1d.sr2 z1d.sx2, z1d.k2, z1d.t_a2, z1d.t_q2]
theorem z1d.eq (lp : Nat) (x : ADens [.v (.sl TEdit)]) : evalF (z1d.E lp) z1d.an lp Tryz.f66 [.v (.sl TEdit)] [.bool] x = (z1d.S lp).F x := z1d.eq0 lp x.1
theorem z1d.ok (lp : Nat) : Sound Tryz.prog 66 (z1d.S lp) := sound_of (E := z1d.E lp) (env_ok z0s tabEqs ⟨z33.ok lp, z43.ok, trivial⟩ trivial) mixed Tryz.func66 (by kernel_rfl) (c := codeOf Tryz.f66) (by kernel_rfl) (by kernel_rfl) z1d.an (fun x r h => ⟨lp, (z1d.eq lp x).trans h⟩)
def z68.E (lp : Nat) : Env := { tab := tab, fns := [(116, z33.S lp), (169, z3n.S), (52, z2t.S), (66, z1d.S lp)], ann := { own := [], ro := [1] } }
def z68.an : An := { pre := [] }
def z68.S (lp : Nat) : Spec := { ats := [.v TOp], rts := [.bool], F := fun x => z68 lp x.1 }
theorem z68.eq (lp : Nat) (x : ADens [.v TOp]) : evalF (z68.E lp) z68.an lp Tryz.f112 [.v TOp] [.bool] x = (z68.S lp).F x := by kernel_rfl
theorem z68.ok (lp : Nat) : Sound Tryz.prog 112 (z68.S lp) := sound_of (E := z68.E lp) (env_ok z0s tabEqs ⟨z33.ok lp, z3n.ok, z2t.ok, z1d.ok lp, trivial⟩ trivial) mixed Tryz.func112 (by kernel_rfl) (c := codeOf Tryz.f112) (by kernel_rfl) (by kernel_rfl) z68.an (fun x r h => ⟨lp, (z68.eq lp x).trans h⟩)
def z3z.E : Env := { tab := tab, fns := [], ann := { own := [], ro := [] } }
def z3z.an : An := { pre := [] }
def z3z.S : Spec := { ats := [.v (.int .i64)], rts := [.bool], F := fun x => z3z x.1 }
theorem z3z.eq (lp : Nat) (x : ADens [.v (.int .i64)]) : evalF (z3z.E) z3z.an lp Tryz.f161 [.v (.int .i64)] [.bool] x = (z3z.S).F x := by kernel_rfl
theorem z3z.ok : Sound Tryz.prog 161 (z3z.S) := sound_of (E := z3z.E) (env_ok z0s tabEqs trivial trivial) mixed Tryz.func161 (by kernel_rfl) (c := codeOf Tryz.f161) (by kernel_rfl) (by kernel_rfl) z3z.an (fun x r h => ⟨0, (z3z.eq 0 x).trans h⟩)
def z6a.S : Spec := cloneS TEdit 32
def z6a.R : RSpec := cloneR 168 TEdit 32
theorem z6a.rok : SoundR Tryz.prog 196 z6a.R := clone_okR Tryz.lays186 rfl ⟨Tryz.f196, Tryz.func196, by kernel_rfl, by kernel_rfl⟩ rfl (i := (find tab 168).getD ⟨none, 0, false, [], 0, .other, false⟩) (by kernel_rfl) (by kernel_rfl) (by decide) (Nat.le_of_ble_eq_true (by kernel_rfl))
theorem z6a.ok : Sound Tryz.prog 196 z6a.S := clone_okS z6a.rok (by decide)
def z49.E : Env := { tab := tab, fns := [(196, z6a.S)], ann := { own := [], ro := [2] } }
def z49.an : An := { pre := [] }
def z49.S : Spec := { ats := [.v TWish, .v (.int .i64)], rts := [TOp], F := fun x => z49 x.1 x.2.1 }
theorem z49.eq (lp : Nat) (x : ADens [.v TWish, .v (.int .i64)]) : evalF (z49.E) z49.an lp Tryz.f162 [.v TWish, .v (.int .i64)] [TOp] x = (z49.S).F x := by kernel_rfl
theorem z49.ok : Sound Tryz.prog 162 (z49.S) := sound_of (E := z49.E) (env_ok z0s tabEqs ⟨z6a.ok, trivial⟩ trivial) mixed Tryz.func162 (by kernel_rfl) (c := codeOf Tryz.f162) (by kernel_rfl) (by kernel_rfl) z49.an (fun x r h => ⟨0, (z49.eq 0 x).trans h⟩)
def z5u.E (lp : Nat) : Env := { tab := tab, fns := [(161, z3z.S), (162, z49.S), (112, z68.S lp), (116, z33.S lp)], ann := { own := [], ro := [1] } }
def z5u.an : An := { pre := [] }
def z5u.S (lp : Nat) : Spec := { ats := [.v TWish], rts := [.bool], F := fun x => z5u lp x.1 }
theorem z5u.eq (lp : Nat) (x : ADens [.v TWish]) : evalF (z5u.E lp) z5u.an lp Tryz.f107 [.v TWish] [.bool] x = (z5u.S lp).F x := by kernel_rfl
theorem z5u.ok (lp : Nat) : Sound Tryz.prog 107 (z5u.S lp) := sound_of (E := z5u.E lp) (env_ok z0s tabEqs ⟨z3z.ok, z49.ok, z68.ok lp, z33.ok lp, trivial⟩ trivial) mixed Tryz.func107 (by kernel_rfl) (c := codeOf Tryz.f107) (by kernel_rfl) (by kernel_rfl) z5u.an (fun x r h => ⟨lp, (z5u.eq lp x).trans h⟩)
def z0h.la4 : LoopAn := { kn := { tms := [0, 1, 12, 13] }, kx := {}, kr := { tms := [4] } }
def z0h.E (lp : Nat) : Env := { tab := tab, fns := [], ann := { own := [], ro := [] } }
def z0h.an : An := { loops := [(4, z0h.la4)] }
def z0h.s4 (x0 : List Entry) (x1 : List Entry) (x12 : Int) (x13 : Int) : St := ⟨.v (.one (.b (.d (.sl TEntry) x0))) :: .v (.one (.b (.d (.sl TEntry) x1))) :: (sk 10 (.v (.one (.b (.d (.int .i64) x12))) :: .v (.one (.b (.d (.int .i64) x13))) :: (sk 12 ([])))), sko 26 ([])⟩
def z0h.sx4 (y : Unit) : St := ⟨sk 26 ([]), sko 26 ([])⟩
def z0h.sr4 (z : Bool) : St := ⟨sk 4 (.v (.one (.b (.d .bool z))) :: (sk 21 ([]))), sko 26 ([])⟩
def z0h.S (lp : Nat) : Spec := { ats := [.v (.sl TEntry), .v (.sl TEntry)], rts := [.bool], F := fun x => z0h lp x.1 x.2.1 }
theorem z0h.t_b4 (lp : Nat) {R : Type} (N : St → Option R) (X : Out → St → Option R) (x0 : List Entry) (x1 : List Entry) (x12 : Int) (x13 : Int) : codeK (z0h.E lp) z0h.an lp (loopAt 4 (codeOf Tryz.f64)) (z0h.s4 x0 x1 x12 x13) (lpK z0h.la4 N X) = z0h.b4 lp (fun x0 x1 x12 x13 => N (z0h.s4 x0 x1 x12 x13)) (fun y => X (.exit 0) (z0h.sx4 y)) (fun z => X .ret (z0h.sr4 z)) x0 x1 x12 x13 := by kernel_rfl
theorem z0h.n_b4 (lp : Nat) {R S : Type} (N : List Entry → List Entry → Int → Int → Option R) (X : Unit → Option R) (Q : Bool → Option R) (x0 : List Entry) (x1 : List Entry) (x12 : Int) (x13 : Int) (k : R → Option S) : obind (z0h.b4 lp N X Q x0 x1 x12 x13) k = z0h.b4 lp (fun x0 x1 x12 x13 => obind (N x0 x1 x12 x13) k) (fun y => obind (X y) k) (fun z => obind (Q z) k) x0 x1 x12 x13 := by
  unfold z0h.b4; simp only [obind_none, obind_some, obind_cond, obind_oif, obind_oget, obind_obind]
theorem z0h.k4 (lp : Nat) {R : Type} (K : Out → St → Option R) : ∀ (n : Nat) (x0 : List Entry) (x1 : List Entry) (x12 : Int) (x13 : Int), loopK z0h.la4 (fun σ K => codeK (z0h.E lp) z0h.an lp (loopAt 4 (codeOf Tryz.f64)) σ K) n (z0h.s4 x0 x1 x12 x13) K = obind (z0h.l4 lp n x0 x1 x12 x13) (leK 0 z0h.sr4 z0h.sx4 K) := by
  intro n
  induction n with
  | zero => intros; rfl
  | succ n ih =>
    intro x0 x1 x12 x13
    rw [loopK_succ, z0h.t_b4, z0h.l4, z0h.n_b4]
    simp only [ih, obind_some, leK_ret, leK_brk]
theorem z0h.t_a4 (lp : Nat) (y : Unit) : kont (R := Bool) (z0h.E lp) z0h.an lp (finK (z0h.E lp) Tryz.f64 [.bool]) (stkAt 4 (codeOf Tryz.f64)) (.exit 0) (z0h.sx4 y) = z0h.a4 lp y := by kernel_rfl
theorem z0h.t_q4 (lp : Nat) (z : Bool) : kont (R := Bool) (z0h.E lp) z0h.an lp (finK (z0h.E lp) Tryz.f64 [.bool]) (stkAt 4 (codeOf Tryz.f64)) .ret (z0h.sr4 z) = z0h.q4 lp z := by kernel_rfl
theorem z0h.t_e (lp : Nat) (x0 : List Entry) (x1 : List Entry) : evalF (z0h.E lp) z0h.an lp Tryz.f64 [.v (.sl TEntry), .v (.sl TEntry)] [.bool] (x0, x1, ()) = z0h.e lp (fun x0 x1 x12 x13 => loopK z0h.la4 (fun σ K => codeK (z0h.E lp) z0h.an lp (loopAt 4 (codeOf Tryz.f64)) σ K) lp (z0h.s4 x0 x1 x12 x13) (kont (R := Bool) (z0h.E lp) z0h.an lp (finK (z0h.E lp) Tryz.f64 [.bool]) (stkAt 4 (codeOf Tryz.f64)))) x0 x1 := by kernel_rfl
theorem z0h.eq0 (lp : Nat) (x0 : List Entry) (x1 : List Entry) : evalF (z0h.E lp) z0h.an lp Tryz.f64 [.v (.sl TEntry), .v (.sl TEntry)] [.bool] (x0, x1, ()) = z0h lp x0 x1 := by
  rw [z0h.t_e]; unfold z0h
  simp only [leK_leF _ z0h.sr4 z0h.sx4, z0h.k4, z0h.t_a4, z0h.t_q4]
theorem z0h.eq (lp : Nat) (x : ADens [.v (.sl TEntry), .v (.sl TEntry)]) : evalF (z0h.E lp) z0h.an lp Tryz.f64 [.v (.sl TEntry), .v (.sl TEntry)] [.bool] x = (z0h.S lp).F x := z0h.eq0 lp x.1 x.2.1
theorem z0h.ok (lp : Nat) : Sound Tryz.prog 64 (z0h.S lp) := sound_of (E := z0h.E lp) (env_ok z0s tabEqs trivial trivial) mixed Tryz.func64 (by kernel_rfl) (c := codeOf Tryz.f64) (by kernel_rfl) (by kernel_rfl) z0h.an (fun x r h => ⟨lp, (z0h.eq lp x).trans h⟩)
def z3g.E : Env := { tab := tab, fns := [], ann := { own := [], ro := [1] } }
def z3g.an : An := { pre := [] }
def z3g.S : Spec := { ats := [.v TClient], rts := [.bool], F := fun x => z3g x.1 }
theorem z3g.eq (lp : Nat) (x : ADens [.v TClient]) : evalF (z3g.E) z3g.an lp Tryz.f163 [.v TClient] [.bool] x = (z3g.S).F x := by kernel_rfl
theorem z3g.ok : Sound Tryz.prog 163 (z3g.S) := sound_of (E := z3g.E) (env_ok z0s tabEqs trivial trivial) mixed Tryz.func163 (by kernel_rfl) (c := codeOf Tryz.f163) (by kernel_rfl) (by kernel_rfl) z3g.an (fun x r h => ⟨0, (z3g.eq 0 x).trans h⟩)
def z3j.E : Env := { tab := tab, fns := [], ann := { own := [], ro := [1] } }
def z3j.an : An := { pre := [] }
def z3j.S : Spec := { ats := [.v TClient], rts := [.bool], F := fun x => z3j x.1 }
theorem z3j.eq (lp : Nat) (x : ADens [.v TClient]) : evalF (z3j.E) z3j.an lp Tryz.f164 [.v TClient] [.bool] x = (z3j.S).F x := by kernel_rfl
theorem z3j.ok : Sound Tryz.prog 164 (z3j.S) := sound_of (E := z3j.E) (env_ok z0s tabEqs trivial trivial) mixed Tryz.func164 (by kernel_rfl) (c := codeOf Tryz.f164) (by kernel_rfl) (by kernel_rfl) z3j.an (fun x r h => ⟨0, (z3j.eq 0 x).trans h⟩)
def z3w.E : Env := { tab := tab, fns := [], ann := { own := [], ro := [1] } }
def z3w.an : An := { pre := [] }
def z3w.S : Spec := { ats := [.v TClient], rts := [TWish], F := fun x => z3w x.1 }
theorem z3w.eq (lp : Nat) (x : ADens [.v TClient]) : evalF (z3w.E) z3w.an lp Tryz.f165 [.v TClient] [TWish] x = (z3w.S).F x := by kernel_rfl
theorem z3w.ok : Sound Tryz.prog 165 (z3w.S) := sound_of (E := z3w.E) (env_ok z0s tabEqs trivial trivial) mixed Tryz.func165 (by kernel_rfl) (c := codeOf Tryz.f165) (by kernel_rfl) (by kernel_rfl) z3w.an (fun x r h => ⟨0, (z3w.eq 0 x).trans h⟩)
def z3m.E : Env := { tab := tab, fns := [], ann := { own := [], ro := [] } }
def z3m.an : An := { pre := [] }
def z3m.S : Spec := { ats := [.v (.sl TEntry), .v (.sl .str), .v (.int .i64), .v (.sl (.int .i64))], rts := [TPlan], F := fun x => z3m x.1 x.2.1 x.2.2.1 x.2.2.2.1 }
theorem z3m.eq (lp : Nat) (x : ADens [.v (.sl TEntry), .v (.sl .str), .v (.int .i64), .v (.sl (.int .i64))]) : evalF (z3m.E) z3m.an lp Tryz.f200 [.v (.sl TEntry), .v (.sl .str), .v (.int .i64), .v (.sl (.int .i64))] [TPlan] x = (z3m.S).F x := by kernel_rfl
theorem z3m.ok : Sound Tryz.prog 200 (z3m.S) := sound_of (E := z3m.E) (env_ok z0s tabEqs trivial trivial) mixed Tryz.func200 (by kernel_rfl) (c := codeOf Tryz.f200) (by kernel_rfl) (by kernel_rfl) z3m.an (fun x r h => ⟨0, (z3m.eq 0 x).trans h⟩)
def z4k.E : Env := { tab := tab, fns := [], ann := { own := [], ro := [] } }
def z4k.an : An := { pre := [] }
def z4k.S : Spec := { ats := [.v (.sl TEntry)], rts := [(.sl TEntry), (.int .i64)], F := fun x => z4k x.1 }
theorem z4k.eq (lp : Nat) (x : ADens [.v (.sl TEntry)]) : evalF (z4k.E) z4k.an lp Tryz.f212 [.v (.sl TEntry)] [(.sl TEntry), (.int .i64)] x = (z4k.S).F x := by kernel_rfl
theorem z4k.ok : Sound Tryz.prog 212 (z4k.S) := sound_of (E := z4k.E) (env_ok z0s tabEqs trivial trivial) mixed Tryz.func212 (by kernel_rfl) (c := codeOf Tryz.f212) (by kernel_rfl) (by kernel_rfl) z4k.an (fun x r h => ⟨0, (z4k.eq 0 x).trans h⟩)
def z6e.S : Spec := cloneS TEntry 24
def z6e.R : RSpec := cloneR 122 TEntry 24
theorem z6e.rok : SoundR Tryz.prog 224 z6e.R := clone_okR Tryz.lays214 rfl ⟨Tryz.f224, Tryz.func224, by kernel_rfl, by kernel_rfl⟩ rfl (i := (find tab 122).getD ⟨none, 0, false, [], 0, .other, false⟩) (by kernel_rfl) (by kernel_rfl) (by decide) (Nat.le_of_ble_eq_true (by kernel_rfl))
theorem z6e.ok : Sound Tryz.prog 224 z6e.S := clone_okS z6e.rok (by decide)
def z01.la3 : LoopAn := { kn := { tms := [0, 1, 2, 8, 9, 10] }, kx := { tms := [0, 1, 2, 8, 9] }, kr := {} }
def z01.E (lp : Nat) : Env := { tab := tab, fns := [], ann := { own := [], ro := [] } }
def z01.an : An := { loops := [(3, z01.la3)] }
def z01.s3 (x0 : List Entry) (x1 : ByteArray) (x2 : (Entry × ByteArray × Unit) → Option Int) (x8 : Int) (x9 : Int) (x10 : Int) : St := ⟨.v (.one (.b (.d (.sl TEntry) x0))) :: .v (.one (.b (.d .str x1))) :: .v (.one (.b (.cl (.pair TEntry (.pair .str .unit)) (.int .i64) x2))) :: (sk 5 (.v (.one (.b (.d (.int .i64) x8))) :: .v (.one (.b (.d (.int .i64) x9))) :: .v (.one (.b (.d (.int .i64) x10))) :: (sk 38 ([])))), sko 49 ([])⟩
def z01.sx3 (y : (List Entry) × ByteArray × ((Entry × ByteArray × Unit) → Option Int) × Int × Int) : St := ⟨.v (.one (.b (.d (.sl TEntry) y.1))) :: .v (.one (.b (.d .str y.2.1))) :: .v (.one (.b (.cl (.pair TEntry (.pair .str .unit)) (.int .i64) y.2.2.1))) :: (sk 5 (.v (.one (.b (.d (.int .i64) y.2.2.2.1))) :: .v (.one (.b (.d (.int .i64) y.2.2.2.2))) :: (sk 39 ([])))), sko 49 ([])⟩
def z01.sr3 (z : Empty) : St := z.elim
def z01.S (lp : Nat) : Spec := { ats := [.v (.sl TEntry), .v .str, .clo (.pair TEntry (.pair .str .unit)) (.int .i64)], rts := [(.int .i64), .bool], F := fun x => z01 lp x.1 x.2.1 x.2.2.1 }
theorem z01.t_b3 (lp : Nat) {R : Type} (N : St → Option R) (X : Out → St → Option R) (x0 : List Entry) (x1 : ByteArray) (x2 : (Entry × ByteArray × Unit) → Option Int) (x8 : Int) (x9 : Int) (x10 : Int) : codeK (z01.E lp) z01.an lp (loopAt 3 (codeOf Tryz.f230)) (z01.s3 x0 x1 x2 x8 x9 x10) (lpK z01.la3 N X) = z01.b3 lp (fun x0 x1 x2 x8 x9 x10 => N (z01.s3 x0 x1 x2 x8 x9 x10)) (fun y => X (.exit 0) (z01.sx3 y)) (fun z => X .ret (z01.sr3 z)) x0 x1 x2 x8 x9 x10 := by kernel_rfl
theorem z01.n_b3 (lp : Nat) {R S : Type} (N : List Entry → ByteArray → ((Entry × ByteArray × Unit) → Option Int) → Int → Int → Int → Option R) (X : ((List Entry) × ByteArray × ((Entry × ByteArray × Unit) → Option Int) × Int × Int) → Option R) (Q : Empty → Option R) (x0 : List Entry) (x1 : ByteArray) (x2 : (Entry × ByteArray × Unit) → Option Int) (x8 : Int) (x9 : Int) (x10 : Int) (k : R → Option S) : obind (z01.b3 lp N X Q x0 x1 x2 x8 x9 x10) k = z01.b3 lp (fun x0 x1 x2 x8 x9 x10 => obind (N x0 x1 x2 x8 x9 x10) k) (fun y => obind (X y) k) (fun z => obind (Q z) k) x0 x1 x2 x8 x9 x10 := by
  unfold z01.b3; simp only [obind_none, obind_some, obind_cond, obind_oif, obind_oget, obind_obind]
theorem z01.k3 (lp : Nat) {R : Type} (K : Out → St → Option R) : ∀ (n : Nat) (x0 : List Entry) (x1 : ByteArray) (x2 : (Entry × ByteArray × Unit) → Option Int) (x8 : Int) (x9 : Int) (x10 : Int), loopK z01.la3 (fun σ K => codeK (z01.E lp) z01.an lp (loopAt 3 (codeOf Tryz.f230)) σ K) n (z01.s3 x0 x1 x2 x8 x9 x10) K = obind (z01.l3 lp n x0 x1 x2 x8 x9 x10) (leK 0 z01.sr3 z01.sx3 K) := by
  intro n
  induction n with
  | zero => intros; rfl
  | succ n ih =>
    intro x0 x1 x2 x8 x9 x10
    rw [loopK_succ, z01.t_b3, z01.l3, z01.n_b3]
    simp only [ih, obind_some, leK_ret, leK_brk]
theorem z01.t_a3 (lp : Nat) (y : (List Entry) × ByteArray × ((Entry × ByteArray × Unit) → Option Int) × Int × Int) : kont (R := Int × Bool) (z01.E lp) z01.an lp (finK (z01.E lp) Tryz.f230 [(.int .i64), .bool]) (stkAt 3 (codeOf Tryz.f230)) (.exit 0) (z01.sx3 y) = z01.a3 lp y := by kernel_rfl
theorem z01.t_e (lp : Nat) (x0 : List Entry) (x1 : ByteArray) (x2 : (Entry × ByteArray × Unit) → Option Int) : evalF (z01.E lp) z01.an lp Tryz.f230 [.v (.sl TEntry), .v .str, .clo (.pair TEntry (.pair .str .unit)) (.int .i64)] [(.int .i64), .bool] (x0, x1, x2, ()) = z01.e lp (fun x0 x1 x2 x8 x9 x10 => loopK z01.la3 (fun σ K => codeK (z01.E lp) z01.an lp (loopAt 3 (codeOf Tryz.f230)) σ K) lp (z01.s3 x0 x1 x2 x8 x9 x10) (kont (R := Int × Bool) (z01.E lp) z01.an lp (finK (z01.E lp) Tryz.f230 [(.int .i64), .bool]) (stkAt 3 (codeOf Tryz.f230)))) x0 x1 x2 := by kernel_rfl
theorem z01.eq0 (lp : Nat) (x0 : List Entry) (x1 : ByteArray) (x2 : (Entry × ByteArray × Unit) → Option Int) : evalF (z01.E lp) z01.an lp Tryz.f230 [.v (.sl TEntry), .v .str, .clo (.pair TEntry (.pair .str .unit)) (.int .i64)] [(.int .i64), .bool] (x0, x1, x2, ()) = z01 lp x0 x1 x2 := by
  rw [z01.t_e]; unfold z01
  simp only [leK_ret0 _ z01.sr3 z01.sx3, z01.k3, z01.t_a3]
theorem z01.eq (lp : Nat) (x : ADens [.v (.sl TEntry), .v .str, .clo (.pair TEntry (.pair .str .unit)) (.int .i64)]) : evalF (z01.E lp) z01.an lp Tryz.f230 [.v (.sl TEntry), .v .str, .clo (.pair TEntry (.pair .str .unit)) (.int .i64)] [(.int .i64), .bool] x = (z01.S lp).F x := z01.eq0 lp x.1 x.2.1 x.2.2.1
theorem z01.ok (lp : Nat) : Sound Tryz.prog 230 (z01.S lp) := sound_of (E := z01.E lp) (env_ok z0s tabEqs trivial trivial) mixed Tryz.func230 (by kernel_rfl) (c := codeOf Tryz.f230) (by kernel_rfl) (by kernel_rfl) z01.an (fun x r h => ⟨lp, (z01.eq lp x).trans h⟩)
def z7b.S : Spec := { ats := [.v .str, .v .str], rts := [.int .i64], F := fun x => z7b x.1 x.2.1 }
theorem z7b.ok : Sound Tryz.prog 232 z7b.S := by
  refine ⟨⟨Tryz.f232, Tryz.func232, by kernel_rfl, by kernel_rfl⟩, fun w F x vs r hv hr => ?_⟩
  obtain ⟨u, vs1, rfl, h1, v, vs2, rfl, h2, h3⟩ := hv
  obtain rfl : vs2 = [] := h3
  obtain rfl : u = .string x.1 := by have h : [u] = [Value.string x.1] := h1; injection h
  obtain rfl : v = .string x.2.1 := by have h : [v] = [Value.string x.2.1] := h2; injection h
  have hr' : some (Lib.compareBytes x.1.data.toList x.2.1.data.toList) = some r := hr
  injection hr' with hr'
  refine (Any.strings_Compare Tryz.lays106 x.1 x.2.1 w).mono ?_
  rintro e w' ⟨rfl, rfl⟩
  rw [hr']
  exact ⟨[_], rfl, ⟨_, rfl, rfl⟩, Go.RowKit.Below.refl _ _⟩
def z5n.E : Env := { tab := tab, fns := [(232, z7b.S)], ann := { own := [], ro := [2] } }
def z5n.an : An := { pre := [] }
def z5n.S : Spec := { ats := [.v TEntry, .v .str], rts := [(.int .i64)], F := fun x => z5n x.1 x.2.1 }
theorem z5n.eq (lp : Nat) (x : ADens [.v TEntry, .v .str]) : evalF (z5n.E) z5n.an lp Tryz.f231 [.v TEntry, .v .str] [(.int .i64)] x = (z5n.S).F x := by kernel_rfl
theorem z5n.ok : Sound Tryz.prog 231 (z5n.S) := sound_of (E := z5n.E) (env_ok z0s tabEqs ⟨z7b.ok, trivial⟩ trivial) mixed Tryz.func231 (by kernel_rfl) (c := codeOf Tryz.f231) (by kernel_rfl) (by kernel_rfl) z5n.an (fun x r h => ⟨0, (z5n.eq 0 x).trans h⟩)
def z6f.E (lp : Nat) : Env := { tab := tab, fns := [(231, z5n.S), (230, z01.S lp)], ann := { own := [], ro := [] } }
def z6f.an : An := { pre := [] }
def z6f.S (lp : Nat) : Spec := { ats := [.v (.sl TEntry), .v .str], rts := [(.int .i64), .bool], F := fun x => z6f lp x.1 x.2.1 }
theorem z6f.eq (lp : Nat) (x : ADens [.v (.sl TEntry), .v .str]) : evalF (z6f.E lp) z6f.an lp Tryz.f225 [.v (.sl TEntry), .v .str] [(.int .i64), .bool] x = (z6f.S lp).F x := by kernel_rfl
theorem z6f.ok (lp : Nat) : Sound Tryz.prog 225 (z6f.S lp) := sound_of (E := z6f.E lp) (env_ok z0s tabEqs ⟨z5n.ok, z01.ok lp, trivial⟩ trivial) mixed Tryz.func225 (by kernel_rfl) (c := codeOf Tryz.f225) (by kernel_rfl) (by kernel_rfl) z6f.an (fun x r h => ⟨lp, (z6f.eq lp x).trans h⟩)
def z71.R : RSpec := deleteR 122 TEntry
theorem z71.rok : SoundR Tryz.prog 226 z71.R := delete_ok ⟨Tryz.f226, Tryz.func226, by kernel_rfl, by kernel_rfl⟩ Tryz.delWalk
def z63.R : RSpec := insertR 122 TEntry 24
theorem z63.rok : SoundR Tryz.prog 227 z63.R := insert_ok ⟨Tryz.f227, Tryz.func227, by kernel_rfl, by kernel_rfl⟩ (by decide) Tryz.insWalk
def z2d.la3 : LoopAn := { kn := { tms := [5, 12, 13, 14], obs := [11] }, kx := { tms := [5], obs := [11] }, kr := {} }
def z2d.E (lp : Nat) : Env := { tab := tab, fns := [(225, z6f.S lp)], ann := { own := [], ro := [] }, rows := [(224, z6e.R), (226, z71.R), (227, z63.R)] }
def z2d.an : An := { loops := [(3, z2d.la3)] }
def z2d.s3 (x12 : List Edit) (x13 : Int) (x14 : Int) (xo11 : List Entry) : St := ⟨sk 5 (.v (.one (.row 11 0)) :: (sk 6 (.v (.one (.b (.d (.sl TEdit) x12))) :: .v (.one (.b (.d (.int .i64) x13))) :: .v (.one (.b (.d (.int .i64) x14))) :: (sk 30 ([]))))), sko 11 (some (.row 122 TEntry xo11 0) :: (sko 33 ([])))⟩
def z2d.sx3 (y : (List Entry)) : St := ⟨sk 5 (.v (.one (.row 11 0)) :: (sk 39 ([]))), sko 11 (some (.row 122 TEntry y 0) :: (sko 33 ([])))⟩
def z2d.sr3 (z : Empty) : St := z.elim
def z2d.S (lp : Nat) : Spec := { ats := [.v (.sl TEntry), .v (.sl TEdit)], rts := [(.sl TEntry)], F := fun x => z2d lp x.1 x.2.1 }
theorem z2d.t_b3 (lp : Nat) {R : Type} (N : St → Option R) (X : Out → St → Option R) (x12 : List Edit) (x13 : Int) (x14 : Int) (xo11 : List Entry) : codeK (z2d.E lp) z2d.an lp (loopAt 3 (codeOf Tryz.f213)) (z2d.s3 x12 x13 x14 xo11) (lpK z2d.la3 N X) = z2d.b3 lp (fun x12 x13 x14 xo11 => N (z2d.s3 x12 x13 x14 xo11)) (fun y => X (.exit 0) (z2d.sx3 y)) (fun z => X .ret (z2d.sr3 z)) x12 x13 x14 xo11 := by kernel_rfl
theorem z2d.n_b3 (lp : Nat) {R S : Type} (N : List Edit → Int → Int → List Entry → Option R) (X : ((List Entry)) → Option R) (Q : Empty → Option R) (x12 : List Edit) (x13 : Int) (x14 : Int) (xo11 : List Entry) (k : R → Option S) : obind (z2d.b3 lp N X Q x12 x13 x14 xo11) k = z2d.b3 lp (fun x12 x13 x14 xo11 => obind (N x12 x13 x14 xo11) k) (fun y => obind (X y) k) (fun z => obind (Q z) k) x12 x13 x14 xo11 := by
  unfold z2d.b3; simp only [obind_none, obind_some, obind_cond, obind_oif, obind_oget, obind_obind]
theorem z2d.k3 (lp : Nat) {R : Type} (K : Out → St → Option R) : ∀ (n : Nat) (x12 : List Edit) (x13 : Int) (x14 : Int) (xo11 : List Entry), loopK z2d.la3 (fun σ K => codeK (z2d.E lp) z2d.an lp (loopAt 3 (codeOf Tryz.f213)) σ K) n (z2d.s3 x12 x13 x14 xo11) K = obind (z2d.l3 lp n x12 x13 x14 xo11) (leK 0 z2d.sr3 z2d.sx3 K) := by
  intro n
  induction n with
  | zero => intros; rfl
  | succ n ih =>
    intro x12 x13 x14 xo11
    rw [loopK_succ, z2d.t_b3, z2d.l3, z2d.n_b3]
    simp only [ih, obind_some, leK_ret, leK_brk]
theorem z2d.t_a3 (lp : Nat) (y : (List Entry)) : kont (R := (List Entry)) (z2d.E lp) z2d.an lp (finK (z2d.E lp) Tryz.f213 [(.sl TEntry)]) (stkAt 3 (codeOf Tryz.f213)) (.exit 0) (z2d.sx3 y) = z2d.a3 lp y := by kernel_rfl
theorem z2d.t_e (lp : Nat) (x0 : List Entry) (x1 : List Edit) : evalF (z2d.E lp) z2d.an lp Tryz.f213 [.v (.sl TEntry), .v (.sl TEdit)] [(.sl TEntry)] (x0, x1, ()) = z2d.e lp (fun x12 x13 x14 xo11 => loopK z2d.la3 (fun σ K => codeK (z2d.E lp) z2d.an lp (loopAt 3 (codeOf Tryz.f213)) σ K) lp (z2d.s3 x12 x13 x14 xo11) (kont (R := (List Entry)) (z2d.E lp) z2d.an lp (finK (z2d.E lp) Tryz.f213 [(.sl TEntry)]) (stkAt 3 (codeOf Tryz.f213)))) x0 x1 := by kernel_rfl
theorem z2d.eq0 (lp : Nat) (x0 : List Entry) (x1 : List Edit) : evalF (z2d.E lp) z2d.an lp Tryz.f213 [.v (.sl TEntry), .v (.sl TEdit)] [(.sl TEntry)] (x0, x1, ()) = z2d lp x0 x1 := by
  rw [z2d.t_e]; unfold z2d
  simp only [leK_ret0 _ z2d.sr3 z2d.sx3, z2d.k3, z2d.t_a3]
theorem z2d.eq (lp : Nat) (x : ADens [.v (.sl TEntry), .v (.sl TEdit)]) : evalF (z2d.E lp) z2d.an lp Tryz.f213 [.v (.sl TEntry), .v (.sl TEdit)] [(.sl TEntry)] x = (z2d.S lp).F x := z2d.eq0 lp x.1 x.2.1
theorem z2d.ok (lp : Nat) : Sound Tryz.prog 213 (z2d.S lp) := sound_of (E := z2d.E lp) (env_ok z0s tabEqs ⟨z6f.ok lp, trivial⟩ ⟨z6e.rok, z71.rok, z63.rok, trivial⟩) mixed Tryz.func213 (by kernel_rfl) (c := codeOf Tryz.f213) (by kernel_rfl) (by kernel_rfl) z2d.an (fun x r h => ⟨lp, (z2d.eq lp x).trans h⟩)
theorem z6c.cmp (x y : Edit) (W : Go.World) : Calls Tryz.prog 236 #[.agg (encC TEdit x).toArray, .agg (encC TEdit y).toArray] W fun e w' => e = .returned (.int .i64 (cmpBy (fun z : Edit => z.1) x y)) ∧ ∃ q os', w' = Sort.grow (W.drewN q) os' := by
  show Calls Tryz.prog 236 #[.agg #[.string x.1, .int .i64 x.2.1, .bool x.2.2.1], .agg #[.string y.1, .int .i64 y.2.1, .bool y.2.2.1]] W _
  have mixed : Tryz.prog.follows .mixedOrders = true := by kernel_rfl
  go_enter Tryz.func236, Tryz.ntmps236
  go_wp2_with (go_at_call 232; refine (Any.strings_Compare Tryz.lays106 _ _ _).mono ?_; rintro e w' ⟨rfl, rfl⟩)
  go_ret
  rw [Sort.alloc_eq_grow, Sort.alloc_eq_grow, Sort.grow_grow]
  exact ⟨rfl, 0, _, rfl⟩
def z6c.R : RSpec := { kind := .inplace, e := 168, t := TEdit, ats := [], F := fun l _ => z6c l, fn := some 236 }
theorem z6c.rok : SoundR Tryz.prog 235 z6c.R := by
  refine sort_ok (t := TEdit) Tryz.lays225 (f := 235) rfl ⟨Tryz.f235, Tryz.func235, by kernel_rfl, by kernel_rfl⟩ (e := 168) rfl (by decide) (i := (find tab 168).getD ⟨none, 0, false, [], 0, .other, false⟩) (by kernel_rfl) (by kernel_rfl) (by kernel_rfl) (by decide) (cmpBy fun z : Edit => z.1) (swo_by _) ⟨Tryz.f236, Tryz.func236, by kernel_rfl, by kernel_rfl⟩ z6c.cmp
def z6v.E : Env := { tab := tab, fns := [(232, z7b.S)], ann := { own := [], ro := [2, 3] } }
def z6v.an : An := { pre := [] }
def z6v.S : Spec := { ats := [.v TEdit, .v TEdit], rts := [(.int .i64)], F := fun x => z6v x.1 x.2.1 }
theorem z6v.eq (lp : Nat) (x : ADens [.v TEdit, .v TEdit]) : evalF (z6v.E) z6v.an lp Tryz.f236 [.v TEdit, .v TEdit] [(.int .i64)] x = (z6v.S).F x := by kernel_rfl
theorem z6v.ok : Sound Tryz.prog 236 (z6v.S) := sound_of (E := z6v.E) (env_ok z0s tabEqs ⟨z7b.ok, trivial⟩ trivial) mixed Tryz.func236 (by kernel_rfl) (c := codeOf Tryz.f236) (by kernel_rfl) (by kernel_rfl) z6v.an (fun x r h => ⟨0, (z6v.eq 0 x).trans h⟩)
def z19.la3 : LoopAn := { kn := { proms := [(46, 5, 168, TEdit)], tms := [0, 1, 5, 14, 15, 16], obs := [46] }, kx := { tms := [0, 1, 5], obs := [46] }, kr := {} }
def z19.la10 : LoopAn := { kn := { tms := [1, 5, 48, 49, 50], obs := [46] }, kx := { tms := [5], obs := [46] }, kr := {} }
def z19.E (lp : Nat) : Env := { tab := tab, fns := [(225, z6f.S lp), (236, z6v.S)], ann := { own := [], ro := [] }, rows := [(235, z6c.R)] }
def z19.an : An := { loops := [(3, z19.la3), (10, z19.la10)] }
def z19.s3 (x0 : List Entry) (x1 : List Entry) (x14 : List Entry) (x15 : Int) (x16 : Int) (xo46 : List Edit) : St := ⟨.v (.one (.b (.d (.sl TEntry) x0))) :: .v (.one (.b (.d (.sl TEntry) x1))) :: (sk 3 (.v (.one (.row 46 0)) :: (sk 8 (.v (.one (.b (.d (.sl TEntry) x14))) :: .v (.one (.b (.d (.int .i64) x15))) :: .v (.one (.b (.d (.int .i64) x16))) :: (sk 56 ([])))))), sko 46 (some (.row 168 TEdit xo46 0) :: (sko 26 ([])))⟩
def z19.sx3 (y : (List Entry) × (List Entry) × (List Edit)) : St := ⟨.v (.one (.b (.d (.sl TEntry) y.1))) :: .v (.one (.b (.d (.sl TEntry) y.2.1))) :: (sk 3 (.v (.one (.row 46 0)) :: (sk 67 ([])))), sko 46 (some (.row 168 TEdit y.2.2 0) :: (sko 26 ([])))⟩
def z19.sr3 (z : Empty) : St := z.elim
def z19.s10 (x1 : List Entry) (x48 : List Entry) (x49 : Int) (x50 : Int) (xo46 : List Edit) : St := ⟨sk 1 (.v (.one (.b (.d (.sl TEntry) x1))) :: (sk 3 (.v (.one (.row 46 0)) :: (sk 42 (.v (.one (.b (.d (.sl TEntry) x48))) :: .v (.one (.b (.d (.int .i64) x49))) :: .v (.one (.b (.d (.int .i64) x50))) :: (sk 22 ([]))))))), sko 46 (some (.row 168 TEdit xo46 0) :: (sko 26 ([])))⟩
def z19.sx10 (y : (List Edit)) : St := ⟨sk 5 (.v (.one (.row 46 0)) :: (sk 67 ([]))), sko 46 (some (.row 168 TEdit y 0) :: (sko 26 ([])))⟩
def z19.sr10 (z : Empty) : St := z.elim
def z19.S (lp : Nat) : Spec := { ats := [.v (.sl TEntry), .v (.sl TEntry)], rts := [(.sl TEdit)], F := fun x => z19 lp x.1 x.2.1 }
theorem z19.t_b10 (lp : Nat) {R : Type} (N : St → Option R) (X : Out → St → Option R) (x1 : List Entry) (x48 : List Entry) (x49 : Int) (x50 : Int) (xo46 : List Edit) : codeK (z19.E lp) z19.an lp (loopAt 10 (codeOf Tryz.f228)) (z19.s10 x1 x48 x49 x50 xo46) (lpK z19.la10 N X) = z19.b10 lp (fun x1 x48 x49 x50 xo46 => N (z19.s10 x1 x48 x49 x50 xo46)) (fun y => X (.exit 2) (z19.sx10 y)) (fun z => X .ret (z19.sr10 z)) x1 x48 x49 x50 xo46 := by kernel_rfl
theorem z19.n_b10 (lp : Nat) {R S : Type} (N : List Entry → List Entry → Int → Int → List Edit → Option R) (X : ((List Edit)) → Option R) (Q : Empty → Option R) (x1 : List Entry) (x48 : List Entry) (x49 : Int) (x50 : Int) (xo46 : List Edit) (k : R → Option S) : obind (z19.b10 lp N X Q x1 x48 x49 x50 xo46) k = z19.b10 lp (fun x1 x48 x49 x50 xo46 => obind (N x1 x48 x49 x50 xo46) k) (fun y => obind (X y) k) (fun z => obind (Q z) k) x1 x48 x49 x50 xo46 := by
  unfold z19.b10; simp only [obind_none, obind_some, obind_cond, obind_oif, obind_oget, obind_obind]
theorem z19.k10 (lp : Nat) {R : Type} (K : Out → St → Option R) : ∀ (n : Nat) (x1 : List Entry) (x48 : List Entry) (x49 : Int) (x50 : Int) (xo46 : List Edit), loopK z19.la10 (fun σ K => codeK (z19.E lp) z19.an lp (loopAt 10 (codeOf Tryz.f228)) σ K) n (z19.s10 x1 x48 x49 x50 xo46) K = obind (z19.l10 lp n x1 x48 x49 x50 xo46) (leK 2 z19.sr10 z19.sx10 K) := by
  intro n
  induction n with
  | zero => intros; rfl
  | succ n ih =>
    intro x1 x48 x49 x50 xo46
    rw [loopK_succ, z19.t_b10, z19.l10, z19.n_b10]
    simp only [ih, obind_some, leK_ret, leK_brk]
theorem z19.t_b3 (lp : Nat) {R : Type} (N : St → Option R) (X : Out → St → Option R) (x0 : List Entry) (x1 : List Entry) (x14 : List Entry) (x15 : Int) (x16 : Int) (xo46 : List Edit) : codeK (z19.E lp) z19.an lp (loopAt 3 (codeOf Tryz.f228)) (z19.s3 x0 x1 x14 x15 x16 xo46) (lpK z19.la3 N X) = z19.b3 lp (fun x0 x1 x14 x15 x16 xo46 => N (z19.s3 x0 x1 x14 x15 x16 xo46)) (fun y => X (.exit 0) (z19.sx3 y)) (fun z => X .ret (z19.sr3 z)) x0 x1 x14 x15 x16 xo46 := by kernel_rfl
theorem z19.n_b3 (lp : Nat) {R S : Type} (N : List Entry → List Entry → List Entry → Int → Int → List Edit → Option R) (X : ((List Entry) × (List Entry) × (List Edit)) → Option R) (Q : Empty → Option R) (x0 : List Entry) (x1 : List Entry) (x14 : List Entry) (x15 : Int) (x16 : Int) (xo46 : List Edit) (k : R → Option S) : obind (z19.b3 lp N X Q x0 x1 x14 x15 x16 xo46) k = z19.b3 lp (fun x0 x1 x14 x15 x16 xo46 => obind (N x0 x1 x14 x15 x16 xo46) k) (fun y => obind (X y) k) (fun z => obind (Q z) k) x0 x1 x14 x15 x16 xo46 := by
  unfold z19.b3; simp only [obind_none, obind_some, obind_cond, obind_oif, obind_oget, obind_obind]
theorem z19.k3 (lp : Nat) {R : Type} (K : Out → St → Option R) : ∀ (n : Nat) (x0 : List Entry) (x1 : List Entry) (x14 : List Entry) (x15 : Int) (x16 : Int) (xo46 : List Edit), loopK z19.la3 (fun σ K => codeK (z19.E lp) z19.an lp (loopAt 3 (codeOf Tryz.f228)) σ K) n (z19.s3 x0 x1 x14 x15 x16 xo46) K = obind (z19.l3 lp n x0 x1 x14 x15 x16 xo46) (leK 0 z19.sr3 z19.sx3 K) := by
  intro n
  induction n with
  | zero => intros; rfl
  | succ n ih =>
    intro x0 x1 x14 x15 x16 xo46
    rw [loopK_succ, z19.t_b3, z19.l3, z19.n_b3]
    simp only [ih, obind_some, leK_ret, leK_brk]
theorem z19.t_a10 (lp : Nat) (y : (List Edit)) : kont (R := (List Edit)) (z19.E lp) z19.an lp (finK (z19.E lp) Tryz.f228 [(.sl TEdit)]) (stkAt 10 (codeOf Tryz.f228)) (.exit 2) (z19.sx10 y) = z19.a10 lp y := by kernel_rfl
theorem z19.t_a3 (lp : Nat) (y : (List Entry) × (List Entry) × (List Edit)) : kont (R := (List Edit)) (z19.E lp) z19.an lp (finK (z19.E lp) Tryz.f228 [(.sl TEdit)]) (stkAt 3 (codeOf Tryz.f228)) (.exit 0) (z19.sx3 y) = z19.a3 lp (fun x1 x48 x49 x50 xo46 => loopK z19.la10 (fun σ K => codeK (z19.E lp) z19.an lp (loopAt 10 (codeOf Tryz.f228)) σ K) lp (z19.s10 x1 x48 x49 x50 xo46) (kont (R := (List Edit)) (z19.E lp) z19.an lp (finK (z19.E lp) Tryz.f228 [(.sl TEdit)]) (stkAt 10 (codeOf Tryz.f228)))) y := by kernel_rfl
theorem z19.t_e (lp : Nat) (x0 : List Entry) (x1 : List Entry) : evalF (z19.E lp) z19.an lp Tryz.f228 [.v (.sl TEntry), .v (.sl TEntry)] [(.sl TEdit)] (x0, x1, ()) = z19.e lp (fun x0 x1 x14 x15 x16 xo46 => loopK z19.la3 (fun σ K => codeK (z19.E lp) z19.an lp (loopAt 3 (codeOf Tryz.f228)) σ K) lp (z19.s3 x0 x1 x14 x15 x16 xo46) (kont (R := (List Edit)) (z19.E lp) z19.an lp (finK (z19.E lp) Tryz.f228 [(.sl TEdit)]) (stkAt 3 (codeOf Tryz.f228)))) x0 x1 := by kernel_rfl
theorem z19.eq0 (lp : Nat) (x0 : List Entry) (x1 : List Entry) : evalF (z19.E lp) z19.an lp Tryz.f228 [.v (.sl TEntry), .v (.sl TEntry)] [(.sl TEdit)] (x0, x1, ()) = z19 lp x0 x1 := by
  rw [z19.t_e]; unfold z19
  simp only [leK_ret0 _ z19.sr10 z19.sx10, leK_ret0 _ z19.sr3 z19.sx3, z19.k10, z19.k3, z19.t_a10, z19.t_a3]
theorem z19.eq (lp : Nat) (x : ADens [.v (.sl TEntry), .v (.sl TEntry)]) : evalF (z19.E lp) z19.an lp Tryz.f228 [.v (.sl TEntry), .v (.sl TEntry)] [(.sl TEdit)] x = (z19.S lp).F x := z19.eq0 lp x.1 x.2.1
theorem z19.ok (lp : Nat) : Sound Tryz.prog 228 (z19.S lp) := sound_of (E := z19.E lp) (env_ok z0s tabEqs ⟨z6f.ok lp, z6v.ok, trivial⟩ ⟨z6c.rok, trivial⟩) mixed Tryz.func228 (by kernel_rfl) (c := codeOf Tryz.f228) (by kernel_rfl) (by kernel_rfl) z19.an (fun x r h => ⟨lp, (z19.eq lp x).trans h⟩)
def z0r.la3 : LoopAn := { kn := { tms := [0, 1, 2, 9, 23, 24, 25], obs := [20] }, kx := { tms := [0, 1, 2, 9], obs := [20] }, kr := {} }
def z0r.la10 : LoopAn := { kn := { proms := [(55, 12, 168, TEdit), (64, 13, 9, .str)], tms := [1, 9, 12, 13, 36, 37, 38], obs := [20, 55, 64] }, kx := { tms := [1, 12, 13], obs := [55, 64] }, kr := {} }
def z0r.E (lp : Nat) : Env := { tab := tab, fns := [(228, z19.S lp), (213, z2d.S lp), (212, z4k.S)], ann := { own := [], ro := [] } }
def z0r.an : An := { loops := [(3, z0r.la3), (10, z0r.la10)], pre := [(20, [55])] }
def z0r.s3 (x0 : List Entry) (x1 : List Entry) (x2 : List Entry) (x23 : List Edit) (x24 : Int) (x25 : Int) (xm20 : List (ByteArray × Edit)) : St := ⟨.v (.one (.b (.d (.sl TEntry) x0))) :: .v (.one (.b (.d (.sl TEntry) x1))) :: .v (.one (.b (.d (.sl TEntry) x2))) :: (sk 6 (.v (.one (.mp 20)) :: (sk 13 (.v (.one (.b (.d (.sl TEdit) x23))) :: .v (.one (.b (.d (.int .i64) x24))) :: .v (.one (.b (.d (.int .i64) x25))) :: (sk 53 ([])))))), sko 20 (some (.map TEdit xm20) :: (sko 58 ([])))⟩
def z0r.sx3 (y : (List Entry) × (List Entry) × (List Entry) × (List (ByteArray × Edit))) : St := ⟨.v (.one (.b (.d (.sl TEntry) y.1))) :: .v (.one (.b (.d (.sl TEntry) y.2.1))) :: .v (.one (.b (.d (.sl TEntry) y.2.2.1))) :: (sk 6 (.v (.one (.mp 20)) :: (sk 69 ([])))), sko 20 (some (.map TEdit y.2.2.2) :: (sko 58 ([])))⟩
def z0r.sr3 (z : Empty) : St := z.elim
def z0r.s10 (x1 : List Entry) (x36 : List Edit) (x37 : Int) (x38 : Int) (xm20 : List (ByteArray × Edit)) (xo55 : List Edit) (xo64 : List ByteArray) : St := ⟨sk 1 (.v (.one (.b (.d (.sl TEntry) x1))) :: (sk 7 (.v (.one (.mp 20)) :: (sk 2 (.v (.one (.row 55 0)) :: .v (.one (.row 64 0)) :: (sk 22 (.v (.one (.b (.d (.sl TEdit) x36))) :: .v (.one (.b (.d (.int .i64) x37))) :: .v (.one (.b (.d (.int .i64) x38))) :: (sk 40 ([]))))))))), sko 20 (some (.map TEdit xm20) :: (sko 34 (some (.row 168 TEdit xo55 0) :: (sko 8 (some (.row 9 .str xo64 0) :: (sko 14 ([])))))))⟩
def z0r.sx10 (y : (List Entry) × (List Edit) × (List ByteArray)) : St := ⟨sk 1 (.v (.one (.b (.d (.sl TEntry) y.1))) :: (sk 10 (.v (.one (.row 55 0)) :: .v (.one (.row 64 0)) :: (sk 65 ([]))))), sko 55 (some (.row 168 TEdit y.2.1 0) :: (sko 8 (some (.row 9 .str y.2.2 0) :: (sko 14 ([])))))⟩
def z0r.sr10 (z : Empty) : St := z.elim
def z0r.S (lp : Nat) : Spec := { ats := [.v (.sl TEntry), .v (.sl TEntry), .v (.sl TEntry)], rts := [(.sl TEntry), (.sl .str), (.int .i64)], F := fun x => z0r lp x.1 x.2.1 x.2.2.1 }
theorem z0r.t_b10 (lp : Nat) {R : Type} (N : St → Option R) (X : Out → St → Option R) (x1 : List Entry) (x36 : List Edit) (x37 : Int) (x38 : Int) (xm20 : List (ByteArray × Edit)) (xo55 : List Edit) (xo64 : List ByteArray) : codeK (z0r.E lp) z0r.an lp (loopAt 10 (codeOf Tryz.f214)) (z0r.s10 x1 x36 x37 x38 xm20 xo55 xo64) (lpK z0r.la10 N X) = z0r.b10 lp (fun x1 x36 x37 x38 xm20 xo55 xo64 => N (z0r.s10 x1 x36 x37 x38 xm20 xo55 xo64)) (fun y => X (.exit 2) (z0r.sx10 y)) (fun z => X .ret (z0r.sr10 z)) x1 x36 x37 x38 xm20 xo55 xo64 := by kernel_rfl
theorem z0r.n_b10 (lp : Nat) {R S : Type} (N : List Entry → List Edit → Int → Int → (List (ByteArray × Edit)) → List Edit → List ByteArray → Option R) (X : ((List Entry) × (List Edit) × (List ByteArray)) → Option R) (Q : Empty → Option R) (x1 : List Entry) (x36 : List Edit) (x37 : Int) (x38 : Int) (xm20 : List (ByteArray × Edit)) (xo55 : List Edit) (xo64 : List ByteArray) (k : R → Option S) : obind (z0r.b10 lp N X Q x1 x36 x37 x38 xm20 xo55 xo64) k = z0r.b10 lp (fun x1 x36 x37 x38 xm20 xo55 xo64 => obind (N x1 x36 x37 x38 xm20 xo55 xo64) k) (fun y => obind (X y) k) (fun z => obind (Q z) k) x1 x36 x37 x38 xm20 xo55 xo64 := by
  unfold z0r.b10; simp only [obind_none, obind_some, obind_cond, obind_oif, obind_oget, obind_obind]
theorem z0r.k10 (lp : Nat) {R : Type} (K : Out → St → Option R) : ∀ (n : Nat) (x1 : List Entry) (x36 : List Edit) (x37 : Int) (x38 : Int) (xm20 : List (ByteArray × Edit)) (xo55 : List Edit) (xo64 : List ByteArray), loopK z0r.la10 (fun σ K => codeK (z0r.E lp) z0r.an lp (loopAt 10 (codeOf Tryz.f214)) σ K) n (z0r.s10 x1 x36 x37 x38 xm20 xo55 xo64) K = obind (z0r.l10 lp n x1 x36 x37 x38 xm20 xo55 xo64) (leK 2 z0r.sr10 z0r.sx10 K) := by
  intro n
  induction n with
  | zero => intros; rfl
  | succ n ih =>
    intro x1 x36 x37 x38 xm20 xo55 xo64
    rw [loopK_succ, z0r.t_b10, z0r.l10, z0r.n_b10]
    simp only [ih, obind_some, leK_ret, leK_brk]
theorem z0r.t_b3 (lp : Nat) {R : Type} (N : St → Option R) (X : Out → St → Option R) (x0 : List Entry) (x1 : List Entry) (x2 : List Entry) (x23 : List Edit) (x24 : Int) (x25 : Int) (xm20 : List (ByteArray × Edit)) : codeK (z0r.E lp) z0r.an lp (loopAt 3 (codeOf Tryz.f214)) (z0r.s3 x0 x1 x2 x23 x24 x25 xm20) (lpK z0r.la3 N X) = z0r.b3 lp (fun x0 x1 x2 x23 x24 x25 xm20 => N (z0r.s3 x0 x1 x2 x23 x24 x25 xm20)) (fun y => X (.exit 0) (z0r.sx3 y)) (fun z => X .ret (z0r.sr3 z)) x0 x1 x2 x23 x24 x25 xm20 := by kernel_rfl
theorem z0r.n_b3 (lp : Nat) {R S : Type} (N : List Entry → List Entry → List Entry → List Edit → Int → Int → (List (ByteArray × Edit)) → Option R) (X : ((List Entry) × (List Entry) × (List Entry) × (List (ByteArray × Edit))) → Option R) (Q : Empty → Option R) (x0 : List Entry) (x1 : List Entry) (x2 : List Entry) (x23 : List Edit) (x24 : Int) (x25 : Int) (xm20 : List (ByteArray × Edit)) (k : R → Option S) : obind (z0r.b3 lp N X Q x0 x1 x2 x23 x24 x25 xm20) k = z0r.b3 lp (fun x0 x1 x2 x23 x24 x25 xm20 => obind (N x0 x1 x2 x23 x24 x25 xm20) k) (fun y => obind (X y) k) (fun z => obind (Q z) k) x0 x1 x2 x23 x24 x25 xm20 := by
  unfold z0r.b3; simp only [obind_none, obind_some, obind_cond, obind_oif, obind_oget, obind_obind]
theorem z0r.k3 (lp : Nat) {R : Type} (K : Out → St → Option R) : ∀ (n : Nat) (x0 : List Entry) (x1 : List Entry) (x2 : List Entry) (x23 : List Edit) (x24 : Int) (x25 : Int) (xm20 : List (ByteArray × Edit)), loopK z0r.la3 (fun σ K => codeK (z0r.E lp) z0r.an lp (loopAt 3 (codeOf Tryz.f214)) σ K) n (z0r.s3 x0 x1 x2 x23 x24 x25 xm20) K = obind (z0r.l3 lp n x0 x1 x2 x23 x24 x25 xm20) (leK 0 z0r.sr3 z0r.sx3 K) := by
  intro n
  induction n with
  | zero => intros; rfl
  | succ n ih =>
    intro x0 x1 x2 x23 x24 x25 xm20
    rw [loopK_succ, z0r.t_b3, z0r.l3, z0r.n_b3]
    simp only [ih, obind_some, leK_ret, leK_brk]
theorem z0r.t_a10 (lp : Nat) (y : (List Entry) × (List Edit) × (List ByteArray)) : kont (R := (List Entry) × (List ByteArray) × Int) (z0r.E lp) z0r.an lp (finK (z0r.E lp) Tryz.f214 [(.sl TEntry), (.sl .str), (.int .i64)]) (stkAt 10 (codeOf Tryz.f214)) (.exit 2) (z0r.sx10 y) = z0r.a10 lp y := by kernel_rfl
theorem z0r.t_a3 (lp : Nat) (y : (List Entry) × (List Entry) × (List Entry) × (List (ByteArray × Edit))) : kont (R := (List Entry) × (List ByteArray) × Int) (z0r.E lp) z0r.an lp (finK (z0r.E lp) Tryz.f214 [(.sl TEntry), (.sl .str), (.int .i64)]) (stkAt 3 (codeOf Tryz.f214)) (.exit 0) (z0r.sx3 y) = z0r.a3 lp (fun x1 x36 x37 x38 xm20 xo55 xo64 => loopK z0r.la10 (fun σ K => codeK (z0r.E lp) z0r.an lp (loopAt 10 (codeOf Tryz.f214)) σ K) lp (z0r.s10 x1 x36 x37 x38 xm20 xo55 xo64) (kont (R := (List Entry) × (List ByteArray) × Int) (z0r.E lp) z0r.an lp (finK (z0r.E lp) Tryz.f214 [(.sl TEntry), (.sl .str), (.int .i64)]) (stkAt 10 (codeOf Tryz.f214)))) y := by kernel_rfl
theorem z0r.t_e (lp : Nat) (x0 : List Entry) (x1 : List Entry) (x2 : List Entry) : evalF (z0r.E lp) z0r.an lp Tryz.f214 [.v (.sl TEntry), .v (.sl TEntry), .v (.sl TEntry)] [(.sl TEntry), (.sl .str), (.int .i64)] (x0, x1, x2, ()) = z0r.e lp (fun x0 x1 x2 x23 x24 x25 xm20 => loopK z0r.la3 (fun σ K => codeK (z0r.E lp) z0r.an lp (loopAt 3 (codeOf Tryz.f214)) σ K) lp (z0r.s3 x0 x1 x2 x23 x24 x25 xm20) (kont (R := (List Entry) × (List ByteArray) × Int) (z0r.E lp) z0r.an lp (finK (z0r.E lp) Tryz.f214 [(.sl TEntry), (.sl .str), (.int .i64)]) (stkAt 3 (codeOf Tryz.f214)))) x0 x1 x2 := by kernel_rfl
theorem z0r.eq0 (lp : Nat) (x0 : List Entry) (x1 : List Entry) (x2 : List Entry) : evalF (z0r.E lp) z0r.an lp Tryz.f214 [.v (.sl TEntry), .v (.sl TEntry), .v (.sl TEntry)] [(.sl TEntry), (.sl .str), (.int .i64)] (x0, x1, x2, ()) = z0r lp x0 x1 x2 := by
  rw [z0r.t_e]; unfold z0r
  simp only [leK_ret0 _ z0r.sr10 z0r.sx10, leK_ret0 _ z0r.sr3 z0r.sx3, z0r.k10, z0r.k3, z0r.t_a10, z0r.t_a3]
theorem z0r.eq (lp : Nat) (x : ADens [.v (.sl TEntry), .v (.sl TEntry), .v (.sl TEntry)]) : evalF (z0r.E lp) z0r.an lp Tryz.f214 [.v (.sl TEntry), .v (.sl TEntry), .v (.sl TEntry)] [(.sl TEntry), (.sl .str), (.int .i64)] x = (z0r.S lp).F x := z0r.eq0 lp x.1 x.2.1 x.2.2.1
theorem z0r.ok (lp : Nat) : Sound Tryz.prog 214 (z0r.S lp) := sound_of (E := z0r.E lp) (env_ok z0s tabEqs ⟨z19.ok lp, z2d.ok lp, z4k.ok, trivial⟩ trivial) mixed Tryz.func214 (by kernel_rfl) (c := codeOf Tryz.f214) (by kernel_rfl) (by kernel_rfl) z0r.an (fun x r h => ⟨lp, (z0r.eq lp x).trans h⟩)
def z3q.E (lp : Nat) : Env := { tab := tab, fns := [(213, z2d.S lp), (212, z4k.S), (214, z0r.S lp), (64, z0h.S lp), (200, z3m.S)], ann := { own := [], ro := [3, 4] } }
def z3q.an : An := { pre := [] }
def z3q.S (lp : Nat) : Spec := { ats := [.v TBase, .v TOp, .v (.int .i64)], rts := [TPlan], F := fun x => z3q lp x.1 x.2.1 x.2.2.1 }
theorem z3q.eq (lp : Nat) (x : ADens [.v TBase, .v TOp, .v (.int .i64)]) : evalF (z3q.E lp) z3q.an lp Tryz.f197 [.v TBase, .v TOp, .v (.int .i64)] [TPlan] x = (z3q.S lp).F x := by kernel_rfl
theorem z3q.ok (lp : Nat) : Sound Tryz.prog 197 (z3q.S lp) := sound_of (E := z3q.E lp) (env_ok z0s tabEqs ⟨z2d.ok lp, z4k.ok, z0r.ok lp, z0h.ok lp, z3m.ok, trivial⟩ trivial) mixed Tryz.func197 (by kernel_rfl) (c := codeOf Tryz.f197) (by kernel_rfl) (by kernel_rfl) z3q.an (fun x r h => ⟨lp, (z3q.eq lp x).trans h⟩)
def z07.la4 : LoopAn := { kn := { tms := [0, 5, 6], obs := [12] }, kx := { tms := [5], obs := [12] }, kr := {} }
def z07.la8 : LoopAn := { kn := { tms := [0, 5, 6, 30, 31, 32], obs := [12] }, kx := { tms := [0, 5, 6], obs := [12] }, kr := {} }
def z07.E (lp : Nat) : Env := { tab := tab, fns := [], ann := { own := [], ro := [] } }
def z07.an : An := { loops := [(4, z07.la4), (8, z07.la8)] }
def z07.s4 (x0 : List Commit) (x6 : Int) (xo12 : List Bool) : St := ⟨.v (.one (.b (.d (.sl TCommit) x0))) :: (sk 4 (.v (.one (.row 12 0)) :: .v (.one (.b (.d (.int .i64) x6))) :: (sk 34 ([])))), sko 12 (some (.row 4 .bool xo12 0) :: (sko 28 ([])))⟩
def z07.sx4 (y : (List Bool)) : St := ⟨sk 5 (.v (.one (.row 12 0)) :: (sk 35 ([]))), sko 12 (some (.row 4 .bool y 0) :: (sko 28 ([])))⟩
def z07.sr4 (z : Empty) : St := z.elim
def z07.s8 (x0 : List Commit) (x6 : Int) (x30 : List Int) (x31 : Int) (x32 : Int) (xo12 : List Bool) : St := ⟨.v (.one (.b (.d (.sl TCommit) x0))) :: (sk 4 (.v (.one (.row 12 0)) :: .v (.one (.b (.d (.int .i64) x6))) :: (sk 23 (.v (.one (.b (.d (.sl (.int .i64)) x30))) :: .v (.one (.b (.d (.int .i64) x31))) :: .v (.one (.b (.d (.int .i64) x32))) :: (sk 8 ([])))))), sko 12 (some (.row 4 .bool xo12 0) :: (sko 28 ([])))⟩
def z07.sx8 (y : (List Commit) × Int × (List Bool)) : St := ⟨.v (.one (.b (.d (.sl TCommit) y.1))) :: (sk 4 (.v (.one (.row 12 0)) :: .v (.one (.b (.d (.int .i64) y.2.1))) :: (sk 34 ([])))), sko 12 (some (.row 4 .bool y.2.2 0) :: (sko 28 ([])))⟩
def z07.sr8 (z : Empty) : St := z.elim
def z07.S (lp : Nat) : Spec := { ats := [.v (.sl TCommit), .v (.int .i64)], rts := [(.sl .bool)], F := fun x => z07 lp x.1 x.2.1 }
theorem z07.t_b8 (lp : Nat) {R : Type} (N : St → Option R) (X : Out → St → Option R) (x0 : List Commit) (x6 : Int) (x30 : List Int) (x31 : Int) (x32 : Int) (xo12 : List Bool) : codeK (z07.E lp) z07.an lp (loopAt 8 (codeOf Tryz.f215)) (z07.s8 x0 x6 x30 x31 x32 xo12) (lpK z07.la8 N X) = z07.b8 lp (fun x0 x6 x30 x31 x32 xo12 => N (z07.s8 x0 x6 x30 x31 x32 xo12)) (fun y => X (.exit 2) (z07.sx8 y)) (fun z => X .ret (z07.sr8 z)) x0 x6 x30 x31 x32 xo12 := by kernel_rfl
theorem z07.n_b8 (lp : Nat) {R S : Type} (N : List Commit → Int → List Int → Int → Int → List Bool → Option R) (X : ((List Commit) × Int × (List Bool)) → Option R) (Q : Empty → Option R) (x0 : List Commit) (x6 : Int) (x30 : List Int) (x31 : Int) (x32 : Int) (xo12 : List Bool) (k : R → Option S) : obind (z07.b8 lp N X Q x0 x6 x30 x31 x32 xo12) k = z07.b8 lp (fun x0 x6 x30 x31 x32 xo12 => obind (N x0 x6 x30 x31 x32 xo12) k) (fun y => obind (X y) k) (fun z => obind (Q z) k) x0 x6 x30 x31 x32 xo12 := by
  unfold z07.b8; simp only [obind_none, obind_some, obind_cond, obind_oif, obind_oget, obind_obind]
theorem z07.k8 (lp : Nat) {R : Type} (K : Out → St → Option R) : ∀ (n : Nat) (x0 : List Commit) (x6 : Int) (x30 : List Int) (x31 : Int) (x32 : Int) (xo12 : List Bool), loopK z07.la8 (fun σ K => codeK (z07.E lp) z07.an lp (loopAt 8 (codeOf Tryz.f215)) σ K) n (z07.s8 x0 x6 x30 x31 x32 xo12) K = obind (z07.l8 lp n x0 x6 x30 x31 x32 xo12) (leK 2 z07.sr8 z07.sx8 K) := by
  intro n
  induction n with
  | zero => intros; rfl
  | succ n ih =>
    intro x0 x6 x30 x31 x32 xo12
    rw [loopK_succ, z07.t_b8, z07.l8, z07.n_b8]
    simp only [ih, obind_some, leK_ret, leK_brk]
theorem z07.t_a8 (lp : Nat) {R : Type} (N : St → Option R) (X : Out → St → Option R) (y : (List Commit) × Int × (List Bool)) : kont (z07.E lp) z07.an lp (lpK z07.la4 N X) (stkAt 8 (loopAt 4 (codeOf Tryz.f215))) (.exit 2) (z07.sx8 y) = z07.a8 lp (fun x0 x6 xo12 => N (z07.s4 x0 x6 xo12)) (fun y => X (.exit 0) (z07.sx4 y)) (fun z => X .ret (z07.sr4 z)) y := by kernel_rfl
theorem z07.n_a8 (lp : Nat) {R S : Type} (N : List Commit → Int → List Bool → Option R) (X : ((List Bool)) → Option R) (Q : Empty → Option R) (y : (List Commit) × Int × (List Bool)) (k : R → Option S) : obind (z07.a8 lp N X Q y) k = z07.a8 lp (fun x0 x6 xo12 => obind (N x0 x6 xo12) k) (fun y => obind (X y) k) (fun z => obind (Q z) k) y := by
  unfold z07.a8; simp only [obind_none, obind_some, obind_cond, obind_oif, obind_oget, obind_obind]
theorem z07.t_b4 (lp : Nat) {R : Type} (N : St → Option R) (X : Out → St → Option R) (x0 : List Commit) (x6 : Int) (xo12 : List Bool) : codeK (z07.E lp) z07.an lp (loopAt 4 (codeOf Tryz.f215)) (z07.s4 x0 x6 xo12) (lpK z07.la4 N X) = z07.b4 lp (fun x0 x6 xo12 => N (z07.s4 x0 x6 xo12)) (fun y => X (.exit 0) (z07.sx4 y)) (fun z => X .ret (z07.sr4 z)) (fun x0 x6 x30 x31 x32 xo12 => loopK z07.la8 (fun σ K => codeK (z07.E lp) z07.an lp (loopAt 8 (codeOf Tryz.f215)) σ K) lp (z07.s8 x0 x6 x30 x31 x32 xo12) (kont (z07.E lp) z07.an lp (lpK z07.la4 N X) (stkAt 8 (loopAt 4 (codeOf Tryz.f215))))) x0 x6 xo12 := by kernel_rfl
theorem z07.n_b4 (lp : Nat) {R S : Type} (N : List Commit → Int → List Bool → Option R) (X : ((List Bool)) → Option R) (Q : Empty → Option R) (L8 : List Commit → Int → List Int → Int → Int → List Bool → Option R) (x0 : List Commit) (x6 : Int) (xo12 : List Bool) (k : R → Option S) : obind (z07.b4 lp N X Q L8 x0 x6 xo12) k = z07.b4 lp (fun x0 x6 xo12 => obind (N x0 x6 xo12) k) (fun y => obind (X y) k) (fun z => obind (Q z) k) (fun x0 x6 x30 x31 x32 xo12 => obind (L8 x0 x6 x30 x31 x32 xo12) k) x0 x6 xo12 := by
  unfold z07.b4; simp only [obind_none, obind_some, obind_cond, obind_oif, obind_oget, obind_obind]
theorem z07.k4 (lp : Nat) {R : Type} (K : Out → St → Option R) : ∀ (n : Nat) (x0 : List Commit) (x6 : Int) (xo12 : List Bool), loopK z07.la4 (fun σ K => codeK (z07.E lp) z07.an lp (loopAt 4 (codeOf Tryz.f215)) σ K) n (z07.s4 x0 x6 xo12) K = obind (z07.l4 lp n x0 x6 xo12) (leK 0 z07.sr4 z07.sx4 K) := by
  intro n
  induction n with
  | zero => intros; rfl
  | succ n ih =>
    intro x0 x6 xo12
    rw [loopK_succ, z07.t_b4, z07.l4, z07.n_b4]
    simp only [ih, obind_some, leK_ret, leK_brk, leF_ret, leF_brk, obind_obind, obind_leF, obind_elim, leK_ret0 _ z07.sr8 z07.sx8, z07.k8, z07.t_a8, z07.n_a8]
theorem z07.t_a4 (lp : Nat) (y : (List Bool)) : kont (R := (List Bool)) (z07.E lp) z07.an lp (finK (z07.E lp) Tryz.f215 [(.sl .bool)]) (stkAt 4 (codeOf Tryz.f215)) (.exit 0) (z07.sx4 y) = z07.a4 lp y := by kernel_rfl
theorem z07.t_e (lp : Nat) (x0 : List Commit) (x1 : Int) : evalF (z07.E lp) z07.an lp Tryz.f215 [.v (.sl TCommit), .v (.int .i64)] [(.sl .bool)] (x0, x1, ()) = z07.e lp (fun x0 x6 xo12 => loopK z07.la4 (fun σ K => codeK (z07.E lp) z07.an lp (loopAt 4 (codeOf Tryz.f215)) σ K) lp (z07.s4 x0 x6 xo12) (kont (R := (List Bool)) (z07.E lp) z07.an lp (finK (z07.E lp) Tryz.f215 [(.sl .bool)]) (stkAt 4 (codeOf Tryz.f215)))) x0 x1 := by kernel_rfl
theorem z07.eq0 (lp : Nat) (x0 : List Commit) (x1 : Int) : evalF (z07.E lp) z07.an lp Tryz.f215 [.v (.sl TCommit), .v (.int .i64)] [(.sl .bool)] (x0, x1, ()) = z07 lp x0 x1 := by
  rw [z07.t_e]; unfold z07
  simp only [leK_ret0 _ z07.sr4 z07.sx4, z07.k4, z07.t_a4]
theorem z07.eq (lp : Nat) (x : ADens [.v (.sl TCommit), .v (.int .i64)]) : evalF (z07.E lp) z07.an lp Tryz.f215 [.v (.sl TCommit), .v (.int .i64)] [(.sl .bool)] x = (z07.S lp).F x := z07.eq0 lp x.1 x.2.1
theorem z07.ok (lp : Nat) : Sound Tryz.prog 215 (z07.S lp) := sound_of (E := z07.E lp) (env_ok z0s tabEqs trivial trivial) mixed Tryz.func215 (by kernel_rfl) (c := codeOf Tryz.f215) (by kernel_rfl) (by kernel_rfl) z07.an (fun x r h => ⟨lp, (z07.eq lp x).trans h⟩)
def z2q.la3 : LoopAn := { kn := { tms := [7, 8, 9] }, kx := { tms := [9] }, kr := {} }
def z2q.E (lp : Nat) : Env := { tab := tab, fns := [(215, z07.S lp)], ann := { own := [], ro := [] } }
def z2q.an : An := { loops := [(3, z2q.la3)] }
def z2q.s3 (x7 : List Bool) (x8 : List Bool) (x9 : Int) : St := ⟨sk 7 (.v (.one (.b (.d (.sl .bool) x7))) :: .v (.one (.b (.d (.sl .bool) x8))) :: .v (.one (.b (.d (.int .i64) x9))) :: (sk 24 ([]))), sko 34 ([])⟩
def z2q.sx3 (y : Int) : St := ⟨sk 9 (.v (.one (.b (.d (.int .i64) y))) :: (sk 24 ([]))), sko 34 ([])⟩
def z2q.sr3 (z : Empty) : St := z.elim
def z2q.S (lp : Nat) : Spec := { ats := [.v (.sl TCommit), .v (.int .i64), .v (.int .i64)], rts := [(.int .i64)], F := fun x => z2q lp x.1 x.2.1 x.2.2.1 }
theorem z2q.t_b3 (lp : Nat) {R : Type} (N : St → Option R) (X : Out → St → Option R) (x7 : List Bool) (x8 : List Bool) (x9 : Int) : codeK (z2q.E lp) z2q.an lp (loopAt 3 (codeOf Tryz.f198)) (z2q.s3 x7 x8 x9) (lpK z2q.la3 N X) = z2q.b3 lp (fun x7 x8 x9 => N (z2q.s3 x7 x8 x9)) (fun y => X (.exit 0) (z2q.sx3 y)) (fun z => X .ret (z2q.sr3 z)) x7 x8 x9 := by kernel_rfl
theorem z2q.n_b3 (lp : Nat) {R S : Type} (N : List Bool → List Bool → Int → Option R) (X : Int → Option R) (Q : Empty → Option R) (x7 : List Bool) (x8 : List Bool) (x9 : Int) (k : R → Option S) : obind (z2q.b3 lp N X Q x7 x8 x9) k = z2q.b3 lp (fun x7 x8 x9 => obind (N x7 x8 x9) k) (fun y => obind (X y) k) (fun z => obind (Q z) k) x7 x8 x9 := by
  unfold z2q.b3; simp only [obind_none, obind_some, obind_cond, obind_oif, obind_oget, obind_obind]
theorem z2q.k3 (lp : Nat) {R : Type} (K : Out → St → Option R) : ∀ (n : Nat) (x7 : List Bool) (x8 : List Bool) (x9 : Int), loopK z2q.la3 (fun σ K => codeK (z2q.E lp) z2q.an lp (loopAt 3 (codeOf Tryz.f198)) σ K) n (z2q.s3 x7 x8 x9) K = obind (z2q.l3 lp n x7 x8 x9) (leK 0 z2q.sr3 z2q.sx3 K) := by
  intro n
  induction n with
  | zero => intros; rfl
  | succ n ih =>
    intro x7 x8 x9
    rw [loopK_succ, z2q.t_b3, z2q.l3, z2q.n_b3]
    simp only [ih, obind_some, leK_ret, leK_brk]
theorem z2q.t_a3 (lp : Nat) (y : Int) : kont (R := Int) (z2q.E lp) z2q.an lp (finK (z2q.E lp) Tryz.f198 [(.int .i64)]) (stkAt 3 (codeOf Tryz.f198)) (.exit 0) (z2q.sx3 y) = z2q.a3 lp y := by kernel_rfl
theorem z2q.t_e (lp : Nat) (x0 : List Commit) (x1 : Int) (x2 : Int) : evalF (z2q.E lp) z2q.an lp Tryz.f198 [.v (.sl TCommit), .v (.int .i64), .v (.int .i64)] [(.int .i64)] (x0, x1, x2, ()) = z2q.e lp (fun x7 x8 x9 => loopK z2q.la3 (fun σ K => codeK (z2q.E lp) z2q.an lp (loopAt 3 (codeOf Tryz.f198)) σ K) lp (z2q.s3 x7 x8 x9) (kont (R := Int) (z2q.E lp) z2q.an lp (finK (z2q.E lp) Tryz.f198 [(.int .i64)]) (stkAt 3 (codeOf Tryz.f198)))) x0 x1 x2 := by kernel_rfl
theorem z2q.eq0 (lp : Nat) (x0 : List Commit) (x1 : Int) (x2 : Int) : evalF (z2q.E lp) z2q.an lp Tryz.f198 [.v (.sl TCommit), .v (.int .i64), .v (.int .i64)] [(.int .i64)] (x0, x1, x2, ()) = z2q lp x0 x1 x2 := by
  rw [z2q.t_e]; unfold z2q
  simp only [leK_ret0 _ z2q.sr3 z2q.sx3, z2q.k3, z2q.t_a3]
theorem z2q.eq (lp : Nat) (x : ADens [.v (.sl TCommit), .v (.int .i64), .v (.int .i64)]) : evalF (z2q.E lp) z2q.an lp Tryz.f198 [.v (.sl TCommit), .v (.int .i64), .v (.int .i64)] [(.int .i64)] x = (z2q.S lp).F x := z2q.eq0 lp x.1 x.2.1 x.2.2.1
theorem z2q.ok (lp : Nat) : Sound Tryz.prog 198 (z2q.S lp) := sound_of (E := z2q.E lp) (env_ok z0s tabEqs ⟨z07.ok lp, trivial⟩ trivial) mixed Tryz.func198 (by kernel_rfl) (c := codeOf Tryz.f198) (by kernel_rfl) (by kernel_rfl) z2q.an (fun x r h => ⟨lp, (z2q.eq lp x).trans h⟩)
def z40.E (lp : Nat) : Env := { tab := tab, fns := [(198, z2q.S lp), (214, z0r.S lp)], ann := { own := [], ro := [] } }
def z40.an : An := { pre := [] }
def z40.S (lp : Nat) : Spec := { ats := [.v (.sl TCommit), .v (.int .i64), .v (.int .i64)], rts := [(.sl TEntry), (.sl .str), (.int .i64)], F := fun x => z40 lp x.1 x.2.1 x.2.2.1 }
theorem z40.eq (lp : Nat) (x : ADens [.v (.sl TCommit), .v (.int .i64), .v (.int .i64)]) : evalF (z40.E lp) z40.an lp Tryz.f199 [.v (.sl TCommit), .v (.int .i64), .v (.int .i64)] [(.sl TEntry), (.sl .str), (.int .i64)] x = (z40.S lp).F x := by kernel_rfl
theorem z40.ok (lp : Nat) : Sound Tryz.prog 199 (z40.S lp) := sound_of (E := z40.E lp) (env_ok z0s tabEqs ⟨z2q.ok lp, z0r.ok lp, trivial⟩ trivial) mixed Tryz.func199 (by kernel_rfl) (c := codeOf Tryz.f199) (by kernel_rfl) (by kernel_rfl) z40.an (fun x r h => ⟨lp, (z40.eq lp x).trans h⟩)
def z36.E (lp : Nat) : Env := { tab := tab, fns := [(197, z3q.S lp), (198, z2q.S lp), (199, z40.S lp), (200, z3m.S)], ann := { own := [], ro := [3, 4] } }
def z36.an : An := { pre := [] }
def z36.S (lp : Nat) : Spec := { ats := [.v TBase, .v TOp, .v (.int .i64)], rts := [TPlan], F := fun x => z36 lp x.1 x.2.1 x.2.2.1 }
theorem z36.eq (lp : Nat) (x : ADens [.v TBase, .v TOp, .v (.int .i64)]) : evalF (z36.E lp) z36.an lp Tryz.f166 [.v TBase, .v TOp, .v (.int .i64)] [TPlan] x = (z36.S lp).F x := by kernel_rfl
theorem z36.ok (lp : Nat) : Sound Tryz.prog 166 (z36.S lp) := sound_of (E := z36.E lp) (env_ok z0s tabEqs ⟨z3q.ok lp, z2q.ok lp, z40.ok lp, z3m.ok, trivial⟩ trivial) mixed Tryz.func166 (by kernel_rfl) (c := codeOf Tryz.f166) (by kernel_rfl) (by kernel_rfl) z36.an (fun x r h => ⟨lp, (z36.eq lp x).trans h⟩)
def z74.E : Env := { tab := tab, fns := [], ann := { own := [], ro := [] } }
def z74.an : An := { pre := [] }
def z74.S : Spec := { ats := [.v .bool], rts := [(.int .i64)], F := fun x => z74 x.1 }
theorem z74.eq (lp : Nat) (x : ADens [.v .bool]) : evalF (z74.E) z74.an lp Tryz.f167 [.v .bool] [(.int .i64)] x = (z74.S).F x := by kernel_rfl
theorem z74.ok : Sound Tryz.prog 167 (z74.S) := sound_of (E := z74.E) (env_ok z0s tabEqs trivial trivial) mixed Tryz.func167 (by kernel_rfl) (c := codeOf Tryz.f167) (by kernel_rfl) (by kernel_rfl) z74.an (fun x r h => ⟨0, (z74.eq 0 x).trans h⟩)
def z2x.E (lp : Nat) : Env := { tab := tab, fns := [(163, z3g.S), (52, z2t.S), (164, z3j.S), (165, z3w.S), (161, z3z.S), (162, z49.S), (166, z36.S lp), (167, z74.S), (64, z0h.S lp)], ann := { own := [], ro := [2, 3] } }
def z2x.an : An := { pre := [] }
def z2x.S (lp : Nat) : Spec := { ats := [.v TClient, .v TBase], rts := [.bool], F := fun x => z2x lp x.1 x.2.1 }
theorem z2x.eq (lp : Nat) (x : ADens [.v TClient, .v TBase]) : evalF (z2x.E lp) z2x.an lp Tryz.f108 [.v TClient, .v TBase] [.bool] x = (z2x.S lp).F x := by kernel_rfl
theorem z2x.ok (lp : Nat) : Sound Tryz.prog 108 (z2x.S lp) := sound_of (E := z2x.E lp) (env_ok z0s tabEqs ⟨z3g.ok, z2t.ok, z3j.ok, z3w.ok, z3z.ok, z49.ok, z36.ok lp, z74.ok, z0h.ok lp, trivial⟩ trivial) mixed Tryz.func108 (by kernel_rfl) (c := codeOf Tryz.f108) (by kernel_rfl) (by kernel_rfl) z2x.an (fun x r h => ⟨lp, (z2x.eq lp x).trans h⟩)
def z3s.E (lp : Nat) : Env := { tab := tab, fns := [(107, z5u.S lp), (106, z3v.S lp), (52, z2t.S), (108, z2x.S lp)], ann := { own := [], ro := [2, 3] } }
def z3s.an : An := { pre := [] }
def z3s.S (lp : Nat) : Spec := { ats := [.v TClient, .v TBase], rts := [.bool], F := fun x => z3s lp x.1 x.2.1 }
theorem z3s.eq (lp : Nat) (x : ADens [.v TClient, .v TBase]) : evalF (z3s.E lp) z3s.an lp Tryz.f53 [.v TClient, .v TBase] [.bool] x = (z3s.S lp).F x := by kernel_rfl
theorem z3s.ok (lp : Nat) : Sound Tryz.prog 53 (z3s.S lp) := sound_of (E := z3s.E lp) (env_ok z0s tabEqs ⟨z5u.ok lp, z3v.ok lp, z2t.ok, z2x.ok lp, trivial⟩ trivial) mixed Tryz.func53 (by kernel_rfl) (c := codeOf Tryz.f53) (by kernel_rfl) (by kernel_rfl) z3s.an (fun x r h => ⟨lp, (z3s.eq lp x).trans h⟩)
def z03.la2 : LoopAn := { kn := { tms := [0, 1, 7, 8] }, kx := {}, kr := { tms := [4] } }
def z03.E (lp : Nat) : Env := { tab := tab, fns := [], ann := { own := [], ro := [] } }
def z03.an : An := { loops := [(2, z03.la2)] }
def z03.s2 (x0 : List Moment) (x1 : (Moment × Unit) → Option Bool) (x7 : Int) (x8 : Int) : St := ⟨.v (.one (.b (.d (.sl TMoment) x0))) :: .v (.one (.b (.cl (.pair TMoment .unit) .bool x1))) :: (sk 5 (.v (.one (.b (.d (.int .i64) x7))) :: .v (.one (.b (.d (.int .i64) x8))) :: (sk 10 ([])))), sko 19 ([])⟩
def z03.sx2 (y : Unit) : St := ⟨sk 19 ([]), sko 19 ([])⟩
def z03.sr2 (z : Int) : St := ⟨sk 4 (.v (.one (.b (.d (.int .i64) z))) :: (sk 14 ([]))), sko 19 ([])⟩
def z03.S (lp : Nat) : Spec := { ats := [.v (.sl TMoment), .clo (.pair TMoment .unit) .bool], rts := [(.int .i64)], F := fun x => z03 lp x.1 x.2.1 }
theorem z03.t_b2 (lp : Nat) {R : Type} (N : St → Option R) (X : Out → St → Option R) (x0 : List Moment) (x1 : (Moment × Unit) → Option Bool) (x7 : Int) (x8 : Int) : codeK (z03.E lp) z03.an lp (loopAt 2 (codeOf Tryz.f168)) (z03.s2 x0 x1 x7 x8) (lpK z03.la2 N X) = z03.b2 lp (fun x0 x1 x7 x8 => N (z03.s2 x0 x1 x7 x8)) (fun y => X (.exit 0) (z03.sx2 y)) (fun z => X .ret (z03.sr2 z)) x0 x1 x7 x8 := by kernel_rfl
theorem z03.n_b2 (lp : Nat) {R S : Type} (N : List Moment → ((Moment × Unit) → Option Bool) → Int → Int → Option R) (X : Unit → Option R) (Q : Int → Option R) (x0 : List Moment) (x1 : (Moment × Unit) → Option Bool) (x7 : Int) (x8 : Int) (k : R → Option S) : obind (z03.b2 lp N X Q x0 x1 x7 x8) k = z03.b2 lp (fun x0 x1 x7 x8 => obind (N x0 x1 x7 x8) k) (fun y => obind (X y) k) (fun z => obind (Q z) k) x0 x1 x7 x8 := by
  unfold z03.b2; simp only [obind_none, obind_some, obind_cond, obind_oif, obind_oget, obind_obind]
theorem z03.k2 (lp : Nat) {R : Type} (K : Out → St → Option R) : ∀ (n : Nat) (x0 : List Moment) (x1 : (Moment × Unit) → Option Bool) (x7 : Int) (x8 : Int), loopK z03.la2 (fun σ K => codeK (z03.E lp) z03.an lp (loopAt 2 (codeOf Tryz.f168)) σ K) n (z03.s2 x0 x1 x7 x8) K = obind (z03.l2 lp n x0 x1 x7 x8) (leK 0 z03.sr2 z03.sx2 K) := by
  intro n
  induction n with
  | zero => intros; rfl
  | succ n ih =>
    intro x0 x1 x7 x8
    rw [loopK_succ, z03.t_b2, z03.l2, z03.n_b2]
    simp only [ih, obind_some, leK_ret, leK_brk]
theorem z03.t_a2 (lp : Nat) (y : Unit) : kont (R := Int) (z03.E lp) z03.an lp (finK (z03.E lp) Tryz.f168 [(.int .i64)]) (stkAt 2 (codeOf Tryz.f168)) (.exit 0) (z03.sx2 y) = z03.a2 lp y := by kernel_rfl
theorem z03.t_q2 (lp : Nat) (z : Int) : kont (R := Int) (z03.E lp) z03.an lp (finK (z03.E lp) Tryz.f168 [(.int .i64)]) (stkAt 2 (codeOf Tryz.f168)) .ret (z03.sr2 z) = z03.q2 lp z := by kernel_rfl
theorem z03.t_e (lp : Nat) (x0 : List Moment) (x1 : (Moment × Unit) → Option Bool) : evalF (z03.E lp) z03.an lp Tryz.f168 [.v (.sl TMoment), .clo (.pair TMoment .unit) .bool] [(.int .i64)] (x0, x1, ()) = z03.e lp (fun x0 x1 x7 x8 => loopK z03.la2 (fun σ K => codeK (z03.E lp) z03.an lp (loopAt 2 (codeOf Tryz.f168)) σ K) lp (z03.s2 x0 x1 x7 x8) (kont (R := Int) (z03.E lp) z03.an lp (finK (z03.E lp) Tryz.f168 [(.int .i64)]) (stkAt 2 (codeOf Tryz.f168)))) x0 x1 := by kernel_rfl
theorem z03.eq0 (lp : Nat) (x0 : List Moment) (x1 : (Moment × Unit) → Option Bool) : evalF (z03.E lp) z03.an lp Tryz.f168 [.v (.sl TMoment), .clo (.pair TMoment .unit) .bool] [(.int .i64)] (x0, x1, ()) = z03 lp x0 x1 := by
  rw [z03.t_e]; unfold z03
  simp only [leK_leF _ z03.sr2 z03.sx2, z03.k2, z03.t_a2, z03.t_q2]
theorem z03.eq (lp : Nat) (x : ADens [.v (.sl TMoment), .clo (.pair TMoment .unit) .bool]) : evalF (z03.E lp) z03.an lp Tryz.f168 [.v (.sl TMoment), .clo (.pair TMoment .unit) .bool] [(.int .i64)] x = (z03.S lp).F x := z03.eq0 lp x.1 x.2.1
theorem z03.ok (lp : Nat) : Sound Tryz.prog 168 (z03.S lp) := sound_of (E := z03.E lp) (env_ok z0s tabEqs trivial trivial) mixed Tryz.func168 (by kernel_rfl) (c := codeOf Tryz.f168) (by kernel_rfl) (by kernel_rfl) z03.an (fun x r h => ⟨lp, (z03.eq lp x).trans h⟩)
def z2u.E (lp : Nat) : Env := { tab := tab, fns := [(168, z03.S lp)], ann := { own := [], ro := [] } }
def z2u.an : An := { pre := [] }
def z2u.S (lp : Nat) : Spec := { ats := [.v (.sl TMoment), .clo (.pair TMoment .unit) .bool], rts := [.bool], F := fun x => z2u lp x.1 x.2.1 }
theorem z2u.eq (lp : Nat) (x : ADens [.v (.sl TMoment), .clo (.pair TMoment .unit) .bool]) : evalF (z2u.E lp) z2u.an lp Tryz.f109 [.v (.sl TMoment), .clo (.pair TMoment .unit) .bool] [.bool] x = (z2u.S lp).F x := by kernel_rfl
theorem z2u.ok (lp : Nat) : Sound Tryz.prog 109 (z2u.S lp) := sound_of (E := z2u.E lp) (env_ok z0s tabEqs ⟨z03.ok lp, trivial⟩ trivial) mixed Tryz.func109 (by kernel_rfl) (c := codeOf Tryz.f109) (by kernel_rfl) (by kernel_rfl) z2u.an (fun x r h => ⟨lp, (z2u.eq lp x).trans h⟩)
def z34.E : Env := { tab := tab, fns := [], ann := { own := [], ro := [2] } }
def z34.an : An := { pre := [] }
def z34.S : Spec := { ats := [.v TMoment, .ptrC (.pair TMoment .unit) .bool], rts := [.bool], F := fun x => z34 x.1 x.2.1 }
theorem z34.eq (lp : Nat) (x : ADens [.v TMoment, .ptrC (.pair TMoment .unit) .bool]) : evalF (z34.E) z34.an lp Tryz.f110 [.v TMoment, .ptrC (.pair TMoment .unit) .bool] [.bool] x = (z34.S).F x := by kernel_rfl
theorem z34.ok : Sound Tryz.prog 110 (z34.S) := sound_of (E := z34.E) (env_ok z0s tabEqs trivial trivial) mixed Tryz.func110 (by kernel_rfl) (c := codeOf Tryz.f110) (by kernel_rfl) (by kernel_rfl) z34.an (fun x r h => ⟨0, (z34.eq 0 x).trans h⟩)
def z3f.E (lp : Nat) : Env := { tab := tab, fns := [(110, z34.S), (109, z2u.S lp)], ann := { own := [], ro := [3] } }
def z3f.an : An := { pre := [] }
def z3f.S (lp : Nat) : Spec := { ats := [.v (.sl TMoment), .clo (.pair TMoment .unit) .bool], rts := [.bool], F := fun x => z3f lp x.1 x.2.1 }
theorem z3f.eq (lp : Nat) (x : ADens [.v (.sl TMoment), .clo (.pair TMoment .unit) .bool]) : evalF (z3f.E lp) z3f.an lp Tryz.f54 [.v (.sl TMoment), .clo (.pair TMoment .unit) .bool] [.bool] x = (z3f.S lp).F x := by kernel_rfl
theorem z3f.ok (lp : Nat) : Sound Tryz.prog 54 (z3f.S lp) := sound_of (E := z3f.E lp) (env_ok z0s tabEqs ⟨z34.ok, z2u.ok lp, trivial⟩ trivial) mixed Tryz.func54 (by kernel_rfl) (c := codeOf Tryz.f54) (by kernel_rfl) (by kernel_rfl) z3f.an (fun x r h => ⟨lp, (z3f.eq lp x).trans h⟩)
def z4o.E : Env := { tab := tab, fns := [], ann := { own := [], ro := [1] } }
def z4o.an : An := { pre := [] }
def z4o.S : Spec := { ats := [.v TOp], rts := [.bool], F := fun x => z4o x.1 }
theorem z4o.eq (lp : Nat) (x : ADens [.v TOp]) : evalF (z4o.E) z4o.an lp Tryz.f111 [.v TOp] [.bool] x = (z4o.S).F x := by kernel_rfl
theorem z4o.ok : Sound Tryz.prog 111 (z4o.S) := sound_of (E := z4o.E) (env_ok z0s tabEqs trivial trivial) mixed Tryz.func111 (by kernel_rfl) (c := codeOf Tryz.f111) (by kernel_rfl) (by kernel_rfl) z4o.an (fun x r h => ⟨0, (z4o.eq 0 x).trans h⟩)
def z6r.E : Env := { tab := tab, fns := [(52, z2t.S)], ann := { own := [], ro := [] } }
def z6r.an : An := { pre := [] }
def z6r.S : Spec := { ats := [.v (.int .i64)], rts := [.bool], F := fun x => z6r x.1 }
theorem z6r.eq (lp : Nat) (x : ADens [.v (.int .i64)]) : evalF (z6r.E) z6r.an lp Tryz.f170 [.v (.int .i64)] [.bool] x = (z6r.S).F x := by kernel_rfl
theorem z6r.ok : Sound Tryz.prog 170 (z6r.S) := sound_of (E := z6r.E) (env_ok z0s tabEqs ⟨z2t.ok, trivial⟩ trivial) mixed Tryz.func170 (by kernel_rfl) (c := codeOf Tryz.f170) (by kernel_rfl) (by kernel_rfl) z6r.an (fun x r h => ⟨0, (z6r.eq 0 x).trans h⟩)
def z4x.E (lp : Nat) : Env := { tab := tab, fns := [(170, z6r.S), (52, z2t.S), (124, z43.S), (125, z2i.S lp)], ann := { own := [], ro := [2] } }
def z4x.an : An := { pre := [] }
def z4x.S (lp : Nat) : Spec := { ats := [.v TResult, .v (.int .i64)], rts := [.bool], F := fun x => z4x lp x.1 x.2.1 }
theorem z4x.eq (lp : Nat) (x : ADens [.v TResult, .v (.int .i64)]) : evalF (z4x.E lp) z4x.an lp Tryz.f113 [.v TResult, .v (.int .i64)] [.bool] x = (z4x.S lp).F x := by kernel_rfl
theorem z4x.ok (lp : Nat) : Sound Tryz.prog 113 (z4x.S lp) := sound_of (E := z4x.E lp) (env_ok z0s tabEqs ⟨z6r.ok, z2t.ok, z43.ok, z2i.ok lp, trivial⟩ trivial) mixed Tryz.func113 (by kernel_rfl) (c := codeOf Tryz.f113) (by kernel_rfl) (by kernel_rfl) z4x.an (fun x r h => ⟨lp, (z4x.eq lp x).trans h⟩)
def z37.E (lp : Nat) : Env := { tab := tab, fns := [(52, z2t.S), (111, z4o.S), (113, z4x.S lp), (112, z68.S lp)], ann := { own := [], ro := [2, 3] } }
def z37.an : An := { pre := [] }
def z37.S (lp : Nat) : Spec := { ats := [.v TWorld, .v TMoment], rts := [.bool], F := fun x => z37 lp x.1 x.2.1 }
theorem z37.eq (lp : Nat) (x : ADens [.v TWorld, .v TMoment]) : evalF (z37.E lp) z37.an lp Tryz.f55 [.v TWorld, .v TMoment] [.bool] x = (z37.S lp).F x := by kernel_rfl
theorem z37.ok (lp : Nat) : Sound Tryz.prog 55 (z37.S lp) := sound_of (E := z37.E lp) (env_ok z0s tabEqs ⟨z2t.ok, z4o.ok, z4x.ok lp, z68.ok lp, trivial⟩ trivial) mixed Tryz.func55 (by kernel_rfl) (c := codeOf Tryz.f55) (by kernel_rfl) (by kernel_rfl) z37.an (fun x r h => ⟨lp, (z37.eq lp x).trans h⟩)
def z08.la2 : LoopAn := { kn := { tms := [0, 1, 7, 8] }, kx := {}, kr := { tms := [4] } }
def z08.E (lp : Nat) : Env := { tab := tab, fns := [], ann := { own := [], ro := [] } }
def z08.an : An := { loops := [(2, z08.la2)] }
def z08.s2 (x0 : List Watch) (x1 : (Watch × Unit) → Option Bool) (x7 : Int) (x8 : Int) : St := ⟨.v (.one (.b (.d (.sl TWatch) x0))) :: .v (.one (.b (.cl (.pair TWatch .unit) .bool x1))) :: (sk 5 (.v (.one (.b (.d (.int .i64) x7))) :: .v (.one (.b (.d (.int .i64) x8))) :: (sk 10 ([])))), sko 19 ([])⟩
def z08.sx2 (y : Unit) : St := ⟨sk 19 ([]), sko 19 ([])⟩
def z08.sr2 (z : Int) : St := ⟨sk 4 (.v (.one (.b (.d (.int .i64) z))) :: (sk 14 ([]))), sko 19 ([])⟩
def z08.S (lp : Nat) : Spec := { ats := [.v (.sl TWatch), .clo (.pair TWatch .unit) .bool], rts := [(.int .i64)], F := fun x => z08 lp x.1 x.2.1 }
theorem z08.t_b2 (lp : Nat) {R : Type} (N : St → Option R) (X : Out → St → Option R) (x0 : List Watch) (x1 : (Watch × Unit) → Option Bool) (x7 : Int) (x8 : Int) : codeK (z08.E lp) z08.an lp (loopAt 2 (codeOf Tryz.f171)) (z08.s2 x0 x1 x7 x8) (lpK z08.la2 N X) = z08.b2 lp (fun x0 x1 x7 x8 => N (z08.s2 x0 x1 x7 x8)) (fun y => X (.exit 0) (z08.sx2 y)) (fun z => X .ret (z08.sr2 z)) x0 x1 x7 x8 := by kernel_rfl
theorem z08.n_b2 (lp : Nat) {R S : Type} (N : List Watch → ((Watch × Unit) → Option Bool) → Int → Int → Option R) (X : Unit → Option R) (Q : Int → Option R) (x0 : List Watch) (x1 : (Watch × Unit) → Option Bool) (x7 : Int) (x8 : Int) (k : R → Option S) : obind (z08.b2 lp N X Q x0 x1 x7 x8) k = z08.b2 lp (fun x0 x1 x7 x8 => obind (N x0 x1 x7 x8) k) (fun y => obind (X y) k) (fun z => obind (Q z) k) x0 x1 x7 x8 := by
  unfold z08.b2; simp only [obind_none, obind_some, obind_cond, obind_oif, obind_oget, obind_obind]
theorem z08.k2 (lp : Nat) {R : Type} (K : Out → St → Option R) : ∀ (n : Nat) (x0 : List Watch) (x1 : (Watch × Unit) → Option Bool) (x7 : Int) (x8 : Int), loopK z08.la2 (fun σ K => codeK (z08.E lp) z08.an lp (loopAt 2 (codeOf Tryz.f171)) σ K) n (z08.s2 x0 x1 x7 x8) K = obind (z08.l2 lp n x0 x1 x7 x8) (leK 0 z08.sr2 z08.sx2 K) := by
  intro n
  induction n with
  | zero => intros; rfl
  | succ n ih =>
    intro x0 x1 x7 x8
    rw [loopK_succ, z08.t_b2, z08.l2, z08.n_b2]
    simp only [ih, obind_some, leK_ret, leK_brk]
theorem z08.t_a2 (lp : Nat) (y : Unit) : kont (R := Int) (z08.E lp) z08.an lp (finK (z08.E lp) Tryz.f171 [(.int .i64)]) (stkAt 2 (codeOf Tryz.f171)) (.exit 0) (z08.sx2 y) = z08.a2 lp y := by kernel_rfl
theorem z08.t_q2 (lp : Nat) (z : Int) : kont (R := Int) (z08.E lp) z08.an lp (finK (z08.E lp) Tryz.f171 [(.int .i64)]) (stkAt 2 (codeOf Tryz.f171)) .ret (z08.sr2 z) = z08.q2 lp z := by kernel_rfl
theorem z08.t_e (lp : Nat) (x0 : List Watch) (x1 : (Watch × Unit) → Option Bool) : evalF (z08.E lp) z08.an lp Tryz.f171 [.v (.sl TWatch), .clo (.pair TWatch .unit) .bool] [(.int .i64)] (x0, x1, ()) = z08.e lp (fun x0 x1 x7 x8 => loopK z08.la2 (fun σ K => codeK (z08.E lp) z08.an lp (loopAt 2 (codeOf Tryz.f171)) σ K) lp (z08.s2 x0 x1 x7 x8) (kont (R := Int) (z08.E lp) z08.an lp (finK (z08.E lp) Tryz.f171 [(.int .i64)]) (stkAt 2 (codeOf Tryz.f171)))) x0 x1 := by kernel_rfl
theorem z08.eq0 (lp : Nat) (x0 : List Watch) (x1 : (Watch × Unit) → Option Bool) : evalF (z08.E lp) z08.an lp Tryz.f171 [.v (.sl TWatch), .clo (.pair TWatch .unit) .bool] [(.int .i64)] (x0, x1, ()) = z08 lp x0 x1 := by
  rw [z08.t_e]; unfold z08
  simp only [leK_leF _ z08.sr2 z08.sx2, z08.k2, z08.t_a2, z08.t_q2]
theorem z08.eq (lp : Nat) (x : ADens [.v (.sl TWatch), .clo (.pair TWatch .unit) .bool]) : evalF (z08.E lp) z08.an lp Tryz.f171 [.v (.sl TWatch), .clo (.pair TWatch .unit) .bool] [(.int .i64)] x = (z08.S lp).F x := z08.eq0 lp x.1 x.2.1
theorem z08.ok (lp : Nat) : Sound Tryz.prog 171 (z08.S lp) := sound_of (E := z08.E lp) (env_ok z0s tabEqs trivial trivial) mixed Tryz.func171 (by kernel_rfl) (c := codeOf Tryz.f171) (by kernel_rfl) (by kernel_rfl) z08.an (fun x r h => ⟨lp, (z08.eq lp x).trans h⟩)
def z2v.E (lp : Nat) : Env := { tab := tab, fns := [(171, z08.S lp)], ann := { own := [], ro := [] } }
def z2v.an : An := { pre := [] }
def z2v.S (lp : Nat) : Spec := { ats := [.v (.sl TWatch), .clo (.pair TWatch .unit) .bool], rts := [.bool], F := fun x => z2v lp x.1 x.2.1 }
theorem z2v.eq (lp : Nat) (x : ADens [.v (.sl TWatch), .clo (.pair TWatch .unit) .bool]) : evalF (z2v.E lp) z2v.an lp Tryz.f114 [.v (.sl TWatch), .clo (.pair TWatch .unit) .bool] [.bool] x = (z2v.S lp).F x := by kernel_rfl
theorem z2v.ok (lp : Nat) : Sound Tryz.prog 114 (z2v.S lp) := sound_of (E := z2v.E lp) (env_ok z0s tabEqs ⟨z08.ok lp, trivial⟩ trivial) mixed Tryz.func114 (by kernel_rfl) (c := codeOf Tryz.f114) (by kernel_rfl) (by kernel_rfl) z2v.an (fun x r h => ⟨lp, (z2v.eq lp x).trans h⟩)
def z3a.E : Env := { tab := tab, fns := [], ann := { own := [], ro := [2] } }
def z3a.an : An := { pre := [] }
def z3a.S : Spec := { ats := [.v TWatch, .ptrC (.pair TWatch .unit) .bool], rts := [.bool], F := fun x => z3a x.1 x.2.1 }
theorem z3a.eq (lp : Nat) (x : ADens [.v TWatch, .ptrC (.pair TWatch .unit) .bool]) : evalF (z3a.E) z3a.an lp Tryz.f115 [.v TWatch, .ptrC (.pair TWatch .unit) .bool] [.bool] x = (z3a.S).F x := by kernel_rfl
theorem z3a.ok : Sound Tryz.prog 115 (z3a.S) := sound_of (E := z3a.E) (env_ok z0s tabEqs trivial trivial) mixed Tryz.func115 (by kernel_rfl) (c := codeOf Tryz.f115) (by kernel_rfl) (by kernel_rfl) z3a.an (fun x r h => ⟨0, (z3a.eq 0 x).trans h⟩)
def z3t.E (lp : Nat) : Env := { tab := tab, fns := [(115, z3a.S), (114, z2v.S lp)], ann := { own := [], ro := [3] } }
def z3t.an : An := { pre := [] }
def z3t.S (lp : Nat) : Spec := { ats := [.v (.sl TWatch), .clo (.pair TWatch .unit) .bool], rts := [.bool], F := fun x => z3t lp x.1 x.2.1 }
theorem z3t.eq (lp : Nat) (x : ADens [.v (.sl TWatch), .clo (.pair TWatch .unit) .bool]) : evalF (z3t.E lp) z3t.an lp Tryz.f56 [.v (.sl TWatch), .clo (.pair TWatch .unit) .bool] [.bool] x = (z3t.S lp).F x := by kernel_rfl
theorem z3t.ok (lp : Nat) : Sound Tryz.prog 56 (z3t.S lp) := sound_of (E := z3t.E lp) (env_ok z0s tabEqs ⟨z3a.ok, z2v.ok lp, trivial⟩ trivial) mixed Tryz.func56 (by kernel_rfl) (c := codeOf Tryz.f56) (by kernel_rfl) (by kernel_rfl) z3t.an (fun x r h => ⟨lp, (z3t.eq lp x).trans h⟩)
def z47.E : Env := { tab := tab, fns := [], ann := { own := [], ro := [] } }
def z47.an : An := { pre := [] }
def z47.S : Spec := { ats := [.v (.sl TEvent)], rts := [.bool], F := fun x => z47 x.1 }
theorem z47.eq (lp : Nat) (x : ADens [.v (.sl TEvent)]) : evalF (z47.E) z47.an lp Tryz.f176 [.v (.sl TEvent)] [.bool] x = (z47.S).F x := by kernel_rfl
theorem z47.ok : Sound Tryz.prog 176 (z47.S) := sound_of (E := z47.E) (env_ok z0s tabEqs trivial trivial) mixed Tryz.func176 (by kernel_rfl) (c := codeOf Tryz.f176) (by kernel_rfl) (by kernel_rfl) z47.an (fun x r h => ⟨0, (z47.eq 0 x).trans h⟩)
def z1j.la2 : LoopAn := { kn := { tms := [0, 5, 6, 7] }, kx := { tms := [0] }, kr := { tms := [2] } }
def z1j.E (lp : Nat) : Env := { tab := tab, fns := [(52, z2t.S), (176, z47.S)], ann := { own := [], ro := [] } }
def z1j.an : An := { loops := [(2, z1j.la2)] }
def z1j.s2 (x0 : List Event) (x5 : List Event) (x6 : Int) (x7 : Int) : St := ⟨.v (.one (.b (.d (.sl TEvent) x0))) :: (sk 4 (.v (.one (.b (.d (.sl TEvent) x5))) :: .v (.one (.b (.d (.int .i64) x6))) :: .v (.one (.b (.d (.int .i64) x7))) :: (sk 47 ([])))), sko 55 ([])⟩
def z1j.sx2 (y : (List Event)) : St := ⟨.v (.one (.b (.d (.sl TEvent) y))) :: (sk 54 ([])), sko 55 ([])⟩
def z1j.sr2 (z : Bool) : St := ⟨sk 2 (.v (.one (.b (.d .bool z))) :: (sk 52 ([]))), sko 55 ([])⟩
def z1j.S (lp : Nat) : Spec := { ats := [.v (.sl TEvent)], rts := [.bool], F := fun x => z1j lp x.1 }
theorem z1j.t_b2 (lp : Nat) {R : Type} (N : St → Option R) (X : Out → St → Option R) (x0 : List Event) (x5 : List Event) (x6 : Int) (x7 : Int) : codeK (z1j.E lp) z1j.an lp (loopAt 2 (codeOf Tryz.f117)) (z1j.s2 x0 x5 x6 x7) (lpK z1j.la2 N X) = z1j.b2 lp (fun x0 x5 x6 x7 => N (z1j.s2 x0 x5 x6 x7)) (fun y => X (.exit 0) (z1j.sx2 y)) (fun z => X .ret (z1j.sr2 z)) x0 x5 x6 x7 := by kernel_rfl
theorem z1j.n_b2 (lp : Nat) {R S : Type} (N : List Event → List Event → Int → Int → Option R) (X : ((List Event)) → Option R) (Q : Bool → Option R) (x0 : List Event) (x5 : List Event) (x6 : Int) (x7 : Int) (k : R → Option S) : obind (z1j.b2 lp N X Q x0 x5 x6 x7) k = z1j.b2 lp (fun x0 x5 x6 x7 => obind (N x0 x5 x6 x7) k) (fun y => obind (X y) k) (fun z => obind (Q z) k) x0 x5 x6 x7 := by
  unfold z1j.b2; simp only [obind_none, obind_some, obind_cond, obind_oif, obind_oget, obind_obind]
theorem z1j.k2 (lp : Nat) {R : Type} (K : Out → St → Option R) : ∀ (n : Nat) (x0 : List Event) (x5 : List Event) (x6 : Int) (x7 : Int), loopK z1j.la2 (fun σ K => codeK (z1j.E lp) z1j.an lp (loopAt 2 (codeOf Tryz.f117)) σ K) n (z1j.s2 x0 x5 x6 x7) K = obind (z1j.l2 lp n x0 x5 x6 x7) (leK 0 z1j.sr2 z1j.sx2 K) := by
  intro n
  induction n with
  | zero => intros; rfl
  | succ n ih =>
    intro x0 x5 x6 x7
    rw [loopK_succ, z1j.t_b2, z1j.l2, z1j.n_b2]
    simp only [ih, obind_some, leK_ret, leK_brk]
theorem z1j.t_a2 (lp : Nat) (y : (List Event)) : kont (R := Bool) (z1j.E lp) z1j.an lp (finK (z1j.E lp) Tryz.f117 [.bool]) (stkAt 2 (codeOf Tryz.f117)) (.exit 0) (z1j.sx2 y) = z1j.a2 lp y := by kernel_rfl
theorem z1j.t_q2 (lp : Nat) (z : Bool) : kont (R := Bool) (z1j.E lp) z1j.an lp (finK (z1j.E lp) Tryz.f117 [.bool]) (stkAt 2 (codeOf Tryz.f117)) .ret (z1j.sr2 z) = z1j.q2 lp z := by kernel_rfl
theorem z1j.t_e (lp : Nat) (x0 : List Event) : evalF (z1j.E lp) z1j.an lp Tryz.f117 [.v (.sl TEvent)] [.bool] (x0, ()) = z1j.e lp (fun x0 x5 x6 x7 => loopK z1j.la2 (fun σ K => codeK (z1j.E lp) z1j.an lp (loopAt 2 (codeOf Tryz.f117)) σ K) lp (z1j.s2 x0 x5 x6 x7) (kont (R := Bool) (z1j.E lp) z1j.an lp (finK (z1j.E lp) Tryz.f117 [.bool]) (stkAt 2 (codeOf Tryz.f117)))) x0 := by kernel_rfl
theorem z1j.eq0 (lp : Nat) (x0 : List Event) : evalF (z1j.E lp) z1j.an lp Tryz.f117 [.v (.sl TEvent)] [.bool] (x0, ()) = z1j lp x0 := by
  rw [z1j.t_e]; unfold z1j
  simp only [leK_leF _ z1j.sr2 z1j.sx2, z1j.k2, z1j.t_a2, z1j.t_q2]
theorem z1j.eq (lp : Nat) (x : ADens [.v (.sl TEvent)]) : evalF (z1j.E lp) z1j.an lp Tryz.f117 [.v (.sl TEvent)] [.bool] x = (z1j.S lp).F x := z1j.eq0 lp x.1
theorem z1j.ok (lp : Nat) : Sound Tryz.prog 117 (z1j.S lp) := sound_of (E := z1j.E lp) (env_ok z0s tabEqs ⟨z2t.ok, z47.ok, trivial⟩ trivial) mixed Tryz.func117 (by kernel_rfl) (c := codeOf Tryz.f117) (by kernel_rfl) (by kernel_rfl) z1j.an (fun x r h => ⟨lp, (z1j.eq lp x).trans h⟩)
def z09.la2 : LoopAn := { kn := { tms := [0, 1, 7, 8] }, kx := {}, kr := { tms := [4] } }
def z09.E (lp : Nat) : Env := { tab := tab, fns := [], ann := { own := [], ro := [] } }
def z09.an : An := { loops := [(2, z09.la2)] }
def z09.s2 (x0 : List Event) (x1 : (Event × Unit) → Option Bool) (x7 : Int) (x8 : Int) : St := ⟨.v (.one (.b (.d (.sl TEvent) x0))) :: .v (.one (.b (.cl (.pair TEvent .unit) .bool x1))) :: (sk 5 (.v (.one (.b (.d (.int .i64) x7))) :: .v (.one (.b (.d (.int .i64) x8))) :: (sk 10 ([])))), sko 19 ([])⟩
def z09.sx2 (y : Unit) : St := ⟨sk 19 ([]), sko 19 ([])⟩
def z09.sr2 (z : Int) : St := ⟨sk 4 (.v (.one (.b (.d (.int .i64) z))) :: (sk 14 ([]))), sko 19 ([])⟩
def z09.S (lp : Nat) : Spec := { ats := [.v (.sl TEvent), .clo (.pair TEvent .unit) .bool], rts := [(.int .i64)], F := fun x => z09 lp x.1 x.2.1 }
theorem z09.t_b2 (lp : Nat) {R : Type} (N : St → Option R) (X : Out → St → Option R) (x0 : List Event) (x1 : (Event × Unit) → Option Bool) (x7 : Int) (x8 : Int) : codeK (z09.E lp) z09.an lp (loopAt 2 (codeOf Tryz.f203)) (z09.s2 x0 x1 x7 x8) (lpK z09.la2 N X) = z09.b2 lp (fun x0 x1 x7 x8 => N (z09.s2 x0 x1 x7 x8)) (fun y => X (.exit 0) (z09.sx2 y)) (fun z => X .ret (z09.sr2 z)) x0 x1 x7 x8 := by kernel_rfl
theorem z09.n_b2 (lp : Nat) {R S : Type} (N : List Event → ((Event × Unit) → Option Bool) → Int → Int → Option R) (X : Unit → Option R) (Q : Int → Option R) (x0 : List Event) (x1 : (Event × Unit) → Option Bool) (x7 : Int) (x8 : Int) (k : R → Option S) : obind (z09.b2 lp N X Q x0 x1 x7 x8) k = z09.b2 lp (fun x0 x1 x7 x8 => obind (N x0 x1 x7 x8) k) (fun y => obind (X y) k) (fun z => obind (Q z) k) x0 x1 x7 x8 := by
  unfold z09.b2; simp only [obind_none, obind_some, obind_cond, obind_oif, obind_oget, obind_obind]
theorem z09.k2 (lp : Nat) {R : Type} (K : Out → St → Option R) : ∀ (n : Nat) (x0 : List Event) (x1 : (Event × Unit) → Option Bool) (x7 : Int) (x8 : Int), loopK z09.la2 (fun σ K => codeK (z09.E lp) z09.an lp (loopAt 2 (codeOf Tryz.f203)) σ K) n (z09.s2 x0 x1 x7 x8) K = obind (z09.l2 lp n x0 x1 x7 x8) (leK 0 z09.sr2 z09.sx2 K) := by
  intro n
  induction n with
  | zero => intros; rfl
  | succ n ih =>
    intro x0 x1 x7 x8
    rw [loopK_succ, z09.t_b2, z09.l2, z09.n_b2]
    simp only [ih, obind_some, leK_ret, leK_brk]
theorem z09.t_a2 (lp : Nat) (y : Unit) : kont (R := Int) (z09.E lp) z09.an lp (finK (z09.E lp) Tryz.f203 [(.int .i64)]) (stkAt 2 (codeOf Tryz.f203)) (.exit 0) (z09.sx2 y) = z09.a2 lp y := by kernel_rfl
theorem z09.t_q2 (lp : Nat) (z : Int) : kont (R := Int) (z09.E lp) z09.an lp (finK (z09.E lp) Tryz.f203 [(.int .i64)]) (stkAt 2 (codeOf Tryz.f203)) .ret (z09.sr2 z) = z09.q2 lp z := by kernel_rfl
theorem z09.t_e (lp : Nat) (x0 : List Event) (x1 : (Event × Unit) → Option Bool) : evalF (z09.E lp) z09.an lp Tryz.f203 [.v (.sl TEvent), .clo (.pair TEvent .unit) .bool] [(.int .i64)] (x0, x1, ()) = z09.e lp (fun x0 x1 x7 x8 => loopK z09.la2 (fun σ K => codeK (z09.E lp) z09.an lp (loopAt 2 (codeOf Tryz.f203)) σ K) lp (z09.s2 x0 x1 x7 x8) (kont (R := Int) (z09.E lp) z09.an lp (finK (z09.E lp) Tryz.f203 [(.int .i64)]) (stkAt 2 (codeOf Tryz.f203)))) x0 x1 := by kernel_rfl
theorem z09.eq0 (lp : Nat) (x0 : List Event) (x1 : (Event × Unit) → Option Bool) : evalF (z09.E lp) z09.an lp Tryz.f203 [.v (.sl TEvent), .clo (.pair TEvent .unit) .bool] [(.int .i64)] (x0, x1, ()) = z09 lp x0 x1 := by
  rw [z09.t_e]; unfold z09
  simp only [leK_leF _ z09.sr2 z09.sx2, z09.k2, z09.t_a2, z09.t_q2]
theorem z09.eq (lp : Nat) (x : ADens [.v (.sl TEvent), .clo (.pair TEvent .unit) .bool]) : evalF (z09.E lp) z09.an lp Tryz.f203 [.v (.sl TEvent), .clo (.pair TEvent .unit) .bool] [(.int .i64)] x = (z09.S lp).F x := z09.eq0 lp x.1 x.2.1
theorem z09.ok (lp : Nat) : Sound Tryz.prog 203 (z09.S lp) := sound_of (E := z09.E lp) (env_ok z0s tabEqs trivial trivial) mixed Tryz.func203 (by kernel_rfl) (c := codeOf Tryz.f203) (by kernel_rfl) (by kernel_rfl) z09.an (fun x r h => ⟨lp, (z09.eq lp x).trans h⟩)
def z2w.E (lp : Nat) : Env := { tab := tab, fns := [(203, z09.S lp)], ann := { own := [], ro := [] } }
def z2w.an : An := { pre := [] }
def z2w.S (lp : Nat) : Spec := { ats := [.v (.sl TEvent), .clo (.pair TEvent .unit) .bool], rts := [.bool], F := fun x => z2w lp x.1 x.2.1 }
theorem z2w.eq (lp : Nat) (x : ADens [.v (.sl TEvent), .clo (.pair TEvent .unit) .bool]) : evalF (z2w.E lp) z2w.an lp Tryz.f177 [.v (.sl TEvent), .clo (.pair TEvent .unit) .bool] [.bool] x = (z2w.S lp).F x := by kernel_rfl
theorem z2w.ok (lp : Nat) : Sound Tryz.prog 177 (z2w.S lp) := sound_of (E := z2w.E lp) (env_ok z0s tabEqs ⟨z09.ok lp, trivial⟩ trivial) mixed Tryz.func177 (by kernel_rfl) (c := codeOf Tryz.f177) (by kernel_rfl) (by kernel_rfl) z2w.an (fun x r h => ⟨lp, (z2w.eq lp x).trans h⟩)
def z38.E : Env := { tab := tab, fns := [], ann := { own := [], ro := [2] } }
def z38.an : An := { pre := [] }
def z38.S : Spec := { ats := [.v TEvent, .ptrC (.pair TEvent .unit) .bool], rts := [.bool], F := fun x => z38 x.1 x.2.1 }
theorem z38.eq (lp : Nat) (x : ADens [.v TEvent, .ptrC (.pair TEvent .unit) .bool]) : evalF (z38.E) z38.an lp Tryz.f178 [.v TEvent, .ptrC (.pair TEvent .unit) .bool] [.bool] x = (z38.S).F x := by kernel_rfl
theorem z38.ok : Sound Tryz.prog 178 (z38.S) := sound_of (E := z38.E) (env_ok z0s tabEqs trivial trivial) mixed Tryz.func178 (by kernel_rfl) (c := codeOf Tryz.f178) (by kernel_rfl) (by kernel_rfl) z38.an (fun x r h => ⟨0, (z38.eq 0 x).trans h⟩)
def z3r.E (lp : Nat) : Env := { tab := tab, fns := [(178, z38.S), (177, z2w.S lp)], ann := { own := [], ro := [3] } }
def z3r.an : An := { pre := [] }
def z3r.S (lp : Nat) : Spec := { ats := [.v (.sl TEvent), .clo (.pair TEvent .unit) .bool], rts := [.bool], F := fun x => z3r lp x.1 x.2.1 }
theorem z3r.eq (lp : Nat) (x : ADens [.v (.sl TEvent), .clo (.pair TEvent .unit) .bool]) : evalF (z3r.E lp) z3r.an lp Tryz.f118 [.v (.sl TEvent), .clo (.pair TEvent .unit) .bool] [.bool] x = (z3r.S lp).F x := by kernel_rfl
theorem z3r.ok (lp : Nat) : Sound Tryz.prog 118 (z3r.S lp) := sound_of (E := z3r.E lp) (env_ok z0s tabEqs ⟨z38.ok, z2w.ok lp, trivial⟩ trivial) mixed Tryz.func118 (by kernel_rfl) (c := codeOf Tryz.f118) (by kernel_rfl) (by kernel_rfl) z3r.an (fun x r h => ⟨lp, (z3r.eq lp x).trans h⟩)
def z4f.E : Env := { tab := tab, fns := [], ann := { own := [], ro := [1] } }
def z4f.an : An := { pre := [] }
def z4f.S : Spec := { ats := [.v TEvent], rts := [.bool], F := fun x => z4f x.1 }
theorem z4f.eq (lp : Nat) (x : ADens [.v TEvent]) : evalF (z4f.E) z4f.an lp Tryz.f119 [.v TEvent] [.bool] x = (z4f.S).F x := by kernel_rfl
theorem z4f.ok : Sound Tryz.prog 119 (z4f.S) := sound_of (E := z4f.E) (env_ok z0s tabEqs trivial trivial) mixed Tryz.func119 (by kernel_rfl) (c := codeOf Tryz.f119) (by kernel_rfl) (by kernel_rfl) z4f.an (fun x r h => ⟨0, (z4f.eq 0 x).trans h⟩)
def z60.E (lp : Nat) : Env := { tab := tab, fns := [(116, z33.S lp), (52, z2t.S), (117, z1j.S lp), (119, z4f.S), (118, z3r.S lp)], ann := { own := [], ro := [1] } }
def z60.an : An := { pre := [] }
def z60.S (lp : Nat) : Spec := { ats := [.v TWatch], rts := [.bool], F := fun x => z60 lp x.1 }
theorem z60.eq (lp : Nat) (x : ADens [.v TWatch]) : evalF (z60.E lp) z60.an lp Tryz.f58 [.v TWatch] [.bool] x = (z60.S lp).F x := by kernel_rfl
theorem z60.ok (lp : Nat) : Sound Tryz.prog 58 (z60.S lp) := sound_of (E := z60.E lp) (env_ok z0s tabEqs ⟨z33.ok lp, z2t.ok, z1j.ok lp, z4f.ok, z3r.ok lp, trivial⟩ trivial) mixed Tryz.func58 (by kernel_rfl) (c := codeOf Tryz.f58) (by kernel_rfl) (by kernel_rfl) z60.an (fun x r h => ⟨lp, (z60.eq lp x).trans h⟩)
def z44.E (lp : Nat) : Env := { tab := tab, fns := [(120, z5q.S lp)], ann := { own := [], ro := [] } }
def z44.an : An := { pre := [] }
def z44.S (lp : Nat) : Spec := { ats := [.v (.sl TRef), .v .str], rts := [(.int .i64)], F := fun x => z44 lp x.1 x.2.1 }
theorem z44.eq (lp : Nat) (x : ADens [.v (.sl TRef), .v .str]) : evalF (z44.E lp) z44.an lp Tryz.f59 [.v (.sl TRef), .v .str] [(.int .i64)] x = (z44.S lp).F x := by kernel_rfl
theorem z44.ok (lp : Nat) : Sound Tryz.prog 59 (z44.S lp) := sound_of (E := z44.E lp) (env_ok z0s tabEqs ⟨z5q.ok lp, trivial⟩ trivial) mixed Tryz.func59 (by kernel_rfl) (c := codeOf Tryz.f59) (by kernel_rfl) (by kernel_rfl) z44.an (fun x r h => ⟨lp, (z44.eq lp x).trans h⟩)
def z4h.E (lp : Nat) : Env := { tab := tab, fns := [(58, z60.S lp), (59, z44.S lp)], ann := { own := [], ro := [2] } }
def z4h.an : An := { pre := [] }
def z4h.S (lp : Nat) : Spec := { ats := [.v TWatch, .ptrD TWorld], rts := [.bool], F := fun x => z4h lp x.1 x.2.1 }
theorem z4h.eq (lp : Nat) (x : ADens [.v TWatch, .ptrD TWorld]) : evalF (z4h.E lp) z4h.an lp Tryz.f57 [.v TWatch, .ptrD TWorld] [.bool] x = (z4h.S lp).F x := by kernel_rfl
theorem z4h.ok (lp : Nat) : Sound Tryz.prog 57 (z4h.S lp) := sound_of (E := z4h.E lp) (env_ok z0s tabEqs ⟨z60.ok lp, z44.ok lp, trivial⟩ trivial) mixed Tryz.func57 (by kernel_rfl) (c := codeOf Tryz.f57) (by kernel_rfl) (by kernel_rfl) z4h.an (fun x r h => ⟨lp, (z4h.eq lp x).trans h⟩)
def z0g.la5 : LoopAn := { kn := { tms := [1, 3, 30, 31, 32] }, kx := { tms := [1, 3] }, kr := { tms := [2] } }
def z0g.la14 : LoopAn := { kn := { tms := [1, 6] }, kx := { tms := [1] }, kr := { tms := [2] } }
def z0g.E (lp : Nat) : Env := { tab := tab, fns := [(51, z5m.S lp), (52, z2t.S), (53, z3s.S lp), (55, z37.S lp), (54, z3f.S lp), (57, z4h.S lp), (56, z3t.S lp)], ann := { own := [], ro := [1] } }
def z0g.an : An := { loops := [(5, z0g.la5), (14, z0g.la14)] }
def z0g.s5 (x1_0 : List Commit) (x1_1 : List Ref) (x1_2 : List Client) (x1_3 : List Watch) (x1_4 : List Moment) (x1_5 : Int) (x3 : Int) (x30 : List Client) (x31 : Int) (x32 : Int) : St := ⟨sk 1 (.v (.one (.rdp [.d (.sl TCommit) x1_0, .d (.sl TRef) x1_1, .d (.sl TClient) x1_2, .d (.sl TWatch) x1_3, .d (.sl TMoment) x1_4, .d (.int .i64) x1_5])) :: (sk 1 (.v (.one (.b (.d (.int .i64) x3))) :: (sk 26 (.v (.one (.b (.d (.sl TClient) x30))) :: .v (.one (.b (.d (.int .i64) x31))) :: .v (.one (.b (.d (.int .i64) x32))) :: (sk 51 ([]))))))), sko 84 ([])⟩
def z0g.sx5 (y : (List Commit) × (List Ref) × (List Client) × (List Watch) × (List Moment) × Int × Int) : St := ⟨sk 1 (.v (.one (.rdp [.d (.sl TCommit) y.1, .d (.sl TRef) y.2.1, .d (.sl TClient) y.2.2.1, .d (.sl TWatch) y.2.2.2.1, .d (.sl TMoment) y.2.2.2.2.1, .d (.int .i64) y.2.2.2.2.2.1])) :: (sk 1 (.v (.one (.b (.d (.int .i64) y.2.2.2.2.2.2))) :: (sk 80 ([]))))), sko 84 ([])⟩
def z0g.sr5 (z : Bool) : St := ⟨sk 2 (.v (.one (.b (.d .bool z))) :: (sk 81 ([]))), sko 84 ([])⟩
def z0g.s14 (x1_0 : List Commit) (x1_1 : List Ref) (x1_2 : List Client) (x1_3 : List Watch) (x1_4 : List Moment) (x1_5 : Int) (x6 : Int) : St := ⟨sk 1 (.v (.one (.rdp [.d (.sl TCommit) x1_0, .d (.sl TRef) x1_1, .d (.sl TClient) x1_2, .d (.sl TWatch) x1_3, .d (.sl TMoment) x1_4, .d (.int .i64) x1_5])) :: (sk 4 (.v (.one (.b (.d (.int .i64) x6))) :: (sk 77 ([]))))), sko 84 ([])⟩
def z0g.sx14 (y : (List Commit) × (List Ref) × (List Client) × (List Watch) × (List Moment) × Int) : St := ⟨sk 1 (.v (.one (.rdp [.d (.sl TCommit) y.1, .d (.sl TRef) y.2.1, .d (.sl TClient) y.2.2.1, .d (.sl TWatch) y.2.2.2.1, .d (.sl TMoment) y.2.2.2.2.1, .d (.int .i64) y.2.2.2.2.2])) :: (sk 82 ([]))), sko 84 ([])⟩
def z0g.sr14 (z : Bool) : St := ⟨sk 2 (.v (.one (.b (.d .bool z))) :: (sk 81 ([]))), sko 84 ([])⟩
def z0g.S (lp : Nat) : Spec := { ats := [.v TWorld], rts := [.bool], F := fun x => z0g lp x.1 }
theorem z0g.t_b14 (lp : Nat) {R : Type} (N : St → Option R) (X : Out → St → Option R) (x1_0 : List Commit) (x1_1 : List Ref) (x1_2 : List Client) (x1_3 : List Watch) (x1_4 : List Moment) (x1_5 : Int) (x6 : Int) : codeK (z0g.E lp) z0g.an lp (loopAt 14 (codeOf Tryz.f19)) (z0g.s14 x1_0 x1_1 x1_2 x1_3 x1_4 x1_5 x6) (lpK z0g.la14 N X) = z0g.b14 lp (fun x1_0 x1_1 x1_2 x1_3 x1_4 x1_5 x6 => N (z0g.s14 x1_0 x1_1 x1_2 x1_3 x1_4 x1_5 x6)) (fun y => X (.exit 2) (z0g.sx14 y)) (fun z => X .ret (z0g.sr14 z)) x1_0 x1_1 x1_2 x1_3 x1_4 x1_5 x6 := by kernel_rfl
theorem z0g.n_b14 (lp : Nat) {R S : Type} (N : List Commit → List Ref → List Client → List Watch → List Moment → Int → Int → Option R) (X : ((List Commit) × (List Ref) × (List Client) × (List Watch) × (List Moment) × Int) → Option R) (Q : Bool → Option R) (x1_0 : List Commit) (x1_1 : List Ref) (x1_2 : List Client) (x1_3 : List Watch) (x1_4 : List Moment) (x1_5 : Int) (x6 : Int) (k : R → Option S) : obind (z0g.b14 lp N X Q x1_0 x1_1 x1_2 x1_3 x1_4 x1_5 x6) k = z0g.b14 lp (fun x1_0 x1_1 x1_2 x1_3 x1_4 x1_5 x6 => obind (N x1_0 x1_1 x1_2 x1_3 x1_4 x1_5 x6) k) (fun y => obind (X y) k) (fun z => obind (Q z) k) x1_0 x1_1 x1_2 x1_3 x1_4 x1_5 x6 := by
  unfold z0g.b14; simp only [obind_none, obind_some, obind_cond, obind_oif, obind_oget, obind_obind]
theorem z0g.k14 (lp : Nat) {R : Type} (K : Out → St → Option R) : ∀ (n : Nat) (x1_0 : List Commit) (x1_1 : List Ref) (x1_2 : List Client) (x1_3 : List Watch) (x1_4 : List Moment) (x1_5 : Int) (x6 : Int), loopK z0g.la14 (fun σ K => codeK (z0g.E lp) z0g.an lp (loopAt 14 (codeOf Tryz.f19)) σ K) n (z0g.s14 x1_0 x1_1 x1_2 x1_3 x1_4 x1_5 x6) K = obind (z0g.l14 lp n x1_0 x1_1 x1_2 x1_3 x1_4 x1_5 x6) (leK 2 z0g.sr14 z0g.sx14 K) := by
  intro n
  induction n with
  | zero => intros; rfl
  | succ n ih =>
    intro x1_0 x1_1 x1_2 x1_3 x1_4 x1_5 x6
    rw [loopK_succ, z0g.t_b14, z0g.l14, z0g.n_b14]
    simp only [ih, obind_some, leK_ret, leK_brk]
theorem z0g.t_b5 (lp : Nat) {R : Type} (N : St → Option R) (X : Out → St → Option R) (x1_0 : List Commit) (x1_1 : List Ref) (x1_2 : List Client) (x1_3 : List Watch) (x1_4 : List Moment) (x1_5 : Int) (x3 : Int) (x30 : List Client) (x31 : Int) (x32 : Int) : codeK (z0g.E lp) z0g.an lp (loopAt 5 (codeOf Tryz.f19)) (z0g.s5 x1_0 x1_1 x1_2 x1_3 x1_4 x1_5 x3 x30 x31 x32) (lpK z0g.la5 N X) = z0g.b5 lp (fun x1_0 x1_1 x1_2 x1_3 x1_4 x1_5 x3 x30 x31 x32 => N (z0g.s5 x1_0 x1_1 x1_2 x1_3 x1_4 x1_5 x3 x30 x31 x32)) (fun y => X (.exit 0) (z0g.sx5 y)) (fun z => X .ret (z0g.sr5 z)) x1_0 x1_1 x1_2 x1_3 x1_4 x1_5 x3 x30 x31 x32 := by kernel_rfl
theorem z0g.n_b5 (lp : Nat) {R S : Type} (N : List Commit → List Ref → List Client → List Watch → List Moment → Int → Int → List Client → Int → Int → Option R) (X : ((List Commit) × (List Ref) × (List Client) × (List Watch) × (List Moment) × Int × Int) → Option R) (Q : Bool → Option R) (x1_0 : List Commit) (x1_1 : List Ref) (x1_2 : List Client) (x1_3 : List Watch) (x1_4 : List Moment) (x1_5 : Int) (x3 : Int) (x30 : List Client) (x31 : Int) (x32 : Int) (k : R → Option S) : obind (z0g.b5 lp N X Q x1_0 x1_1 x1_2 x1_3 x1_4 x1_5 x3 x30 x31 x32) k = z0g.b5 lp (fun x1_0 x1_1 x1_2 x1_3 x1_4 x1_5 x3 x30 x31 x32 => obind (N x1_0 x1_1 x1_2 x1_3 x1_4 x1_5 x3 x30 x31 x32) k) (fun y => obind (X y) k) (fun z => obind (Q z) k) x1_0 x1_1 x1_2 x1_3 x1_4 x1_5 x3 x30 x31 x32 := by
  unfold z0g.b5; simp only [obind_none, obind_some, obind_cond, obind_oif, obind_oget, obind_obind]
theorem z0g.k5 (lp : Nat) {R : Type} (K : Out → St → Option R) : ∀ (n : Nat) (x1_0 : List Commit) (x1_1 : List Ref) (x1_2 : List Client) (x1_3 : List Watch) (x1_4 : List Moment) (x1_5 : Int) (x3 : Int) (x30 : List Client) (x31 : Int) (x32 : Int), loopK z0g.la5 (fun σ K => codeK (z0g.E lp) z0g.an lp (loopAt 5 (codeOf Tryz.f19)) σ K) n (z0g.s5 x1_0 x1_1 x1_2 x1_3 x1_4 x1_5 x3 x30 x31 x32) K = obind (z0g.l5 lp n x1_0 x1_1 x1_2 x1_3 x1_4 x1_5 x3 x30 x31 x32) (leK 0 z0g.sr5 z0g.sx5 K) := by
  intro n
  induction n with
  | zero => intros; rfl
  | succ n ih =>
    intro x1_0 x1_1 x1_2 x1_3 x1_4 x1_5 x3 x30 x31 x32
    rw [loopK_succ, z0g.t_b5, z0g.l5, z0g.n_b5]
    simp only [ih, obind_some, leK_ret, leK_brk]
theorem z0g.t_a14 (lp : Nat) (y : (List Commit) × (List Ref) × (List Client) × (List Watch) × (List Moment) × Int) : kont (R := Bool) (z0g.E lp) z0g.an lp (finK (z0g.E lp) Tryz.f19 [.bool]) (stkAt 14 (codeOf Tryz.f19)) (.exit 2) (z0g.sx14 y) = z0g.a14 lp y := by kernel_rfl
theorem z0g.t_q14 (lp : Nat) (z : Bool) : kont (R := Bool) (z0g.E lp) z0g.an lp (finK (z0g.E lp) Tryz.f19 [.bool]) (stkAt 14 (codeOf Tryz.f19)) .ret (z0g.sr14 z) = z0g.q14 lp z := by kernel_rfl
theorem z0g.t_a5 (lp : Nat) (y : (List Commit) × (List Ref) × (List Client) × (List Watch) × (List Moment) × Int × Int) : kont (R := Bool) (z0g.E lp) z0g.an lp (finK (z0g.E lp) Tryz.f19 [.bool]) (stkAt 5 (codeOf Tryz.f19)) (.exit 0) (z0g.sx5 y) = z0g.a5 lp (fun x1_0 x1_1 x1_2 x1_3 x1_4 x1_5 x6 => loopK z0g.la14 (fun σ K => codeK (z0g.E lp) z0g.an lp (loopAt 14 (codeOf Tryz.f19)) σ K) lp (z0g.s14 x1_0 x1_1 x1_2 x1_3 x1_4 x1_5 x6) (kont (R := Bool) (z0g.E lp) z0g.an lp (finK (z0g.E lp) Tryz.f19 [.bool]) (stkAt 14 (codeOf Tryz.f19)))) y := by kernel_rfl
theorem z0g.t_q5 (lp : Nat) (z : Bool) : kont (R := Bool) (z0g.E lp) z0g.an lp (finK (z0g.E lp) Tryz.f19 [.bool]) (stkAt 5 (codeOf Tryz.f19)) .ret (z0g.sr5 z) = z0g.q5 lp z := by kernel_rfl
theorem z0g.t_e (lp : Nat) (x0 : World) : evalF (z0g.E lp) z0g.an lp Tryz.f19 [.v TWorld] [.bool] (x0, ()) = z0g.e lp (fun x1_0 x1_1 x1_2 x1_3 x1_4 x1_5 x3 x30 x31 x32 => loopK z0g.la5 (fun σ K => codeK (z0g.E lp) z0g.an lp (loopAt 5 (codeOf Tryz.f19)) σ K) lp (z0g.s5 x1_0 x1_1 x1_2 x1_3 x1_4 x1_5 x3 x30 x31 x32) (kont (R := Bool) (z0g.E lp) z0g.an lp (finK (z0g.E lp) Tryz.f19 [.bool]) (stkAt 5 (codeOf Tryz.f19)))) x0 := by kernel_rfl
theorem z0g.eq0 (lp : Nat) (x0 : World) : evalF (z0g.E lp) z0g.an lp Tryz.f19 [.v TWorld] [.bool] (x0, ()) = z0g lp x0 := by
  rw [z0g.t_e]; unfold z0g
  simp only [leK_leF _ z0g.sr14 z0g.sx14, leK_leF _ z0g.sr5 z0g.sx5, z0g.k14, z0g.k5, z0g.t_a14, z0g.t_q14, z0g.t_a5, z0g.t_q5]
theorem z0g.eq (lp : Nat) (x : ADens [.v TWorld]) : evalF (z0g.E lp) z0g.an lp Tryz.f19 [.v TWorld] [.bool] x = (z0g.S lp).F x := z0g.eq0 lp x.1
theorem z0g.ok (lp : Nat) : Sound Tryz.prog 19 (z0g.S lp) := sound_of (E := z0g.E lp) (env_ok z0s tabEqs ⟨z5m.ok lp, z2t.ok, z3s.ok lp, z37.ok lp, z3f.ok lp, z4h.ok lp, z3t.ok lp, trivial⟩ trivial) mixed Tryz.func19 (by kernel_rfl) (c := codeOf Tryz.f19) (by kernel_rfl) (by kernel_rfl) z0g.an (fun x r h => ⟨lp, (z0g.eq lp x).trans h⟩)
def z05.la4 : LoopAn := { kn := { tms := [1, 2, 15, 16, 17] }, kx := {}, kr := { tms := [6] } }
def z05.E (lp : Nat) : Env := { tab := tab, fns := [], ann := { own := [], ro := [] } }
def z05.an : An := { loops := [(4, z05.la4)] }
def z05.s4 (x1 : List Commit) (x2 : (Commit × Commit × Unit) → Option Bool) (x15 : List Commit) (x16 : Int) (x17 : Int) : St := ⟨sk 1 (.v (.one (.b (.d (.sl TCommit) x1))) :: .v (.one (.b (.cl (.pair TCommit (.pair TCommit .unit)) .bool x2))) :: (sk 12 (.v (.one (.b (.d (.sl TCommit) x15))) :: .v (.one (.b (.d (.int .i64) x16))) :: .v (.one (.b (.d (.int .i64) x17))) :: (sk 14 ([]))))), sko 32 ([])⟩
def z05.sx4 (y : Unit) : St := ⟨sk 32 ([]), sko 32 ([])⟩
def z05.sr4 (z : Bool) : St := ⟨sk 6 (.v (.one (.b (.d .bool z))) :: (sk 25 ([]))), sko 32 ([])⟩
def z05.S (lp : Nat) : Spec := { ats := [.v (.sl TCommit), .v (.sl TCommit), .clo (.pair TCommit (.pair TCommit .unit)) .bool], rts := [.bool], F := fun x => z05 lp x.1 x.2.1 x.2.2.1 }
theorem z05.t_b4 (lp : Nat) {R : Type} (N : St → Option R) (X : Out → St → Option R) (x1 : List Commit) (x2 : (Commit × Commit × Unit) → Option Bool) (x15 : List Commit) (x16 : Int) (x17 : Int) : codeK (z05.E lp) z05.an lp (loopAt 4 (codeOf Tryz.f121)) (z05.s4 x1 x2 x15 x16 x17) (lpK z05.la4 N X) = z05.b4 lp (fun x1 x2 x15 x16 x17 => N (z05.s4 x1 x2 x15 x16 x17)) (fun y => X (.exit 0) (z05.sx4 y)) (fun z => X .ret (z05.sr4 z)) x1 x2 x15 x16 x17 := by kernel_rfl
theorem z05.n_b4 (lp : Nat) {R S : Type} (N : List Commit → ((Commit × Commit × Unit) → Option Bool) → List Commit → Int → Int → Option R) (X : Unit → Option R) (Q : Bool → Option R) (x1 : List Commit) (x2 : (Commit × Commit × Unit) → Option Bool) (x15 : List Commit) (x16 : Int) (x17 : Int) (k : R → Option S) : obind (z05.b4 lp N X Q x1 x2 x15 x16 x17) k = z05.b4 lp (fun x1 x2 x15 x16 x17 => obind (N x1 x2 x15 x16 x17) k) (fun y => obind (X y) k) (fun z => obind (Q z) k) x1 x2 x15 x16 x17 := by
  unfold z05.b4; simp only [obind_none, obind_some, obind_cond, obind_oif, obind_oget, obind_obind]
theorem z05.k4 (lp : Nat) {R : Type} (K : Out → St → Option R) : ∀ (n : Nat) (x1 : List Commit) (x2 : (Commit × Commit × Unit) → Option Bool) (x15 : List Commit) (x16 : Int) (x17 : Int), loopK z05.la4 (fun σ K => codeK (z05.E lp) z05.an lp (loopAt 4 (codeOf Tryz.f121)) σ K) n (z05.s4 x1 x2 x15 x16 x17) K = obind (z05.l4 lp n x1 x2 x15 x16 x17) (leK 0 z05.sr4 z05.sx4 K) := by
  intro n
  induction n with
  | zero => intros; rfl
  | succ n ih =>
    intro x1 x2 x15 x16 x17
    rw [loopK_succ, z05.t_b4, z05.l4, z05.n_b4]
    simp only [ih, obind_some, leK_ret, leK_brk]
theorem z05.t_a4 (lp : Nat) (y : Unit) : kont (R := Bool) (z05.E lp) z05.an lp (finK (z05.E lp) Tryz.f121 [.bool]) (stkAt 4 (codeOf Tryz.f121)) (.exit 0) (z05.sx4 y) = z05.a4 lp y := by kernel_rfl
theorem z05.t_q4 (lp : Nat) (z : Bool) : kont (R := Bool) (z05.E lp) z05.an lp (finK (z05.E lp) Tryz.f121 [.bool]) (stkAt 4 (codeOf Tryz.f121)) .ret (z05.sr4 z) = z05.q4 lp z := by kernel_rfl
theorem z05.t_e (lp : Nat) (x0 : List Commit) (x1 : List Commit) (x2 : (Commit × Commit × Unit) → Option Bool) : evalF (z05.E lp) z05.an lp Tryz.f121 [.v (.sl TCommit), .v (.sl TCommit), .clo (.pair TCommit (.pair TCommit .unit)) .bool] [.bool] (x0, x1, x2, ()) = z05.e lp (fun x1 x2 x15 x16 x17 => loopK z05.la4 (fun σ K => codeK (z05.E lp) z05.an lp (loopAt 4 (codeOf Tryz.f121)) σ K) lp (z05.s4 x1 x2 x15 x16 x17) (kont (R := Bool) (z05.E lp) z05.an lp (finK (z05.E lp) Tryz.f121 [.bool]) (stkAt 4 (codeOf Tryz.f121)))) x0 x1 x2 := by kernel_rfl
theorem z05.eq0 (lp : Nat) (x0 : List Commit) (x1 : List Commit) (x2 : (Commit × Commit × Unit) → Option Bool) : evalF (z05.E lp) z05.an lp Tryz.f121 [.v (.sl TCommit), .v (.sl TCommit), .clo (.pair TCommit (.pair TCommit .unit)) .bool] [.bool] (x0, x1, x2, ()) = z05 lp x0 x1 x2 := by
  rw [z05.t_e]; unfold z05
  simp only [leK_leF _ z05.sr4 z05.sx4, z05.k4, z05.t_a4, z05.t_q4]
theorem z05.eq (lp : Nat) (x : ADens [.v (.sl TCommit), .v (.sl TCommit), .clo (.pair TCommit (.pair TCommit .unit)) .bool]) : evalF (z05.E lp) z05.an lp Tryz.f121 [.v (.sl TCommit), .v (.sl TCommit), .clo (.pair TCommit (.pair TCommit .unit)) .bool] [.bool] x = (z05.S lp).F x := z05.eq0 lp x.1 x.2.1 x.2.2.1
theorem z05.ok (lp : Nat) : Sound Tryz.prog 121 (z05.S lp) := sound_of (E := z05.E lp) (env_ok z0s tabEqs trivial trivial) mixed Tryz.func121 (by kernel_rfl) (c := codeOf Tryz.f121) (by kernel_rfl) (by kernel_rfl) z05.an (fun x r h => ⟨lp, (z05.eq lp x).trans h⟩)
def z0p.la4 : LoopAn := { kn := { tms := [0, 1, 12, 13] }, kx := {}, kr := { tms := [4] } }
def z0p.E (lp : Nat) : Env := { tab := tab, fns := [], ann := { own := [], ro := [] } }
def z0p.an : An := { loops := [(4, z0p.la4)] }
def z0p.s4 (x0 : List Int) (x1 : List Int) (x12 : Int) (x13 : Int) : St := ⟨.v (.one (.b (.d (.sl (.int .i64)) x0))) :: .v (.one (.b (.d (.sl (.int .i64)) x1))) :: (sk 10 (.v (.one (.b (.d (.int .i64) x12))) :: .v (.one (.b (.d (.int .i64) x13))) :: (sk 12 ([])))), sko 26 ([])⟩
def z0p.sx4 (y : Unit) : St := ⟨sk 26 ([]), sko 26 ([])⟩
def z0p.sr4 (z : Bool) : St := ⟨sk 4 (.v (.one (.b (.d .bool z))) :: (sk 21 ([]))), sko 26 ([])⟩
def z0p.S (lp : Nat) : Spec := { ats := [.v (.sl (.int .i64)), .v (.sl (.int .i64))], rts := [.bool], F := fun x => z0p lp x.1 x.2.1 }
theorem z0p.t_b4 (lp : Nat) {R : Type} (N : St → Option R) (X : Out → St → Option R) (x0 : List Int) (x1 : List Int) (x12 : Int) (x13 : Int) : codeK (z0p.E lp) z0p.an lp (loopAt 4 (codeOf Tryz.f181)) (z0p.s4 x0 x1 x12 x13) (lpK z0p.la4 N X) = z0p.b4 lp (fun x0 x1 x12 x13 => N (z0p.s4 x0 x1 x12 x13)) (fun y => X (.exit 0) (z0p.sx4 y)) (fun z => X .ret (z0p.sr4 z)) x0 x1 x12 x13 := by kernel_rfl
theorem z0p.n_b4 (lp : Nat) {R S : Type} (N : List Int → List Int → Int → Int → Option R) (X : Unit → Option R) (Q : Bool → Option R) (x0 : List Int) (x1 : List Int) (x12 : Int) (x13 : Int) (k : R → Option S) : obind (z0p.b4 lp N X Q x0 x1 x12 x13) k = z0p.b4 lp (fun x0 x1 x12 x13 => obind (N x0 x1 x12 x13) k) (fun y => obind (X y) k) (fun z => obind (Q z) k) x0 x1 x12 x13 := by
  unfold z0p.b4; simp only [obind_none, obind_some, obind_cond, obind_oif, obind_oget, obind_obind]
theorem z0p.k4 (lp : Nat) {R : Type} (K : Out → St → Option R) : ∀ (n : Nat) (x0 : List Int) (x1 : List Int) (x12 : Int) (x13 : Int), loopK z0p.la4 (fun σ K => codeK (z0p.E lp) z0p.an lp (loopAt 4 (codeOf Tryz.f181)) σ K) n (z0p.s4 x0 x1 x12 x13) K = obind (z0p.l4 lp n x0 x1 x12 x13) (leK 0 z0p.sr4 z0p.sx4 K) := by
  intro n
  induction n with
  | zero => intros; rfl
  | succ n ih =>
    intro x0 x1 x12 x13
    rw [loopK_succ, z0p.t_b4, z0p.l4, z0p.n_b4]
    simp only [ih, obind_some, leK_ret, leK_brk]
theorem z0p.t_a4 (lp : Nat) (y : Unit) : kont (R := Bool) (z0p.E lp) z0p.an lp (finK (z0p.E lp) Tryz.f181 [.bool]) (stkAt 4 (codeOf Tryz.f181)) (.exit 0) (z0p.sx4 y) = z0p.a4 lp y := by kernel_rfl
theorem z0p.t_q4 (lp : Nat) (z : Bool) : kont (R := Bool) (z0p.E lp) z0p.an lp (finK (z0p.E lp) Tryz.f181 [.bool]) (stkAt 4 (codeOf Tryz.f181)) .ret (z0p.sr4 z) = z0p.q4 lp z := by kernel_rfl
theorem z0p.t_e (lp : Nat) (x0 : List Int) (x1 : List Int) : evalF (z0p.E lp) z0p.an lp Tryz.f181 [.v (.sl (.int .i64)), .v (.sl (.int .i64))] [.bool] (x0, x1, ()) = z0p.e lp (fun x0 x1 x12 x13 => loopK z0p.la4 (fun σ K => codeK (z0p.E lp) z0p.an lp (loopAt 4 (codeOf Tryz.f181)) σ K) lp (z0p.s4 x0 x1 x12 x13) (kont (R := Bool) (z0p.E lp) z0p.an lp (finK (z0p.E lp) Tryz.f181 [.bool]) (stkAt 4 (codeOf Tryz.f181)))) x0 x1 := by kernel_rfl
theorem z0p.eq0 (lp : Nat) (x0 : List Int) (x1 : List Int) : evalF (z0p.E lp) z0p.an lp Tryz.f181 [.v (.sl (.int .i64)), .v (.sl (.int .i64))] [.bool] (x0, x1, ()) = z0p lp x0 x1 := by
  rw [z0p.t_e]; unfold z0p
  simp only [leK_leF _ z0p.sr4 z0p.sx4, z0p.k4, z0p.t_a4, z0p.t_q4]
theorem z0p.eq (lp : Nat) (x : ADens [.v (.sl (.int .i64)), .v (.sl (.int .i64))]) : evalF (z0p.E lp) z0p.an lp Tryz.f181 [.v (.sl (.int .i64)), .v (.sl (.int .i64))] [.bool] x = (z0p.S lp).F x := z0p.eq0 lp x.1 x.2.1
theorem z0p.ok (lp : Nat) : Sound Tryz.prog 181 (z0p.S lp) := sound_of (E := z0p.E lp) (env_ok z0s tabEqs trivial trivial) mixed Tryz.func181 (by kernel_rfl) (c := codeOf Tryz.f181) (by kernel_rfl) (by kernel_rfl) z0p.an (fun x r h => ⟨lp, (z0p.eq lp x).trans h⟩)
def z4g.E (lp : Nat) : Env := { tab := tab, fns := [(181, z0p.S lp), (64, z0h.S lp)], ann := { own := [], ro := [2, 3] } }
def z4g.an : An := { pre := [] }
def z4g.S (lp : Nat) : Spec := { ats := [.v TCommit, .v TCommit], rts := [.bool], F := fun x => z4g lp x.1 x.2.1 }
theorem z4g.eq (lp : Nat) (x : ADens [.v TCommit, .v TCommit]) : evalF (z4g.E lp) z4g.an lp Tryz.f122 [.v TCommit, .v TCommit] [.bool] x = (z4g.S lp).F x := by kernel_rfl
theorem z4g.ok (lp : Nat) : Sound Tryz.prog 122 (z4g.S lp) := sound_of (E := z4g.E lp) (env_ok z0s tabEqs ⟨z0p.ok lp, z0h.ok lp, trivial⟩ trivial) mixed Tryz.func122 (by kernel_rfl) (c := codeOf Tryz.f122) (by kernel_rfl) (by kernel_rfl) z4g.an (fun x r h => ⟨lp, (z4g.eq lp x).trans h⟩)
def z56.E (lp : Nat) : Env := { tab := tab, fns := [(102, z4v.S lp), (122, z4g.S lp), (121, z05.S lp)], ann := { own := [], ro := [] } }
def z56.an : An := { pre := [] }
def z56.S (lp : Nat) : Spec := { ats := [.v (.sl TCommit), .v (.sl TCommit)], rts := [.bool], F := fun x => z56 lp x.1 x.2.1 }
theorem z56.eq (lp : Nat) (x : ADens [.v (.sl TCommit), .v (.sl TCommit)]) : evalF (z56.E lp) z56.an lp Tryz.f60 [.v (.sl TCommit), .v (.sl TCommit)] [.bool] x = (z56.S lp).F x := by kernel_rfl
theorem z56.ok (lp : Nat) : Sound Tryz.prog 60 (z56.S lp) := sound_of (E := z56.E lp) (env_ok z0s tabEqs ⟨z4v.ok lp, z4g.ok lp, z05.ok lp, trivial⟩ trivial) mixed Tryz.func60 (by kernel_rfl) (c := codeOf Tryz.f60) (by kernel_rfl) (by kernel_rfl) z56.an (fun x r h => ⟨lp, (z56.eq lp x).trans h⟩)
def z0q.la4 : LoopAn := { kn := { tms := [0, 1, 12, 13] }, kx := {}, kr := { tms := [4] } }
def z0q.E (lp : Nat) : Env := { tab := tab, fns := [], ann := { own := [], ro := [] } }
def z0q.an : An := { loops := [(4, z0q.la4)] }
def z0q.s4 (x0 : List Ref) (x1 : List Ref) (x12 : Int) (x13 : Int) : St := ⟨.v (.one (.b (.d (.sl TRef) x0))) :: .v (.one (.b (.d (.sl TRef) x1))) :: (sk 10 (.v (.one (.b (.d (.int .i64) x12))) :: .v (.one (.b (.d (.int .i64) x13))) :: (sk 12 ([])))), sko 26 ([])⟩
def z0q.sx4 (y : Unit) : St := ⟨sk 26 ([]), sko 26 ([])⟩
def z0q.sr4 (z : Bool) : St := ⟨sk 4 (.v (.one (.b (.d .bool z))) :: (sk 21 ([]))), sko 26 ([])⟩
def z0q.S (lp : Nat) : Spec := { ats := [.v (.sl TRef), .v (.sl TRef)], rts := [.bool], F := fun x => z0q lp x.1 x.2.1 }
theorem z0q.t_b4 (lp : Nat) {R : Type} (N : St → Option R) (X : Out → St → Option R) (x0 : List Ref) (x1 : List Ref) (x12 : Int) (x13 : Int) : codeK (z0q.E lp) z0q.an lp (loopAt 4 (codeOf Tryz.f61)) (z0q.s4 x0 x1 x12 x13) (lpK z0q.la4 N X) = z0q.b4 lp (fun x0 x1 x12 x13 => N (z0q.s4 x0 x1 x12 x13)) (fun y => X (.exit 0) (z0q.sx4 y)) (fun z => X .ret (z0q.sr4 z)) x0 x1 x12 x13 := by kernel_rfl
theorem z0q.n_b4 (lp : Nat) {R S : Type} (N : List Ref → List Ref → Int → Int → Option R) (X : Unit → Option R) (Q : Bool → Option R) (x0 : List Ref) (x1 : List Ref) (x12 : Int) (x13 : Int) (k : R → Option S) : obind (z0q.b4 lp N X Q x0 x1 x12 x13) k = z0q.b4 lp (fun x0 x1 x12 x13 => obind (N x0 x1 x12 x13) k) (fun y => obind (X y) k) (fun z => obind (Q z) k) x0 x1 x12 x13 := by
  unfold z0q.b4; simp only [obind_none, obind_some, obind_cond, obind_oif, obind_oget, obind_obind]
theorem z0q.k4 (lp : Nat) {R : Type} (K : Out → St → Option R) : ∀ (n : Nat) (x0 : List Ref) (x1 : List Ref) (x12 : Int) (x13 : Int), loopK z0q.la4 (fun σ K => codeK (z0q.E lp) z0q.an lp (loopAt 4 (codeOf Tryz.f61)) σ K) n (z0q.s4 x0 x1 x12 x13) K = obind (z0q.l4 lp n x0 x1 x12 x13) (leK 0 z0q.sr4 z0q.sx4 K) := by
  intro n
  induction n with
  | zero => intros; rfl
  | succ n ih =>
    intro x0 x1 x12 x13
    rw [loopK_succ, z0q.t_b4, z0q.l4, z0q.n_b4]
    simp only [ih, obind_some, leK_ret, leK_brk]
theorem z0q.t_a4 (lp : Nat) (y : Unit) : kont (R := Bool) (z0q.E lp) z0q.an lp (finK (z0q.E lp) Tryz.f61 [.bool]) (stkAt 4 (codeOf Tryz.f61)) (.exit 0) (z0q.sx4 y) = z0q.a4 lp y := by kernel_rfl
theorem z0q.t_q4 (lp : Nat) (z : Bool) : kont (R := Bool) (z0q.E lp) z0q.an lp (finK (z0q.E lp) Tryz.f61 [.bool]) (stkAt 4 (codeOf Tryz.f61)) .ret (z0q.sr4 z) = z0q.q4 lp z := by kernel_rfl
theorem z0q.t_e (lp : Nat) (x0 : List Ref) (x1 : List Ref) : evalF (z0q.E lp) z0q.an lp Tryz.f61 [.v (.sl TRef), .v (.sl TRef)] [.bool] (x0, x1, ()) = z0q.e lp (fun x0 x1 x12 x13 => loopK z0q.la4 (fun σ K => codeK (z0q.E lp) z0q.an lp (loopAt 4 (codeOf Tryz.f61)) σ K) lp (z0q.s4 x0 x1 x12 x13) (kont (R := Bool) (z0q.E lp) z0q.an lp (finK (z0q.E lp) Tryz.f61 [.bool]) (stkAt 4 (codeOf Tryz.f61)))) x0 x1 := by kernel_rfl
theorem z0q.eq0 (lp : Nat) (x0 : List Ref) (x1 : List Ref) : evalF (z0q.E lp) z0q.an lp Tryz.f61 [.v (.sl TRef), .v (.sl TRef)] [.bool] (x0, x1, ()) = z0q lp x0 x1 := by
  rw [z0q.t_e]; unfold z0q
  simp only [leK_leF _ z0q.sr4 z0q.sx4, z0q.k4, z0q.t_a4, z0q.t_q4]
theorem z0q.eq (lp : Nat) (x : ADens [.v (.sl TRef), .v (.sl TRef)]) : evalF (z0q.E lp) z0q.an lp Tryz.f61 [.v (.sl TRef), .v (.sl TRef)] [.bool] x = (z0q.S lp).F x := z0q.eq0 lp x.1 x.2.1
theorem z0q.ok (lp : Nat) : Sound Tryz.prog 61 (z0q.S lp) := sound_of (E := z0q.E lp) (env_ok z0s tabEqs trivial trivial) mixed Tryz.func61 (by kernel_rfl) (c := codeOf Tryz.f61) (by kernel_rfl) (by kernel_rfl) z0q.an (fun x r h => ⟨lp, (z0q.eq lp x).trans h⟩)
def z5f.E (lp : Nat) : Env := { tab := tab, fns := [(51, z5m.S lp), (60, z56.S lp), (61, z0q.S lp)], ann := { own := [], ro := [2, 3] } }
def z5f.an : An := { pre := [] }
def z5f.S (lp : Nat) : Spec := { ats := [.v TBase, .v TBase], rts := [.bool], F := fun x => z5f lp x.1 x.2.1 }
theorem z5f.eq (lp : Nat) (x : ADens [.v TBase, .v TBase]) : evalF (z5f.E lp) z5f.an lp Tryz.f20 [.v TBase, .v TBase] [.bool] x = (z5f.S lp).F x := by kernel_rfl
theorem z5f.ok (lp : Nat) : Sound Tryz.prog 20 (z5f.S lp) := sound_of (E := z5f.E lp) (env_ok z0s tabEqs ⟨z5m.ok lp, z56.ok lp, z0q.ok lp, trivial⟩ trivial) mixed Tryz.func20 (by kernel_rfl) (c := codeOf Tryz.f20) (by kernel_rfl) (by kernel_rfl) z5f.an (fun x r h => ⟨lp, (z5f.eq lp x).trans h⟩)
def z04.la4 : LoopAn := { kn := { tms := [1, 2, 15, 16, 17] }, kx := {}, kr := { tms := [6] } }
def z04.E (lp : Nat) : Env := { tab := tab, fns := [], ann := { own := [], ro := [] } }
def z04.an : An := { loops := [(4, z04.la4)] }
def z04.s4 (x1 : List Client) (x2 : (Client × Client × Unit) → Option Bool) (x15 : List Client) (x16 : Int) (x17 : Int) : St := ⟨sk 1 (.v (.one (.b (.d (.sl TClient) x1))) :: .v (.one (.b (.cl (.pair TClient (.pair TClient .unit)) .bool x2))) :: (sk 12 (.v (.one (.b (.d (.sl TClient) x15))) :: .v (.one (.b (.d (.int .i64) x16))) :: .v (.one (.b (.d (.int .i64) x17))) :: (sk 14 ([]))))), sko 32 ([])⟩
def z04.sx4 (y : Unit) : St := ⟨sk 32 ([]), sko 32 ([])⟩
def z04.sr4 (z : Bool) : St := ⟨sk 6 (.v (.one (.b (.d .bool z))) :: (sk 25 ([]))), sko 32 ([])⟩
def z04.S (lp : Nat) : Spec := { ats := [.v (.sl TClient), .v (.sl TClient), .clo (.pair TClient (.pair TClient .unit)) .bool], rts := [.bool], F := fun x => z04 lp x.1 x.2.1 x.2.2.1 }
theorem z04.t_b4 (lp : Nat) {R : Type} (N : St → Option R) (X : Out → St → Option R) (x1 : List Client) (x2 : (Client × Client × Unit) → Option Bool) (x15 : List Client) (x16 : Int) (x17 : Int) : codeK (z04.E lp) z04.an lp (loopAt 4 (codeOf Tryz.f21)) (z04.s4 x1 x2 x15 x16 x17) (lpK z04.la4 N X) = z04.b4 lp (fun x1 x2 x15 x16 x17 => N (z04.s4 x1 x2 x15 x16 x17)) (fun y => X (.exit 0) (z04.sx4 y)) (fun z => X .ret (z04.sr4 z)) x1 x2 x15 x16 x17 := by kernel_rfl
theorem z04.n_b4 (lp : Nat) {R S : Type} (N : List Client → ((Client × Client × Unit) → Option Bool) → List Client → Int → Int → Option R) (X : Unit → Option R) (Q : Bool → Option R) (x1 : List Client) (x2 : (Client × Client × Unit) → Option Bool) (x15 : List Client) (x16 : Int) (x17 : Int) (k : R → Option S) : obind (z04.b4 lp N X Q x1 x2 x15 x16 x17) k = z04.b4 lp (fun x1 x2 x15 x16 x17 => obind (N x1 x2 x15 x16 x17) k) (fun y => obind (X y) k) (fun z => obind (Q z) k) x1 x2 x15 x16 x17 := by
  unfold z04.b4; simp only [obind_none, obind_some, obind_cond, obind_oif, obind_oget, obind_obind]
theorem z04.k4 (lp : Nat) {R : Type} (K : Out → St → Option R) : ∀ (n : Nat) (x1 : List Client) (x2 : (Client × Client × Unit) → Option Bool) (x15 : List Client) (x16 : Int) (x17 : Int), loopK z04.la4 (fun σ K => codeK (z04.E lp) z04.an lp (loopAt 4 (codeOf Tryz.f21)) σ K) n (z04.s4 x1 x2 x15 x16 x17) K = obind (z04.l4 lp n x1 x2 x15 x16 x17) (leK 0 z04.sr4 z04.sx4 K) := by
  intro n
  induction n with
  | zero => intros; rfl
  | succ n ih =>
    intro x1 x2 x15 x16 x17
    rw [loopK_succ, z04.t_b4, z04.l4, z04.n_b4]
    simp only [ih, obind_some, leK_ret, leK_brk]
theorem z04.t_a4 (lp : Nat) (y : Unit) : kont (R := Bool) (z04.E lp) z04.an lp (finK (z04.E lp) Tryz.f21 [.bool]) (stkAt 4 (codeOf Tryz.f21)) (.exit 0) (z04.sx4 y) = z04.a4 lp y := by kernel_rfl
theorem z04.t_q4 (lp : Nat) (z : Bool) : kont (R := Bool) (z04.E lp) z04.an lp (finK (z04.E lp) Tryz.f21 [.bool]) (stkAt 4 (codeOf Tryz.f21)) .ret (z04.sr4 z) = z04.q4 lp z := by kernel_rfl
theorem z04.t_e (lp : Nat) (x0 : List Client) (x1 : List Client) (x2 : (Client × Client × Unit) → Option Bool) : evalF (z04.E lp) z04.an lp Tryz.f21 [.v (.sl TClient), .v (.sl TClient), .clo (.pair TClient (.pair TClient .unit)) .bool] [.bool] (x0, x1, x2, ()) = z04.e lp (fun x1 x2 x15 x16 x17 => loopK z04.la4 (fun σ K => codeK (z04.E lp) z04.an lp (loopAt 4 (codeOf Tryz.f21)) σ K) lp (z04.s4 x1 x2 x15 x16 x17) (kont (R := Bool) (z04.E lp) z04.an lp (finK (z04.E lp) Tryz.f21 [.bool]) (stkAt 4 (codeOf Tryz.f21)))) x0 x1 x2 := by kernel_rfl
theorem z04.eq0 (lp : Nat) (x0 : List Client) (x1 : List Client) (x2 : (Client × Client × Unit) → Option Bool) : evalF (z04.E lp) z04.an lp Tryz.f21 [.v (.sl TClient), .v (.sl TClient), .clo (.pair TClient (.pair TClient .unit)) .bool] [.bool] (x0, x1, x2, ()) = z04 lp x0 x1 x2 := by
  rw [z04.t_e]; unfold z04
  simp only [leK_leF _ z04.sr4 z04.sx4, z04.k4, z04.t_a4, z04.t_q4]
theorem z04.eq (lp : Nat) (x : ADens [.v (.sl TClient), .v (.sl TClient), .clo (.pair TClient (.pair TClient .unit)) .bool]) : evalF (z04.E lp) z04.an lp Tryz.f21 [.v (.sl TClient), .v (.sl TClient), .clo (.pair TClient (.pair TClient .unit)) .bool] [.bool] x = (z04.S lp).F x := z04.eq0 lp x.1 x.2.1 x.2.2.1
theorem z04.ok (lp : Nat) : Sound Tryz.prog 21 (z04.S lp) := sound_of (E := z04.E lp) (env_ok z0s tabEqs trivial trivial) mixed Tryz.func21 (by kernel_rfl) (c := codeOf Tryz.f21) (by kernel_rfl) (by kernel_rfl) z04.an (fun x r h => ⟨lp, (z04.eq lp x).trans h⟩)
end Go.Vx

end
