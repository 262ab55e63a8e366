/- Merged out of smaller texts. -/
import Derived.Test.YtajhmldalehbjaaGreatInoPartC
section
set_option linter.unusedVariables false
set_option linter.unusedSimpArgs false
set_option maxRecDepth 100000
namespace Go.Vx
open Go Go.Proofs Go.Shelf Go.Lib Go.RowKit
def impl_areAll_byte.E (lp : Nat) : Env := { tab := tab, fns := [(192, impl_areAll_byte_c1.S), (191, slices_ContainsFunc_byte.S lp)], ann := { own := [], ro := [3] } }
def impl_areAll_byte.an : An := { pre := [] }
def impl_areAll_byte.S (lp : Nat) : Spec := { ats := [.v (.sl (.int .u8)), .clo (.pair (.int .u8) .unit) .bool], rts := [.bool], F := fun x => impl_areAll_byte lp x.1 x.2.1 }
theorem impl_areAll_byte.eq (lp : Nat) (x : ADens [.v (.sl (.int .u8)), .clo (.pair (.int .u8) .unit) .bool]) : evalF (impl_areAll_byte.E lp) impl_areAll_byte.an lp Tryz.f166 [.v (.sl (.int .u8)), .clo (.pair (.int .u8) .unit) .bool] [.bool] x = (impl_areAll_byte.S lp).F x := by kernel_rfl
theorem impl_areAll_byte.ok (lp : Nat) : Sound Tryz.prog 166 (impl_areAll_byte.S lp) := sound_of (E := impl_areAll_byte.E lp) (env_ok tabFits tabEqs ⟨impl_areAll_byte_c1.ok, slices_ContainsFunc_byte.ok lp, trivial⟩ trivial) mixed Tryz.func166 (by kernel_rfl) (c := codeOf Tryz.f166) (by kernel_rfl) (by kernel_rfl) impl_areAll_byte.an (fun x r h => ⟨lp, (impl_areAll_byte.eq lp x).trans h⟩)
def impl_isDigit.E : Env := { tab := tab, fns := [], ann := { own := [], ro := [] } }
def impl_isDigit.an : An := { pre := [] }
def impl_isDigit.S : Spec := { ats := [.v (.int .u8)], rts := [.bool], F := fun x => impl_isDigit x.1 }
theorem impl_isDigit.eq (lp : Nat) (x : ADens [.v (.int .u8)]) : evalF (impl_isDigit.E) impl_isDigit.an lp Tryz.f168 [.v (.int .u8)] [.bool] x = (impl_isDigit.S).F x := by kernel_rfl
theorem impl_isDigit.ok : Sound Tryz.prog 168 (impl_isDigit.S) := sound_of (E := impl_isDigit.E) (env_ok tabFits tabEqs trivial trivial) mixed Tryz.func168 (by kernel_rfl) (c := codeOf Tryz.f168) (by kernel_rfl) (by kernel_rfl) impl_isDigit.an (fun x r h => ⟨0, (impl_isDigit.eq 0 x).trans h⟩)
def impl_NameOK_c1.E : Env := { tab := tab, fns := [(165, impl_isLetter.S), (168, impl_isDigit.S)], ann := { own := [], ro := [] } }
def impl_NameOK_c1.an : An := { pre := [] }
def impl_NameOK_c1.S : Spec := { ats := [.v (.int .u8)], rts := [.bool], F := fun x => impl_NameOK_c1 x.1 }
theorem impl_NameOK_c1.eq (lp : Nat) (x : ADens [.v (.int .u8)]) : evalF (impl_NameOK_c1.E) impl_NameOK_c1.an lp Tryz.f167 [.v (.int .u8)] [.bool] x = (impl_NameOK_c1.S).F x := by kernel_rfl
theorem impl_NameOK_c1.ok : Sound Tryz.prog 167 (impl_NameOK_c1.S) := sound_of (E := impl_NameOK_c1.E) (env_ok tabFits tabEqs ⟨impl_isLetter.ok, impl_isDigit.ok, trivial⟩ trivial) mixed Tryz.func167 (by kernel_rfl) (c := codeOf Tryz.f167) (by kernel_rfl) (by kernel_rfl) impl_NameOK_c1.an (fun x r h => ⟨0, (impl_NameOK_c1.eq 0 x).trans h⟩)
def impl_NameOK.E (lp : Nat) : Env := { tab := tab, fns := [(61, impl_within.S), (165, impl_isLetter.S), (167, impl_NameOK_c1.S), (166, impl_areAll_byte.S lp)], ann := { own := [], ro := [] } }
def impl_NameOK.an : An := { pre := [] }
def impl_NameOK.S (lp : Nat) : Spec := { ats := [.v .str], rts := [.bool], F := fun x => impl_NameOK lp x.1 }
theorem impl_NameOK.eq (lp : Nat) (x : ADens [.v .str]) : evalF (impl_NameOK.E lp) impl_NameOK.an lp Tryz.f115 [.v .str] [.bool] x = (impl_NameOK.S lp).F x := by kernel_rfl
theorem impl_NameOK.ok (lp : Nat) : Sound Tryz.prog 115 (impl_NameOK.S lp) := sound_of (E := impl_NameOK.E lp) (env_ok tabFits tabEqs ⟨impl_within.ok, impl_isLetter.ok, impl_NameOK_c1.ok, impl_areAll_byte.ok lp, trivial⟩ trivial) mixed Tryz.func115 (by kernel_rfl) (c := codeOf Tryz.f115) (by kernel_rfl) (by kernel_rfl) impl_NameOK.an (fun x r h => ⟨lp, (impl_NameOK.eq lp x).trans h⟩)
def impl_isValue.E : Env := { tab := tab, fns := [(61, impl_within.S)], ann := { own := [], ro := [] } }
def impl_isValue.an : An := { pre := [] }
def impl_isValue.S : Spec := { ats := [.v (.int .i64)], rts := [.bool], F := fun x => impl_isValue x.1 }
theorem impl_isValue.eq (lp : Nat) (x : ADens [.v (.int .i64)]) : evalF (impl_isValue.E) impl_isValue.an lp Tryz.f162 [.v (.int .i64)] [.bool] x = (impl_isValue.S).F x := by kernel_rfl
theorem impl_isValue.ok : Sound Tryz.prog 162 (impl_isValue.S) := sound_of (E := impl_isValue.E) (env_ok tabFits tabEqs ⟨impl_within.ok, trivial⟩ trivial) mixed Tryz.func162 (by kernel_rfl) (c := codeOf Tryz.f162) (by kernel_rfl) (by kernel_rfl) impl_isValue.an (fun x r h => ⟨0, (impl_isValue.eq 0 x).trans h⟩)
def impl_MapOK.E (lp : Nat) : Env := { tab := tab, fns := [(115, impl_NameOK.S lp), (162, impl_isValue.S)], ann := { own := [], ro := [] } }
def impl_MapOK.la2 : LoopAn := { kn := { tms := [0, 5, 6, 7] }, kx := { tms := [0] }, kr := { tms := [2] } }
def impl_MapOK.an : An := { loops := [(2, impl_MapOK.la2)] }
def impl_MapOK.s2 (x0 : List Entry) (x5 : List Entry) (x6 : Int) (x7 : Int) : St := ⟨.v (.one (.b (.d (.sl TEntry) x0))) :: (sk 4 (.v (.one (.b (.d (.sl TEntry) x5))) :: .v (.one (.b (.d (.int .i64) x6))) :: .v (.one (.b (.d (.int .i64) x7))) :: (sk 33 ([])))), sko 41 ([])⟩
def impl_MapOK.sx2 (y : (List Entry)) : St := ⟨.v (.one (.b (.d (.sl TEntry) y))) :: (sk 40 ([])), sko 41 ([])⟩
def impl_MapOK.sr2 (z : Bool) : St := ⟨sk 2 (.v (.one (.b (.d .bool z))) :: (sk 38 ([]))), sko 41 ([])⟩
def impl_MapOK.S (lp : Nat) : Spec := { ats := [.v (.sl TEntry)], rts := [.bool], F := fun x => impl_MapOK lp x.1 }
theorem impl_MapOK.t_b2 (lp : Nat) {R : Type} (N : St → Option R) (X : Out → St → Option R) (x0 : List Entry) (x5 : List Entry) (x6 : Int) (x7 : Int) : codeK (impl_MapOK.E lp) impl_MapOK.an lp (loopAt 2 (codeOf Tryz.f163)) (impl_MapOK.s2 x0 x5 x6 x7) (lpK impl_MapOK.la2 N X) = impl_MapOK.b2 lp (fun x0 x5 x6 x7 => N (impl_MapOK.s2 x0 x5 x6 x7)) (fun y => X (.exit 0) (impl_MapOK.sx2 y)) (fun z => X .ret (impl_MapOK.sr2 z)) x0 x5 x6 x7 := by kernel_rfl
theorem impl_MapOK.n_b2 (lp : Nat) {R S : Type} (N : List Entry → List Entry → Int → Int → Option R) (X : ((List Entry)) → Option R) (Q : Bool → Option R) (x0 : List Entry) (x5 : List Entry) (x6 : Int) (x7 : Int) (k : R → Option S) : obind (impl_MapOK.b2 lp N X Q x0 x5 x6 x7) k = impl_MapOK.b2 lp (fun x0 x5 x6 x7 => obind (N x0 x5 x6 x7) k) (fun y => obind (X y) k) (fun z => obind (Q z) k) x0 x5 x6 x7 := by
  unfold impl_MapOK.b2; simp only [obind_none, obind_some, obind_cond, obind_oif, obind_oget, obind_obind]
theorem impl_MapOK.k2 (lp : Nat) {R : Type} (K : Out → St → Option R) : ∀ (n : Nat) (x0 : List Entry) (x5 : List Entry) (x6 : Int) (x7 : Int), loopK impl_MapOK.la2 (fun σ K => codeK (impl_MapOK.E lp) impl_MapOK.an lp (loopAt 2 (codeOf Tryz.f163)) σ K) n (impl_MapOK.s2 x0 x5 x6 x7) K = obind (impl_MapOK.l2 lp n x0 x5 x6 x7) (leK 0 impl_MapOK.sr2 impl_MapOK.sx2 K) := by
  intro n
  induction n with
  | zero => intros; rfl
  | succ n ih =>
    intro x0 x5 x6 x7
    rw [loopK_succ, impl_MapOK.t_b2, impl_MapOK.l2, impl_MapOK.n_b2]
    simp only [ih, obind_some, leK_ret, leK_brk]
theorem impl_MapOK.t_a2 (lp : Nat) (y : (List Entry)) : kont (R := Bool) (impl_MapOK.E lp) impl_MapOK.an lp (finK (impl_MapOK.E lp) Tryz.f163 [.bool]) (stkAt 2 (codeOf Tryz.f163)) (.exit 0) (impl_MapOK.sx2 y) = impl_MapOK.a2 lp y := by kernel_rfl
theorem impl_MapOK.t_q2 (lp : Nat) (z : Bool) : kont (R := Bool) (impl_MapOK.E lp) impl_MapOK.an lp (finK (impl_MapOK.E lp) Tryz.f163 [.bool]) (stkAt 2 (codeOf Tryz.f163)) .ret (impl_MapOK.sr2 z) = impl_MapOK.q2 lp z := by kernel_rfl
theorem impl_MapOK.t_e (lp : Nat) (x0 : List Entry) : evalF (impl_MapOK.E lp) impl_MapOK.an lp Tryz.f163 [.v (.sl TEntry)] [.bool] (x0, ()) = impl_MapOK.e lp (fun x0 x5 x6 x7 => loopK impl_MapOK.la2 (fun σ K => codeK (impl_MapOK.E lp) impl_MapOK.an lp (loopAt 2 (codeOf Tryz.f163)) σ K) lp (impl_MapOK.s2 x0 x5 x6 x7) (kont (impl_MapOK.E lp) impl_MapOK.an lp (finK (impl_MapOK.E lp) Tryz.f163 [.bool]) (stkAt 2 (codeOf Tryz.f163)))) x0 := by kernel_rfl
theorem impl_MapOK.eq0 (lp : Nat) (x0 : List Entry) : evalF (impl_MapOK.E lp) impl_MapOK.an lp Tryz.f163 [.v (.sl TEntry)] [.bool] (x0, ()) = impl_MapOK lp x0 := by
  rw [impl_MapOK.t_e]; unfold impl_MapOK
  simp only [leK_leF _ impl_MapOK.sr2 impl_MapOK.sx2, impl_MapOK.k2, impl_MapOK.t_a2, impl_MapOK.t_q2]
theorem impl_MapOK.eq (lp : Nat) (x : ADens [.v (.sl TEntry)]) : evalF (impl_MapOK.E lp) impl_MapOK.an lp Tryz.f163 [.v (.sl TEntry)] [.bool] x = (impl_MapOK.S lp).F x := impl_MapOK.eq0 lp x.1
theorem impl_MapOK.ok (lp : Nat) : Sound Tryz.prog 163 (impl_MapOK.S lp) := sound_of (E := impl_MapOK.E lp) (env_ok tabFits tabEqs ⟨impl_NameOK.ok lp, impl_isValue.ok, trivial⟩ trivial) mixed Tryz.func163 (by kernel_rfl) (c := codeOf Tryz.f163) (by kernel_rfl) (by kernel_rfl) impl_MapOK.an (fun x r h => ⟨lp, (impl_MapOK.eq lp x).trans h⟩)
def slices_IndexFunc_int.E (lp : Nat) : Env := { tab := tab, fns := [], ann := { own := [], ro := [] } }
def slices_IndexFunc_int.la2 : LoopAn := { kn := { tms := [0, 1, 7, 8] }, kx := {}, kr := { tms := [4] } }
def slices_IndexFunc_int.an : An := { loops := [(2, slices_IndexFunc_int.la2)] }
def slices_IndexFunc_int.s2 (x0 : List Int) (x1 : (Int × Unit) → Option Bool) (x7 : Int) (x8 : Int) : St := ⟨.v (.one (.b (.d (.sl (.int .i64)) x0))) :: .v (.one (.b (.cl (.pair (.int .i64) .unit) .bool x1))) :: (sk 5 (.v (.one (.b (.d (.int .i64) x7))) :: .v (.one (.b (.d (.int .i64) x8))) :: (sk 10 ([])))), sko 19 ([])⟩
def slices_IndexFunc_int.sx2 (y : Unit) : St := ⟨sk 19 ([]), sko 19 ([])⟩
def slices_IndexFunc_int.sr2 (z : Int) : St := ⟨sk 4 (.v (.one (.b (.d (.int .i64) z))) :: (sk 14 ([]))), sko 19 ([])⟩
def slices_IndexFunc_int.S (lp : Nat) : Spec := { ats := [.v (.sl (.int .i64)), .clo (.pair (.int .i64) .unit) .bool], rts := [(.int .i64)], F := fun x => slices_IndexFunc_int lp x.1 x.2.1 }
theorem slices_IndexFunc_int.t_b2 (lp : Nat) {R : Type} (N : St → Option R) (X : Out → St → Option R) (x0 : List Int) (x1 : (Int × Unit) → Option Bool) (x7 : Int) (x8 : Int) : codeK (slices_IndexFunc_int.E lp) slices_IndexFunc_int.an lp (loopAt 2 (codeOf Tryz.f219)) (slices_IndexFunc_int.s2 x0 x1 x7 x8) (lpK slices_IndexFunc_int.la2 N X) = slices_IndexFunc_int.b2 lp (fun x0 x1 x7 x8 => N (slices_IndexFunc_int.s2 x0 x1 x7 x8)) (fun y => X (.exit 0) (slices_IndexFunc_int.sx2 y)) (fun z => X .ret (slices_IndexFunc_int.sr2 z)) x0 x1 x7 x8 := by kernel_rfl
theorem slices_IndexFunc_int.n_b2 (lp : Nat) {R S : Type} (N : List Int → ((Int × Unit) → Option Bool) → Int → Int → Option R) (X : Unit → Option R) (Q : Int → Option R) (x0 : List Int) (x1 : (Int × Unit) → Option Bool) (x7 : Int) (x8 : Int) (k : R → Option S) : obind (slices_IndexFunc_int.b2 lp N X Q x0 x1 x7 x8) k = slices_IndexFunc_int.b2 lp (fun x0 x1 x7 x8 => obind (N x0 x1 x7 x8) k) (fun y => obind (X y) k) (fun z => obind (Q z) k) x0 x1 x7 x8 := by
  unfold slices_IndexFunc_int.b2; simp only [obind_none, obind_some, obind_cond, obind_oif, obind_oget, obind_obind]
theorem slices_IndexFunc_int.k2 (lp : Nat) {R : Type} (K : Out → St → Option R) : ∀ (n : Nat) (x0 : List Int) (x1 : (Int × Unit) → Option Bool) (x7 : Int) (x8 : Int), loopK slices_IndexFunc_int.la2 (fun σ K => codeK (slices_IndexFunc_int.E lp) slices_IndexFunc_int.an lp (loopAt 2 (codeOf Tryz.f219)) σ K) n (slices_IndexFunc_int.s2 x0 x1 x7 x8) K = obind (slices_IndexFunc_int.l2 lp n x0 x1 x7 x8) (leK 0 slices_IndexFunc_int.sr2 slices_IndexFunc_int.sx2 K) := by
  intro n
  induction n with
  | zero => intros; rfl
  | succ n ih =>
    intro x0 x1 x7 x8
    rw [loopK_succ, slices_IndexFunc_int.t_b2, slices_IndexFunc_int.l2, slices_IndexFunc_int.n_b2]
    simp only [ih, obind_some, leK_ret, leK_brk]
theorem slices_IndexFunc_int.t_a2 (lp : Nat) (y : Unit) : kont (R := Int) (slices_IndexFunc_int.E lp) slices_IndexFunc_int.an lp (finK (slices_IndexFunc_int.E lp) Tryz.f219 [(.int .i64)]) (stkAt 2 (codeOf Tryz.f219)) (.exit 0) (slices_IndexFunc_int.sx2 y) = slices_IndexFunc_int.a2 lp y := by kernel_rfl
theorem slices_IndexFunc_int.t_q2 (lp : Nat) (z : Int) : kont (R := Int) (slices_IndexFunc_int.E lp) slices_IndexFunc_int.an lp (finK (slices_IndexFunc_int.E lp) Tryz.f219 [(.int .i64)]) (stkAt 2 (codeOf Tryz.f219)) .ret (slices_IndexFunc_int.sr2 z) = slices_IndexFunc_int.q2 lp z := by kernel_rfl
theorem slices_IndexFunc_int.t_e (lp : Nat) (x0 : List Int) (x1 : (Int × Unit) → Option Bool) : evalF (slices_IndexFunc_int.E lp) slices_IndexFunc_int.an lp Tryz.f219 [.v (.sl (.int .i64)), .clo (.pair (.int .i64) .unit) .bool] [(.int .i64)] (x0, x1, ()) = slices_IndexFunc_int.e lp (fun x0 x1 x7 x8 => loopK slices_IndexFunc_int.la2 (fun σ K => codeK (slices_IndexFunc_int.E lp) slices_IndexFunc_int.an lp (loopAt 2 (codeOf Tryz.f219)) σ K) lp (slices_IndexFunc_int.s2 x0 x1 x7 x8) (kont (slices_IndexFunc_int.E lp) slices_IndexFunc_int.an lp (finK (slices_IndexFunc_int.E lp) Tryz.f219 [(.int .i64)]) (stkAt 2 (codeOf Tryz.f219)))) x0 x1 := by kernel_rfl
theorem slices_IndexFunc_int.eq0 (lp : Nat) (x0 : List Int) (x1 : (Int × Unit) → Option Bool) : evalF (slices_IndexFunc_int.E lp) slices_IndexFunc_int.an lp Tryz.f219 [.v (.sl (.int .i64)), .clo (.pair (.int .i64) .unit) .bool] [(.int .i64)] (x0, x1, ()) = slices_IndexFunc_int lp x0 x1 := by
  rw [slices_IndexFunc_int.t_e]; unfold slices_IndexFunc_int
  simp only [leK_leF _ slices_IndexFunc_int.sr2 slices_IndexFunc_int.sx2, slices_IndexFunc_int.k2, slices_IndexFunc_int.t_a2, slices_IndexFunc_int.t_q2]
theorem slices_IndexFunc_int.eq (lp : Nat) (x : ADens [.v (.sl (.int .i64)), .clo (.pair (.int .i64) .unit) .bool]) : evalF (slices_IndexFunc_int.E lp) slices_IndexFunc_int.an lp Tryz.f219 [.v (.sl (.int .i64)), .clo (.pair (.int .i64) .unit) .bool] [(.int .i64)] x = (slices_IndexFunc_int.S lp).F x := slices_IndexFunc_int.eq0 lp x.1 x.2.1
theorem slices_IndexFunc_int.ok (lp : Nat) : Sound Tryz.prog 219 (slices_IndexFunc_int.S lp) := sound_of (E := slices_IndexFunc_int.E lp) (env_ok tabFits tabEqs trivial trivial) mixed Tryz.func219 (by kernel_rfl) (c := codeOf Tryz.f219) (by kernel_rfl) (by kernel_rfl) slices_IndexFunc_int.an (fun x r h => ⟨lp, (slices_IndexFunc_int.eq lp x).trans h⟩)
def slices_ContainsFunc_int.E (lp : Nat) : Env := { tab := tab, fns := [(219, slices_IndexFunc_int.S lp)], ann := { own := [], ro := [] } }
def slices_ContainsFunc_int.an : An := { pre := [] }
def slices_ContainsFunc_int.S (lp : Nat) : Spec := { ats := [.v (.sl (.int .i64)), .clo (.pair (.int .i64) .unit) .bool], rts := [.bool], F := fun x => slices_ContainsFunc_int lp x.1 x.2.1 }
theorem slices_ContainsFunc_int.eq (lp : Nat) (x : ADens [.v (.sl (.int .i64)), .clo (.pair (.int .i64) .unit) .bool]) : evalF (slices_ContainsFunc_int.E lp) slices_ContainsFunc_int.an lp Tryz.f212 [.v (.sl (.int .i64)), .clo (.pair (.int .i64) .unit) .bool] [.bool] x = (slices_ContainsFunc_int.S lp).F x := by kernel_rfl
theorem slices_ContainsFunc_int.ok (lp : Nat) : Sound Tryz.prog 212 (slices_ContainsFunc_int.S lp) := sound_of (E := slices_ContainsFunc_int.E lp) (env_ok tabFits tabEqs ⟨slices_IndexFunc_int.ok lp, trivial⟩ trivial) mixed Tryz.func212 (by kernel_rfl) (c := codeOf Tryz.f212) (by kernel_rfl) (by kernel_rfl) slices_ContainsFunc_int.an (fun x r h => ⟨lp, (slices_ContainsFunc_int.eq lp x).trans h⟩)
def impl_areAll_int_c1.E : Env := { tab := tab, fns := [], ann := { own := [], ro := [] } }
def impl_areAll_int_c1.an : An := { pre := [] }
def impl_areAll_int_c1.S : Spec := { ats := [.v (.int .i64), .ptrC (.pair (.int .i64) .unit) .bool], rts := [.bool], F := fun x => impl_areAll_int_c1 x.1 x.2.1 }
theorem impl_areAll_int_c1.eq (lp : Nat) (x : ADens [.v (.int .i64), .ptrC (.pair (.int .i64) .unit) .bool]) : evalF (impl_areAll_int_c1.E) impl_areAll_int_c1.an lp Tryz.f213 [.v (.int .i64), .ptrC (.pair (.int .i64) .unit) .bool] [.bool] x = (impl_areAll_int_c1.S).F x := by kernel_rfl
theorem impl_areAll_int_c1.ok : Sound Tryz.prog 213 (impl_areAll_int_c1.S) := sound_of (E := impl_areAll_int_c1.E) (env_ok tabFits tabEqs trivial trivial) mixed Tryz.func213 (by kernel_rfl) (c := codeOf Tryz.f213) (by kernel_rfl) (by kernel_rfl) impl_areAll_int_c1.an (fun x r h => ⟨0, (impl_areAll_int_c1.eq 0 x).trans h⟩)
def impl_areAll_int.E (lp : Nat) : Env := { tab := tab, fns := [(213, impl_areAll_int_c1.S), (212, slices_ContainsFunc_int.S lp)], ann := { own := [], ro := [3] } }
def impl_areAll_int.an : An := { pre := [] }
def impl_areAll_int.S (lp : Nat) : Spec := { ats := [.v (.sl (.int .i64)), .clo (.pair (.int .i64) .unit) .bool], rts := [.bool], F := fun x => impl_areAll_int lp x.1 x.2.1 }
theorem impl_areAll_int.eq (lp : Nat) (x : ADens [.v (.sl (.int .i64)), .clo (.pair (.int .i64) .unit) .bool]) : evalF (impl_areAll_int.E lp) impl_areAll_int.an lp Tryz.f200 [.v (.sl (.int .i64)), .clo (.pair (.int .i64) .unit) .bool] [.bool] x = (impl_areAll_int.S lp).F x := by kernel_rfl
theorem impl_areAll_int.ok (lp : Nat) : Sound Tryz.prog 200 (impl_areAll_int.S lp) := sound_of (E := impl_areAll_int.E lp) (env_ok tabFits tabEqs ⟨impl_areAll_int_c1.ok, slices_ContainsFunc_int.ok lp, trivial⟩ trivial) mixed Tryz.func200 (by kernel_rfl) (c := codeOf Tryz.f200) (by kernel_rfl) (by kernel_rfl) impl_areAll_int.an (fun x r h => ⟨lp, (impl_areAll_int.eq lp x).trans h⟩)
def impl_Commit_isAt_c1.E : Env := { tab := tab, fns := [(61, impl_within.S)], ann := { own := [], ro := [] } }
def impl_Commit_isAt_c1.an : An := { pre := [] }
def impl_Commit_isAt_c1.S : Spec := { ats := [.v (.int .i64), .ptrD (.int .i64)], rts := [.bool], F := fun x => impl_Commit_isAt_c1 x.1 x.2.1 }
theorem impl_Commit_isAt_c1.eq (lp : Nat) (x : ADens [.v (.int .i64), .ptrD (.int .i64)]) : evalF (impl_Commit_isAt_c1.E) impl_Commit_isAt_c1.an lp Tryz.f201 [.v (.int .i64), .ptrD (.int .i64)] [.bool] x = (impl_Commit_isAt_c1.S).F x := by kernel_rfl
theorem impl_Commit_isAt_c1.ok : Sound Tryz.prog 201 (impl_Commit_isAt_c1.S) := sound_of (E := impl_Commit_isAt_c1.E) (env_ok tabFits tabEqs ⟨impl_within.ok, trivial⟩ trivial) mixed Tryz.func201 (by kernel_rfl) (c := codeOf Tryz.f201) (by kernel_rfl) (by kernel_rfl) impl_Commit_isAt_c1.an (fun x r h => ⟨0, (impl_Commit_isAt_c1.eq 0 x).trans h⟩)
def impl_Commit_isAt.E (lp : Nat) : Env := { tab := tab, fns := [(163, impl_MapOK.S lp), (201, impl_Commit_isAt_c1.S), (200, impl_areAll_int.S lp)], ann := { own := [], ro := [2, 3] } }
def impl_Commit_isAt.an : An := { pre := [] }
def impl_Commit_isAt.S (lp : Nat) : Spec := { ats := [.v TCommit, .v (.int .i64)], rts := [.bool], F := fun x => impl_Commit_isAt lp x.1 x.2.1 }
theorem impl_Commit_isAt.eq (lp : Nat) (x : ADens [.v TCommit, .v (.int .i64)]) : evalF (impl_Commit_isAt.E lp) impl_Commit_isAt.an lp Tryz.f184 [.v TCommit, .v (.int .i64)] [.bool] x = (impl_Commit_isAt.S lp).F x := by kernel_rfl
theorem impl_Commit_isAt.ok (lp : Nat) : Sound Tryz.prog 184 (impl_Commit_isAt.S lp) := sound_of (E := impl_Commit_isAt.E lp) (env_ok tabFits tabEqs ⟨impl_MapOK.ok lp, impl_Commit_isAt_c1.ok, impl_areAll_int.ok lp, trivial⟩ trivial) mixed Tryz.func184 (by kernel_rfl) (c := codeOf Tryz.f184) (by kernel_rfl) (by kernel_rfl) impl_Commit_isAt.an (fun x r h => ⟨lp, (impl_Commit_isAt.eq lp x).trans h⟩)
def impl_areCommits.E (lp : Nat) : Env := { tab := tab, fns := [(184, impl_Commit_isAt.S lp)], ann := { own := [], ro := [] } }
def impl_areCommits.la2 : LoopAn := { kn := { tms := [0, 5, 6, 7] }, kx := { tms := [0] }, kr := { tms := [2] } }
def impl_areCommits.an : An := { loops := [(2, impl_areCommits.la2)] }
def impl_areCommits.s2 (x0 : List Commit) (x5 : List Commit) (x6 : Int) (x7 : Int) : St := ⟨.v (.one (.b (.d (.sl TCommit) x0))) :: (sk 4 (.v (.one (.b (.d (.sl TCommit) x5))) :: .v (.one (.b (.d (.int .i64) x6))) :: .v (.one (.b (.d (.int .i64) x7))) :: (sk 13 ([])))), sko 21 ([])⟩
def impl_areCommits.sx2 (y : (List Commit)) : St := ⟨.v (.one (.b (.d (.sl TCommit) y))) :: (sk 20 ([])), sko 21 ([])⟩
def impl_areCommits.sr2 (z : Bool) : St := ⟨sk 2 (.v (.one (.b (.d .bool z))) :: (sk 18 ([]))), sko 21 ([])⟩
def impl_areCommits.S (lp : Nat) : Spec := { ats := [.v (.sl TCommit)], rts := [.bool], F := fun x => impl_areCommits lp x.1 }
theorem impl_areCommits.t_b2 (lp : Nat) {R : Type} (N : St → Option R) (X : Out → St → Option R) (x0 : List Commit) (x5 : List Commit) (x6 : Int) (x7 : Int) : codeK (impl_areCommits.E lp) impl_areCommits.an lp (loopAt 2 (codeOf Tryz.f147)) (impl_areCommits.s2 x0 x5 x6 x7) (lpK impl_areCommits.la2 N X) = impl_areCommits.b2 lp (fun x0 x5 x6 x7 => N (impl_areCommits.s2 x0 x5 x6 x7)) (fun y => X (.exit 0) (impl_areCommits.sx2 y)) (fun z => X .ret (impl_areCommits.sr2 z)) x0 x5 x6 x7 := by kernel_rfl
theorem impl_areCommits.n_b2 (lp : Nat) {R S : Type} (N : List Commit → List Commit → Int → Int → Option R) (X : ((List Commit)) → Option R) (Q : Bool → Option R) (x0 : List Commit) (x5 : List Commit) (x6 : Int) (x7 : Int) (k : R → Option S) : obind (impl_areCommits.b2 lp N X Q x0 x5 x6 x7) k = impl_areCommits.b2 lp (fun x0 x5 x6 x7 => obind (N x0 x5 x6 x7) k) (fun y => obind (X y) k) (fun z => obind (Q z) k) x0 x5 x6 x7 := by
  unfold impl_areCommits.b2; simp only [obind_none, obind_some, obind_cond, obind_oif, obind_oget, obind_obind]
theorem impl_areCommits.k2 (lp : Nat) {R : Type} (K : Out → St → Option R) : ∀ (n : Nat) (x0 : List Commit) (x5 : List Commit) (x6 : Int) (x7 : Int), loopK impl_areCommits.la2 (fun σ K => codeK (impl_areCommits.E lp) impl_areCommits.an lp (loopAt 2 (codeOf Tryz.f147)) σ K) n (impl_areCommits.s2 x0 x5 x6 x7) K = obind (impl_areCommits.l2 lp n x0 x5 x6 x7) (leK 0 impl_areCommits.sr2 impl_areCommits.sx2 K) := by
  intro n
  induction n with
  | zero => intros; rfl
  | succ n ih =>
    intro x0 x5 x6 x7
    rw [loopK_succ, impl_areCommits.t_b2, impl_areCommits.l2, impl_areCommits.n_b2]
    simp only [ih, obind_some, leK_ret, leK_brk]
theorem impl_areCommits.t_a2 (lp : Nat) (y : (List Commit)) : kont (R := Bool) (impl_areCommits.E lp) impl_areCommits.an lp (finK (impl_areCommits.E lp) Tryz.f147 [.bool]) (stkAt 2 (codeOf Tryz.f147)) (.exit 0) (impl_areCommits.sx2 y) = impl_areCommits.a2 lp y := by kernel_rfl
theorem impl_areCommits.t_q2 (lp : Nat) (z : Bool) : kont (R := Bool) (impl_areCommits.E lp) impl_areCommits.an lp (finK (impl_areCommits.E lp) Tryz.f147 [.bool]) (stkAt 2 (codeOf Tryz.f147)) .ret (impl_areCommits.sr2 z) = impl_areCommits.q2 lp z := by kernel_rfl
theorem impl_areCommits.t_e (lp : Nat) (x0 : List Commit) : evalF (impl_areCommits.E lp) impl_areCommits.an lp Tryz.f147 [.v (.sl TCommit)] [.bool] (x0, ()) = impl_areCommits.e lp (fun x0 x5 x6 x7 => loopK impl_areCommits.la2 (fun σ K => codeK (impl_areCommits.E lp) impl_areCommits.an lp (loopAt 2 (codeOf Tryz.f147)) σ K) lp (impl_areCommits.s2 x0 x5 x6 x7) (kont (impl_areCommits.E lp) impl_areCommits.an lp (finK (impl_areCommits.E lp) Tryz.f147 [.bool]) (stkAt 2 (codeOf Tryz.f147)))) x0 := by kernel_rfl
theorem impl_areCommits.eq0 (lp : Nat) (x0 : List Commit) : evalF (impl_areCommits.E lp) impl_areCommits.an lp Tryz.f147 [.v (.sl TCommit)] [.bool] (x0, ()) = impl_areCommits lp x0 := by
  rw [impl_areCommits.t_e]; unfold impl_areCommits
  simp only [leK_leF _ impl_areCommits.sr2 impl_areCommits.sx2, impl_areCommits.k2, impl_areCommits.t_a2, impl_areCommits.t_q2]
theorem impl_areCommits.eq (lp : Nat) (x : ADens [.v (.sl TCommit)]) : evalF (impl_areCommits.E lp) impl_areCommits.an lp Tryz.f147 [.v (.sl TCommit)] [.bool] x = (impl_areCommits.S lp).F x := impl_areCommits.eq0 lp x.1
theorem impl_areCommits.ok (lp : Nat) : Sound Tryz.prog 147 (impl_areCommits.S lp) := sound_of (E := impl_areCommits.E lp) (env_ok tabFits tabEqs ⟨impl_Commit_isAt.ok lp, trivial⟩ trivial) mixed Tryz.func147 (by kernel_rfl) (c := codeOf Tryz.f147) (by kernel_rfl) (by kernel_rfl) impl_areCommits.an (fun x r h => ⟨lp, (impl_areCommits.eq lp x).trans h⟩)
def impl_StoreOK.E (lp : Nat) : Env := { tab := tab, fns := [(146, impl_isList_Commit.S), (147, impl_areCommits.S lp)], ann := { own := [], ro := [] } }
def impl_StoreOK.an : An := { pre := [] }
def impl_StoreOK.S (lp : Nat) : Spec := { ats := [.v (.sl TCommit)], rts := [.bool], F := fun x => impl_StoreOK lp x.1 }
theorem impl_StoreOK.eq (lp : Nat) (x : ADens [.v (.sl TCommit)]) : evalF (impl_StoreOK.E lp) impl_StoreOK.an lp Tryz.f101 [.v (.sl TCommit)] [.bool] x = (impl_StoreOK.S lp).F x := by kernel_rfl
theorem impl_StoreOK.ok (lp : Nat) : Sound Tryz.prog 101 (impl_StoreOK.S lp) := sound_of (E := impl_StoreOK.E lp) (env_ok tabFits tabEqs ⟨impl_isList_Commit.ok, impl_areCommits.ok lp, trivial⟩ trivial) mixed Tryz.func101 (by kernel_rfl) (c := codeOf Tryz.f101) (by kernel_rfl) (by kernel_rfl) impl_StoreOK.an (fun x r h => ⟨lp, (impl_StoreOK.eq lp x).trans h⟩)
def slices_IndexFunc_Ref.E (lp : Nat) : Env := { tab := tab, fns := [], ann := { own := [], ro := [] } }
def slices_IndexFunc_Ref.la2 : LoopAn := { kn := { tms := [0, 1, 7, 8] }, kx := {}, kr := { tms := [4] } }
def slices_IndexFunc_Ref.an : An := { loops := [(2, slices_IndexFunc_Ref.la2)] }
def slices_IndexFunc_Ref.s2 (x0 : List Ref) (x1 : (Ref × Unit) → Option Bool) (x7 : Int) (x8 : Int) : St := ⟨.v (.one (.b (.d (.sl TRef) x0))) :: .v (.one (.b (.cl (.pair TRef .unit) .bool x1))) :: (sk 5 (.v (.one (.b (.d (.int .i64) x7))) :: .v (.one (.b (.d (.int .i64) x8))) :: (sk 10 ([])))), sko 19 ([])⟩
def slices_IndexFunc_Ref.sx2 (y : Unit) : St := ⟨sk 19 ([]), sko 19 ([])⟩
def slices_IndexFunc_Ref.sr2 (z : Int) : St := ⟨sk 4 (.v (.one (.b (.d (.int .i64) z))) :: (sk 14 ([]))), sko 19 ([])⟩
def slices_IndexFunc_Ref.S (lp : Nat) : Spec := { ats := [.v (.sl TRef), .clo (.pair TRef .unit) .bool], rts := [(.int .i64)], F := fun x => slices_IndexFunc_Ref lp x.1 x.2.1 }
theorem slices_IndexFunc_Ref.t_b2 (lp : Nat) {R : Type} (N : St → Option R) (X : Out → St → Option R) (x0 : List Ref) (x1 : (Ref × Unit) → Option Bool) (x7 : Int) (x8 : Int) : codeK (slices_IndexFunc_Ref.E lp) slices_IndexFunc_Ref.an lp (loopAt 2 (codeOf Tryz.f172)) (slices_IndexFunc_Ref.s2 x0 x1 x7 x8) (lpK slices_IndexFunc_Ref.la2 N X) = slices_IndexFunc_Ref.b2 lp (fun x0 x1 x7 x8 => N (slices_IndexFunc_Ref.s2 x0 x1 x7 x8)) (fun y => X (.exit 0) (slices_IndexFunc_Ref.sx2 y)) (fun z => X .ret (slices_IndexFunc_Ref.sr2 z)) x0 x1 x7 x8 := by kernel_rfl
theorem slices_IndexFunc_Ref.n_b2 (lp : Nat) {R S : Type} (N : List Ref → ((Ref × Unit) → Option Bool) → Int → Int → Option R) (X : Unit → Option R) (Q : Int → Option R) (x0 : List Ref) (x1 : (Ref × Unit) → Option Bool) (x7 : Int) (x8 : Int) (k : R → Option S) : obind (slices_IndexFunc_Ref.b2 lp N X Q x0 x1 x7 x8) k = slices_IndexFunc_Ref.b2 lp (fun x0 x1 x7 x8 => obind (N x0 x1 x7 x8) k) (fun y => obind (X y) k) (fun z => obind (Q z) k) x0 x1 x7 x8 := by
  unfold slices_IndexFunc_Ref.b2; simp only [obind_none, obind_some, obind_cond, obind_oif, obind_oget, obind_obind]
theorem slices_IndexFunc_Ref.k2 (lp : Nat) {R : Type} (K : Out → St → Option R) : ∀ (n : Nat) (x0 : List Ref) (x1 : (Ref × Unit) → Option Bool) (x7 : Int) (x8 : Int), loopK slices_IndexFunc_Ref.la2 (fun σ K => codeK (slices_IndexFunc_Ref.E lp) slices_IndexFunc_Ref.an lp (loopAt 2 (codeOf Tryz.f172)) σ K) n (slices_IndexFunc_Ref.s2 x0 x1 x7 x8) K = obind (slices_IndexFunc_Ref.l2 lp n x0 x1 x7 x8) (leK 0 slices_IndexFunc_Ref.sr2 slices_IndexFunc_Ref.sx2 K) := by
  intro n
  induction n with
  | zero => intros; rfl
  | succ n ih =>
    intro x0 x1 x7 x8
    rw [loopK_succ, slices_IndexFunc_Ref.t_b2, slices_IndexFunc_Ref.l2, slices_IndexFunc_Ref.n_b2]
    simp only [ih, obind_some, leK_ret, leK_brk]
theorem slices_IndexFunc_Ref.t_a2 (lp : Nat) (y : Unit) : kont (R := Int) (slices_IndexFunc_Ref.E lp) slices_IndexFunc_Ref.an lp (finK (slices_IndexFunc_Ref.E lp) Tryz.f172 [(.int .i64)]) (stkAt 2 (codeOf Tryz.f172)) (.exit 0) (slices_IndexFunc_Ref.sx2 y) = slices_IndexFunc_Ref.a2 lp y := by kernel_rfl
theorem slices_IndexFunc_Ref.t_q2 (lp : Nat) (z : Int) : kont (R := Int) (slices_IndexFunc_Ref.E lp) slices_IndexFunc_Ref.an lp (finK (slices_IndexFunc_Ref.E lp) Tryz.f172 [(.int .i64)]) (stkAt 2 (codeOf Tryz.f172)) .ret (slices_IndexFunc_Ref.sr2 z) = slices_IndexFunc_Ref.q2 lp z := by kernel_rfl
theorem slices_IndexFunc_Ref.t_e (lp : Nat) (x0 : List Ref) (x1 : (Ref × Unit) → Option Bool) : evalF (slices_IndexFunc_Ref.E lp) slices_IndexFunc_Ref.an lp Tryz.f172 [.v (.sl TRef), .clo (.pair TRef .unit) .bool] [(.int .i64)] (x0, x1, ()) = slices_IndexFunc_Ref.e lp (fun x0 x1 x7 x8 => loopK slices_IndexFunc_Ref.la2 (fun σ K => codeK (slices_IndexFunc_Ref.E lp) slices_IndexFunc_Ref.an lp (loopAt 2 (codeOf Tryz.f172)) σ K) lp (slices_IndexFunc_Ref.s2 x0 x1 x7 x8) (kont (slices_IndexFunc_Ref.E lp) slices_IndexFunc_Ref.an lp (finK (slices_IndexFunc_Ref.E lp) Tryz.f172 [(.int .i64)]) (stkAt 2 (codeOf Tryz.f172)))) x0 x1 := by kernel_rfl
theorem slices_IndexFunc_Ref.eq0 (lp : Nat) (x0 : List Ref) (x1 : (Ref × Unit) → Option Bool) : evalF (slices_IndexFunc_Ref.E lp) slices_IndexFunc_Ref.an lp Tryz.f172 [.v (.sl TRef), .clo (.pair TRef .unit) .bool] [(.int .i64)] (x0, x1, ()) = slices_IndexFunc_Ref lp x0 x1 := by
  rw [slices_IndexFunc_Ref.t_e]; unfold slices_IndexFunc_Ref
  simp only [leK_leF _ slices_IndexFunc_Ref.sr2 slices_IndexFunc_Ref.sx2, slices_IndexFunc_Ref.k2, slices_IndexFunc_Ref.t_a2, slices_IndexFunc_Ref.t_q2]
theorem slices_IndexFunc_Ref.eq (lp : Nat) (x : ADens [.v (.sl TRef), .clo (.pair TRef .unit) .bool]) : evalF (slices_IndexFunc_Ref.E lp) slices_IndexFunc_Ref.an lp Tryz.f172 [.v (.sl TRef), .clo (.pair TRef .unit) .bool] [(.int .i64)] x = (slices_IndexFunc_Ref.S lp).F x := slices_IndexFunc_Ref.eq0 lp x.1 x.2.1
theorem slices_IndexFunc_Ref.ok (lp : Nat) : Sound Tryz.prog 172 (slices_IndexFunc_Ref.S lp) := sound_of (E := slices_IndexFunc_Ref.E lp) (env_ok tabFits tabEqs trivial trivial) mixed Tryz.func172 (by kernel_rfl) (c := codeOf Tryz.f172) (by kernel_rfl) (by kernel_rfl) slices_IndexFunc_Ref.an (fun x r h => ⟨lp, (slices_IndexFunc_Ref.eq lp x).trans h⟩)
def slices_ContainsFunc_Ref.E (lp : Nat) : Env := { tab := tab, fns := [(172, slices_IndexFunc_Ref.S lp)], ann := { own := [], ro := [] } }
def slices_ContainsFunc_Ref.an : An := { pre := [] }
def slices_ContainsFunc_Ref.S (lp : Nat) : Spec := { ats := [.v (.sl TRef), .clo (.pair TRef .unit) .bool], rts := [.bool], F := fun x => slices_ContainsFunc_Ref lp x.1 x.2.1 }
theorem slices_ContainsFunc_Ref.eq (lp : Nat) (x : ADens [.v (.sl TRef), .clo (.pair TRef .unit) .bool]) : evalF (slices_ContainsFunc_Ref.E lp) slices_ContainsFunc_Ref.an lp Tryz.f149 [.v (.sl TRef), .clo (.pair TRef .unit) .bool] [.bool] x = (slices_ContainsFunc_Ref.S lp).F x := by kernel_rfl
theorem slices_ContainsFunc_Ref.ok (lp : Nat) : Sound Tryz.prog 149 (slices_ContainsFunc_Ref.S lp) := sound_of (E := slices_ContainsFunc_Ref.E lp) (env_ok tabFits tabEqs ⟨slices_IndexFunc_Ref.ok lp, trivial⟩ trivial) mixed Tryz.func149 (by kernel_rfl) (c := codeOf Tryz.f149) (by kernel_rfl) (by kernel_rfl) slices_ContainsFunc_Ref.an (fun x r h => ⟨lp, (slices_ContainsFunc_Ref.eq lp x).trans h⟩)
def impl_areAll_Ref_c1.E : Env := { tab := tab, fns := [], ann := { own := [], ro := [2] } }
def impl_areAll_Ref_c1.an : An := { pre := [] }
def impl_areAll_Ref_c1.S : Spec := { ats := [.v TRef, .ptrC (.pair TRef .unit) .bool], rts := [.bool], F := fun x => impl_areAll_Ref_c1 x.1 x.2.1 }
theorem impl_areAll_Ref_c1.eq (lp : Nat) (x : ADens [.v TRef, .ptrC (.pair TRef .unit) .bool]) : evalF (impl_areAll_Ref_c1.E) impl_areAll_Ref_c1.an lp Tryz.f150 [.v TRef, .ptrC (.pair TRef .unit) .bool] [.bool] x = (impl_areAll_Ref_c1.S).F x := by kernel_rfl
theorem impl_areAll_Ref_c1.ok : Sound Tryz.prog 150 (impl_areAll_Ref_c1.S) := sound_of (E := impl_areAll_Ref_c1.E) (env_ok tabFits tabEqs trivial trivial) mixed Tryz.func150 (by kernel_rfl) (c := codeOf Tryz.f150) (by kernel_rfl) (by kernel_rfl) impl_areAll_Ref_c1.an (fun x r h => ⟨0, (impl_areAll_Ref_c1.eq 0 x).trans h⟩)
def impl_areAll_Ref.E (lp : Nat) : Env := { tab := tab, fns := [(150, impl_areAll_Ref_c1.S), (149, slices_ContainsFunc_Ref.S lp)], ann := { own := [], ro := [3] } }
def impl_areAll_Ref.an : An := { pre := [] }
def impl_areAll_Ref.S (lp : Nat) : Spec := { ats := [.v (.sl TRef), .clo (.pair TRef .unit) .bool], rts := [.bool], F := fun x => impl_areAll_Ref lp x.1 x.2.1 }
theorem impl_areAll_Ref.eq (lp : Nat) (x : ADens [.v (.sl TRef), .clo (.pair TRef .unit) .bool]) : evalF (impl_areAll_Ref.E lp) impl_areAll_Ref.an lp Tryz.f103 [.v (.sl TRef), .clo (.pair TRef .unit) .bool] [.bool] x = (impl_areAll_Ref.S lp).F x := by kernel_rfl
theorem impl_areAll_Ref.ok (lp : Nat) : Sound Tryz.prog 103 (impl_areAll_Ref.S lp) := sound_of (E := impl_areAll_Ref.E lp) (env_ok tabFits tabEqs ⟨impl_areAll_Ref_c1.ok, slices_ContainsFunc_Ref.ok lp, trivial⟩ trivial) mixed Tryz.func103 (by kernel_rfl) (c := codeOf Tryz.f103) (by kernel_rfl) (by kernel_rfl) impl_areAll_Ref.an (fun x r h => ⟨lp, (impl_areAll_Ref.eq lp x).trans h⟩)
def impl_place_c1.E : Env := { tab := tab, fns := [], ann := { own := [], ro := [2] } }
def impl_place_c1.an : An := { pre := [] }
def impl_place_c1.S : Spec := { ats := [.v TRef, .ptrD .str], rts := [.bool], F := fun x => impl_place_c1 x.1 x.2.1 }
theorem impl_place_c1.eq (lp : Nat) (x : ADens [.v TRef, .ptrD .str]) : evalF (impl_place_c1.E) impl_place_c1.an lp Tryz.f173 [.v TRef, .ptrD .str] [.bool] x = (impl_place_c1.S).F x := by kernel_rfl
theorem impl_place_c1.ok : Sound Tryz.prog 173 (impl_place_c1.S) := sound_of (E := impl_place_c1.E) (env_ok tabFits tabEqs trivial trivial) mixed Tryz.func173 (by kernel_rfl) (c := codeOf Tryz.f173) (by kernel_rfl) (by kernel_rfl) impl_place_c1.an (fun x r h => ⟨0, (impl_place_c1.eq 0 x).trans h⟩)
def impl_place.E (lp : Nat) : Env := { tab := tab, fns := [(173, impl_place_c1.S), (172, slices_IndexFunc_Ref.S lp)], ann := { own := [], ro := [3] } }
def impl_place.an : An := { pre := [] }
def impl_place.S (lp : Nat) : Spec := { ats := [.v (.sl TRef), .v .str], rts := [(.int .i64)], F := fun x => impl_place lp x.1 x.2.1 }
theorem impl_place.eq (lp : Nat) (x : ADens [.v (.sl TRef), .v .str]) : evalF (impl_place.E lp) impl_place.an lp Tryz.f119 [.v (.sl TRef), .v .str] [(.int .i64)] x = (impl_place.S lp).F x := by kernel_rfl
theorem impl_place.ok (lp : Nat) : Sound Tryz.prog 119 (impl_place.S lp) := sound_of (E := impl_place.E lp) (env_ok tabFits tabEqs ⟨impl_place_c1.ok, slices_IndexFunc_Ref.ok lp, trivial⟩ trivial) mixed Tryz.func119 (by kernel_rfl) (c := codeOf Tryz.f119) (by kernel_rfl) (by kernel_rfl) impl_place.an (fun x r h => ⟨lp, (impl_place.eq lp x).trans h⟩)
def impl_isHead.E : Env := { tab := tab, fns := [(61, impl_within.S)], ann := { own := [], ro := [] } }
def impl_isHead.an : An := { pre := [] }
def impl_isHead.S : Spec := { ats := [.v (.int .i64)], rts := [.bool], F := fun x => impl_isHead x.1 }
theorem impl_isHead.eq (lp : Nat) (x : ADens [.v (.int .i64)]) : evalF (impl_isHead.E) impl_isHead.an lp Tryz.f159 [.v (.int .i64)] [.bool] x = (impl_isHead.S).F x := by kernel_rfl
theorem impl_isHead.ok : Sound Tryz.prog 159 (impl_isHead.S) := sound_of (E := impl_isHead.E) (env_ok tabFits tabEqs ⟨impl_within.ok, trivial⟩ trivial) mixed Tryz.func159 (by kernel_rfl) (c := codeOf Tryz.f159) (by kernel_rfl) (by kernel_rfl) impl_isHead.an (fun x r h => ⟨0, (impl_isHead.eq 0 x).trans h⟩)
def impl_isRef.E (lp : Nat) : Env := { tab := tab, fns := [(115, impl_NameOK.S lp), (61, impl_within.S), (159, impl_isHead.S)], ann := { own := [], ro := [1] } }
def impl_isRef.an : An := { pre := [] }
def impl_isRef.S (lp : Nat) : Spec := { ats := [.v TRef], rts := [.bool], F := fun x => impl_isRef lp x.1 }
theorem impl_isRef.eq (lp : Nat) (x : ADens [.v TRef]) : evalF (impl_isRef.E lp) impl_isRef.an lp Tryz.f148 [.v TRef] [.bool] x = (impl_isRef.S lp).F x := by kernel_rfl
theorem impl_isRef.ok (lp : Nat) : Sound Tryz.prog 148 (impl_isRef.S lp) := sound_of (E := impl_isRef.E lp) (env_ok tabFits tabEqs ⟨impl_NameOK.ok lp, impl_within.ok, impl_isHead.ok, trivial⟩ trivial) mixed Tryz.func148 (by kernel_rfl) (c := codeOf Tryz.f148) (by kernel_rfl) (by kernel_rfl) impl_isRef.an (fun x r h => ⟨lp, (impl_isRef.eq lp x).trans h⟩)
def impl_RefsOK.E (lp : Nat) : Env := { tab := tab, fns := [(148, impl_isRef.S lp), (103, impl_areAll_Ref.S lp), (119, impl_place.S lp)], ann := { own := [], ro := [] } }
def impl_RefsOK.la4 : LoopAn := { kn := { tms := [0, 13, 14, 15] }, kx := {}, kr := { tms := [2] } }
def impl_RefsOK.an : An := { loops := [(4, impl_RefsOK.la4)] }
def impl_RefsOK.s4 (x0 : List Ref) (x13 : List Ref) (x14 : Int) (x15 : Int) : St := ⟨.v (.one (.b (.d (.sl TRef) x0))) :: (sk 12 (.v (.one (.b (.d (.sl TRef) x13))) :: .v (.one (.b (.d (.int .i64) x14))) :: .v (.one (.b (.d (.int .i64) x15))) :: (sk 12 ([])))), sko 28 ([])⟩
def impl_RefsOK.sx4 (y : Unit) : St := ⟨sk 28 ([]), sko 28 ([])⟩
def impl_RefsOK.sr4 (z : Bool) : St := ⟨sk 2 (.v (.one (.b (.d .bool z))) :: (sk 25 ([]))), sko 28 ([])⟩
def impl_RefsOK.S (lp : Nat) : Spec := { ats := [.v (.sl TRef)], rts := [.bool], F := fun x => impl_RefsOK lp x.1 }
theorem impl_RefsOK.t_b4 (lp : Nat) {R : Type} (N : St → Option R) (X : Out → St → Option R) (x0 : List Ref) (x13 : List Ref) (x14 : Int) (x15 : Int) : codeK (impl_RefsOK.E lp) impl_RefsOK.an lp (loopAt 4 (codeOf Tryz.f102)) (impl_RefsOK.s4 x0 x13 x14 x15) (lpK impl_RefsOK.la4 N X) = impl_RefsOK.b4 lp (fun x0 x13 x14 x15 => N (impl_RefsOK.s4 x0 x13 x14 x15)) (fun y => X (.exit 0) (impl_RefsOK.sx4 y)) (fun z => X .ret (impl_RefsOK.sr4 z)) x0 x13 x14 x15 := by kernel_rfl
theorem impl_RefsOK.n_b4 (lp : Nat) {R S : Type} (N : List Ref → List Ref → Int → Int → Option R) (X : Unit → Option R) (Q : Bool → Option R) (x0 : List Ref) (x13 : List Ref) (x14 : Int) (x15 : Int) (k : R → Option S) : obind (impl_RefsOK.b4 lp N X Q x0 x13 x14 x15) k = impl_RefsOK.b4 lp (fun x0 x13 x14 x15 => obind (N x0 x13 x14 x15) k) (fun y => obind (X y) k) (fun z => obind (Q z) k) x0 x13 x14 x15 := by
  unfold impl_RefsOK.b4; simp only [obind_none, obind_some, obind_cond, obind_oif, obind_oget, obind_obind]
theorem impl_RefsOK.k4 (lp : Nat) {R : Type} (K : Out → St → Option R) : ∀ (n : Nat) (x0 : List Ref) (x13 : List Ref) (x14 : Int) (x15 : Int), loopK impl_RefsOK.la4 (fun σ K => codeK (impl_RefsOK.E lp) impl_RefsOK.an lp (loopAt 4 (codeOf Tryz.f102)) σ K) n (impl_RefsOK.s4 x0 x13 x14 x15) K = obind (impl_RefsOK.l4 lp n x0 x13 x14 x15) (leK 0 impl_RefsOK.sr4 impl_RefsOK.sx4 K) := by
  intro n
  induction n with
  | zero => intros; rfl
  | succ n ih =>
    intro x0 x13 x14 x15
    rw [loopK_succ, impl_RefsOK.t_b4, impl_RefsOK.l4, impl_RefsOK.n_b4]
    simp only [ih, obind_some, leK_ret, leK_brk]
theorem impl_RefsOK.t_a4 (lp : Nat) (y : Unit) : kont (R := Bool) (impl_RefsOK.E lp) impl_RefsOK.an lp (finK (impl_RefsOK.E lp) Tryz.f102 [.bool]) (stkAt 4 (codeOf Tryz.f102)) (.exit 0) (impl_RefsOK.sx4 y) = impl_RefsOK.a4 lp y := by kernel_rfl
theorem impl_RefsOK.t_q4 (lp : Nat) (z : Bool) : kont (R := Bool) (impl_RefsOK.E lp) impl_RefsOK.an lp (finK (impl_RefsOK.E lp) Tryz.f102 [.bool]) (stkAt 4 (codeOf Tryz.f102)) .ret (impl_RefsOK.sr4 z) = impl_RefsOK.q4 lp z := by kernel_rfl
theorem impl_RefsOK.t_e (lp : Nat) (x0 : List Ref) : evalF (impl_RefsOK.E lp) impl_RefsOK.an lp Tryz.f102 [.v (.sl TRef)] [.bool] (x0, ()) = impl_RefsOK.e lp (fun x0 x13 x14 x15 => loopK impl_RefsOK.la4 (fun σ K => codeK (impl_RefsOK.E lp) impl_RefsOK.an lp (loopAt 4 (codeOf Tryz.f102)) σ K) lp (impl_RefsOK.s4 x0 x13 x14 x15) (kont (impl_RefsOK.E lp) impl_RefsOK.an lp (finK (impl_RefsOK.E lp) Tryz.f102 [.bool]) (stkAt 4 (codeOf Tryz.f102)))) x0 := by kernel_rfl
theorem impl_RefsOK.eq0 (lp : Nat) (x0 : List Ref) : evalF (impl_RefsOK.E lp) impl_RefsOK.an lp Tryz.f102 [.v (.sl TRef)] [.bool] (x0, ()) = impl_RefsOK lp x0 := by
  rw [impl_RefsOK.t_e]; unfold impl_RefsOK
  simp only [leK_leF _ impl_RefsOK.sr4 impl_RefsOK.sx4, impl_RefsOK.k4, impl_RefsOK.t_a4, impl_RefsOK.t_q4]
theorem impl_RefsOK.eq (lp : Nat) (x : ADens [.v (.sl TRef)]) : evalF (impl_RefsOK.E lp) impl_RefsOK.an lp Tryz.f102 [.v (.sl TRef)] [.bool] x = (impl_RefsOK.S lp).F x := impl_RefsOK.eq0 lp x.1
theorem impl_RefsOK.ok (lp : Nat) : Sound Tryz.prog 102 (impl_RefsOK.S lp) := sound_of (E := impl_RefsOK.E lp) (env_ok tabFits tabEqs ⟨impl_isRef.ok lp, impl_areAll_Ref.ok lp, impl_place.ok lp, trivial⟩ trivial) mixed Tryz.func102 (by kernel_rfl) (c := codeOf Tryz.f102) (by kernel_rfl) (by kernel_rfl) impl_RefsOK.an (fun x r h => ⟨lp, (impl_RefsOK.eq lp x).trans h⟩)
def impl_BaseOK_c1.E : Env := { tab := tab, fns := [], ann := { own := [], ro := [2] } }
def impl_BaseOK_c1.an : An := { pre := [] }
def impl_BaseOK_c1.S : Spec := { ats := [.v TRef, .ptrD TBase], rts := [.bool], F := fun x => impl_BaseOK_c1 x.1 x.2.1 }
theorem impl_BaseOK_c1.eq (lp : Nat) (x : ADens [.v TRef, .ptrD TBase]) : evalF (impl_BaseOK_c1.E) impl_BaseOK_c1.an lp Tryz.f104 [.v TRef, .ptrD TBase] [.bool] x = (impl_BaseOK_c1.S).F x := by kernel_rfl
theorem impl_BaseOK_c1.ok : Sound Tryz.prog 104 (impl_BaseOK_c1.S) := sound_of (E := impl_BaseOK_c1.E) (env_ok tabFits tabEqs trivial trivial) mixed Tryz.func104 (by kernel_rfl) (c := codeOf Tryz.f104) (by kernel_rfl) (by kernel_rfl) impl_BaseOK_c1.an (fun x r h => ⟨0, (impl_BaseOK_c1.eq 0 x).trans h⟩)
def impl_BaseOK.E (lp : Nat) : Env := { tab := tab, fns := [(101, impl_StoreOK.S lp), (102, impl_RefsOK.S lp), (104, impl_BaseOK_c1.S), (103, impl_areAll_Ref.S lp)], ann := { own := [], ro := [1] } }
def impl_BaseOK.an : An := { pre := [] }
def impl_BaseOK.S (lp : Nat) : Spec := { ats := [.v TBase], rts := [.bool], F := fun x => impl_BaseOK lp x.1 }
theorem impl_BaseOK.eq (lp : Nat) (x : ADens [.v TBase]) : evalF (impl_BaseOK.E lp) impl_BaseOK.an lp Tryz.f60 [.v TBase] [.bool] x = (impl_BaseOK.S lp).F x := by kernel_rfl
theorem impl_BaseOK.ok (lp : Nat) : Sound Tryz.prog 60 (impl_BaseOK.S lp) := sound_of (E := impl_BaseOK.E lp) (env_ok tabFits tabEqs ⟨impl_StoreOK.ok lp, impl_RefsOK.ok lp, impl_BaseOK_c1.ok, impl_areAll_Ref.ok lp, trivial⟩ trivial) mixed Tryz.func60 (by kernel_rfl) (c := codeOf Tryz.f60) (by kernel_rfl) (by kernel_rfl) impl_BaseOK.an (fun x r h => ⟨lp, (impl_BaseOK.eq lp x).trans h⟩)
def slices_IndexFunc_Wish.E (lp : Nat) : Env := { tab := tab, fns := [], ann := { own := [], ro := [] } }
def slices_IndexFunc_Wish.la2 : LoopAn := { kn := { tms := [0, 1, 7, 8] }, kx := {}, kr := { tms := [4] } }
def slices_IndexFunc_Wish.an : An := { loops := [(2, slices_IndexFunc_Wish.la2)] }
def slices_IndexFunc_Wish.s2 (x0 : List Wish) (x1 : (Wish × Unit) → Option Bool) (x7 : Int) (x8 : Int) : St := ⟨.v (.one (.b (.d (.sl TWish) x0))) :: .v (.one (.b (.cl (.pair TWish .unit) .bool x1))) :: (sk 5 (.v (.one (.b (.d (.int .i64) x7))) :: .v (.one (.b (.d (.int .i64) x8))) :: (sk 10 ([])))), sko 19 ([])⟩
def slices_IndexFunc_Wish.sx2 (y : Unit) : St := ⟨sk 19 ([]), sko 19 ([])⟩
def slices_IndexFunc_Wish.sr2 (z : Int) : St := ⟨sk 4 (.v (.one (.b (.d (.int .i64) z))) :: (sk 14 ([]))), sko 19 ([])⟩
def slices_IndexFunc_Wish.S (lp : Nat) : Spec := { ats := [.v (.sl TWish), .clo (.pair TWish .unit) .bool], rts := [(.int .i64)], F := fun x => slices_IndexFunc_Wish lp x.1 x.2.1 }
theorem slices_IndexFunc_Wish.t_b2 (lp : Nat) {R : Type} (N : St → Option R) (X : Out → St → Option R) (x0 : List Wish) (x1 : (Wish × Unit) → Option Bool) (x7 : Int) (x8 : Int) : codeK (slices_IndexFunc_Wish.E lp) slices_IndexFunc_Wish.an lp (loopAt 2 (codeOf Tryz.f185)) (slices_IndexFunc_Wish.s2 x0 x1 x7 x8) (lpK slices_IndexFunc_Wish.la2 N X) = slices_IndexFunc_Wish.b2 lp (fun x0 x1 x7 x8 => N (slices_IndexFunc_Wish.s2 x0 x1 x7 x8)) (fun y => X (.exit 0) (slices_IndexFunc_Wish.sx2 y)) (fun z => X .ret (slices_IndexFunc_Wish.sr2 z)) x0 x1 x7 x8 := by kernel_rfl
theorem slices_IndexFunc_Wish.n_b2 (lp : Nat) {R S : Type} (N : List Wish → ((Wish × Unit) → Option Bool) → Int → Int → Option R) (X : Unit → Option R) (Q : Int → Option R) (x0 : List Wish) (x1 : (Wish × Unit) → Option Bool) (x7 : Int) (x8 : Int) (k : R → Option S) : obind (slices_IndexFunc_Wish.b2 lp N X Q x0 x1 x7 x8) k = slices_IndexFunc_Wish.b2 lp (fun x0 x1 x7 x8 => obind (N x0 x1 x7 x8) k) (fun y => obind (X y) k) (fun z => obind (Q z) k) x0 x1 x7 x8 := by
  unfold slices_IndexFunc_Wish.b2; simp only [obind_none, obind_some, obind_cond, obind_oif, obind_oget, obind_obind]
theorem slices_IndexFunc_Wish.k2 (lp : Nat) {R : Type} (K : Out → St → Option R) : ∀ (n : Nat) (x0 : List Wish) (x1 : (Wish × Unit) → Option Bool) (x7 : Int) (x8 : Int), loopK slices_IndexFunc_Wish.la2 (fun σ K => codeK (slices_IndexFunc_Wish.E lp) slices_IndexFunc_Wish.an lp (loopAt 2 (codeOf Tryz.f185)) σ K) n (slices_IndexFunc_Wish.s2 x0 x1 x7 x8) K = obind (slices_IndexFunc_Wish.l2 lp n x0 x1 x7 x8) (leK 0 slices_IndexFunc_Wish.sr2 slices_IndexFunc_Wish.sx2 K) := by
  intro n
  induction n with
  | zero => intros; rfl
  | succ n ih =>
    intro x0 x1 x7 x8
    rw [loopK_succ, slices_IndexFunc_Wish.t_b2, slices_IndexFunc_Wish.l2, slices_IndexFunc_Wish.n_b2]
    simp only [ih, obind_some, leK_ret, leK_brk]
theorem slices_IndexFunc_Wish.t_a2 (lp : Nat) (y : Unit) : kont (R := Int) (slices_IndexFunc_Wish.E lp) slices_IndexFunc_Wish.an lp (finK (slices_IndexFunc_Wish.E lp) Tryz.f185 [(.int .i64)]) (stkAt 2 (codeOf Tryz.f185)) (.exit 0) (slices_IndexFunc_Wish.sx2 y) = slices_IndexFunc_Wish.a2 lp y := by kernel_rfl
theorem slices_IndexFunc_Wish.t_q2 (lp : Nat) (z : Int) : kont (R := Int) (slices_IndexFunc_Wish.E lp) slices_IndexFunc_Wish.an lp (finK (slices_IndexFunc_Wish.E lp) Tryz.f185 [(.int .i64)]) (stkAt 2 (codeOf Tryz.f185)) .ret (slices_IndexFunc_Wish.sr2 z) = slices_IndexFunc_Wish.q2 lp z := by kernel_rfl
theorem slices_IndexFunc_Wish.t_e (lp : Nat) (x0 : List Wish) (x1 : (Wish × Unit) → Option Bool) : evalF (slices_IndexFunc_Wish.E lp) slices_IndexFunc_Wish.an lp Tryz.f185 [.v (.sl TWish), .clo (.pair TWish .unit) .bool] [(.int .i64)] (x0, x1, ()) = slices_IndexFunc_Wish.e lp (fun x0 x1 x7 x8 => loopK slices_IndexFunc_Wish.la2 (fun σ K => codeK (slices_IndexFunc_Wish.E lp) slices_IndexFunc_Wish.an lp (loopAt 2 (codeOf Tryz.f185)) σ K) lp (slices_IndexFunc_Wish.s2 x0 x1 x7 x8) (kont (slices_IndexFunc_Wish.E lp) slices_IndexFunc_Wish.an lp (finK (slices_IndexFunc_Wish.E lp) Tryz.f185 [(.int .i64)]) (stkAt 2 (codeOf Tryz.f185)))) x0 x1 := by kernel_rfl
theorem slices_IndexFunc_Wish.eq0 (lp : Nat) (x0 : List Wish) (x1 : (Wish × Unit) → Option Bool) : evalF (slices_IndexFunc_Wish.E lp) slices_IndexFunc_Wish.an lp Tryz.f185 [.v (.sl TWish), .clo (.pair TWish .unit) .bool] [(.int .i64)] (x0, x1, ()) = slices_IndexFunc_Wish lp x0 x1 := by
  rw [slices_IndexFunc_Wish.t_e]; unfold slices_IndexFunc_Wish
  simp only [leK_leF _ slices_IndexFunc_Wish.sr2 slices_IndexFunc_Wish.sx2, slices_IndexFunc_Wish.k2, slices_IndexFunc_Wish.t_a2, slices_IndexFunc_Wish.t_q2]
theorem slices_IndexFunc_Wish.eq (lp : Nat) (x : ADens [.v (.sl TWish), .clo (.pair TWish .unit) .bool]) : evalF (slices_IndexFunc_Wish.E lp) slices_IndexFunc_Wish.an lp Tryz.f185 [.v (.sl TWish), .clo (.pair TWish .unit) .bool] [(.int .i64)] x = (slices_IndexFunc_Wish.S lp).F x := slices_IndexFunc_Wish.eq0 lp x.1 x.2.1
theorem slices_IndexFunc_Wish.ok (lp : Nat) : Sound Tryz.prog 185 (slices_IndexFunc_Wish.S lp) := sound_of (E := slices_IndexFunc_Wish.E lp) (env_ok tabFits tabEqs trivial trivial) mixed Tryz.func185 (by kernel_rfl) (c := codeOf Tryz.f185) (by kernel_rfl) (by kernel_rfl) slices_IndexFunc_Wish.an (fun x r h => ⟨lp, (slices_IndexFunc_Wish.eq lp x).trans h⟩)
def slices_ContainsFunc_Wish.E (lp : Nat) : Env := { tab := tab, fns := [(185, slices_IndexFunc_Wish.S lp)], ann := { own := [], ro := [] } }
def slices_ContainsFunc_Wish.an : An := { pre := [] }
def slices_ContainsFunc_Wish.S (lp : Nat) : Spec := { ats := [.v (.sl TWish), .clo (.pair TWish .unit) .bool], rts := [.bool], F := fun x => slices_ContainsFunc_Wish lp x.1 x.2.1 }
theorem slices_ContainsFunc_Wish.eq (lp : Nat) (x : ADens [.v (.sl TWish), .clo (.pair TWish .unit) .bool]) : evalF (slices_ContainsFunc_Wish.E lp) slices_ContainsFunc_Wish.an lp Tryz.f151 [.v (.sl TWish), .clo (.pair TWish .unit) .bool] [.bool] x = (slices_ContainsFunc_Wish.S lp).F x := by kernel_rfl
theorem slices_ContainsFunc_Wish.ok (lp : Nat) : Sound Tryz.prog 151 (slices_ContainsFunc_Wish.S lp) := sound_of (E := slices_ContainsFunc_Wish.E lp) (env_ok tabFits tabEqs ⟨slices_IndexFunc_Wish.ok lp, trivial⟩ trivial) mixed Tryz.func151 (by kernel_rfl) (c := codeOf Tryz.f151) (by kernel_rfl) (by kernel_rfl) slices_ContainsFunc_Wish.an (fun x r h => ⟨lp, (slices_ContainsFunc_Wish.eq lp x).trans h⟩)
def impl_areAll_Wish_c1.E : Env := { tab := tab, fns := [], ann := { own := [], ro := [2] } }
def impl_areAll_Wish_c1.an : An := { pre := [] }
def impl_areAll_Wish_c1.S : Spec := { ats := [.v TWish, .ptrC (.pair TWish .unit) .bool], rts := [.bool], F := fun x => impl_areAll_Wish_c1 x.1 x.2.1 }
theorem impl_areAll_Wish_c1.eq (lp : Nat) (x : ADens [.v TWish, .ptrC (.pair TWish .unit) .bool]) : evalF (impl_areAll_Wish_c1.E) impl_areAll_Wish_c1.an lp Tryz.f152 [.v TWish, .ptrC (.pair TWish .unit) .bool] [.bool] x = (impl_areAll_Wish_c1.S).F x := by kernel_rfl
theorem impl_areAll_Wish_c1.ok : Sound Tryz.prog 152 (impl_areAll_Wish_c1.S) := sound_of (E := impl_areAll_Wish_c1.E) (env_ok tabFits tabEqs trivial trivial) mixed Tryz.func152 (by kernel_rfl) (c := codeOf Tryz.f152) (by kernel_rfl) (by kernel_rfl) impl_areAll_Wish_c1.an (fun x r h => ⟨0, (impl_areAll_Wish_c1.eq 0 x).trans h⟩)
def impl_areAll_Wish.E (lp : Nat) : Env := { tab := tab, fns := [(152, impl_areAll_Wish_c1.S), (151, slices_ContainsFunc_Wish.S lp)], ann := { own := [], ro := [3] } }
def impl_areAll_Wish.an : An := { pre := [] }
def impl_areAll_Wish.S (lp : Nat) : Spec := { ats := [.v (.sl TWish), .clo (.pair TWish .unit) .bool], rts := [.bool], F := fun x => impl_areAll_Wish lp x.1 x.2.1 }
theorem impl_areAll_Wish.eq (lp : Nat) (x : ADens [.v (.sl TWish), .clo (.pair TWish .unit) .bool]) : evalF (impl_areAll_Wish.E lp) impl_areAll_Wish.an lp Tryz.f105 [.v (.sl TWish), .clo (.pair TWish .unit) .bool] [.bool] x = (impl_areAll_Wish.S lp).F x := by kernel_rfl
theorem impl_areAll_Wish.ok (lp : Nat) : Sound Tryz.prog 105 (impl_areAll_Wish.S lp) := sound_of (E := impl_areAll_Wish.E lp) (env_ok tabFits tabEqs ⟨impl_areAll_Wish_c1.ok, slices_ContainsFunc_Wish.ok lp, trivial⟩ trivial) mixed Tryz.func105 (by kernel_rfl) (c := codeOf Tryz.f105) (by kernel_rfl) (by kernel_rfl) impl_areAll_Wish.an (fun x r h => ⟨lp, (impl_areAll_Wish.eq lp x).trans h⟩)
def impl_hasSource.E : Env := { tab := tab, fns := [], ann := { own := [], ro := [] } }
def impl_hasSource.an : An := { pre := [] }
def impl_hasSource.S : Spec := { ats := [.v (.int .i64)], rts := [.bool], F := fun x => impl_hasSource x.1 }
theorem impl_hasSource.eq (lp : Nat) (x : ADens [.v (.int .i64)]) : evalF (impl_hasSource.E) impl_hasSource.an lp Tryz.f77 [.v (.int .i64)] [.bool] x = (impl_hasSource.S).F x := by kernel_rfl
theorem impl_hasSource.ok : Sound Tryz.prog 77 (impl_hasSource.S) := sound_of (E := impl_hasSource.E) (env_ok tabFits tabEqs trivial trivial) mixed Tryz.func77 (by kernel_rfl) (c := codeOf Tryz.f77) (by kernel_rfl) (by kernel_rfl) impl_hasSource.an (fun x r h => ⟨0, (impl_hasSource.eq 0 x).trans h⟩)
def impl_EditsOK.E (lp : Nat) : Env := { tab := tab, fns := [(115, impl_NameOK.S lp), (162, impl_isValue.S)], ann := { own := [], ro := [] } }
def impl_EditsOK.la2 : LoopAn := { kn := { tms := [0, 5, 6, 7] }, kx := { tms := [0] }, kr := { tms := [2] } }
def impl_EditsOK.an : An := { loops := [(2, impl_EditsOK.la2)] }
def impl_EditsOK.s2 (x0 : List Edit) (x5 : List Edit) (x6 : Int) (x7 : Int) : St := ⟨.v (.one (.b (.d (.sl TEdit) x0))) :: (sk 4 (.v (.one (.b (.d (.sl TEdit) x5))) :: .v (.one (.b (.d (.int .i64) x6))) :: .v (.one (.b (.d (.int .i64) x7))) :: (sk 42 ([])))), sko 50 ([])⟩
def impl_EditsOK.sx2 (y : (List Edit)) : St := ⟨.v (.one (.b (.d (.sl TEdit) y))) :: (sk 49 ([])), sko 50 ([])⟩
def impl_EditsOK.sr2 (z : Bool) : St := ⟨sk 2 (.v (.one (.b (.d .bool z))) :: (sk 47 ([]))), sko 50 ([])⟩
def impl_EditsOK.S (lp : Nat) : Spec := { ats := [.v (.sl TEdit)], rts := [.bool], F := fun x => impl_EditsOK lp x.1 }
theorem impl_EditsOK.t_b2 (lp : Nat) {R : Type} (N : St → Option R) (X : Out → St → Option R) (x0 : List Edit) (x5 : List Edit) (x6 : Int) (x7 : Int) : codeK (impl_EditsOK.E lp) impl_EditsOK.an lp (loopAt 2 (codeOf Tryz.f160)) (impl_EditsOK.s2 x0 x5 x6 x7) (lpK impl_EditsOK.la2 N X) = impl_EditsOK.b2 lp (fun x0 x5 x6 x7 => N (impl_EditsOK.s2 x0 x5 x6 x7)) (fun y => X (.exit 0) (impl_EditsOK.sx2 y)) (fun z => X .ret (impl_EditsOK.sr2 z)) x0 x5 x6 x7 := by kernel_rfl
theorem impl_EditsOK.n_b2 (lp : Nat) {R S : Type} (N : List Edit → List Edit → Int → Int → Option R) (X : ((List Edit)) → Option R) (Q : Bool → Option R) (x0 : List Edit) (x5 : List Edit) (x6 : Int) (x7 : Int) (k : R → Option S) : obind (impl_EditsOK.b2 lp N X Q x0 x5 x6 x7) k = impl_EditsOK.b2 lp (fun x0 x5 x6 x7 => obind (N x0 x5 x6 x7) k) (fun y => obind (X y) k) (fun z => obind (Q z) k) x0 x5 x6 x7 := by
  unfold impl_EditsOK.b2; simp only [obind_none, obind_some, obind_cond, obind_oif, obind_oget, obind_obind]
theorem impl_EditsOK.k2 (lp : Nat) {R : Type} (K : Out → St → Option R) : ∀ (n : Nat) (x0 : List Edit) (x5 : List Edit) (x6 : Int) (x7 : Int), loopK impl_EditsOK.la2 (fun σ K => codeK (impl_EditsOK.E lp) impl_EditsOK.an lp (loopAt 2 (codeOf Tryz.f160)) σ K) n (impl_EditsOK.s2 x0 x5 x6 x7) K = obind (impl_EditsOK.l2 lp n x0 x5 x6 x7) (leK 0 impl_EditsOK.sr2 impl_EditsOK.sx2 K) := by
  intro n
  induction n with
  | zero => intros; rfl
  | succ n ih =>
    intro x0 x5 x6 x7
    rw [loopK_succ, impl_EditsOK.t_b2, impl_EditsOK.l2, impl_EditsOK.n_b2]
    simp only [ih, obind_some, leK_ret, leK_brk]
theorem impl_EditsOK.t_a2 (lp : Nat) (y : (List Edit)) : kont (R := Bool) (impl_EditsOK.E lp) impl_EditsOK.an lp (finK (impl_EditsOK.E lp) Tryz.f160 [.bool]) (stkAt 2 (codeOf Tryz.f160)) (.exit 0) (impl_EditsOK.sx2 y) = impl_EditsOK.a2 lp y := by kernel_rfl
theorem impl_EditsOK.t_q2 (lp : Nat) (z : Bool) : kont (R := Bool) (impl_EditsOK.E lp) impl_EditsOK.an lp (finK (impl_EditsOK.E lp) Tryz.f160 [.bool]) (stkAt 2 (codeOf Tryz.f160)) .ret (impl_EditsOK.sr2 z) = impl_EditsOK.q2 lp z := by kernel_rfl
theorem impl_EditsOK.t_e (lp : Nat) (x0 : List Edit) : evalF (impl_EditsOK.E lp) impl_EditsOK.an lp Tryz.f160 [.v (.sl TEdit)] [.bool] (x0, ()) = impl_EditsOK.e lp (fun x0 x5 x6 x7 => loopK impl_EditsOK.la2 (fun σ K => codeK (impl_EditsOK.E lp) impl_EditsOK.an lp (loopAt 2 (codeOf Tryz.f160)) σ K) lp (impl_EditsOK.s2 x0 x5 x6 x7) (kont (impl_EditsOK.E lp) impl_EditsOK.an lp (finK (impl_EditsOK.E lp) Tryz.f160 [.bool]) (stkAt 2 (codeOf Tryz.f160)))) x0 := by kernel_rfl
theorem impl_EditsOK.eq0 (lp : Nat) (x0 : List Edit) : evalF (impl_EditsOK.E lp) impl_EditsOK.an lp Tryz.f160 [.v (.sl TEdit)] [.bool] (x0, ()) = impl_EditsOK lp x0 := by
  rw [impl_EditsOK.t_e]; unfold impl_EditsOK
  simp only [leK_leF _ impl_EditsOK.sr2 impl_EditsOK.sx2, impl_EditsOK.k2, impl_EditsOK.t_a2, impl_EditsOK.t_q2]
theorem impl_EditsOK.eq (lp : Nat) (x : ADens [.v (.sl TEdit)]) : evalF (impl_EditsOK.E lp) impl_EditsOK.an lp Tryz.f160 [.v (.sl TEdit)] [.bool] x = (impl_EditsOK.S lp).F x := impl_EditsOK.eq0 lp x.1
theorem impl_EditsOK.ok (lp : Nat) : Sound Tryz.prog 160 (impl_EditsOK.S lp) := sound_of (E := impl_EditsOK.E lp) (env_ok tabFits tabEqs ⟨impl_NameOK.ok lp, impl_isValue.ok, trivial⟩ trivial) mixed Tryz.func160 (by kernel_rfl) (c := codeOf Tryz.f160) (by kernel_rfl) (by kernel_rfl) impl_EditsOK.an (fun x r h => ⟨lp, (impl_EditsOK.eq lp x).trans h⟩)
def impl_OpOK.E (lp : Nat) : Env := { tab := tab, fns := [(115, impl_NameOK.S lp), (159, impl_isHead.S), (61, impl_within.S), (160, impl_EditsOK.S lp)], ann := { own := [], ro := [1] } }
def impl_OpOK.an : An := { pre := [] }
def impl_OpOK.S (lp : Nat) : Spec := { ats := [.v TOp], rts := [.bool], F := fun x => impl_OpOK lp x.1 }
theorem impl_OpOK.eq (lp : Nat) (x : ADens [.v TOp]) : evalF (impl_OpOK.E lp) impl_OpOK.an lp Tryz.f111 [.v TOp] [.bool] x = (impl_OpOK.S lp).F x := by kernel_rfl
theorem impl_OpOK.ok (lp : Nat) : Sound Tryz.prog 111 (impl_OpOK.S lp) := sound_of (E := impl_OpOK.E lp) (env_ok tabFits tabEqs ⟨impl_NameOK.ok lp, impl_isHead.ok, impl_within.ok, impl_EditsOK.ok lp, trivial⟩ trivial) mixed Tryz.func111 (by kernel_rfl) (c := codeOf Tryz.f111) (by kernel_rfl) (by kernel_rfl) impl_OpOK.an (fun x r h => ⟨lp, (impl_OpOK.eq lp x).trans h⟩)
def slices_Clone_Edit.S : Spec := cloneS TEdit 32
def slices_Clone_Edit.R : RSpec := cloneR 226 TEdit 32
theorem slices_Clone_Edit.rok : SoundR Tryz.prog 186 slices_Clone_Edit.R := clone_okR Tryz.lays186 rfl ⟨Tryz.f186, Tryz.func186, by kernel_rfl, by kernel_rfl⟩ rfl (i := (find tab 226).getD ⟨none, 0, false, [], 0, .other, false⟩) (by kernel_rfl) (by kernel_rfl) (by decide) (Nat.le_of_ble_eq_true (by kernel_rfl))
theorem slices_Clone_Edit.ok : Sound Tryz.prog 186 slices_Clone_Edit.S := clone_okS slices_Clone_Edit.rok (by decide)
def impl_Wish_op.E : Env := { tab := tab, fns := [(186, slices_Clone_Edit.S)], ann := { own := [], ro := [2] } }
def impl_Wish_op.an : An := { pre := [] }
def impl_Wish_op.S : Spec := { ats := [.v TWish, .v (.int .i64)], rts := [TOp], F := fun x => impl_Wish_op x.1 x.2.1 }
theorem impl_Wish_op.eq (lp : Nat) (x : ADens [.v TWish, .v (.int .i64)]) : evalF (impl_Wish_op.E) impl_Wish_op.an lp Tryz.f153 [.v TWish, .v (.int .i64)] [TOp] x = (impl_Wish_op.S).F x := by kernel_rfl
theorem impl_Wish_op.ok : Sound Tryz.prog 153 (impl_Wish_op.S) := sound_of (E := impl_Wish_op.E) (env_ok tabFits tabEqs ⟨slices_Clone_Edit.ok, trivial⟩ trivial) mixed Tryz.func153 (by kernel_rfl) (c := codeOf Tryz.f153) (by kernel_rfl) (by kernel_rfl) impl_Wish_op.an (fun x r h => ⟨0, (impl_Wish_op.eq 0 x).trans h⟩)
def impl_WishOK.E (lp : Nat) : Env := { tab := tab, fns := [(77, impl_hasSource.S), (153, impl_Wish_op.S), (111, impl_OpOK.S lp), (115, impl_NameOK.S lp)], ann := { own := [], ro := [1] } }
def impl_WishOK.an : An := { pre := [] }
def impl_WishOK.S (lp : Nat) : Spec := { ats := [.v TWish], rts := [.bool], F := fun x => impl_WishOK lp x.1 }
theorem impl_WishOK.eq (lp : Nat) (x : ADens [.v TWish]) : evalF (impl_WishOK.E lp) impl_WishOK.an lp Tryz.f106 [.v TWish] [.bool] x = (impl_WishOK.S lp).F x := by kernel_rfl
theorem impl_WishOK.ok (lp : Nat) : Sound Tryz.prog 106 (impl_WishOK.S lp) := sound_of (E := impl_WishOK.E lp) (env_ok tabFits tabEqs ⟨impl_hasSource.ok, impl_Wish_op.ok, impl_OpOK.ok lp, impl_NameOK.ok lp, trivial⟩ trivial) mixed Tryz.func106 (by kernel_rfl) (c := codeOf Tryz.f106) (by kernel_rfl) (by kernel_rfl) impl_WishOK.an (fun x r h => ⟨lp, (impl_WishOK.eq lp x).trans h⟩)
def impl_Client_isDone.E : Env := { tab := tab, fns := [], ann := { own := [], ro := [1] } }
def impl_Client_isDone.an : An := { pre := [] }
def impl_Client_isDone.S : Spec := { ats := [.v TClient], rts := [.bool], F := fun x => impl_Client_isDone x.1 }
theorem impl_Client_isDone.eq (lp : Nat) (x : ADens [.v TClient]) : evalF (impl_Client_isDone.E) impl_Client_isDone.an lp Tryz.f75 [.v TClient] [.bool] x = (impl_Client_isDone.S).F x := by kernel_rfl
theorem impl_Client_isDone.ok : Sound Tryz.prog 75 (impl_Client_isDone.S) := sound_of (E := impl_Client_isDone.E) (env_ok tabFits tabEqs trivial trivial) mixed Tryz.func75 (by kernel_rfl) (c := codeOf Tryz.f75) (by kernel_rfl) (by kernel_rfl) impl_Client_isDone.an (fun x r h => ⟨0, (impl_Client_isDone.eq 0 x).trans h⟩)
def impl_Client_wish.E : Env := { tab := tab, fns := [], ann := { own := [], ro := [1] } }
def impl_Client_wish.an : An := { pre := [] }
def impl_Client_wish.S : Spec := { ats := [.v TClient], rts := [TWish], F := fun x => impl_Client_wish x.1 }
theorem impl_Client_wish.eq (lp : Nat) (x : ADens [.v TClient]) : evalF (impl_Client_wish.E) impl_Client_wish.an lp Tryz.f76 [.v TClient] [TWish] x = (impl_Client_wish.S).F x := by kernel_rfl
theorem impl_Client_wish.ok : Sound Tryz.prog 76 (impl_Client_wish.S) := sound_of (E := impl_Client_wish.E) (env_ok tabFits tabEqs trivial trivial) mixed Tryz.func76 (by kernel_rfl) (c := codeOf Tryz.f76) (by kernel_rfl) (by kernel_rfl) impl_Client_wish.an (fun x r h => ⟨0, (impl_Client_wish.eq 0 x).trans h⟩)
def impl_Client_isFresh.E : Env := { tab := tab, fns := [], ann := { own := [], ro := [1] } }
def impl_Client_isFresh.an : An := { pre := [] }
def impl_Client_isFresh.S : Spec := { ats := [.v TClient], rts := [.bool], F := fun x => impl_Client_isFresh x.1 }
theorem impl_Client_isFresh.eq (lp : Nat) (x : ADens [.v TClient]) : evalF (impl_Client_isFresh.E) impl_Client_isFresh.an lp Tryz.f154 [.v TClient] [.bool] x = (impl_Client_isFresh.S).F x := by kernel_rfl
theorem impl_Client_isFresh.ok : Sound Tryz.prog 154 (impl_Client_isFresh.S) := sound_of (E := impl_Client_isFresh.E) (env_ok tabFits tabEqs trivial trivial) mixed Tryz.func154 (by kernel_rfl) (c := codeOf Tryz.f154) (by kernel_rfl) (by kernel_rfl) impl_Client_isFresh.an (fun x r h => ⟨0, (impl_Client_isFresh.eq 0 x).trans h⟩)
def slices_Equal_Entry.E (lp : Nat) : Env := { tab := tab, fns := [], ann := { own := [], ro := [] } }
def slices_Equal_Entry.la4 : LoopAn := { kn := { tms := [0, 1, 12, 13] }, kx := {}, kr := { tms := [4] } }
def slices_Equal_Entry.an : An := { loops := [(4, slices_Equal_Entry.la4)] }
def slices_Equal_Entry.s4 (x0 : List Entry) (x1 : List Entry) (x12 : Int) (x13 : Int) : St := ⟨.v (.one (.b (.d (.sl TEntry) x0))) :: .v (.one (.b (.d (.sl TEntry) x1))) :: (sk 10 (.v (.one (.b (.d (.int .i64) x12))) :: .v (.one (.b (.d (.int .i64) x13))) :: (sk 12 ([])))), sko 26 ([])⟩
def slices_Equal_Entry.sx4 (y : Unit) : St := ⟨sk 26 ([]), sko 26 ([])⟩
def slices_Equal_Entry.sr4 (z : Bool) : St := ⟨sk 4 (.v (.one (.b (.d .bool z))) :: (sk 21 ([]))), sko 26 ([])⟩
def slices_Equal_Entry.S (lp : Nat) : Spec := { ats := [.v (.sl TEntry), .v (.sl TEntry)], rts := [.bool], F := fun x => slices_Equal_Entry lp x.1 x.2.1 }
theorem slices_Equal_Entry.t_b4 (lp : Nat) {R : Type} (N : St → Option R) (X : Out → St → Option R) (x0 : List Entry) (x1 : List Entry) (x12 : Int) (x13 : Int) : codeK (slices_Equal_Entry.E lp) slices_Equal_Entry.an lp (loopAt 4 (codeOf Tryz.f157)) (slices_Equal_Entry.s4 x0 x1 x12 x13) (lpK slices_Equal_Entry.la4 N X) = slices_Equal_Entry.b4 lp (fun x0 x1 x12 x13 => N (slices_Equal_Entry.s4 x0 x1 x12 x13)) (fun y => X (.exit 0) (slices_Equal_Entry.sx4 y)) (fun z => X .ret (slices_Equal_Entry.sr4 z)) x0 x1 x12 x13 := by kernel_rfl
theorem slices_Equal_Entry.n_b4 (lp : Nat) {R S : Type} (N : List Entry → List Entry → Int → Int → Option R) (X : Unit → Option R) (Q : Bool → Option R) (x0 : List Entry) (x1 : List Entry) (x12 : Int) (x13 : Int) (k : R → Option S) : obind (slices_Equal_Entry.b4 lp N X Q x0 x1 x12 x13) k = slices_Equal_Entry.b4 lp (fun x0 x1 x12 x13 => obind (N x0 x1 x12 x13) k) (fun y => obind (X y) k) (fun z => obind (Q z) k) x0 x1 x12 x13 := by
  unfold slices_Equal_Entry.b4; simp only [obind_none, obind_some, obind_cond, obind_oif, obind_oget, obind_obind]
theorem slices_Equal_Entry.k4 (lp : Nat) {R : Type} (K : Out → St → Option R) : ∀ (n : Nat) (x0 : List Entry) (x1 : List Entry) (x12 : Int) (x13 : Int), loopK slices_Equal_Entry.la4 (fun σ K => codeK (slices_Equal_Entry.E lp) slices_Equal_Entry.an lp (loopAt 4 (codeOf Tryz.f157)) σ K) n (slices_Equal_Entry.s4 x0 x1 x12 x13) K = obind (slices_Equal_Entry.l4 lp n x0 x1 x12 x13) (leK 0 slices_Equal_Entry.sr4 slices_Equal_Entry.sx4 K) := by
  intro n
  induction n with
  | zero => intros; rfl
  | succ n ih =>
    intro x0 x1 x12 x13
    rw [loopK_succ, slices_Equal_Entry.t_b4, slices_Equal_Entry.l4, slices_Equal_Entry.n_b4]
    simp only [ih, obind_some, leK_ret, leK_brk]
theorem slices_Equal_Entry.t_a4 (lp : Nat) (y : Unit) : kont (R := Bool) (slices_Equal_Entry.E lp) slices_Equal_Entry.an lp (finK (slices_Equal_Entry.E lp) Tryz.f157 [.bool]) (stkAt 4 (codeOf Tryz.f157)) (.exit 0) (slices_Equal_Entry.sx4 y) = slices_Equal_Entry.a4 lp y := by kernel_rfl
theorem slices_Equal_Entry.t_q4 (lp : Nat) (z : Bool) : kont (R := Bool) (slices_Equal_Entry.E lp) slices_Equal_Entry.an lp (finK (slices_Equal_Entry.E lp) Tryz.f157 [.bool]) (stkAt 4 (codeOf Tryz.f157)) .ret (slices_Equal_Entry.sr4 z) = slices_Equal_Entry.q4 lp z := by kernel_rfl
theorem slices_Equal_Entry.t_e (lp : Nat) (x0 : List Entry) (x1 : List Entry) : evalF (slices_Equal_Entry.E lp) slices_Equal_Entry.an lp Tryz.f157 [.v (.sl TEntry), .v (.sl TEntry)] [.bool] (x0, x1, ()) = slices_Equal_Entry.e lp (fun x0 x1 x12 x13 => loopK slices_Equal_Entry.la4 (fun σ K => codeK (slices_Equal_Entry.E lp) slices_Equal_Entry.an lp (loopAt 4 (codeOf Tryz.f157)) σ K) lp (slices_Equal_Entry.s4 x0 x1 x12 x13) (kont (slices_Equal_Entry.E lp) slices_Equal_Entry.an lp (finK (slices_Equal_Entry.E lp) Tryz.f157 [.bool]) (stkAt 4 (codeOf Tryz.f157)))) x0 x1 := by kernel_rfl
theorem slices_Equal_Entry.eq0 (lp : Nat) (x0 : List Entry) (x1 : List Entry) : evalF (slices_Equal_Entry.E lp) slices_Equal_Entry.an lp Tryz.f157 [.v (.sl TEntry), .v (.sl TEntry)] [.bool] (x0, x1, ()) = slices_Equal_Entry lp x0 x1 := by
  rw [slices_Equal_Entry.t_e]; unfold slices_Equal_Entry
  simp only [leK_leF _ slices_Equal_Entry.sr4 slices_Equal_Entry.sx4, slices_Equal_Entry.k4, slices_Equal_Entry.t_a4, slices_Equal_Entry.t_q4]
theorem slices_Equal_Entry.eq (lp : Nat) (x : ADens [.v (.sl TEntry), .v (.sl TEntry)]) : evalF (slices_Equal_Entry.E lp) slices_Equal_Entry.an lp Tryz.f157 [.v (.sl TEntry), .v (.sl TEntry)] [.bool] x = (slices_Equal_Entry.S lp).F x := slices_Equal_Entry.eq0 lp x.1 x.2.1
theorem slices_Equal_Entry.ok (lp : Nat) : Sound Tryz.prog 157 (slices_Equal_Entry.S lp) := sound_of (E := slices_Equal_Entry.E lp) (env_ok tabFits tabEqs trivial trivial) mixed Tryz.func157 (by kernel_rfl) (c := codeOf Tryz.f157) (by kernel_rfl) (by kernel_rfl) slices_Equal_Entry.an (fun x r h => ⟨lp, (slices_Equal_Entry.eq lp x).trans h⟩)
def impl_planned.E : Env := { tab := tab, fns := [], ann := { own := [], ro := [] } }
def impl_planned.an : An := { pre := [] }
def impl_planned.S : Spec := { ats := [.v (.sl TEntry), .v (.sl .str), .v (.int .i64), .v (.sl (.int .i64))], rts := [TPlan], F := fun x => impl_planned x.1 x.2.1 x.2.2.1 x.2.2.2.1 }
theorem impl_planned.eq (lp : Nat) (x : ADens [.v (.sl TEntry), .v (.sl .str), .v (.int .i64), .v (.sl (.int .i64))]) : evalF (impl_planned.E) impl_planned.an lp Tryz.f190 [.v (.sl TEntry), .v (.sl .str), .v (.int .i64), .v (.sl (.int .i64))] [TPlan] x = (impl_planned.S).F x := by kernel_rfl
theorem impl_planned.ok : Sound Tryz.prog 190 (impl_planned.S) := sound_of (E := impl_planned.E) (env_ok tabFits tabEqs trivial trivial) mixed Tryz.func190 (by kernel_rfl) (c := codeOf Tryz.f190) (by kernel_rfl) (by kernel_rfl) impl_planned.an (fun x r h => ⟨0, (impl_planned.eq 0 x).trans h⟩)
def impl_limited.E : Env := { tab := tab, fns := [], ann := { own := [], ro := [] } }
def impl_limited.an : An := { pre := [] }
def impl_limited.S : Spec := { ats := [.v (.sl TEntry)], rts := [(.sl TEntry), (.int .i64)], F := fun x => impl_limited x.1 }
theorem impl_limited.eq (lp : Nat) (x : ADens [.v (.sl TEntry)]) : evalF (impl_limited.E) impl_limited.an lp Tryz.f202 [.v (.sl TEntry)] [(.sl TEntry), (.int .i64)] x = (impl_limited.S).F x := by kernel_rfl
theorem impl_limited.ok : Sound Tryz.prog 202 (impl_limited.S) := sound_of (E := impl_limited.E) (env_ok tabFits tabEqs trivial trivial) mixed Tryz.func202 (by kernel_rfl) (c := codeOf Tryz.f202) (by kernel_rfl) (by kernel_rfl) impl_limited.an (fun x r h => ⟨0, (impl_limited.eq 0 x).trans h⟩)
def slices_Clone_Entry.S : Spec := cloneS TEntry 24
def slices_Clone_Entry.R : RSpec := cloneR 196 TEntry 24
theorem slices_Clone_Entry.rok : SoundR Tryz.prog 214 slices_Clone_Entry.R := clone_okR Tryz.lays214 rfl ⟨Tryz.f214, Tryz.func214, by kernel_rfl, by kernel_rfl⟩ rfl (i := (find tab 196).getD ⟨none, 0, false, [], 0, .other, false⟩) (by kernel_rfl) (by kernel_rfl) (by decide) (Nat.le_of_ble_eq_true (by kernel_rfl))
theorem slices_Clone_Entry.ok : Sound Tryz.prog 214 slices_Clone_Entry.S := clone_okS slices_Clone_Entry.rok (by decide)
def slices_BinarySearchFunc_Entry.E (lp : Nat) : Env := { tab := tab, fns := [], ann := { own := [], ro := [] } }
def slices_BinarySearchFunc_Entry.la3 : LoopAn := { kn := { tms := [0, 1, 2, 8, 9, 10] }, kx := { tms := [0, 1, 2, 8, 9] }, kr := {} }
def slices_BinarySearchFunc_Entry.an : An := { loops := [(3, slices_BinarySearchFunc_Entry.la3)] }
def slices_BinarySearchFunc_Entry.s3 (x0 : List Entry) (x1 : ByteArray) (x2 : (Entry × ByteArray × Unit) → Option Int) (x8 : Int) (x9 : Int) (x10 : Int) : St := ⟨.v (.one (.b (.d (.sl TEntry) x0))) :: .v (.one (.b (.d .str x1))) :: .v (.one (.b (.cl (.pair TEntry (.pair .str .unit)) (.int .i64) x2))) :: (sk 5 (.v (.one (.b (.d (.int .i64) x8))) :: .v (.one (.b (.d (.int .i64) x9))) :: .v (.one (.b (.d (.int .i64) x10))) :: (sk 38 ([])))), sko 49 ([])⟩
def slices_BinarySearchFunc_Entry.sx3 (y : (List Entry) × ByteArray × ((Entry × ByteArray × Unit) → Option Int) × Int × Int) : St := ⟨.v (.one (.b (.d (.sl TEntry) y.1))) :: .v (.one (.b (.d .str y.2.1))) :: .v (.one (.b (.cl (.pair TEntry (.pair .str .unit)) (.int .i64) y.2.2.1))) :: (sk 5 (.v (.one (.b (.d (.int .i64) y.2.2.2.1))) :: .v (.one (.b (.d (.int .i64) y.2.2.2.2))) :: (sk 39 ([])))), sko 49 ([])⟩
def slices_BinarySearchFunc_Entry.sr3 (z : Empty) : St := z.elim
def slices_BinarySearchFunc_Entry.S (lp : Nat) : Spec := { ats := [.v (.sl TEntry), .v .str, .clo (.pair TEntry (.pair .str .unit)) (.int .i64)], rts := [(.int .i64), .bool], F := fun x => slices_BinarySearchFunc_Entry lp x.1 x.2.1 x.2.2.1 }
theorem slices_BinarySearchFunc_Entry.t_b3 (lp : Nat) {R : Type} (N : St → Option R) (X : Out → St → Option R) (x0 : List Entry) (x1 : ByteArray) (x2 : (Entry × ByteArray × Unit) → Option Int) (x8 : Int) (x9 : Int) (x10 : Int) : codeK (slices_BinarySearchFunc_Entry.E lp) slices_BinarySearchFunc_Entry.an lp (loopAt 3 (codeOf Tryz.f220)) (slices_BinarySearchFunc_Entry.s3 x0 x1 x2 x8 x9 x10) (lpK slices_BinarySearchFunc_Entry.la3 N X) = slices_BinarySearchFunc_Entry.b3 lp (fun x0 x1 x2 x8 x9 x10 => N (slices_BinarySearchFunc_Entry.s3 x0 x1 x2 x8 x9 x10)) (fun y => X (.exit 0) (slices_BinarySearchFunc_Entry.sx3 y)) (fun z => X .ret (slices_BinarySearchFunc_Entry.sr3 z)) x0 x1 x2 x8 x9 x10 := by kernel_rfl
theorem slices_BinarySearchFunc_Entry.n_b3 (lp : Nat) {R S : Type} (N : List Entry → ByteArray → ((Entry × ByteArray × Unit) → Option Int) → Int → Int → Int → Option R) (X : ((List Entry) × ByteArray × ((Entry × ByteArray × Unit) → Option Int) × Int × Int) → Option R) (Q : Empty → Option R) (x0 : List Entry) (x1 : ByteArray) (x2 : (Entry × ByteArray × Unit) → Option Int) (x8 : Int) (x9 : Int) (x10 : Int) (k : R → Option S) : obind (slices_BinarySearchFunc_Entry.b3 lp N X Q x0 x1 x2 x8 x9 x10) k = slices_BinarySearchFunc_Entry.b3 lp (fun x0 x1 x2 x8 x9 x10 => obind (N x0 x1 x2 x8 x9 x10) k) (fun y => obind (X y) k) (fun z => obind (Q z) k) x0 x1 x2 x8 x9 x10 := by
  unfold slices_BinarySearchFunc_Entry.b3; simp only [obind_none, obind_some, obind_cond, obind_oif, obind_oget, obind_obind]
theorem slices_BinarySearchFunc_Entry.k3 (lp : Nat) {R : Type} (K : Out → St → Option R) : ∀ (n : Nat) (x0 : List Entry) (x1 : ByteArray) (x2 : (Entry × ByteArray × Unit) → Option Int) (x8 : Int) (x9 : Int) (x10 : Int), loopK slices_BinarySearchFunc_Entry.la3 (fun σ K => codeK (slices_BinarySearchFunc_Entry.E lp) slices_BinarySearchFunc_Entry.an lp (loopAt 3 (codeOf Tryz.f220)) σ K) n (slices_BinarySearchFunc_Entry.s3 x0 x1 x2 x8 x9 x10) K = obind (slices_BinarySearchFunc_Entry.l3 lp n x0 x1 x2 x8 x9 x10) (leK 0 slices_BinarySearchFunc_Entry.sr3 slices_BinarySearchFunc_Entry.sx3 K) := by
  intro n
  induction n with
  | zero => intros; rfl
  | succ n ih =>
    intro x0 x1 x2 x8 x9 x10
    rw [loopK_succ, slices_BinarySearchFunc_Entry.t_b3, slices_BinarySearchFunc_Entry.l3, slices_BinarySearchFunc_Entry.n_b3]
    simp only [ih, obind_some, leK_ret, leK_brk]
theorem slices_BinarySearchFunc_Entry.t_a3 (lp : Nat) (y : (List Entry) × ByteArray × ((Entry × ByteArray × Unit) → Option Int) × Int × Int) : kont (R := Int × Bool) (slices_BinarySearchFunc_Entry.E lp) slices_BinarySearchFunc_Entry.an lp (finK (slices_BinarySearchFunc_Entry.E lp) Tryz.f220 [(.int .i64), .bool]) (stkAt 3 (codeOf Tryz.f220)) (.exit 0) (slices_BinarySearchFunc_Entry.sx3 y) = slices_BinarySearchFunc_Entry.a3 lp y := by kernel_rfl
theorem slices_BinarySearchFunc_Entry.t_e (lp : Nat) (x0 : List Entry) (x1 : ByteArray) (x2 : (Entry × ByteArray × Unit) → Option Int) : evalF (slices_BinarySearchFunc_Entry.E lp) slices_BinarySearchFunc_Entry.an lp Tryz.f220 [.v (.sl TEntry), .v .str, .clo (.pair TEntry (.pair .str .unit)) (.int .i64)] [(.int .i64), .bool] (x0, x1, x2, ()) = slices_BinarySearchFunc_Entry.e lp (fun x0 x1 x2 x8 x9 x10 => loopK slices_BinarySearchFunc_Entry.la3 (fun σ K => codeK (slices_BinarySearchFunc_Entry.E lp) slices_BinarySearchFunc_Entry.an lp (loopAt 3 (codeOf Tryz.f220)) σ K) lp (slices_BinarySearchFunc_Entry.s3 x0 x1 x2 x8 x9 x10) (kont (slices_BinarySearchFunc_Entry.E lp) slices_BinarySearchFunc_Entry.an lp (finK (slices_BinarySearchFunc_Entry.E lp) Tryz.f220 [(.int .i64), .bool]) (stkAt 3 (codeOf Tryz.f220)))) x0 x1 x2 := by kernel_rfl
theorem slices_BinarySearchFunc_Entry.eq0 (lp : Nat) (x0 : List Entry) (x1 : ByteArray) (x2 : (Entry × ByteArray × Unit) → Option Int) : evalF (slices_BinarySearchFunc_Entry.E lp) slices_BinarySearchFunc_Entry.an lp Tryz.f220 [.v (.sl TEntry), .v .str, .clo (.pair TEntry (.pair .str .unit)) (.int .i64)] [(.int .i64), .bool] (x0, x1, x2, ()) = slices_BinarySearchFunc_Entry lp x0 x1 x2 := by
  rw [slices_BinarySearchFunc_Entry.t_e]; unfold slices_BinarySearchFunc_Entry
  simp only [leK_ret0 _ slices_BinarySearchFunc_Entry.sr3 slices_BinarySearchFunc_Entry.sx3, slices_BinarySearchFunc_Entry.k3, slices_BinarySearchFunc_Entry.t_a3]
theorem slices_BinarySearchFunc_Entry.eq (lp : Nat) (x : ADens [.v (.sl TEntry), .v .str, .clo (.pair TEntry (.pair .str .unit)) (.int .i64)]) : evalF (slices_BinarySearchFunc_Entry.E lp) slices_BinarySearchFunc_Entry.an lp Tryz.f220 [.v (.sl TEntry), .v .str, .clo (.pair TEntry (.pair .str .unit)) (.int .i64)] [(.int .i64), .bool] x = (slices_BinarySearchFunc_Entry.S lp).F x := slices_BinarySearchFunc_Entry.eq0 lp x.1 x.2.1 x.2.2.1
theorem slices_BinarySearchFunc_Entry.ok (lp : Nat) : Sound Tryz.prog 220 (slices_BinarySearchFunc_Entry.S lp) := sound_of (E := slices_BinarySearchFunc_Entry.E lp) (env_ok tabFits tabEqs trivial trivial) mixed Tryz.func220 (by kernel_rfl) (c := codeOf Tryz.f220) (by kernel_rfl) (by kernel_rfl) slices_BinarySearchFunc_Entry.an (fun x r h => ⟨lp, (slices_BinarySearchFunc_Entry.eq lp x).trans h⟩)
def strings_Compare.S : Spec := { ats := [.v .str, .v .str], rts := [.int .i64], F := fun x => strings_Compare x.1 x.2.1 }
theorem strings_Compare.ok : Sound Tryz.prog 222 strings_Compare.S := by
  refine ⟨⟨Tryz.f222, Tryz.func222, by kernel_rfl, by kernel_rfl⟩, fun w F x vs r hv hr => ?_⟩
  obtain ⟨u, vs1, rfl, h1, v, vs2, rfl, h2, h3⟩ := hv
  obtain rfl : vs2 = [] := h3
  obtain rfl : u = .string x.1 := by have h : [u] = [Value.string x.1] := h1; injection h
  obtain rfl : v = .string x.2.1 := by have h : [v] = [Value.string x.2.1] := h2; injection h
  have hr' : some (Lib.compareBytes x.1.data.toList x.2.1.data.toList) = some r := hr
  injection hr' with hr'
  refine (Any.strings_Compare Tryz.lays106 x.1 x.2.1 w).mono ?_
  rintro e w' ⟨rfl, rfl⟩
  rw [hr']
  exact ⟨[_], rfl, ⟨_, rfl, rfl⟩, Go.RowKit.Below.refl _ _⟩
def impl_find_c1.E : Env := { tab := tab, fns := [(222, strings_Compare.S)], ann := { own := [], ro := [2] } }
def impl_find_c1.an : An := { pre := [] }
def impl_find_c1.S : Spec := { ats := [.v TEntry, .v .str], rts := [(.int .i64)], F := fun x => impl_find_c1 x.1 x.2.1 }
theorem impl_find_c1.eq (lp : Nat) (x : ADens [.v TEntry, .v .str]) : evalF (impl_find_c1.E) impl_find_c1.an lp Tryz.f221 [.v TEntry, .v .str] [(.int .i64)] x = (impl_find_c1.S).F x := by kernel_rfl
theorem impl_find_c1.ok : Sound Tryz.prog 221 (impl_find_c1.S) := sound_of (E := impl_find_c1.E) (env_ok tabFits tabEqs ⟨strings_Compare.ok, trivial⟩ trivial) mixed Tryz.func221 (by kernel_rfl) (c := codeOf Tryz.f221) (by kernel_rfl) (by kernel_rfl) impl_find_c1.an (fun x r h => ⟨0, (impl_find_c1.eq 0 x).trans h⟩)
def impl_find.E (lp : Nat) : Env := { tab := tab, fns := [(221, impl_find_c1.S), (220, slices_BinarySearchFunc_Entry.S lp)], ann := { own := [], ro := [] } }
def impl_find.an : An := { pre := [] }
def impl_find.S (lp : Nat) : Spec := { ats := [.v (.sl TEntry), .v .str], rts := [(.int .i64), .bool], F := fun x => impl_find lp x.1 x.2.1 }
theorem impl_find.eq (lp : Nat) (x : ADens [.v (.sl TEntry), .v .str]) : evalF (impl_find.E lp) impl_find.an lp Tryz.f215 [.v (.sl TEntry), .v .str] [(.int .i64), .bool] x = (impl_find.S lp).F x := by kernel_rfl
theorem impl_find.ok (lp : Nat) : Sound Tryz.prog 215 (impl_find.S lp) := sound_of (E := impl_find.E lp) (env_ok tabFits tabEqs ⟨impl_find_c1.ok, slices_BinarySearchFunc_Entry.ok lp, trivial⟩ trivial) mixed Tryz.func215 (by kernel_rfl) (c := codeOf Tryz.f215) (by kernel_rfl) (by kernel_rfl) impl_find.an (fun x r h => ⟨lp, (impl_find.eq lp x).trans h⟩)
def slices_Delete_Entry.R : RSpec := deleteR 196 TEntry
theorem slices_Delete_Entry.rok : SoundR Tryz.prog 216 slices_Delete_Entry.R := delete_ok ⟨Tryz.f216, Tryz.func216, by kernel_rfl, by kernel_rfl⟩ Tryz.delWalk
def slices_Insert_Entry.R : RSpec := insertR 196 TEntry 24
theorem slices_Insert_Entry.rok : SoundR Tryz.prog 217 slices_Insert_Entry.R := insert_ok ⟨Tryz.f217, Tryz.func217, by kernel_rfl, by kernel_rfl⟩ (by decide) Tryz.insWalk
def impl_edited.E (lp : Nat) : Env := { tab := tab, fns := [(215, impl_find.S lp)], ann := { own := [], ro := [] }, rows := [(214, slices_Clone_Entry.R), (216, slices_Delete_Entry.R), (217, slices_Insert_Entry.R)] }
def impl_edited.la3 : LoopAn := { kn := { tms := [5, 12, 13, 14], obs := [11] }, kx := { tms := [5], obs := [11] }, kr := {} }
def impl_edited.an : An := { loops := [(3, impl_edited.la3)] }
def impl_edited.s3 (x12 : List Edit) (x13 : Int) (x14 : Int) (xo11 : List Entry) : St := ⟨sk 5 (.v (.one (.row 11 0)) :: (sk 6 (.v (.one (.b (.d (.sl TEdit) x12))) :: .v (.one (.b (.d (.int .i64) x13))) :: .v (.one (.b (.d (.int .i64) x14))) :: (sk 30 ([]))))), sko 11 (some (.row 196 TEntry xo11 0) :: (sko 33 ([])))⟩
def impl_edited.sx3 (y : (List Entry)) : St := ⟨sk 5 (.v (.one (.row 11 0)) :: (sk 39 ([]))), sko 11 (some (.row 196 TEntry y 0) :: (sko 33 ([])))⟩
def impl_edited.sr3 (z : Empty) : St := z.elim
def impl_edited.S (lp : Nat) : Spec := { ats := [.v (.sl TEntry), .v (.sl TEdit)], rts := [(.sl TEntry)], F := fun x => impl_edited lp x.1 x.2.1 }
theorem impl_edited.t_b3 (lp : Nat) {R : Type} (N : St → Option R) (X : Out → St → Option R) (x12 : List Edit) (x13 : Int) (x14 : Int) (xo11 : List Entry) : codeK (impl_edited.E lp) impl_edited.an lp (loopAt 3 (codeOf Tryz.f203)) (impl_edited.s3 x12 x13 x14 xo11) (lpK impl_edited.la3 N X) = impl_edited.b3 lp (fun x12 x13 x14 xo11 => N (impl_edited.s3 x12 x13 x14 xo11)) (fun y => X (.exit 0) (impl_edited.sx3 y)) (fun z => X .ret (impl_edited.sr3 z)) x12 x13 x14 xo11 := by kernel_rfl
theorem impl_edited.n_b3 (lp : Nat) {R S : Type} (N : List Edit → Int → Int → List Entry → Option R) (X : ((List Entry)) → Option R) (Q : Empty → Option R) (x12 : List Edit) (x13 : Int) (x14 : Int) (xo11 : List Entry) (k : R → Option S) : obind (impl_edited.b3 lp N X Q x12 x13 x14 xo11) k = impl_edited.b3 lp (fun x12 x13 x14 xo11 => obind (N x12 x13 x14 xo11) k) (fun y => obind (X y) k) (fun z => obind (Q z) k) x12 x13 x14 xo11 := by
  unfold impl_edited.b3; simp only [obind_none, obind_some, obind_cond, obind_oif, obind_oget, obind_obind]
theorem impl_edited.k3 (lp : Nat) {R : Type} (K : Out → St → Option R) : ∀ (n : Nat) (x12 : List Edit) (x13 : Int) (x14 : Int) (xo11 : List Entry), loopK impl_edited.la3 (fun σ K => codeK (impl_edited.E lp) impl_edited.an lp (loopAt 3 (codeOf Tryz.f203)) σ K) n (impl_edited.s3 x12 x13 x14 xo11) K = obind (impl_edited.l3 lp n x12 x13 x14 xo11) (leK 0 impl_edited.sr3 impl_edited.sx3 K) := by
  intro n
  induction n with
  | zero => intros; rfl
  | succ n ih =>
    intro x12 x13 x14 xo11
    rw [loopK_succ, impl_edited.t_b3, impl_edited.l3, impl_edited.n_b3]
    simp only [ih, obind_some, leK_ret, leK_brk]
theorem impl_edited.t_a3 (lp : Nat) (y : (List Entry)) : kont (R := (List Entry)) (impl_edited.E lp) impl_edited.an lp (finK (impl_edited.E lp) Tryz.f203 [(.sl TEntry)]) (stkAt 3 (codeOf Tryz.f203)) (.exit 0) (impl_edited.sx3 y) = impl_edited.a3 lp y := by kernel_rfl
theorem impl_edited.t_e (lp : Nat) (x0 : List Entry) (x1 : List Edit) : evalF (impl_edited.E lp) impl_edited.an lp Tryz.f203 [.v (.sl TEntry), .v (.sl TEdit)] [(.sl TEntry)] (x0, x1, ()) = impl_edited.e lp (fun x12 x13 x14 xo11 => loopK impl_edited.la3 (fun σ K => codeK (impl_edited.E lp) impl_edited.an lp (loopAt 3 (codeOf Tryz.f203)) σ K) lp (impl_edited.s3 x12 x13 x14 xo11) (kont (impl_edited.E lp) impl_edited.an lp (finK (impl_edited.E lp) Tryz.f203 [(.sl TEntry)]) (stkAt 3 (codeOf Tryz.f203)))) x0 x1 := by kernel_rfl
theorem impl_edited.eq0 (lp : Nat) (x0 : List Entry) (x1 : List Edit) : evalF (impl_edited.E lp) impl_edited.an lp Tryz.f203 [.v (.sl TEntry), .v (.sl TEdit)] [(.sl TEntry)] (x0, x1, ()) = impl_edited lp x0 x1 := by
  rw [impl_edited.t_e]; unfold impl_edited
  simp only [leK_ret0 _ impl_edited.sr3 impl_edited.sx3, impl_edited.k3, impl_edited.t_a3]
theorem impl_edited.eq (lp : Nat) (x : ADens [.v (.sl TEntry), .v (.sl TEdit)]) : evalF (impl_edited.E lp) impl_edited.an lp Tryz.f203 [.v (.sl TEntry), .v (.sl TEdit)] [(.sl TEntry)] x = (impl_edited.S lp).F x := impl_edited.eq0 lp x.1 x.2.1
theorem impl_edited.ok (lp : Nat) : Sound Tryz.prog 203 (impl_edited.S lp) := sound_of (E := impl_edited.E lp) (env_ok tabFits tabEqs ⟨impl_find.ok lp, trivial⟩ ⟨slices_Clone_Entry.rok, slices_Delete_Entry.rok, slices_Insert_Entry.rok, trivial⟩) mixed Tryz.func203 (by kernel_rfl) (c := codeOf Tryz.f203) (by kernel_rfl) (by kernel_rfl) impl_edited.an (fun x r h => ⟨lp, (impl_edited.eq lp x).trans h⟩)
theorem slices_SortFunc_Edit.cmp (x y : Edit) (W : Go.World) : Calls Tryz.prog 226 #[.agg (encC TEdit x).toArray, .agg (encC TEdit y).toArray] W fun e w' => e = .returned (.int .i64 (cmpBy (fun z : Edit => z.1) x y)) ∧ ∃ q os', w' = Sort.grow (W.drewN q) os' := by
  show Calls Tryz.prog 226 #[.agg #[.string x.1, .int .i64 x.2.1, .bool x.2.2.1], .agg #[.string y.1, .int .i64 y.2.1, .bool y.2.2.1]] W _
  have mixed : Tryz.prog.follows .mixedOrders = true := by kernel_rfl
  go_enter Tryz.func226, Tryz.ntmps226
  go_wp2_with (go_at_call 222; refine (Any.strings_Compare Tryz.lays106 _ _ _).mono ?_; rintro e w' ⟨rfl, rfl⟩)
  go_ret
  rw [Sort.alloc_eq_grow, Sort.alloc_eq_grow, Sort.grow_grow]
  exact ⟨rfl, 0, _, rfl⟩
def slices_SortFunc_Edit.R : RSpec := { kind := .inplace, e := 226, t := TEdit, ats := [], F := fun l _ => slices_SortFunc_Edit l, fn := some 226 }
theorem slices_SortFunc_Edit.rok : SoundR Tryz.prog 225 slices_SortFunc_Edit.R := by
  refine sort_ok (t := TEdit) Tryz.lays225 (f := 225) rfl ⟨Tryz.f225, Tryz.func225, by kernel_rfl, by kernel_rfl⟩ (e := 226) rfl (by decide) (i := (find tab 226).getD ⟨none, 0, false, [], 0, .other, false⟩) (by kernel_rfl) (by kernel_rfl) (by kernel_rfl) (by decide) (cmpBy fun z : Edit => z.1) (swo_by _) ⟨Tryz.f226, Tryz.func226, by kernel_rfl, by kernel_rfl⟩ slices_SortFunc_Edit.cmp
def impl_diff_c1.E : Env := { tab := tab, fns := [(222, strings_Compare.S)], ann := { own := [], ro := [2, 3] } }
def impl_diff_c1.an : An := { pre := [] }
def impl_diff_c1.S : Spec := { ats := [.v TEdit, .v TEdit], rts := [(.int .i64)], F := fun x => impl_diff_c1 x.1 x.2.1 }
theorem impl_diff_c1.eq (lp : Nat) (x : ADens [.v TEdit, .v TEdit]) : evalF (impl_diff_c1.E) impl_diff_c1.an lp Tryz.f226 [.v TEdit, .v TEdit] [(.int .i64)] x = (impl_diff_c1.S).F x := by kernel_rfl
theorem impl_diff_c1.ok : Sound Tryz.prog 226 (impl_diff_c1.S) := sound_of (E := impl_diff_c1.E) (env_ok tabFits tabEqs ⟨strings_Compare.ok, trivial⟩ trivial) mixed Tryz.func226 (by kernel_rfl) (c := codeOf Tryz.f226) (by kernel_rfl) (by kernel_rfl) impl_diff_c1.an (fun x r h => ⟨0, (impl_diff_c1.eq 0 x).trans h⟩)
def impl_diff.E (lp : Nat) : Env := { tab := tab, fns := [(215, impl_find.S lp), (226, impl_diff_c1.S)], ann := { own := [], ro := [] }, rows := [(225, slices_SortFunc_Edit.R)] }
def impl_diff.la3 : LoopAn := { kn := { proms := [(46, 5, 226, TEdit)], tms := [0, 1, 5, 14, 15, 16], obs := [46] }, kx := { tms := [0, 1, 5], obs := [46] }, kr := {} }
def impl_diff.la10 : LoopAn := { kn := { tms := [1, 5, 48, 49, 50], obs := [46] }, kx := { tms := [5], obs := [46] }, kr := {} }
def impl_diff.an : An := { loops := [(3, impl_diff.la3), (10, impl_diff.la10)] }
def impl_diff.s3 (x0 : List Entry) (x1 : List Entry) (x14 : List Entry) (x15 : Int) (x16 : Int) (xo46 : List Edit) : St := ⟨.v (.one (.b (.d (.sl TEntry) x0))) :: .v (.one (.b (.d (.sl TEntry) x1))) :: (sk 3 (.v (.one (.row 46 0)) :: (sk 8 (.v (.one (.b (.d (.sl TEntry) x14))) :: .v (.one (.b (.d (.int .i64) x15))) :: .v (.one (.b (.d (.int .i64) x16))) :: (sk 56 ([])))))), sko 46 (some (.row 226 TEdit xo46 0) :: (sko 26 ([])))⟩
def impl_diff.sx3 (y : (List Entry) × (List Entry) × (List Edit)) : St := ⟨.v (.one (.b (.d (.sl TEntry) y.1))) :: .v (.one (.b (.d (.sl TEntry) y.2.1))) :: (sk 3 (.v (.one (.row 46 0)) :: (sk 67 ([])))), sko 46 (some (.row 226 TEdit y.2.2 0) :: (sko 26 ([])))⟩
def impl_diff.sr3 (z : Empty) : St := z.elim
def impl_diff.s10 (x1 : List Entry) (x48 : List Entry) (x49 : Int) (x50 : Int) (xo46 : List Edit) : St := ⟨sk 1 (.v (.one (.b (.d (.sl TEntry) x1))) :: (sk 3 (.v (.one (.row 46 0)) :: (sk 42 (.v (.one (.b (.d (.sl TEntry) x48))) :: .v (.one (.b (.d (.int .i64) x49))) :: .v (.one (.b (.d (.int .i64) x50))) :: (sk 22 ([]))))))), sko 46 (some (.row 226 TEdit xo46 0) :: (sko 26 ([])))⟩
def impl_diff.sx10 (y : (List Edit)) : St := ⟨sk 5 (.v (.one (.row 46 0)) :: (sk 67 ([]))), sko 46 (some (.row 226 TEdit y 0) :: (sko 26 ([])))⟩
def impl_diff.sr10 (z : Empty) : St := z.elim
def impl_diff.S (lp : Nat) : Spec := { ats := [.v (.sl TEntry), .v (.sl TEntry)], rts := [(.sl TEdit)], F := fun x => impl_diff lp x.1 x.2.1 }
theorem impl_diff.t_b10 (lp : Nat) {R : Type} (N : St → Option R) (X : Out → St → Option R) (x1 : List Entry) (x48 : List Entry) (x49 : Int) (x50 : Int) (xo46 : List Edit) : codeK (impl_diff.E lp) impl_diff.an lp (loopAt 10 (codeOf Tryz.f218)) (impl_diff.s10 x1 x48 x49 x50 xo46) (lpK impl_diff.la10 N X) = impl_diff.b10 lp (fun x1 x48 x49 x50 xo46 => N (impl_diff.s10 x1 x48 x49 x50 xo46)) (fun y => X (.exit 2) (impl_diff.sx10 y)) (fun z => X .ret (impl_diff.sr10 z)) x1 x48 x49 x50 xo46 := by kernel_rfl
theorem impl_diff.n_b10 (lp : Nat) {R S : Type} (N : List Entry → List Entry → Int → Int → List Edit → Option R) (X : ((List Edit)) → Option R) (Q : Empty → Option R) (x1 : List Entry) (x48 : List Entry) (x49 : Int) (x50 : Int) (xo46 : List Edit) (k : R → Option S) : obind (impl_diff.b10 lp N X Q x1 x48 x49 x50 xo46) k = impl_diff.b10 lp (fun x1 x48 x49 x50 xo46 => obind (N x1 x48 x49 x50 xo46) k) (fun y => obind (X y) k) (fun z => obind (Q z) k) x1 x48 x49 x50 xo46 := by
  unfold impl_diff.b10; simp only [obind_none, obind_some, obind_cond, obind_oif, obind_oget, obind_obind]
theorem impl_diff.k10 (lp : Nat) {R : Type} (K : Out → St → Option R) : ∀ (n : Nat) (x1 : List Entry) (x48 : List Entry) (x49 : Int) (x50 : Int) (xo46 : List Edit), loopK impl_diff.la10 (fun σ K => codeK (impl_diff.E lp) impl_diff.an lp (loopAt 10 (codeOf Tryz.f218)) σ K) n (impl_diff.s10 x1 x48 x49 x50 xo46) K = obind (impl_diff.l10 lp n x1 x48 x49 x50 xo46) (leK 2 impl_diff.sr10 impl_diff.sx10 K) := by
  intro n
  induction n with
  | zero => intros; rfl
  | succ n ih =>
    intro x1 x48 x49 x50 xo46
    rw [loopK_succ, impl_diff.t_b10, impl_diff.l10, impl_diff.n_b10]
    simp only [ih, obind_some, leK_ret, leK_brk]
theorem impl_diff.t_b3 (lp : Nat) {R : Type} (N : St → Option R) (X : Out → St → Option R) (x0 : List Entry) (x1 : List Entry) (x14 : List Entry) (x15 : Int) (x16 : Int) (xo46 : List Edit) : codeK (impl_diff.E lp) impl_diff.an lp (loopAt 3 (codeOf Tryz.f218)) (impl_diff.s3 x0 x1 x14 x15 x16 xo46) (lpK impl_diff.la3 N X) = impl_diff.b3 lp (fun x0 x1 x14 x15 x16 xo46 => N (impl_diff.s3 x0 x1 x14 x15 x16 xo46)) (fun y => X (.exit 0) (impl_diff.sx3 y)) (fun z => X .ret (impl_diff.sr3 z)) x0 x1 x14 x15 x16 xo46 := by kernel_rfl
theorem impl_diff.n_b3 (lp : Nat) {R S : Type} (N : List Entry → List Entry → List Entry → Int → Int → List Edit → Option R) (X : ((List Entry) × (List Entry) × (List Edit)) → Option R) (Q : Empty → Option R) (x0 : List Entry) (x1 : List Entry) (x14 : List Entry) (x15 : Int) (x16 : Int) (xo46 : List Edit) (k : R → Option S) : obind (impl_diff.b3 lp N X Q x0 x1 x14 x15 x16 xo46) k = impl_diff.b3 lp (fun x0 x1 x14 x15 x16 xo46 => obind (N x0 x1 x14 x15 x16 xo46) k) (fun y => obind (X y) k) (fun z => obind (Q z) k) x0 x1 x14 x15 x16 xo46 := by
  unfold impl_diff.b3; simp only [obind_none, obind_some, obind_cond, obind_oif, obind_oget, obind_obind]
theorem impl_diff.k3 (lp : Nat) {R : Type} (K : Out → St → Option R) : ∀ (n : Nat) (x0 : List Entry) (x1 : List Entry) (x14 : List Entry) (x15 : Int) (x16 : Int) (xo46 : List Edit), loopK impl_diff.la3 (fun σ K => codeK (impl_diff.E lp) impl_diff.an lp (loopAt 3 (codeOf Tryz.f218)) σ K) n (impl_diff.s3 x0 x1 x14 x15 x16 xo46) K = obind (impl_diff.l3 lp n x0 x1 x14 x15 x16 xo46) (leK 0 impl_diff.sr3 impl_diff.sx3 K) := by
  intro n
  induction n with
  | zero => intros; rfl
  | succ n ih =>
    intro x0 x1 x14 x15 x16 xo46
    rw [loopK_succ, impl_diff.t_b3, impl_diff.l3, impl_diff.n_b3]
    simp only [ih, obind_some, leK_ret, leK_brk]
theorem impl_diff.t_a10 (lp : Nat) (y : (List Edit)) : kont (R := (List Edit)) (impl_diff.E lp) impl_diff.an lp (finK (impl_diff.E lp) Tryz.f218 [(.sl TEdit)]) (stkAt 10 (codeOf Tryz.f218)) (.exit 2) (impl_diff.sx10 y) = impl_diff.a10 lp y := by kernel_rfl
theorem impl_diff.t_a3 (lp : Nat) (y : (List Entry) × (List Entry) × (List Edit)) : kont (R := (List Edit)) (impl_diff.E lp) impl_diff.an lp (finK (impl_diff.E lp) Tryz.f218 [(.sl TEdit)]) (stkAt 3 (codeOf Tryz.f218)) (.exit 0) (impl_diff.sx3 y) = impl_diff.a3 lp (fun x1 x48 x49 x50 xo46 => loopK impl_diff.la10 (fun σ K => codeK (impl_diff.E lp) impl_diff.an lp (loopAt 10 (codeOf Tryz.f218)) σ K) lp (impl_diff.s10 x1 x48 x49 x50 xo46) (kont (impl_diff.E lp) impl_diff.an lp (finK (impl_diff.E lp) Tryz.f218 [(.sl TEdit)]) (stkAt 10 (codeOf Tryz.f218)))) y := by kernel_rfl
theorem impl_diff.t_e (lp : Nat) (x0 : List Entry) (x1 : List Entry) : evalF (impl_diff.E lp) impl_diff.an lp Tryz.f218 [.v (.sl TEntry), .v (.sl TEntry)] [(.sl TEdit)] (x0, x1, ()) = impl_diff.e lp (fun x0 x1 x14 x15 x16 xo46 => loopK impl_diff.la3 (fun σ K => codeK (impl_diff.E lp) impl_diff.an lp (loopAt 3 (codeOf Tryz.f218)) σ K) lp (impl_diff.s3 x0 x1 x14 x15 x16 xo46) (kont (impl_diff.E lp) impl_diff.an lp (finK (impl_diff.E lp) Tryz.f218 [(.sl TEdit)]) (stkAt 3 (codeOf Tryz.f218)))) x0 x1 := by kernel_rfl
theorem impl_diff.eq0 (lp : Nat) (x0 : List Entry) (x1 : List Entry) : evalF (impl_diff.E lp) impl_diff.an lp Tryz.f218 [.v (.sl TEntry), .v (.sl TEntry)] [(.sl TEdit)] (x0, x1, ()) = impl_diff lp x0 x1 := by
  rw [impl_diff.t_e]; unfold impl_diff
  simp only [leK_ret0 _ impl_diff.sr3 impl_diff.sx3, leK_ret0 _ impl_diff.sr10 impl_diff.sx10, impl_diff.k3, impl_diff.k10, impl_diff.t_a10, impl_diff.t_a3]
theorem impl_diff.eq (lp : Nat) (x : ADens [.v (.sl TEntry), .v (.sl TEntry)]) : evalF (impl_diff.E lp) impl_diff.an lp Tryz.f218 [.v (.sl TEntry), .v (.sl TEntry)] [(.sl TEdit)] x = (impl_diff.S lp).F x := impl_diff.eq0 lp x.1 x.2.1
theorem impl_diff.ok (lp : Nat) : Sound Tryz.prog 218 (impl_diff.S lp) := sound_of (E := impl_diff.E lp) (env_ok tabFits tabEqs ⟨impl_find.ok lp, impl_diff_c1.ok, trivial⟩ ⟨slices_SortFunc_Edit.rok, trivial⟩) mixed Tryz.func218 (by kernel_rfl) (c := codeOf Tryz.f218) (by kernel_rfl) (by kernel_rfl) impl_diff.an (fun x r h => ⟨lp, (impl_diff.eq lp x).trans h⟩)
def impl_merge.E (lp : Nat) : Env := { tab := tab, fns := [(218, impl_diff.S lp), (203, impl_edited.S lp), (202, impl_limited.S)], ann := { own := [], ro := [] } }
def impl_merge.la3 : LoopAn := { kn := { tms := [0, 1, 2, 9, 23, 24, 25], obs := [20] }, kx := { tms := [0, 1, 2, 9], obs := [20] }, kr := {} }
def impl_merge.la10 : LoopAn := { kn := { proms := [(55, 12, 226, TEdit), (64, 13, 9, .str)], tms := [1, 9, 12, 13, 36, 37, 38], obs := [20, 55, 64] }, kx := { tms := [1, 12, 13], obs := [55, 64] }, kr := {} }
def impl_merge.an : An := { loops := [(3, impl_merge.la3), (10, impl_merge.la10)], pre := [(20, [55])] }
def impl_merge.s3 (x0 : List Entry) (x1 : List Entry) (x2 : List Entry) (x23 : List Edit) (x24 : Int) (x25 : Int) (xm20 : List (ByteArray × Edit)) : St := ⟨.v (.one (.b (.d (.sl TEntry) x0))) :: .v (.one (.b (.d (.sl TEntry) x1))) :: .v (.one (.b (.d (.sl TEntry) x2))) :: (sk 6 (.v (.one (.mp 20)) :: (sk 13 (.v (.one (.b (.d (.sl TEdit) x23))) :: .v (.one (.b (.d (.int .i64) x24))) :: .v (.one (.b (.d (.int .i64) x25))) :: (sk 53 ([])))))), sko 20 (some (.map TEdit xm20) :: (sko 58 ([])))⟩
def impl_merge.sx3 (y : (List Entry) × (List Entry) × (List Entry) × (List (ByteArray × Edit))) : St := ⟨.v (.one (.b (.d (.sl TEntry) y.1))) :: .v (.one (.b (.d (.sl TEntry) y.2.1))) :: .v (.one (.b (.d (.sl TEntry) y.2.2.1))) :: (sk 6 (.v (.one (.mp 20)) :: (sk 69 ([])))), sko 20 (some (.map TEdit y.2.2.2) :: (sko 58 ([])))⟩
def impl_merge.sr3 (z : Empty) : St := z.elim
def impl_merge.s10 (x1 : List Entry) (x36 : List Edit) (x37 : Int) (x38 : Int) (xm20 : List (ByteArray × Edit)) (xo55 : List Edit) (xo64 : List ByteArray) : St := ⟨sk 1 (.v (.one (.b (.d (.sl TEntry) x1))) :: (sk 7 (.v (.one (.mp 20)) :: (sk 2 (.v (.one (.row 55 0)) :: .v (.one (.row 64 0)) :: (sk 22 (.v (.one (.b (.d (.sl TEdit) x36))) :: .v (.one (.b (.d (.int .i64) x37))) :: .v (.one (.b (.d (.int .i64) x38))) :: (sk 40 ([]))))))))), sko 20 (some (.map TEdit xm20) :: (sko 34 (some (.row 226 TEdit xo55 0) :: (sko 8 (some (.row 9 .str xo64 0) :: (sko 14 ([])))))))⟩
def impl_merge.sx10 (y : (List Entry) × (List Edit) × (List ByteArray)) : St := ⟨sk 1 (.v (.one (.b (.d (.sl TEntry) y.1))) :: (sk 10 (.v (.one (.row 55 0)) :: .v (.one (.row 64 0)) :: (sk 65 ([]))))), sko 55 (some (.row 226 TEdit y.2.1 0) :: (sko 8 (some (.row 9 .str y.2.2 0) :: (sko 14 ([])))))⟩
def impl_merge.sr10 (z : Empty) : St := z.elim
def impl_merge.S (lp : Nat) : Spec := { ats := [.v (.sl TEntry), .v (.sl TEntry), .v (.sl TEntry)], rts := [(.sl TEntry), (.sl .str), (.int .i64)], F := fun x => impl_merge lp x.1 x.2.1 x.2.2.1 }
theorem impl_merge.t_b10 (lp : Nat) {R : Type} (N : St → Option R) (X : Out → St → Option R) (x1 : List Entry) (x36 : List Edit) (x37 : Int) (x38 : Int) (xm20 : List (ByteArray × Edit)) (xo55 : List Edit) (xo64 : List ByteArray) : codeK (impl_merge.E lp) impl_merge.an lp (loopAt 10 (codeOf Tryz.f204)) (impl_merge.s10 x1 x36 x37 x38 xm20 xo55 xo64) (lpK impl_merge.la10 N X) = impl_merge.b10 lp (fun x1 x36 x37 x38 xm20 xo55 xo64 => N (impl_merge.s10 x1 x36 x37 x38 xm20 xo55 xo64)) (fun y => X (.exit 2) (impl_merge.sx10 y)) (fun z => X .ret (impl_merge.sr10 z)) x1 x36 x37 x38 xm20 xo55 xo64 := by kernel_rfl
theorem impl_merge.n_b10 (lp : Nat) {R S : Type} (N : List Entry → List Edit → Int → Int → (List (ByteArray × Edit)) → List Edit → List ByteArray → Option R) (X : ((List Entry) × (List Edit) × (List ByteArray)) → Option R) (Q : Empty → Option R) (x1 : List Entry) (x36 : List Edit) (x37 : Int) (x38 : Int) (xm20 : List (ByteArray × Edit)) (xo55 : List Edit) (xo64 : List ByteArray) (k : R → Option S) : obind (impl_merge.b10 lp N X Q x1 x36 x37 x38 xm20 xo55 xo64) k = impl_merge.b10 lp (fun x1 x36 x37 x38 xm20 xo55 xo64 => obind (N x1 x36 x37 x38 xm20 xo55 xo64) k) (fun y => obind (X y) k) (fun z => obind (Q z) k) x1 x36 x37 x38 xm20 xo55 xo64 := by
  unfold impl_merge.b10; simp only [obind_none, obind_some, obind_cond, obind_oif, obind_oget, obind_obind]
theorem impl_merge.k10 (lp : Nat) {R : Type} (K : Out → St → Option R) : ∀ (n : Nat) (x1 : List Entry) (x36 : List Edit) (x37 : Int) (x38 : Int) (xm20 : List (ByteArray × Edit)) (xo55 : List Edit) (xo64 : List ByteArray), loopK impl_merge.la10 (fun σ K => codeK (impl_merge.E lp) impl_merge.an lp (loopAt 10 (codeOf Tryz.f204)) σ K) n (impl_merge.s10 x1 x36 x37 x38 xm20 xo55 xo64) K = obind (impl_merge.l10 lp n x1 x36 x37 x38 xm20 xo55 xo64) (leK 2 impl_merge.sr10 impl_merge.sx10 K) := by
  intro n
  induction n with
  | zero => intros; rfl
  | succ n ih =>
    intro x1 x36 x37 x38 xm20 xo55 xo64
    rw [loopK_succ, impl_merge.t_b10, impl_merge.l10, impl_merge.n_b10]
    simp only [ih, obind_some, leK_ret, leK_brk]
theorem impl_merge.t_b3 (lp : Nat) {R : Type} (N : St → Option R) (X : Out → St → Option R) (x0 : List Entry) (x1 : List Entry) (x2 : List Entry) (x23 : List Edit) (x24 : Int) (x25 : Int) (xm20 : List (ByteArray × Edit)) : codeK (impl_merge.E lp) impl_merge.an lp (loopAt 3 (codeOf Tryz.f204)) (impl_merge.s3 x0 x1 x2 x23 x24 x25 xm20) (lpK impl_merge.la3 N X) = impl_merge.b3 lp (fun x0 x1 x2 x23 x24 x25 xm20 => N (impl_merge.s3 x0 x1 x2 x23 x24 x25 xm20)) (fun y => X (.exit 0) (impl_merge.sx3 y)) (fun z => X .ret (impl_merge.sr3 z)) x0 x1 x2 x23 x24 x25 xm20 := by kernel_rfl
theorem impl_merge.n_b3 (lp : Nat) {R S : Type} (N : List Entry → List Entry → List Entry → List Edit → Int → Int → (List (ByteArray × Edit)) → Option R) (X : ((List Entry) × (List Entry) × (List Entry) × (List (ByteArray × Edit))) → Option R) (Q : Empty → Option R) (x0 : List Entry) (x1 : List Entry) (x2 : List Entry) (x23 : List Edit) (x24 : Int) (x25 : Int) (xm20 : List (ByteArray × Edit)) (k : R → Option S) : obind (impl_merge.b3 lp N X Q x0 x1 x2 x23 x24 x25 xm20) k = impl_merge.b3 lp (fun x0 x1 x2 x23 x24 x25 xm20 => obind (N x0 x1 x2 x23 x24 x25 xm20) k) (fun y => obind (X y) k) (fun z => obind (Q z) k) x0 x1 x2 x23 x24 x25 xm20 := by
  unfold impl_merge.b3; simp only [obind_none, obind_some, obind_cond, obind_oif, obind_oget, obind_obind]
theorem impl_merge.k3 (lp : Nat) {R : Type} (K : Out → St → Option R) : ∀ (n : Nat) (x0 : List Entry) (x1 : List Entry) (x2 : List Entry) (x23 : List Edit) (x24 : Int) (x25 : Int) (xm20 : List (ByteArray × Edit)), loopK impl_merge.la3 (fun σ K => codeK (impl_merge.E lp) impl_merge.an lp (loopAt 3 (codeOf Tryz.f204)) σ K) n (impl_merge.s3 x0 x1 x2 x23 x24 x25 xm20) K = obind (impl_merge.l3 lp n x0 x1 x2 x23 x24 x25 xm20) (leK 0 impl_merge.sr3 impl_merge.sx3 K) := by
  intro n
  induction n with
  | zero => intros; rfl
  | succ n ih =>
    intro x0 x1 x2 x23 x24 x25 xm20
    rw [loopK_succ, impl_merge.t_b3, impl_merge.l3, impl_merge.n_b3]
    simp only [ih, obind_some, leK_ret, leK_brk]
theorem impl_merge.t_a10 (lp : Nat) (y : (List Entry) × (List Edit) × (List ByteArray)) : kont (R := (List Entry) × (List ByteArray) × Int) (impl_merge.E lp) impl_merge.an lp (finK (impl_merge.E lp) Tryz.f204 [(.sl TEntry), (.sl .str), (.int .i64)]) (stkAt 10 (codeOf Tryz.f204)) (.exit 2) (impl_merge.sx10 y) = impl_merge.a10 lp y := by kernel_rfl
theorem impl_merge.t_a3 (lp : Nat) (y : (List Entry) × (List Entry) × (List Entry) × (List (ByteArray × Edit))) : kont (R := (List Entry) × (List ByteArray) × Int) (impl_merge.E lp) impl_merge.an lp (finK (impl_merge.E lp) Tryz.f204 [(.sl TEntry), (.sl .str), (.int .i64)]) (stkAt 3 (codeOf Tryz.f204)) (.exit 0) (impl_merge.sx3 y) = impl_merge.a3 lp (fun x1 x36 x37 x38 xm20 xo55 xo64 => loopK impl_merge.la10 (fun σ K => codeK (impl_merge.E lp) impl_merge.an lp (loopAt 10 (codeOf Tryz.f204)) σ K) lp (impl_merge.s10 x1 x36 x37 x38 xm20 xo55 xo64) (kont (impl_merge.E lp) impl_merge.an lp (finK (impl_merge.E lp) Tryz.f204 [(.sl TEntry), (.sl .str), (.int .i64)]) (stkAt 10 (codeOf Tryz.f204)))) y := by kernel_rfl
theorem impl_merge.t_e (lp : Nat) (x0 : List Entry) (x1 : List Entry) (x2 : List Entry) : evalF (impl_merge.E lp) impl_merge.an lp Tryz.f204 [.v (.sl TEntry), .v (.sl TEntry), .v (.sl TEntry)] [(.sl TEntry), (.sl .str), (.int .i64)] (x0, x1, x2, ()) = impl_merge.e lp (fun x0 x1 x2 x23 x24 x25 xm20 => loopK impl_merge.la3 (fun σ K => codeK (impl_merge.E lp) impl_merge.an lp (loopAt 3 (codeOf Tryz.f204)) σ K) lp (impl_merge.s3 x0 x1 x2 x23 x24 x25 xm20) (kont (impl_merge.E lp) impl_merge.an lp (finK (impl_merge.E lp) Tryz.f204 [(.sl TEntry), (.sl .str), (.int .i64)]) (stkAt 3 (codeOf Tryz.f204)))) x0 x1 x2 := by kernel_rfl
theorem impl_merge.eq0 (lp : Nat) (x0 : List Entry) (x1 : List Entry) (x2 : List Entry) : evalF (impl_merge.E lp) impl_merge.an lp Tryz.f204 [.v (.sl TEntry), .v (.sl TEntry), .v (.sl TEntry)] [(.sl TEntry), (.sl .str), (.int .i64)] (x0, x1, x2, ()) = impl_merge lp x0 x1 x2 := by
  rw [impl_merge.t_e]; unfold impl_merge
  simp only [leK_ret0 _ impl_merge.sr3 impl_merge.sx3, leK_ret0 _ impl_merge.sr10 impl_merge.sx10, impl_merge.k3, impl_merge.k10, impl_merge.t_a10, impl_merge.t_a3]
theorem impl_merge.eq (lp : Nat) (x : ADens [.v (.sl TEntry), .v (.sl TEntry), .v (.sl TEntry)]) : evalF (impl_merge.E lp) impl_merge.an lp Tryz.f204 [.v (.sl TEntry), .v (.sl TEntry), .v (.sl TEntry)] [(.sl TEntry), (.sl .str), (.int .i64)] x = (impl_merge.S lp).F x := impl_merge.eq0 lp x.1 x.2.1 x.2.2.1
theorem impl_merge.ok (lp : Nat) : Sound Tryz.prog 204 (impl_merge.S lp) := sound_of (E := impl_merge.E lp) (env_ok tabFits tabEqs ⟨impl_diff.ok lp, impl_edited.ok lp, impl_limited.ok, trivial⟩ trivial) mixed Tryz.func204 (by kernel_rfl) (c := codeOf Tryz.f204) (by kernel_rfl) (by kernel_rfl) impl_merge.an (fun x r h => ⟨lp, (impl_merge.eq lp x).trans h⟩)
def impl_Base_commitAt.E (lp : Nat) : Env := { tab := tab, fns := [(203, impl_edited.S lp), (202, impl_limited.S), (204, impl_merge.S lp), (157, slices_Equal_Entry.S lp), (190, impl_planned.S)], ann := { own := [], ro := [3, 4] } }
def impl_Base_commitAt.an : An := { pre := [] }
def impl_Base_commitAt.S (lp : Nat) : Spec := { ats := [.v TBase, .v TOp, .v (.int .i64)], rts := [TPlan], F := fun x => impl_Base_commitAt lp x.1 x.2.1 x.2.2.1 }
theorem impl_Base_commitAt.eq (lp : Nat) (x : ADens [.v TBase, .v TOp, .v (.int .i64)]) : evalF (impl_Base_commitAt.E lp) impl_Base_commitAt.an lp Tryz.f187 [.v TBase, .v TOp, .v (.int .i64)] [TPlan] x = (impl_Base_commitAt.S lp).F x := by kernel_rfl
theorem impl_Base_commitAt.ok (lp : Nat) : Sound Tryz.prog 187 (impl_Base_commitAt.S lp) := sound_of (E := impl_Base_commitAt.E lp) (env_ok tabFits tabEqs ⟨impl_edited.ok lp, impl_limited.ok, impl_merge.ok lp, slices_Equal_Entry.ok lp, impl_planned.ok, trivial⟩ trivial) mixed Tryz.func187 (by kernel_rfl) (c := codeOf Tryz.f187) (by kernel_rfl) (by kernel_rfl) impl_Base_commitAt.an (fun x r h => ⟨lp, (impl_Base_commitAt.eq lp x).trans h⟩)
def impl_ancestors.E (lp : Nat) : Env := { tab := tab, fns := [], ann := { own := [], ro := [] } }
def impl_ancestors.la4 : LoopAn := { kn := { tms := [0, 5, 6], obs := [12] }, kx := { tms := [5], obs := [12] }, kr := {} }
def impl_ancestors.la8 : LoopAn := { kn := { tms := [0, 5, 6, 30, 31, 32], obs := [12] }, kx := { tms := [0, 5, 6], obs := [12] }, kr := {} }
def impl_ancestors.an : An := { loops := [(4, impl_ancestors.la4), (8, impl_ancestors.la8)] }
def impl_ancestors.s4 (x0 : List Commit) (x6 : Int) (xo12 : List Bool) : St := ⟨.v (.one (.b (.d (.sl TCommit) x0))) :: (sk 4 (.v (.one (.row 12 0)) :: .v (.one (.b (.d (.int .i64) x6))) :: (sk 34 ([])))), sko 12 (some (.row 4 .bool xo12 0) :: (sko 28 ([])))⟩
def impl_ancestors.sx4 (y : (List Bool)) : St := ⟨sk 5 (.v (.one (.row 12 0)) :: (sk 35 ([]))), sko 12 (some (.row 4 .bool y 0) :: (sko 28 ([])))⟩
def impl_ancestors.sr4 (z : Empty) : St := z.elim
def impl_ancestors.s8 (x0 : List Commit) (x6 : Int) (x30 : List Int) (x31 : Int) (x32 : Int) (xo12 : List Bool) : St := ⟨.v (.one (.b (.d (.sl TCommit) x0))) :: (sk 4 (.v (.one (.row 12 0)) :: .v (.one (.b (.d (.int .i64) x6))) :: (sk 23 (.v (.one (.b (.d (.sl (.int .i64)) x30))) :: .v (.one (.b (.d (.int .i64) x31))) :: .v (.one (.b (.d (.int .i64) x32))) :: (sk 8 ([])))))), sko 12 (some (.row 4 .bool xo12 0) :: (sko 28 ([])))⟩
def impl_ancestors.sx8 (y : (List Commit) × Int × (List Bool)) : St := ⟨.v (.one (.b (.d (.sl TCommit) y.1))) :: (sk 4 (.v (.one (.row 12 0)) :: .v (.one (.b (.d (.int .i64) y.2.1))) :: (sk 34 ([])))), sko 12 (some (.row 4 .bool y.2.2 0) :: (sko 28 ([])))⟩
def impl_ancestors.sr8 (z : Empty) : St := z.elim
def impl_ancestors.S (lp : Nat) : Spec := { ats := [.v (.sl TCommit), .v (.int .i64)], rts := [(.sl .bool)], F := fun x => impl_ancestors lp x.1 x.2.1 }
theorem impl_ancestors.t_b8 (lp : Nat) {R : Type} (N : St → Option R) (X : Out → St → Option R) (x0 : List Commit) (x6 : Int) (x30 : List Int) (x31 : Int) (x32 : Int) (xo12 : List Bool) : codeK (impl_ancestors.E lp) impl_ancestors.an lp (loopAt 8 (codeOf Tryz.f205)) (impl_ancestors.s8 x0 x6 x30 x31 x32 xo12) (lpK impl_ancestors.la8 N X) = impl_ancestors.b8 lp (fun x0 x6 x30 x31 x32 xo12 => N (impl_ancestors.s8 x0 x6 x30 x31 x32 xo12)) (fun y => X (.exit 2) (impl_ancestors.sx8 y)) (fun z => X .ret (impl_ancestors.sr8 z)) x0 x6 x30 x31 x32 xo12 := by kernel_rfl
theorem impl_ancestors.n_b8 (lp : Nat) {R S : Type} (N : List Commit → Int → List Int → Int → Int → List Bool → Option R) (X : ((List Commit) × Int × (List Bool)) → Option R) (Q : Empty → Option R) (x0 : List Commit) (x6 : Int) (x30 : List Int) (x31 : Int) (x32 : Int) (xo12 : List Bool) (k : R → Option S) : obind (impl_ancestors.b8 lp N X Q x0 x6 x30 x31 x32 xo12) k = impl_ancestors.b8 lp (fun x0 x6 x30 x31 x32 xo12 => obind (N x0 x6 x30 x31 x32 xo12) k) (fun y => obind (X y) k) (fun z => obind (Q z) k) x0 x6 x30 x31 x32 xo12 := by
  unfold impl_ancestors.b8; simp only [obind_none, obind_some, obind_cond, obind_oif, obind_oget, obind_obind]
theorem impl_ancestors.k8 (lp : Nat) {R : Type} (K : Out → St → Option R) : ∀ (n : Nat) (x0 : List Commit) (x6 : Int) (x30 : List Int) (x31 : Int) (x32 : Int) (xo12 : List Bool), loopK impl_ancestors.la8 (fun σ K => codeK (impl_ancestors.E lp) impl_ancestors.an lp (loopAt 8 (codeOf Tryz.f205)) σ K) n (impl_ancestors.s8 x0 x6 x30 x31 x32 xo12) K = obind (impl_ancestors.l8 lp n x0 x6 x30 x31 x32 xo12) (leK 2 impl_ancestors.sr8 impl_ancestors.sx8 K) := by
  intro n
  induction n with
  | zero => intros; rfl
  | succ n ih =>
    intro x0 x6 x30 x31 x32 xo12
    rw [loopK_succ, impl_ancestors.t_b8, impl_ancestors.l8, impl_ancestors.n_b8]
    simp only [ih, obind_some, leK_ret, leK_brk]
theorem impl_ancestors.t_a8 (lp : Nat) {R : Type} (N : St → Option R) (X : Out → St → Option R) (y : (List Commit) × Int × (List Bool)) : kont (impl_ancestors.E lp) impl_ancestors.an lp (lpK impl_ancestors.la4 N X) (stkAt 8 (loopAt 4 (codeOf Tryz.f205))) (.exit 2) (impl_ancestors.sx8 y) = impl_ancestors.a8 lp (fun x0 x6 xo12 => N (impl_ancestors.s4 x0 x6 xo12)) (fun y => X (.exit 0) (impl_ancestors.sx4 y)) (fun z => X .ret (impl_ancestors.sr4 z)) y := by kernel_rfl
theorem impl_ancestors.n_a8 (lp : Nat) {R S : Type} (N : List Commit → Int → List Bool → Option R) (X : ((List Bool)) → Option R) (Q : Empty → Option R) (y : (List Commit) × Int × (List Bool)) (k : R → Option S) : obind (impl_ancestors.a8 lp N X Q y) k = impl_ancestors.a8 lp (fun x0 x6 xo12 => obind (N x0 x6 xo12) k) (fun y => obind (X y) k) (fun z => obind (Q z) k) y := by
  unfold impl_ancestors.a8; simp only [obind_none, obind_some, obind_cond, obind_oif, obind_oget, obind_obind]
theorem impl_ancestors.t_b4 (lp : Nat) {R : Type} (N : St → Option R) (X : Out → St → Option R) (x0 : List Commit) (x6 : Int) (xo12 : List Bool) : codeK (impl_ancestors.E lp) impl_ancestors.an lp (loopAt 4 (codeOf Tryz.f205)) (impl_ancestors.s4 x0 x6 xo12) (lpK impl_ancestors.la4 N X) = impl_ancestors.b4 lp (fun x0 x6 xo12 => N (impl_ancestors.s4 x0 x6 xo12)) (fun y => X (.exit 0) (impl_ancestors.sx4 y)) (fun z => X .ret (impl_ancestors.sr4 z)) (fun x0 x6 x30 x31 x32 xo12 => loopK impl_ancestors.la8 (fun σ K => codeK (impl_ancestors.E lp) impl_ancestors.an lp (loopAt 8 (codeOf Tryz.f205)) σ K) lp (impl_ancestors.s8 x0 x6 x30 x31 x32 xo12) (kont (impl_ancestors.E lp) impl_ancestors.an lp (lpK impl_ancestors.la4 N X) (stkAt 8 (loopAt 4 (codeOf Tryz.f205))))) x0 x6 xo12 := by kernel_rfl
theorem impl_ancestors.n_b4 (lp : Nat) {R S : Type} (N : List Commit → Int → List Bool → Option R) (X : ((List Bool)) → Option R) (Q : Empty → Option R) (L8 : List Commit → Int → List Int → Int → Int → List Bool → Option R) (x0 : List Commit) (x6 : Int) (xo12 : List Bool) (k : R → Option S) : obind (impl_ancestors.b4 lp N X Q L8 x0 x6 xo12) k = impl_ancestors.b4 lp (fun x0 x6 xo12 => obind (N x0 x6 xo12) k) (fun y => obind (X y) k) (fun z => obind (Q z) k) (fun x0 x6 x30 x31 x32 xo12 => obind (L8 x0 x6 x30 x31 x32 xo12) k) x0 x6 xo12 := by
  unfold impl_ancestors.b4; simp only [obind_none, obind_some, obind_cond, obind_oif, obind_oget, obind_obind]
theorem impl_ancestors.k4 (lp : Nat) {R : Type} (K : Out → St → Option R) : ∀ (n : Nat) (x0 : List Commit) (x6 : Int) (xo12 : List Bool), loopK impl_ancestors.la4 (fun σ K => codeK (impl_ancestors.E lp) impl_ancestors.an lp (loopAt 4 (codeOf Tryz.f205)) σ K) n (impl_ancestors.s4 x0 x6 xo12) K = obind (impl_ancestors.l4 lp n x0 x6 xo12) (leK 0 impl_ancestors.sr4 impl_ancestors.sx4 K) := by
  intro n
  induction n with
  | zero => intros; rfl
  | succ n ih =>
    intro x0 x6 xo12
    rw [loopK_succ, impl_ancestors.t_b4, impl_ancestors.l4, impl_ancestors.n_b4]
    simp only [ih, obind_some, leK_ret, leK_brk, leF_ret, leF_brk, obind_obind, obind_leF, obind_elim, leK_ret0 _ impl_ancestors.sr8 impl_ancestors.sx8, impl_ancestors.k8, impl_ancestors.t_a8, impl_ancestors.n_a8]
theorem impl_ancestors.t_a4 (lp : Nat) (y : (List Bool)) : kont (R := (List Bool)) (impl_ancestors.E lp) impl_ancestors.an lp (finK (impl_ancestors.E lp) Tryz.f205 [(.sl .bool)]) (stkAt 4 (codeOf Tryz.f205)) (.exit 0) (impl_ancestors.sx4 y) = impl_ancestors.a4 lp y := by kernel_rfl
theorem impl_ancestors.t_e (lp : Nat) (x0 : List Commit) (x1 : Int) : evalF (impl_ancestors.E lp) impl_ancestors.an lp Tryz.f205 [.v (.sl TCommit), .v (.int .i64)] [(.sl .bool)] (x0, x1, ()) = impl_ancestors.e lp (fun x0 x6 xo12 => loopK impl_ancestors.la4 (fun σ K => codeK (impl_ancestors.E lp) impl_ancestors.an lp (loopAt 4 (codeOf Tryz.f205)) σ K) lp (impl_ancestors.s4 x0 x6 xo12) (kont (impl_ancestors.E lp) impl_ancestors.an lp (finK (impl_ancestors.E lp) Tryz.f205 [(.sl .bool)]) (stkAt 4 (codeOf Tryz.f205)))) x0 x1 := by kernel_rfl
theorem impl_ancestors.eq0 (lp : Nat) (x0 : List Commit) (x1 : Int) : evalF (impl_ancestors.E lp) impl_ancestors.an lp Tryz.f205 [.v (.sl TCommit), .v (.int .i64)] [(.sl .bool)] (x0, x1, ()) = impl_ancestors lp x0 x1 := by
  rw [impl_ancestors.t_e]; unfold impl_ancestors
  simp only [leK_ret0 _ impl_ancestors.sr4 impl_ancestors.sx4, impl_ancestors.k4, impl_ancestors.t_a4]
theorem impl_ancestors.eq (lp : Nat) (x : ADens [.v (.sl TCommit), .v (.int .i64)]) : evalF (impl_ancestors.E lp) impl_ancestors.an lp Tryz.f205 [.v (.sl TCommit), .v (.int .i64)] [(.sl .bool)] x = (impl_ancestors.S lp).F x := impl_ancestors.eq0 lp x.1 x.2.1
theorem impl_ancestors.ok (lp : Nat) : Sound Tryz.prog 205 (impl_ancestors.S lp) := sound_of (E := impl_ancestors.E lp) (env_ok tabFits tabEqs trivial trivial) mixed Tryz.func205 (by kernel_rfl) (c := codeOf Tryz.f205) (by kernel_rfl) (by kernel_rfl) impl_ancestors.an (fun x r h => ⟨lp, (impl_ancestors.eq lp x).trans h⟩)
def impl_baseOf.E (lp : Nat) : Env := { tab := tab, fns := [(205, impl_ancestors.S lp)], ann := { own := [], ro := [] } }
def impl_baseOf.la3 : LoopAn := { kn := { tms := [7, 8, 9] }, kx := { tms := [9] }, kr := {} }
def impl_baseOf.an : An := { loops := [(3, impl_baseOf.la3)] }
def impl_baseOf.s3 (x7 : List Bool) (x8 : List Bool) (x9 : Int) : St := ⟨sk 7 (.v (.one (.b (.d (.sl .bool) x7))) :: .v (.one (.b (.d (.sl .bool) x8))) :: .v (.one (.b (.d (.int .i64) x9))) :: (sk 24 ([]))), sko 34 ([])⟩
def impl_baseOf.sx3 (y : Int) : St := ⟨sk 9 (.v (.one (.b (.d (.int .i64) y))) :: (sk 24 ([]))), sko 34 ([])⟩
def impl_baseOf.sr3 (z : Empty) : St := z.elim
def impl_baseOf.S (lp : Nat) : Spec := { ats := [.v (.sl TCommit), .v (.int .i64), .v (.int .i64)], rts := [(.int .i64)], F := fun x => impl_baseOf lp x.1 x.2.1 x.2.2.1 }
theorem impl_baseOf.t_b3 (lp : Nat) {R : Type} (N : St → Option R) (X : Out → St → Option R) (x7 : List Bool) (x8 : List Bool) (x9 : Int) : codeK (impl_baseOf.E lp) impl_baseOf.an lp (loopAt 3 (codeOf Tryz.f188)) (impl_baseOf.s3 x7 x8 x9) (lpK impl_baseOf.la3 N X) = impl_baseOf.b3 lp (fun x7 x8 x9 => N (impl_baseOf.s3 x7 x8 x9)) (fun y => X (.exit 0) (impl_baseOf.sx3 y)) (fun z => X .ret (impl_baseOf.sr3 z)) x7 x8 x9 := by kernel_rfl
theorem impl_baseOf.n_b3 (lp : Nat) {R S : Type} (N : List Bool → List Bool → Int → Option R) (X : Int → Option R) (Q : Empty → Option R) (x7 : List Bool) (x8 : List Bool) (x9 : Int) (k : R → Option S) : obind (impl_baseOf.b3 lp N X Q x7 x8 x9) k = impl_baseOf.b3 lp (fun x7 x8 x9 => obind (N x7 x8 x9) k) (fun y => obind (X y) k) (fun z => obind (Q z) k) x7 x8 x9 := by
  unfold impl_baseOf.b3; simp only [obind_none, obind_some, obind_cond, obind_oif, obind_oget, obind_obind]
theorem impl_baseOf.k3 (lp : Nat) {R : Type} (K : Out → St → Option R) : ∀ (n : Nat) (x7 : List Bool) (x8 : List Bool) (x9 : Int), loopK impl_baseOf.la3 (fun σ K => codeK (impl_baseOf.E lp) impl_baseOf.an lp (loopAt 3 (codeOf Tryz.f188)) σ K) n (impl_baseOf.s3 x7 x8 x9) K = obind (impl_baseOf.l3 lp n x7 x8 x9) (leK 0 impl_baseOf.sr3 impl_baseOf.sx3 K) := by
  intro n
  induction n with
  | zero => intros; rfl
  | succ n ih =>
    intro x7 x8 x9
    rw [loopK_succ, impl_baseOf.t_b3, impl_baseOf.l3, impl_baseOf.n_b3]
    simp only [ih, obind_some, leK_ret, leK_brk]
theorem impl_baseOf.t_a3 (lp : Nat) (y : Int) : kont (R := Int) (impl_baseOf.E lp) impl_baseOf.an lp (finK (impl_baseOf.E lp) Tryz.f188 [(.int .i64)]) (stkAt 3 (codeOf Tryz.f188)) (.exit 0) (impl_baseOf.sx3 y) = impl_baseOf.a3 lp y := by kernel_rfl
theorem impl_baseOf.t_e (lp : Nat) (x0 : List Commit) (x1 : Int) (x2 : Int) : evalF (impl_baseOf.E lp) impl_baseOf.an lp Tryz.f188 [.v (.sl TCommit), .v (.int .i64), .v (.int .i64)] [(.int .i64)] (x0, x1, x2, ()) = impl_baseOf.e lp (fun x7 x8 x9 => loopK impl_baseOf.la3 (fun σ K => codeK (impl_baseOf.E lp) impl_baseOf.an lp (loopAt 3 (codeOf Tryz.f188)) σ K) lp (impl_baseOf.s3 x7 x8 x9) (kont (impl_baseOf.E lp) impl_baseOf.an lp (finK (impl_baseOf.E lp) Tryz.f188 [(.int .i64)]) (stkAt 3 (codeOf Tryz.f188)))) x0 x1 x2 := by kernel_rfl
theorem impl_baseOf.eq0 (lp : Nat) (x0 : List Commit) (x1 : Int) (x2 : Int) : evalF (impl_baseOf.E lp) impl_baseOf.an lp Tryz.f188 [.v (.sl TCommit), .v (.int .i64), .v (.int .i64)] [(.int .i64)] (x0, x1, x2, ()) = impl_baseOf lp x0 x1 x2 := by
  rw [impl_baseOf.t_e]; unfold impl_baseOf
  simp only [leK_ret0 _ impl_baseOf.sr3 impl_baseOf.sx3, impl_baseOf.k3, impl_baseOf.t_a3]
theorem impl_baseOf.eq (lp : Nat) (x : ADens [.v (.sl TCommit), .v (.int .i64), .v (.int .i64)]) : evalF (impl_baseOf.E lp) impl_baseOf.an lp Tryz.f188 [.v (.sl TCommit), .v (.int .i64), .v (.int .i64)] [(.int .i64)] x = (impl_baseOf.S lp).F x := impl_baseOf.eq0 lp x.1 x.2.1 x.2.2.1
theorem impl_baseOf.ok (lp : Nat) : Sound Tryz.prog 188 (impl_baseOf.S lp) := sound_of (E := impl_baseOf.E lp) (env_ok tabFits tabEqs ⟨impl_ancestors.ok lp, trivial⟩ trivial) mixed Tryz.func188 (by kernel_rfl) (c := codeOf Tryz.f188) (by kernel_rfl) (by kernel_rfl) impl_baseOf.an (fun x r h => ⟨lp, (impl_baseOf.eq lp x).trans h⟩)
def impl_mergeCommits.E (lp : Nat) : Env := { tab := tab, fns := [(188, impl_baseOf.S lp), (204, impl_merge.S lp)], ann := { own := [], ro := [] } }
def impl_mergeCommits.an : An := { pre := [] }
def impl_mergeCommits.S (lp : Nat) : Spec := { ats := [.v (.sl TCommit), .v (.int .i64), .v (.int .i64)], rts := [(.sl TEntry), (.sl .str), (.int .i64)], F := fun x => impl_mergeCommits lp x.1 x.2.1 x.2.2.1 }
theorem impl_mergeCommits.eq (lp : Nat) (x : ADens [.v (.sl TCommit), .v (.int .i64), .v (.int .i64)]) : evalF (impl_mergeCommits.E lp) impl_mergeCommits.an lp Tryz.f189 [.v (.sl TCommit), .v (.int .i64), .v (.int .i64)] [(.sl TEntry), (.sl .str), (.int .i64)] x = (impl_mergeCommits.S lp).F x := by kernel_rfl
theorem impl_mergeCommits.ok (lp : Nat) : Sound Tryz.prog 189 (impl_mergeCommits.S lp) := sound_of (E := impl_mergeCommits.E lp) (env_ok tabFits tabEqs ⟨impl_baseOf.ok lp, impl_merge.ok lp, trivial⟩ trivial) mixed Tryz.func189 (by kernel_rfl) (c := codeOf Tryz.f189) (by kernel_rfl) (by kernel_rfl) impl_mergeCommits.an (fun x r h => ⟨lp, (impl_mergeCommits.eq lp x).trans h⟩)
def impl_Base_planAt.E (lp : Nat) : Env := { tab := tab, fns := [(187, impl_Base_commitAt.S lp), (188, impl_baseOf.S lp), (189, impl_mergeCommits.S lp), (190, impl_planned.S)], ann := { own := [], ro := [3, 4] } }
def impl_Base_planAt.an : An := { pre := [] }
def impl_Base_planAt.S (lp : Nat) : Spec := { ats := [.v TBase, .v TOp, .v (.int .i64)], rts := [TPlan], F := fun x => impl_Base_planAt lp x.1 x.2.1 x.2.2.1 }
theorem impl_Base_planAt.eq (lp : Nat) (x : ADens [.v TBase, .v TOp, .v (.int .i64)]) : evalF (impl_Base_planAt.E lp) impl_Base_planAt.an lp Tryz.f155 [.v TBase, .v TOp, .v (.int .i64)] [TPlan] x = (impl_Base_planAt.S lp).F x := by kernel_rfl
theorem impl_Base_planAt.ok (lp : Nat) : Sound Tryz.prog 155 (impl_Base_planAt.S lp) := sound_of (E := impl_Base_planAt.E lp) (env_ok tabFits tabEqs ⟨impl_Base_commitAt.ok lp, impl_baseOf.ok lp, impl_mergeCommits.ok lp, impl_planned.ok, trivial⟩ trivial) mixed Tryz.func155 (by kernel_rfl) (c := codeOf Tryz.f155) (by kernel_rfl) (by kernel_rfl) impl_Base_planAt.an (fun x r h => ⟨lp, (impl_Base_planAt.eq lp x).trans h⟩)
def impl_flag.E : Env := { tab := tab, fns := [], ann := { own := [], ro := [] } }
def impl_flag.an : An := { pre := [] }
def impl_flag.S : Spec := { ats := [.v .bool], rts := [(.int .i64)], F := fun x => impl_flag x.1 }
theorem impl_flag.eq (lp : Nat) (x : ADens [.v .bool]) : evalF (impl_flag.E) impl_flag.an lp Tryz.f156 [.v .bool] [(.int .i64)] x = (impl_flag.S).F x := by kernel_rfl
theorem impl_flag.ok : Sound Tryz.prog 156 (impl_flag.S) := sound_of (E := impl_flag.E) (env_ok tabFits tabEqs trivial trivial) mixed Tryz.func156 (by kernel_rfl) (c := codeOf Tryz.f156) (by kernel_rfl) (by kernel_rfl) impl_flag.an (fun x r h => ⟨0, (impl_flag.eq 0 x).trans h⟩)
def impl_Client_isPossible.E (lp : Nat) : Env := { tab := tab, fns := [(154, impl_Client_isFresh.S), (61, impl_within.S), (75, impl_Client_isDone.S), (76, impl_Client_wish.S), (77, impl_hasSource.S), (153, impl_Wish_op.S), (155, impl_Base_planAt.S lp), (156, impl_flag.S), (157, slices_Equal_Entry.S lp)], ann := { own := [], ro := [2, 3] } }
def impl_Client_isPossible.an : An := { pre := [] }
def impl_Client_isPossible.S (lp : Nat) : Spec := { ats := [.v TClient, .v TBase], rts := [.bool], F := fun x => impl_Client_isPossible lp x.1 x.2.1 }
theorem impl_Client_isPossible.eq (lp : Nat) (x : ADens [.v TClient, .v TBase]) : evalF (impl_Client_isPossible.E lp) impl_Client_isPossible.an lp Tryz.f107 [.v TClient, .v TBase] [.bool] x = (impl_Client_isPossible.S lp).F x := by kernel_rfl
theorem impl_Client_isPossible.ok (lp : Nat) : Sound Tryz.prog 107 (impl_Client_isPossible.S lp) := sound_of (E := impl_Client_isPossible.E lp) (env_ok tabFits tabEqs ⟨impl_Client_isFresh.ok, impl_within.ok, impl_Client_isDone.ok, impl_Client_wish.ok, impl_hasSource.ok, impl_Wish_op.ok, impl_Base_planAt.ok lp, impl_flag.ok, slices_Equal_Entry.ok lp, trivial⟩ trivial) mixed Tryz.func107 (by kernel_rfl) (c := codeOf Tryz.f107) (by kernel_rfl) (by kernel_rfl) impl_Client_isPossible.an (fun x r h => ⟨lp, (impl_Client_isPossible.eq lp x).trans h⟩)
def impl_Client_isFor.E (lp : Nat) : Env := { tab := tab, fns := [(106, impl_WishOK.S lp), (105, impl_areAll_Wish.S lp), (61, impl_within.S), (107, impl_Client_isPossible.S lp)], ann := { own := [], ro := [2, 3] } }
def impl_Client_isFor.an : An := { pre := [] }
def impl_Client_isFor.S (lp : Nat) : Spec := { ats := [.v TClient, .v TBase], rts := [.bool], F := fun x => impl_Client_isFor lp x.1 x.2.1 }
theorem impl_Client_isFor.eq (lp : Nat) (x : ADens [.v TClient, .v TBase]) : evalF (impl_Client_isFor.E lp) impl_Client_isFor.an lp Tryz.f62 [.v TClient, .v TBase] [.bool] x = (impl_Client_isFor.S lp).F x := by kernel_rfl
theorem impl_Client_isFor.ok (lp : Nat) : Sound Tryz.prog 62 (impl_Client_isFor.S lp) := sound_of (E := impl_Client_isFor.E lp) (env_ok tabFits tabEqs ⟨impl_WishOK.ok lp, impl_areAll_Wish.ok lp, impl_within.ok, impl_Client_isPossible.ok lp, trivial⟩ trivial) mixed Tryz.func62 (by kernel_rfl) (c := codeOf Tryz.f62) (by kernel_rfl) (by kernel_rfl) impl_Client_isFor.an (fun x r h => ⟨lp, (impl_Client_isFor.eq lp x).trans h⟩)
def slices_IndexFunc_Moment.E (lp : Nat) : Env := { tab := tab, fns := [], ann := { own := [], ro := [] } }
def slices_IndexFunc_Moment.la2 : LoopAn := { kn := { tms := [0, 1, 7, 8] }, kx := {}, kr := { tms := [4] } }
def slices_IndexFunc_Moment.an : An := { loops := [(2, slices_IndexFunc_Moment.la2)] }
def slices_IndexFunc_Moment.s2 (x0 : List Moment) (x1 : (Moment × Unit) → Option Bool) (x7 : Int) (x8 : Int) : St := ⟨.v (.one (.b (.d (.sl TMoment) x0))) :: .v (.one (.b (.cl (.pair TMoment .unit) .bool x1))) :: (sk 5 (.v (.one (.b (.d (.int .i64) x7))) :: .v (.one (.b (.d (.int .i64) x8))) :: (sk 10 ([])))), sko 19 ([])⟩
def slices_IndexFunc_Moment.sx2 (y : Unit) : St := ⟨sk 19 ([]), sko 19 ([])⟩
def slices_IndexFunc_Moment.sr2 (z : Int) : St := ⟨sk 4 (.v (.one (.b (.d (.int .i64) z))) :: (sk 14 ([]))), sko 19 ([])⟩
def slices_IndexFunc_Moment.S (lp : Nat) : Spec := { ats := [.v (.sl TMoment), .clo (.pair TMoment .unit) .bool], rts := [(.int .i64)], F := fun x => slices_IndexFunc_Moment lp x.1 x.2.1 }
theorem slices_IndexFunc_Moment.t_b2 (lp : Nat) {R : Type} (N : St → Option R) (X : Out → St → Option R) (x0 : List Moment) (x1 : (Moment × Unit) → Option Bool) (x7 : Int) (x8 : Int) : codeK (slices_IndexFunc_Moment.E lp) slices_IndexFunc_Moment.an lp (loopAt 2 (codeOf Tryz.f158)) (slices_IndexFunc_Moment.s2 x0 x1 x7 x8) (lpK slices_IndexFunc_Moment.la2 N X) = slices_IndexFunc_Moment.b2 lp (fun x0 x1 x7 x8 => N (slices_IndexFunc_Moment.s2 x0 x1 x7 x8)) (fun y => X (.exit 0) (slices_IndexFunc_Moment.sx2 y)) (fun z => X .ret (slices_IndexFunc_Moment.sr2 z)) x0 x1 x7 x8 := by kernel_rfl
theorem slices_IndexFunc_Moment.n_b2 (lp : Nat) {R S : Type} (N : List Moment → ((Moment × Unit) → Option Bool) → Int → Int → Option R) (X : Unit → Option R) (Q : Int → Option R) (x0 : List Moment) (x1 : (Moment × Unit) → Option Bool) (x7 : Int) (x8 : Int) (k : R → Option S) : obind (slices_IndexFunc_Moment.b2 lp N X Q x0 x1 x7 x8) k = slices_IndexFunc_Moment.b2 lp (fun x0 x1 x7 x8 => obind (N x0 x1 x7 x8) k) (fun y => obind (X y) k) (fun z => obind (Q z) k) x0 x1 x7 x8 := by
  unfold slices_IndexFunc_Moment.b2; simp only [obind_none, obind_some, obind_cond, obind_oif, obind_oget, obind_obind]
theorem slices_IndexFunc_Moment.k2 (lp : Nat) {R : Type} (K : Out → St → Option R) : ∀ (n : Nat) (x0 : List Moment) (x1 : (Moment × Unit) → Option Bool) (x7 : Int) (x8 : Int), loopK slices_IndexFunc_Moment.la2 (fun σ K => codeK (slices_IndexFunc_Moment.E lp) slices_IndexFunc_Moment.an lp (loopAt 2 (codeOf Tryz.f158)) σ K) n (slices_IndexFunc_Moment.s2 x0 x1 x7 x8) K = obind (slices_IndexFunc_Moment.l2 lp n x0 x1 x7 x8) (leK 0 slices_IndexFunc_Moment.sr2 slices_IndexFunc_Moment.sx2 K) := by
  intro n
  induction n with
  | zero => intros; rfl
  | succ n ih =>
    intro x0 x1 x7 x8
    rw [loopK_succ, slices_IndexFunc_Moment.t_b2, slices_IndexFunc_Moment.l2, slices_IndexFunc_Moment.n_b2]
    simp only [ih, obind_some, leK_ret, leK_brk]
theorem slices_IndexFunc_Moment.t_a2 (lp : Nat) (y : Unit) : kont (R := Int) (slices_IndexFunc_Moment.E lp) slices_IndexFunc_Moment.an lp (finK (slices_IndexFunc_Moment.E lp) Tryz.f158 [(.int .i64)]) (stkAt 2 (codeOf Tryz.f158)) (.exit 0) (slices_IndexFunc_Moment.sx2 y) = slices_IndexFunc_Moment.a2 lp y := by kernel_rfl
theorem slices_IndexFunc_Moment.t_q2 (lp : Nat) (z : Int) : kont (R := Int) (slices_IndexFunc_Moment.E lp) slices_IndexFunc_Moment.an lp (finK (slices_IndexFunc_Moment.E lp) Tryz.f158 [(.int .i64)]) (stkAt 2 (codeOf Tryz.f158)) .ret (slices_IndexFunc_Moment.sr2 z) = slices_IndexFunc_Moment.q2 lp z := by kernel_rfl
theorem slices_IndexFunc_Moment.t_e (lp : Nat) (x0 : List Moment) (x1 : (Moment × Unit) → Option Bool) : evalF (slices_IndexFunc_Moment.E lp) slices_IndexFunc_Moment.an lp Tryz.f158 [.v (.sl TMoment), .clo (.pair TMoment .unit) .bool] [(.int .i64)] (x0, x1, ()) = slices_IndexFunc_Moment.e lp (fun x0 x1 x7 x8 => loopK slices_IndexFunc_Moment.la2 (fun σ K => codeK (slices_IndexFunc_Moment.E lp) slices_IndexFunc_Moment.an lp (loopAt 2 (codeOf Tryz.f158)) σ K) lp (slices_IndexFunc_Moment.s2 x0 x1 x7 x8) (kont (slices_IndexFunc_Moment.E lp) slices_IndexFunc_Moment.an lp (finK (slices_IndexFunc_Moment.E lp) Tryz.f158 [(.int .i64)]) (stkAt 2 (codeOf Tryz.f158)))) x0 x1 := by kernel_rfl
theorem slices_IndexFunc_Moment.eq0 (lp : Nat) (x0 : List Moment) (x1 : (Moment × Unit) → Option Bool) : evalF (slices_IndexFunc_Moment.E lp) slices_IndexFunc_Moment.an lp Tryz.f158 [.v (.sl TMoment), .clo (.pair TMoment .unit) .bool] [(.int .i64)] (x0, x1, ()) = slices_IndexFunc_Moment lp x0 x1 := by
  rw [slices_IndexFunc_Moment.t_e]; unfold slices_IndexFunc_Moment
  simp only [leK_leF _ slices_IndexFunc_Moment.sr2 slices_IndexFunc_Moment.sx2, slices_IndexFunc_Moment.k2, slices_IndexFunc_Moment.t_a2, slices_IndexFunc_Moment.t_q2]
theorem slices_IndexFunc_Moment.eq (lp : Nat) (x : ADens [.v (.sl TMoment), .clo (.pair TMoment .unit) .bool]) : evalF (slices_IndexFunc_Moment.E lp) slices_IndexFunc_Moment.an lp Tryz.f158 [.v (.sl TMoment), .clo (.pair TMoment .unit) .bool] [(.int .i64)] x = (slices_IndexFunc_Moment.S lp).F x := slices_IndexFunc_Moment.eq0 lp x.1 x.2.1
theorem slices_IndexFunc_Moment.ok (lp : Nat) : Sound Tryz.prog 158 (slices_IndexFunc_Moment.S lp) := sound_of (E := slices_IndexFunc_Moment.E lp) (env_ok tabFits tabEqs trivial trivial) mixed Tryz.func158 (by kernel_rfl) (c := codeOf Tryz.f158) (by kernel_rfl) (by kernel_rfl) slices_IndexFunc_Moment.an (fun x r h => ⟨lp, (slices_IndexFunc_Moment.eq lp x).trans h⟩)
def slices_ContainsFunc_Moment.E (lp : Nat) : Env := { tab := tab, fns := [(158, slices_IndexFunc_Moment.S lp)], ann := { own := [], ro := [] } }
def slices_ContainsFunc_Moment.an : An := { pre := [] }
def slices_ContainsFunc_Moment.S (lp : Nat) : Spec := { ats := [.v (.sl TMoment), .clo (.pair TMoment .unit) .bool], rts := [.bool], F := fun x => slices_ContainsFunc_Moment lp x.1 x.2.1 }
theorem slices_ContainsFunc_Moment.eq (lp : Nat) (x : ADens [.v (.sl TMoment), .clo (.pair TMoment .unit) .bool]) : evalF (slices_ContainsFunc_Moment.E lp) slices_ContainsFunc_Moment.an lp Tryz.f108 [.v (.sl TMoment), .clo (.pair TMoment .unit) .bool] [.bool] x = (slices_ContainsFunc_Moment.S lp).F x := by kernel_rfl
theorem slices_ContainsFunc_Moment.ok (lp : Nat) : Sound Tryz.prog 108 (slices_ContainsFunc_Moment.S lp) := sound_of (E := slices_ContainsFunc_Moment.E lp) (env_ok tabFits tabEqs ⟨slices_IndexFunc_Moment.ok lp, trivial⟩ trivial) mixed Tryz.func108 (by kernel_rfl) (c := codeOf Tryz.f108) (by kernel_rfl) (by kernel_rfl) slices_ContainsFunc_Moment.an (fun x r h => ⟨lp, (slices_ContainsFunc_Moment.eq lp x).trans h⟩)
def impl_areAll_Moment_c1.E : Env := { tab := tab, fns := [], ann := { own := [], ro := [2] } }
def impl_areAll_Moment_c1.an : An := { pre := [] }
def impl_areAll_Moment_c1.S : Spec := { ats := [.v TMoment, .ptrC (.pair TMoment .unit) .bool], rts := [.bool], F := fun x => impl_areAll_Moment_c1 x.1 x.2.1 }
theorem impl_areAll_Moment_c1.eq (lp : Nat) (x : ADens [.v TMoment, .ptrC (.pair TMoment .unit) .bool]) : evalF (impl_areAll_Moment_c1.E) impl_areAll_Moment_c1.an lp Tryz.f109 [.v TMoment, .ptrC (.pair TMoment .unit) .bool] [.bool] x = (impl_areAll_Moment_c1.S).F x := by kernel_rfl
theorem impl_areAll_Moment_c1.ok : Sound Tryz.prog 109 (impl_areAll_Moment_c1.S) := sound_of (E := impl_areAll_Moment_c1.E) (env_ok tabFits tabEqs trivial trivial) mixed Tryz.func109 (by kernel_rfl) (c := codeOf Tryz.f109) (by kernel_rfl) (by kernel_rfl) impl_areAll_Moment_c1.an (fun x r h => ⟨0, (impl_areAll_Moment_c1.eq 0 x).trans h⟩)
def impl_areAll_Moment.E (lp : Nat) : Env := { tab := tab, fns := [(109, impl_areAll_Moment_c1.S), (108, slices_ContainsFunc_Moment.S lp)], ann := { own := [], ro := [3] } }
def impl_areAll_Moment.an : An := { pre := [] }
def impl_areAll_Moment.S (lp : Nat) : Spec := { ats := [.v (.sl TMoment), .clo (.pair TMoment .unit) .bool], rts := [.bool], F := fun x => impl_areAll_Moment lp x.1 x.2.1 }
theorem impl_areAll_Moment.eq (lp : Nat) (x : ADens [.v (.sl TMoment), .clo (.pair TMoment .unit) .bool]) : evalF (impl_areAll_Moment.E lp) impl_areAll_Moment.an lp Tryz.f63 [.v (.sl TMoment), .clo (.pair TMoment .unit) .bool] [.bool] x = (impl_areAll_Moment.S lp).F x := by kernel_rfl
theorem impl_areAll_Moment.ok (lp : Nat) : Sound Tryz.prog 63 (impl_areAll_Moment.S lp) := sound_of (E := impl_areAll_Moment.E lp) (env_ok tabFits tabEqs ⟨impl_areAll_Moment_c1.ok, slices_ContainsFunc_Moment.ok lp, trivial⟩ trivial) mixed Tryz.func63 (by kernel_rfl) (c := codeOf Tryz.f63) (by kernel_rfl) (by kernel_rfl) impl_areAll_Moment.an (fun x r h => ⟨lp, (impl_areAll_Moment.eq lp x).trans h⟩)
def impl_Op_isZero.E : Env := { tab := tab, fns := [], ann := { own := [], ro := [1] } }
def impl_Op_isZero.an : An := { pre := [] }
def impl_Op_isZero.S : Spec := { ats := [.v TOp], rts := [.bool], F := fun x => impl_Op_isZero x.1 }
theorem impl_Op_isZero.eq (lp : Nat) (x : ADens [.v TOp]) : evalF (impl_Op_isZero.E) impl_Op_isZero.an lp Tryz.f110 [.v TOp] [.bool] x = (impl_Op_isZero.S).F x := by kernel_rfl
theorem impl_Op_isZero.ok : Sound Tryz.prog 110 (impl_Op_isZero.S) := sound_of (E := impl_Op_isZero.E) (env_ok tabFits tabEqs trivial trivial) mixed Tryz.func110 (by kernel_rfl) (c := codeOf Tryz.f110) (by kernel_rfl) (by kernel_rfl) impl_Op_isZero.an (fun x r h => ⟨0, (impl_Op_isZero.eq 0 x).trans h⟩)
def impl_isCode.E : Env := { tab := tab, fns := [(61, impl_within.S)], ann := { own := [], ro := [] } }
def impl_isCode.an : An := { pre := [] }
def impl_isCode.S : Spec := { ats := [.v (.int .i64)], rts := [.bool], F := fun x => impl_isCode x.1 }
theorem impl_isCode.eq (lp : Nat) (x : ADens [.v (.int .i64)]) : evalF (impl_isCode.E) impl_isCode.an lp Tryz.f161 [.v (.int .i64)] [.bool] x = (impl_isCode.S).F x := by kernel_rfl
theorem impl_isCode.ok : Sound Tryz.prog 161 (impl_isCode.S) := sound_of (E := impl_isCode.E) (env_ok tabFits tabEqs ⟨impl_within.ok, trivial⟩ trivial) mixed Tryz.func161 (by kernel_rfl) (c := codeOf Tryz.f161) (by kernel_rfl) (by kernel_rfl) impl_isCode.an (fun x r h => ⟨0, (impl_isCode.eq 0 x).trans h⟩)
def impl_isResult.E (lp : Nat) : Env := { tab := tab, fns := [(161, impl_isCode.S), (61, impl_within.S), (162, impl_isValue.S), (163, impl_MapOK.S lp)], ann := { own := [], ro := [2] } }
def impl_isResult.an : An := { pre := [] }
def impl_isResult.S (lp : Nat) : Spec := { ats := [.v TResult, .v (.int .i64)], rts := [.bool], F := fun x => impl_isResult lp x.1 x.2.1 }
theorem impl_isResult.eq (lp : Nat) (x : ADens [.v TResult, .v (.int .i64)]) : evalF (impl_isResult.E lp) impl_isResult.an lp Tryz.f112 [.v TResult, .v (.int .i64)] [.bool] x = (impl_isResult.S lp).F x := by kernel_rfl
theorem impl_isResult.ok (lp : Nat) : Sound Tryz.prog 112 (impl_isResult.S lp) := sound_of (E := impl_isResult.E lp) (env_ok tabFits tabEqs ⟨impl_isCode.ok, impl_within.ok, impl_isValue.ok, impl_MapOK.ok lp, trivial⟩ trivial) mixed Tryz.func112 (by kernel_rfl) (c := codeOf Tryz.f112) (by kernel_rfl) (by kernel_rfl) impl_isResult.an (fun x r h => ⟨lp, (impl_isResult.eq lp x).trans h⟩)
def impl_World_isMoment.E (lp : Nat) : Env := { tab := tab, fns := [(61, impl_within.S), (110, impl_Op_isZero.S), (112, impl_isResult.S lp), (111, impl_OpOK.S lp)], ann := { own := [], ro := [2, 3] } }
def impl_World_isMoment.an : An := { pre := [] }
def impl_World_isMoment.S (lp : Nat) : Spec := { ats := [.v TWorld, .v TMoment], rts := [.bool], F := fun x => impl_World_isMoment lp x.1 x.2.1 }
theorem impl_World_isMoment.eq (lp : Nat) (x : ADens [.v TWorld, .v TMoment]) : evalF (impl_World_isMoment.E lp) impl_World_isMoment.an lp Tryz.f64 [.v TWorld, .v TMoment] [.bool] x = (impl_World_isMoment.S lp).F x := by kernel_rfl
theorem impl_World_isMoment.ok (lp : Nat) : Sound Tryz.prog 64 (impl_World_isMoment.S lp) := sound_of (E := impl_World_isMoment.E lp) (env_ok tabFits tabEqs ⟨impl_within.ok, impl_Op_isZero.ok, impl_isResult.ok lp, impl_OpOK.ok lp, trivial⟩ trivial) mixed Tryz.func64 (by kernel_rfl) (c := codeOf Tryz.f64) (by kernel_rfl) (by kernel_rfl) impl_World_isMoment.an (fun x r h => ⟨lp, (impl_World_isMoment.eq lp x).trans h⟩)
def slices_IndexFunc_Watch.E (lp : Nat) : Env := { tab := tab, fns := [], ann := { own := [], ro := [] } }
def slices_IndexFunc_Watch.la2 : LoopAn := { kn := { tms := [0, 1, 7, 8] }, kx := {}, kr := { tms := [4] } }
def slices_IndexFunc_Watch.an : An := { loops := [(2, slices_IndexFunc_Watch.la2)] }
def slices_IndexFunc_Watch.s2 (x0 : List Watch) (x1 : (Watch × Unit) → Option Bool) (x7 : Int) (x8 : Int) : St := ⟨.v (.one (.b (.d (.sl TWatch) x0))) :: .v (.one (.b (.cl (.pair TWatch .unit) .bool x1))) :: (sk 5 (.v (.one (.b (.d (.int .i64) x7))) :: .v (.one (.b (.d (.int .i64) x8))) :: (sk 10 ([])))), sko 19 ([])⟩
def slices_IndexFunc_Watch.sx2 (y : Unit) : St := ⟨sk 19 ([]), sko 19 ([])⟩
def slices_IndexFunc_Watch.sr2 (z : Int) : St := ⟨sk 4 (.v (.one (.b (.d (.int .i64) z))) :: (sk 14 ([]))), sko 19 ([])⟩
def slices_IndexFunc_Watch.S (lp : Nat) : Spec := { ats := [.v (.sl TWatch), .clo (.pair TWatch .unit) .bool], rts := [(.int .i64)], F := fun x => slices_IndexFunc_Watch lp x.1 x.2.1 }
theorem slices_IndexFunc_Watch.t_b2 (lp : Nat) {R : Type} (N : St → Option R) (X : Out → St → Option R) (x0 : List Watch) (x1 : (Watch × Unit) → Option Bool) (x7 : Int) (x8 : Int) : codeK (slices_IndexFunc_Watch.E lp) slices_IndexFunc_Watch.an lp (loopAt 2 (codeOf Tryz.f164)) (slices_IndexFunc_Watch.s2 x0 x1 x7 x8) (lpK slices_IndexFunc_Watch.la2 N X) = slices_IndexFunc_Watch.b2 lp (fun x0 x1 x7 x8 => N (slices_IndexFunc_Watch.s2 x0 x1 x7 x8)) (fun y => X (.exit 0) (slices_IndexFunc_Watch.sx2 y)) (fun z => X .ret (slices_IndexFunc_Watch.sr2 z)) x0 x1 x7 x8 := by kernel_rfl
theorem slices_IndexFunc_Watch.n_b2 (lp : Nat) {R S : Type} (N : List Watch → ((Watch × Unit) → Option Bool) → Int → Int → Option R) (X : Unit → Option R) (Q : Int → Option R) (x0 : List Watch) (x1 : (Watch × Unit) → Option Bool) (x7 : Int) (x8 : Int) (k : R → Option S) : obind (slices_IndexFunc_Watch.b2 lp N X Q x0 x1 x7 x8) k = slices_IndexFunc_Watch.b2 lp (fun x0 x1 x7 x8 => obind (N x0 x1 x7 x8) k) (fun y => obind (X y) k) (fun z => obind (Q z) k) x0 x1 x7 x8 := by
  unfold slices_IndexFunc_Watch.b2; simp only [obind_none, obind_some, obind_cond, obind_oif, obind_oget, obind_obind]
theorem slices_IndexFunc_Watch.k2 (lp : Nat) {R : Type} (K : Out → St → Option R) : ∀ (n : Nat) (x0 : List Watch) (x1 : (Watch × Unit) → Option Bool) (x7 : Int) (x8 : Int), loopK slices_IndexFunc_Watch.la2 (fun σ K => codeK (slices_IndexFunc_Watch.E lp) slices_IndexFunc_Watch.an lp (loopAt 2 (codeOf Tryz.f164)) σ K) n (slices_IndexFunc_Watch.s2 x0 x1 x7 x8) K = obind (slices_IndexFunc_Watch.l2 lp n x0 x1 x7 x8) (leK 0 slices_IndexFunc_Watch.sr2 slices_IndexFunc_Watch.sx2 K) := by
  intro n
  induction n with
  | zero => intros; rfl
  | succ n ih =>
    intro x0 x1 x7 x8
    rw [loopK_succ, slices_IndexFunc_Watch.t_b2, slices_IndexFunc_Watch.l2, slices_IndexFunc_Watch.n_b2]
    simp only [ih, obind_some, leK_ret, leK_brk]
theorem slices_IndexFunc_Watch.t_a2 (lp : Nat) (y : Unit) : kont (R := Int) (slices_IndexFunc_Watch.E lp) slices_IndexFunc_Watch.an lp (finK (slices_IndexFunc_Watch.E lp) Tryz.f164 [(.int .i64)]) (stkAt 2 (codeOf Tryz.f164)) (.exit 0) (slices_IndexFunc_Watch.sx2 y) = slices_IndexFunc_Watch.a2 lp y := by kernel_rfl
theorem slices_IndexFunc_Watch.t_q2 (lp : Nat) (z : Int) : kont (R := Int) (slices_IndexFunc_Watch.E lp) slices_IndexFunc_Watch.an lp (finK (slices_IndexFunc_Watch.E lp) Tryz.f164 [(.int .i64)]) (stkAt 2 (codeOf Tryz.f164)) .ret (slices_IndexFunc_Watch.sr2 z) = slices_IndexFunc_Watch.q2 lp z := by kernel_rfl
theorem slices_IndexFunc_Watch.t_e (lp : Nat) (x0 : List Watch) (x1 : (Watch × Unit) → Option Bool) : evalF (slices_IndexFunc_Watch.E lp) slices_IndexFunc_Watch.an lp Tryz.f164 [.v (.sl TWatch), .clo (.pair TWatch .unit) .bool] [(.int .i64)] (x0, x1, ()) = slices_IndexFunc_Watch.e lp (fun x0 x1 x7 x8 => loopK slices_IndexFunc_Watch.la2 (fun σ K => codeK (slices_IndexFunc_Watch.E lp) slices_IndexFunc_Watch.an lp (loopAt 2 (codeOf Tryz.f164)) σ K) lp (slices_IndexFunc_Watch.s2 x0 x1 x7 x8) (kont (slices_IndexFunc_Watch.E lp) slices_IndexFunc_Watch.an lp (finK (slices_IndexFunc_Watch.E lp) Tryz.f164 [(.int .i64)]) (stkAt 2 (codeOf Tryz.f164)))) x0 x1 := by kernel_rfl
theorem slices_IndexFunc_Watch.eq0 (lp : Nat) (x0 : List Watch) (x1 : (Watch × Unit) → Option Bool) : evalF (slices_IndexFunc_Watch.E lp) slices_IndexFunc_Watch.an lp Tryz.f164 [.v (.sl TWatch), .clo (.pair TWatch .unit) .bool] [(.int .i64)] (x0, x1, ()) = slices_IndexFunc_Watch lp x0 x1 := by
  rw [slices_IndexFunc_Watch.t_e]; unfold slices_IndexFunc_Watch
  simp only [leK_leF _ slices_IndexFunc_Watch.sr2 slices_IndexFunc_Watch.sx2, slices_IndexFunc_Watch.k2, slices_IndexFunc_Watch.t_a2, slices_IndexFunc_Watch.t_q2]
theorem slices_IndexFunc_Watch.eq (lp : Nat) (x : ADens [.v (.sl TWatch), .clo (.pair TWatch .unit) .bool]) : evalF (slices_IndexFunc_Watch.E lp) slices_IndexFunc_Watch.an lp Tryz.f164 [.v (.sl TWatch), .clo (.pair TWatch .unit) .bool] [(.int .i64)] x = (slices_IndexFunc_Watch.S lp).F x := slices_IndexFunc_Watch.eq0 lp x.1 x.2.1
theorem slices_IndexFunc_Watch.ok (lp : Nat) : Sound Tryz.prog 164 (slices_IndexFunc_Watch.S lp) := sound_of (E := slices_IndexFunc_Watch.E lp) (env_ok tabFits tabEqs trivial trivial) mixed Tryz.func164 (by kernel_rfl) (c := codeOf Tryz.f164) (by kernel_rfl) (by kernel_rfl) slices_IndexFunc_Watch.an (fun x r h => ⟨lp, (slices_IndexFunc_Watch.eq lp x).trans h⟩)
def slices_ContainsFunc_Watch.E (lp : Nat) : Env := { tab := tab, fns := [(164, slices_IndexFunc_Watch.S lp)], ann := { own := [], ro := [] } }
def slices_ContainsFunc_Watch.an : An := { pre := [] }
def slices_ContainsFunc_Watch.S (lp : Nat) : Spec := { ats := [.v (.sl TWatch), .clo (.pair TWatch .unit) .bool], rts := [.bool], F := fun x => slices_ContainsFunc_Watch lp x.1 x.2.1 }
theorem slices_ContainsFunc_Watch.eq (lp : Nat) (x : ADens [.v (.sl TWatch), .clo (.pair TWatch .unit) .bool]) : evalF (slices_ContainsFunc_Watch.E lp) slices_ContainsFunc_Watch.an lp Tryz.f113 [.v (.sl TWatch), .clo (.pair TWatch .unit) .bool] [.bool] x = (slices_ContainsFunc_Watch.S lp).F x := by kernel_rfl
theorem slices_ContainsFunc_Watch.ok (lp : Nat) : Sound Tryz.prog 113 (slices_ContainsFunc_Watch.S lp) := sound_of (E := slices_ContainsFunc_Watch.E lp) (env_ok tabFits tabEqs ⟨slices_IndexFunc_Watch.ok lp, trivial⟩ trivial) mixed Tryz.func113 (by kernel_rfl) (c := codeOf Tryz.f113) (by kernel_rfl) (by kernel_rfl) slices_ContainsFunc_Watch.an (fun x r h => ⟨lp, (slices_ContainsFunc_Watch.eq lp x).trans h⟩)
def impl_areAll_Watch_c1.E : Env := { tab := tab, fns := [], ann := { own := [], ro := [2] } }
def impl_areAll_Watch_c1.an : An := { pre := [] }
def impl_areAll_Watch_c1.S : Spec := { ats := [.v TWatch, .ptrC (.pair TWatch .unit) .bool], rts := [.bool], F := fun x => impl_areAll_Watch_c1 x.1 x.2.1 }
theorem impl_areAll_Watch_c1.eq (lp : Nat) (x : ADens [.v TWatch, .ptrC (.pair TWatch .unit) .bool]) : evalF (impl_areAll_Watch_c1.E) impl_areAll_Watch_c1.an lp Tryz.f114 [.v TWatch, .ptrC (.pair TWatch .unit) .bool] [.bool] x = (impl_areAll_Watch_c1.S).F x := by kernel_rfl
theorem impl_areAll_Watch_c1.ok : Sound Tryz.prog 114 (impl_areAll_Watch_c1.S) := sound_of (E := impl_areAll_Watch_c1.E) (env_ok tabFits tabEqs trivial trivial) mixed Tryz.func114 (by kernel_rfl) (c := codeOf Tryz.f114) (by kernel_rfl) (by kernel_rfl) impl_areAll_Watch_c1.an (fun x r h => ⟨0, (impl_areAll_Watch_c1.eq 0 x).trans h⟩)
def impl_areAll_Watch.E (lp : Nat) : Env := { tab := tab, fns := [(114, impl_areAll_Watch_c1.S), (113, slices_ContainsFunc_Watch.S lp)], ann := { own := [], ro := [3] } }
def impl_areAll_Watch.an : An := { pre := [] }
def impl_areAll_Watch.S (lp : Nat) : Spec := { ats := [.v (.sl TWatch), .clo (.pair TWatch .unit) .bool], rts := [.bool], F := fun x => impl_areAll_Watch lp x.1 x.2.1 }
theorem impl_areAll_Watch.eq (lp : Nat) (x : ADens [.v (.sl TWatch), .clo (.pair TWatch .unit) .bool]) : evalF (impl_areAll_Watch.E lp) impl_areAll_Watch.an lp Tryz.f65 [.v (.sl TWatch), .clo (.pair TWatch .unit) .bool] [.bool] x = (impl_areAll_Watch.S lp).F x := by kernel_rfl
theorem impl_areAll_Watch.ok (lp : Nat) : Sound Tryz.prog 65 (impl_areAll_Watch.S lp) := sound_of (E := impl_areAll_Watch.E lp) (env_ok tabFits tabEqs ⟨impl_areAll_Watch_c1.ok, slices_ContainsFunc_Watch.ok lp, trivial⟩ trivial) mixed Tryz.func65 (by kernel_rfl) (c := codeOf Tryz.f65) (by kernel_rfl) (by kernel_rfl) impl_areAll_Watch.an (fun x r h => ⟨lp, (impl_areAll_Watch.eq lp x).trans h⟩)
def impl_isList_Event.E : Env := { tab := tab, fns := [], ann := { own := [], ro := [] } }
def impl_isList_Event.an : An := { pre := [] }
def impl_isList_Event.S : Spec := { ats := [.v (.sl TEvent)], rts := [.bool], F := fun x => impl_isList_Event x.1 }
theorem impl_isList_Event.eq (lp : Nat) (x : ADens [.v (.sl TEvent)]) : evalF (impl_isList_Event.E) impl_isList_Event.an lp Tryz.f169 [.v (.sl TEvent)] [.bool] x = (impl_isList_Event.S).F x := by kernel_rfl
theorem impl_isList_Event.ok : Sound Tryz.prog 169 (impl_isList_Event.S) := sound_of (E := impl_isList_Event.E) (env_ok tabFits tabEqs trivial trivial) mixed Tryz.func169 (by kernel_rfl) (c := codeOf Tryz.f169) (by kernel_rfl) (by kernel_rfl) impl_isList_Event.an (fun x r h => ⟨0, (impl_isList_Event.eq 0 x).trans h⟩)
def impl_EventsOK.E (lp : Nat) : Env := { tab := tab, fns := [(61, impl_within.S), (169, impl_isList_Event.S)], ann := { own := [], ro := [] } }
def impl_EventsOK.la2 : LoopAn := { kn := { tms := [0, 5, 6, 7] }, kx := { tms := [0] }, kr := { tms := [2] } }
def impl_EventsOK.an : An := { loops := [(2, impl_EventsOK.la2)] }
def impl_EventsOK.s2 (x0 : List Event) (x5 : List Event) (x6 : Int) (x7 : Int) : St := ⟨.v (.one (.b (.d (.sl TEvent) x0))) :: (sk 4 (.v (.one (.b (.d (.sl TEvent) x5))) :: .v (.one (.b (.d (.int .i64) x6))) :: .v (.one (.b (.d (.int .i64) x7))) :: (sk 47 ([])))), sko 55 ([])⟩
def impl_EventsOK.sx2 (y : (List Event)) : St := ⟨.v (.one (.b (.d (.sl TEvent) y))) :: (sk 54 ([])), sko 55 ([])⟩
def impl_EventsOK.sr2 (z : Bool) : St := ⟨sk 2 (.v (.one (.b (.d .bool z))) :: (sk 52 ([]))), sko 55 ([])⟩
def impl_EventsOK.S (lp : Nat) : Spec := { ats := [.v (.sl TEvent)], rts := [.bool], F := fun x => impl_EventsOK lp x.1 }
theorem impl_EventsOK.t_b2 (lp : Nat) {R : Type} (N : St → Option R) (X : Out → St → Option R) (x0 : List Event) (x5 : List Event) (x6 : Int) (x7 : Int) : codeK (impl_EventsOK.E lp) impl_EventsOK.an lp (loopAt 2 (codeOf Tryz.f116)) (impl_EventsOK.s2 x0 x5 x6 x7) (lpK impl_EventsOK.la2 N X) = impl_EventsOK.b2 lp (fun x0 x5 x6 x7 => N (impl_EventsOK.s2 x0 x5 x6 x7)) (fun y => X (.exit 0) (impl_EventsOK.sx2 y)) (fun z => X .ret (impl_EventsOK.sr2 z)) x0 x5 x6 x7 := by kernel_rfl
theorem impl_EventsOK.n_b2 (lp : Nat) {R S : Type} (N : List Event → List Event → Int → Int → Option R) (X : ((List Event)) → Option R) (Q : Bool → Option R) (x0 : List Event) (x5 : List Event) (x6 : Int) (x7 : Int) (k : R → Option S) : obind (impl_EventsOK.b2 lp N X Q x0 x5 x6 x7) k = impl_EventsOK.b2 lp (fun x0 x5 x6 x7 => obind (N x0 x5 x6 x7) k) (fun y => obind (X y) k) (fun z => obind (Q z) k) x0 x5 x6 x7 := by
  unfold impl_EventsOK.b2; simp only [obind_none, obind_some, obind_cond, obind_oif, obind_oget, obind_obind]
theorem impl_EventsOK.k2 (lp : Nat) {R : Type} (K : Out → St → Option R) : ∀ (n : Nat) (x0 : List Event) (x5 : List Event) (x6 : Int) (x7 : Int), loopK impl_EventsOK.la2 (fun σ K => codeK (impl_EventsOK.E lp) impl_EventsOK.an lp (loopAt 2 (codeOf Tryz.f116)) σ K) n (impl_EventsOK.s2 x0 x5 x6 x7) K = obind (impl_EventsOK.l2 lp n x0 x5 x6 x7) (leK 0 impl_EventsOK.sr2 impl_EventsOK.sx2 K) := by
  intro n
  induction n with
  | zero => intros; rfl
  | succ n ih =>
    intro x0 x5 x6 x7
    rw [loopK_succ, impl_EventsOK.t_b2, impl_EventsOK.l2, impl_EventsOK.n_b2]
    simp only [ih, obind_some, leK_ret, leK_brk]
theorem impl_EventsOK.t_a2 (lp : Nat) (y : (List Event)) : kont (R := Bool) (impl_EventsOK.E lp) impl_EventsOK.an lp (finK (impl_EventsOK.E lp) Tryz.f116 [.bool]) (stkAt 2 (codeOf Tryz.f116)) (.exit 0) (impl_EventsOK.sx2 y) = impl_EventsOK.a2 lp y := by kernel_rfl
theorem impl_EventsOK.t_q2 (lp : Nat) (z : Bool) : kont (R := Bool) (impl_EventsOK.E lp) impl_EventsOK.an lp (finK (impl_EventsOK.E lp) Tryz.f116 [.bool]) (stkAt 2 (codeOf Tryz.f116)) .ret (impl_EventsOK.sr2 z) = impl_EventsOK.q2 lp z := by kernel_rfl
theorem impl_EventsOK.t_e (lp : Nat) (x0 : List Event) : evalF (impl_EventsOK.E lp) impl_EventsOK.an lp Tryz.f116 [.v (.sl TEvent)] [.bool] (x0, ()) = impl_EventsOK.e lp (fun x0 x5 x6 x7 => loopK impl_EventsOK.la2 (fun σ K => codeK (impl_EventsOK.E lp) impl_EventsOK.an lp (loopAt 2 (codeOf Tryz.f116)) σ K) lp (impl_EventsOK.s2 x0 x5 x6 x7) (kont (impl_EventsOK.E lp) impl_EventsOK.an lp (finK (impl_EventsOK.E lp) Tryz.f116 [.bool]) (stkAt 2 (codeOf Tryz.f116)))) x0 := by kernel_rfl
theorem impl_EventsOK.eq0 (lp : Nat) (x0 : List Event) : evalF (impl_EventsOK.E lp) impl_EventsOK.an lp Tryz.f116 [.v (.sl TEvent)] [.bool] (x0, ()) = impl_EventsOK lp x0 := by
  rw [impl_EventsOK.t_e]; unfold impl_EventsOK
  simp only [leK_leF _ impl_EventsOK.sr2 impl_EventsOK.sx2, impl_EventsOK.k2, impl_EventsOK.t_a2, impl_EventsOK.t_q2]
theorem impl_EventsOK.eq (lp : Nat) (x : ADens [.v (.sl TEvent)]) : evalF (impl_EventsOK.E lp) impl_EventsOK.an lp Tryz.f116 [.v (.sl TEvent)] [.bool] x = (impl_EventsOK.S lp).F x := impl_EventsOK.eq0 lp x.1
theorem impl_EventsOK.ok (lp : Nat) : Sound Tryz.prog 116 (impl_EventsOK.S lp) := sound_of (E := impl_EventsOK.E lp) (env_ok tabFits tabEqs ⟨impl_within.ok, impl_isList_Event.ok, trivial⟩ trivial) mixed Tryz.func116 (by kernel_rfl) (c := codeOf Tryz.f116) (by kernel_rfl) (by kernel_rfl) impl_EventsOK.an (fun x r h => ⟨lp, (impl_EventsOK.eq lp x).trans h⟩)
def slices_IndexFunc_Event.E (lp : Nat) : Env := { tab := tab, fns := [], ann := { own := [], ro := [] } }
def slices_IndexFunc_Event.la2 : LoopAn := { kn := { tms := [0, 1, 7, 8] }, kx := {}, kr := { tms := [4] } }
def slices_IndexFunc_Event.an : An := { loops := [(2, slices_IndexFunc_Event.la2)] }
def slices_IndexFunc_Event.s2 (x0 : List Event) (x1 : (Event × Unit) → Option Bool) (x7 : Int) (x8 : Int) : St := ⟨.v (.one (.b (.d (.sl TEvent) x0))) :: .v (.one (.b (.cl (.pair TEvent .unit) .bool x1))) :: (sk 5 (.v (.one (.b (.d (.int .i64) x7))) :: .v (.one (.b (.d (.int .i64) x8))) :: (sk 10 ([])))), sko 19 ([])⟩
def slices_IndexFunc_Event.sx2 (y : Unit) : St := ⟨sk 19 ([]), sko 19 ([])⟩
def slices_IndexFunc_Event.sr2 (z : Int) : St := ⟨sk 4 (.v (.one (.b (.d (.int .i64) z))) :: (sk 14 ([]))), sko 19 ([])⟩
def slices_IndexFunc_Event.S (lp : Nat) : Spec := { ats := [.v (.sl TEvent), .clo (.pair TEvent .unit) .bool], rts := [(.int .i64)], F := fun x => slices_IndexFunc_Event lp x.1 x.2.1 }
theorem slices_IndexFunc_Event.t_b2 (lp : Nat) {R : Type} (N : St → Option R) (X : Out → St → Option R) (x0 : List Event) (x1 : (Event × Unit) → Option Bool) (x7 : Int) (x8 : Int) : codeK (slices_IndexFunc_Event.E lp) slices_IndexFunc_Event.an lp (loopAt 2 (codeOf Tryz.f193)) (slices_IndexFunc_Event.s2 x0 x1 x7 x8) (lpK slices_IndexFunc_Event.la2 N X) = slices_IndexFunc_Event.b2 lp (fun x0 x1 x7 x8 => N (slices_IndexFunc_Event.s2 x0 x1 x7 x8)) (fun y => X (.exit 0) (slices_IndexFunc_Event.sx2 y)) (fun z => X .ret (slices_IndexFunc_Event.sr2 z)) x0 x1 x7 x8 := by kernel_rfl
theorem slices_IndexFunc_Event.n_b2 (lp : Nat) {R S : Type} (N : List Event → ((Event × Unit) → Option Bool) → Int → Int → Option R) (X : Unit → Option R) (Q : Int → Option R) (x0 : List Event) (x1 : (Event × Unit) → Option Bool) (x7 : Int) (x8 : Int) (k : R → Option S) : obind (slices_IndexFunc_Event.b2 lp N X Q x0 x1 x7 x8) k = slices_IndexFunc_Event.b2 lp (fun x0 x1 x7 x8 => obind (N x0 x1 x7 x8) k) (fun y => obind (X y) k) (fun z => obind (Q z) k) x0 x1 x7 x8 := by
  unfold slices_IndexFunc_Event.b2; simp only [obind_none, obind_some, obind_cond, obind_oif, obind_oget, obind_obind]
theorem slices_IndexFunc_Event.k2 (lp : Nat) {R : Type} (K : Out → St → Option R) : ∀ (n : Nat) (x0 : List Event) (x1 : (Event × Unit) → Option Bool) (x7 : Int) (x8 : Int), loopK slices_IndexFunc_Event.la2 (fun σ K => codeK (slices_IndexFunc_Event.E lp) slices_IndexFunc_Event.an lp (loopAt 2 (codeOf Tryz.f193)) σ K) n (slices_IndexFunc_Event.s2 x0 x1 x7 x8) K = obind (slices_IndexFunc_Event.l2 lp n x0 x1 x7 x8) (leK 0 slices_IndexFunc_Event.sr2 slices_IndexFunc_Event.sx2 K) := by
  intro n
  induction n with
  | zero => intros; rfl
  | succ n ih =>
    intro x0 x1 x7 x8
    rw [loopK_succ, slices_IndexFunc_Event.t_b2, slices_IndexFunc_Event.l2, slices_IndexFunc_Event.n_b2]
    simp only [ih, obind_some, leK_ret, leK_brk]
theorem slices_IndexFunc_Event.t_a2 (lp : Nat) (y : Unit) : kont (R := Int) (slices_IndexFunc_Event.E lp) slices_IndexFunc_Event.an lp (finK (slices_IndexFunc_Event.E lp) Tryz.f193 [(.int .i64)]) (stkAt 2 (codeOf Tryz.f193)) (.exit 0) (slices_IndexFunc_Event.sx2 y) = slices_IndexFunc_Event.a2 lp y := by kernel_rfl
theorem slices_IndexFunc_Event.t_q2 (lp : Nat) (z : Int) : kont (R := Int) (slices_IndexFunc_Event.E lp) slices_IndexFunc_Event.an lp (finK (slices_IndexFunc_Event.E lp) Tryz.f193 [(.int .i64)]) (stkAt 2 (codeOf Tryz.f193)) .ret (slices_IndexFunc_Event.sr2 z) = slices_IndexFunc_Event.q2 lp z := by kernel_rfl
theorem slices_IndexFunc_Event.t_e (lp : Nat) (x0 : List Event) (x1 : (Event × Unit) → Option Bool) : evalF (slices_IndexFunc_Event.E lp) slices_IndexFunc_Event.an lp Tryz.f193 [.v (.sl TEvent), .clo (.pair TEvent .unit) .bool] [(.int .i64)] (x0, x1, ()) = slices_IndexFunc_Event.e lp (fun x0 x1 x7 x8 => loopK slices_IndexFunc_Event.la2 (fun σ K => codeK (slices_IndexFunc_Event.E lp) slices_IndexFunc_Event.an lp (loopAt 2 (codeOf Tryz.f193)) σ K) lp (slices_IndexFunc_Event.s2 x0 x1 x7 x8) (kont (slices_IndexFunc_Event.E lp) slices_IndexFunc_Event.an lp (finK (slices_IndexFunc_Event.E lp) Tryz.f193 [(.int .i64)]) (stkAt 2 (codeOf Tryz.f193)))) x0 x1 := by kernel_rfl
theorem slices_IndexFunc_Event.eq0 (lp : Nat) (x0 : List Event) (x1 : (Event × Unit) → Option Bool) : evalF (slices_IndexFunc_Event.E lp) slices_IndexFunc_Event.an lp Tryz.f193 [.v (.sl TEvent), .clo (.pair TEvent .unit) .bool] [(.int .i64)] (x0, x1, ()) = slices_IndexFunc_Event lp x0 x1 := by
  rw [slices_IndexFunc_Event.t_e]; unfold slices_IndexFunc_Event
  simp only [leK_leF _ slices_IndexFunc_Event.sr2 slices_IndexFunc_Event.sx2, slices_IndexFunc_Event.k2, slices_IndexFunc_Event.t_a2, slices_IndexFunc_Event.t_q2]
theorem slices_IndexFunc_Event.eq (lp : Nat) (x : ADens [.v (.sl TEvent), .clo (.pair TEvent .unit) .bool]) : evalF (slices_IndexFunc_Event.E lp) slices_IndexFunc_Event.an lp Tryz.f193 [.v (.sl TEvent), .clo (.pair TEvent .unit) .bool] [(.int .i64)] x = (slices_IndexFunc_Event.S lp).F x := slices_IndexFunc_Event.eq0 lp x.1 x.2.1
theorem slices_IndexFunc_Event.ok (lp : Nat) : Sound Tryz.prog 193 (slices_IndexFunc_Event.S lp) := sound_of (E := slices_IndexFunc_Event.E lp) (env_ok tabFits tabEqs trivial trivial) mixed Tryz.func193 (by kernel_rfl) (c := codeOf Tryz.f193) (by kernel_rfl) (by kernel_rfl) slices_IndexFunc_Event.an (fun x r h => ⟨lp, (slices_IndexFunc_Event.eq lp x).trans h⟩)
def slices_ContainsFunc_Event.E (lp : Nat) : Env := { tab := tab, fns := [(193, slices_IndexFunc_Event.S lp)], ann := { own := [], ro := [] } }
def slices_ContainsFunc_Event.an : An := { pre := [] }
def slices_ContainsFunc_Event.S (lp : Nat) : Spec := { ats := [.v (.sl TEvent), .clo (.pair TEvent .unit) .bool], rts := [.bool], F := fun x => slices_ContainsFunc_Event lp x.1 x.2.1 }
theorem slices_ContainsFunc_Event.eq (lp : Nat) (x : ADens [.v (.sl TEvent), .clo (.pair TEvent .unit) .bool]) : evalF (slices_ContainsFunc_Event.E lp) slices_ContainsFunc_Event.an lp Tryz.f170 [.v (.sl TEvent), .clo (.pair TEvent .unit) .bool] [.bool] x = (slices_ContainsFunc_Event.S lp).F x := by kernel_rfl
theorem slices_ContainsFunc_Event.ok (lp : Nat) : Sound Tryz.prog 170 (slices_ContainsFunc_Event.S lp) := sound_of (E := slices_ContainsFunc_Event.E lp) (env_ok tabFits tabEqs ⟨slices_IndexFunc_Event.ok lp, trivial⟩ trivial) mixed Tryz.func170 (by kernel_rfl) (c := codeOf Tryz.f170) (by kernel_rfl) (by kernel_rfl) slices_ContainsFunc_Event.an (fun x r h => ⟨lp, (slices_ContainsFunc_Event.eq lp x).trans h⟩)
def impl_areAll_Event_c1.E : Env := { tab := tab, fns := [], ann := { own := [], ro := [2] } }
def impl_areAll_Event_c1.an : An := { pre := [] }
def impl_areAll_Event_c1.S : Spec := { ats := [.v TEvent, .ptrC (.pair TEvent .unit) .bool], rts := [.bool], F := fun x => impl_areAll_Event_c1 x.1 x.2.1 }
theorem impl_areAll_Event_c1.eq (lp : Nat) (x : ADens [.v TEvent, .ptrC (.pair TEvent .unit) .bool]) : evalF (impl_areAll_Event_c1.E) impl_areAll_Event_c1.an lp Tryz.f171 [.v TEvent, .ptrC (.pair TEvent .unit) .bool] [.bool] x = (impl_areAll_Event_c1.S).F x := by kernel_rfl
theorem impl_areAll_Event_c1.ok : Sound Tryz.prog 171 (impl_areAll_Event_c1.S) := sound_of (E := impl_areAll_Event_c1.E) (env_ok tabFits tabEqs trivial trivial) mixed Tryz.func171 (by kernel_rfl) (c := codeOf Tryz.f171) (by kernel_rfl) (by kernel_rfl) impl_areAll_Event_c1.an (fun x r h => ⟨0, (impl_areAll_Event_c1.eq 0 x).trans h⟩)
def impl_areAll_Event.E (lp : Nat) : Env := { tab := tab, fns := [(171, impl_areAll_Event_c1.S), (170, slices_ContainsFunc_Event.S lp)], ann := { own := [], ro := [3] } }
def impl_areAll_Event.an : An := { pre := [] }
def impl_areAll_Event.S (lp : Nat) : Spec := { ats := [.v (.sl TEvent), .clo (.pair TEvent .unit) .bool], rts := [.bool], F := fun x => impl_areAll_Event lp x.1 x.2.1 }
theorem impl_areAll_Event.eq (lp : Nat) (x : ADens [.v (.sl TEvent), .clo (.pair TEvent .unit) .bool]) : evalF (impl_areAll_Event.E lp) impl_areAll_Event.an lp Tryz.f117 [.v (.sl TEvent), .clo (.pair TEvent .unit) .bool] [.bool] x = (impl_areAll_Event.S lp).F x := by kernel_rfl
theorem impl_areAll_Event.ok (lp : Nat) : Sound Tryz.prog 117 (impl_areAll_Event.S lp) := sound_of (E := impl_areAll_Event.E lp) (env_ok tabFits tabEqs ⟨impl_areAll_Event_c1.ok, slices_ContainsFunc_Event.ok lp, trivial⟩ trivial) mixed Tryz.func117 (by kernel_rfl) (c := codeOf Tryz.f117) (by kernel_rfl) (by kernel_rfl) impl_areAll_Event.an (fun x r h => ⟨lp, (impl_areAll_Event.eq lp x).trans h⟩)
def impl_WatchOK_c1.E : Env := { tab := tab, fns := [], ann := { own := [], ro := [1] } }
def impl_WatchOK_c1.an : An := { pre := [] }
def impl_WatchOK_c1.S : Spec := { ats := [.v TEvent], rts := [.bool], F := fun x => impl_WatchOK_c1 x.1 }
theorem impl_WatchOK_c1.eq (lp : Nat) (x : ADens [.v TEvent]) : evalF (impl_WatchOK_c1.E) impl_WatchOK_c1.an lp Tryz.f118 [.v TEvent] [.bool] x = (impl_WatchOK_c1.S).F x := by kernel_rfl
theorem impl_WatchOK_c1.ok : Sound Tryz.prog 118 (impl_WatchOK_c1.S) := sound_of (E := impl_WatchOK_c1.E) (env_ok tabFits tabEqs trivial trivial) mixed Tryz.func118 (by kernel_rfl) (c := codeOf Tryz.f118) (by kernel_rfl) (by kernel_rfl) impl_WatchOK_c1.an (fun x r h => ⟨0, (impl_WatchOK_c1.eq 0 x).trans h⟩)
def impl_WatchOK.E (lp : Nat) : Env := { tab := tab, fns := [(115, impl_NameOK.S lp), (61, impl_within.S), (116, impl_EventsOK.S lp), (118, impl_WatchOK_c1.S), (117, impl_areAll_Event.S lp)], ann := { own := [], ro := [1] } }
def impl_WatchOK.an : An := { pre := [] }
def impl_WatchOK.S (lp : Nat) : Spec := { ats := [.v TWatch], rts := [.bool], F := fun x => impl_WatchOK lp x.1 }
theorem impl_WatchOK.eq (lp : Nat) (x : ADens [.v TWatch]) : evalF (impl_WatchOK.E lp) impl_WatchOK.an lp Tryz.f67 [.v TWatch] [.bool] x = (impl_WatchOK.S lp).F x := by kernel_rfl
theorem impl_WatchOK.ok (lp : Nat) : Sound Tryz.prog 67 (impl_WatchOK.S lp) := sound_of (E := impl_WatchOK.E lp) (env_ok tabFits tabEqs ⟨impl_NameOK.ok lp, impl_within.ok, impl_EventsOK.ok lp, impl_WatchOK_c1.ok, impl_areAll_Event.ok lp, trivial⟩ trivial) mixed Tryz.func67 (by kernel_rfl) (c := codeOf Tryz.f67) (by kernel_rfl) (by kernel_rfl) impl_WatchOK.an (fun x r h => ⟨lp, (impl_WatchOK.eq lp x).trans h⟩)
def impl_versionOf.E (lp : Nat) : Env := { tab := tab, fns := [(119, impl_place.S lp)], ann := { own := [], ro := [] } }
def impl_versionOf.an : An := { pre := [] }
def impl_versionOf.S (lp : Nat) : Spec := { ats := [.v (.sl TRef), .v .str], rts := [(.int .i64)], F := fun x => impl_versionOf lp x.1 x.2.1 }
theorem impl_versionOf.eq (lp : Nat) (x : ADens [.v (.sl TRef), .v .str]) : evalF (impl_versionOf.E lp) impl_versionOf.an lp Tryz.f68 [.v (.sl TRef), .v .str] [(.int .i64)] x = (impl_versionOf.S lp).F x := by kernel_rfl
theorem impl_versionOf.ok (lp : Nat) : Sound Tryz.prog 68 (impl_versionOf.S lp) := sound_of (E := impl_versionOf.E lp) (env_ok tabFits tabEqs ⟨impl_place.ok lp, trivial⟩ trivial) mixed Tryz.func68 (by kernel_rfl) (c := codeOf Tryz.f68) (by kernel_rfl) (by kernel_rfl) impl_versionOf.an (fun x r h => ⟨lp, (impl_versionOf.eq lp x).trans h⟩)
def impl_WorldOK_c1.E (lp : Nat) : Env := { tab := tab, fns := [(67, impl_WatchOK.S lp), (68, impl_versionOf.S lp)], ann := { own := [], ro := [2] } }
def impl_WorldOK_c1.an : An := { pre := [] }
def impl_WorldOK_c1.S (lp : Nat) : Spec := { ats := [.v TWatch, .ptrD TWorld], rts := [.bool], F := fun x => impl_WorldOK_c1 lp x.1 x.2.1 }
theorem impl_WorldOK_c1.eq (lp : Nat) (x : ADens [.v TWatch, .ptrD TWorld]) : evalF (impl_WorldOK_c1.E lp) impl_WorldOK_c1.an lp Tryz.f66 [.v TWatch, .ptrD TWorld] [.bool] x = (impl_WorldOK_c1.S lp).F x := by kernel_rfl
theorem impl_WorldOK_c1.ok (lp : Nat) : Sound Tryz.prog 66 (impl_WorldOK_c1.S lp) := sound_of (E := impl_WorldOK_c1.E lp) (env_ok tabFits tabEqs ⟨impl_WatchOK.ok lp, impl_versionOf.ok lp, trivial⟩ trivial) mixed Tryz.func66 (by kernel_rfl) (c := codeOf Tryz.f66) (by kernel_rfl) (by kernel_rfl) impl_WorldOK_c1.an (fun x r h => ⟨lp, (impl_WorldOK_c1.eq lp x).trans h⟩)
def impl_WorldOK.E (lp : Nat) : Env := { tab := tab, fns := [(60, impl_BaseOK.S lp), (61, impl_within.S), (62, impl_Client_isFor.S lp), (64, impl_World_isMoment.S lp), (63, impl_areAll_Moment.S lp), (66, impl_WorldOK_c1.S lp), (65, impl_areAll_Watch.S lp)], ann := { own := [], ro := [1] } }
def impl_WorldOK.la5 : LoopAn := { kn := { tms := [1, 3, 30, 31, 32] }, kx := { tms := [1, 3] }, kr := { tms := [2] } }
def impl_WorldOK.la14 : LoopAn := { kn := { tms := [1, 6] }, kx := { tms := [1] }, kr := { tms := [2] } }
def impl_WorldOK.an : An := { loops := [(5, impl_WorldOK.la5), (14, impl_WorldOK.la14)] }
def impl_WorldOK.s5 (x1_0 : List Commit) (x1_1 : List Ref) (x1_2 : List Client) (x1_3 : List Watch) (x1_4 : List Moment) (x1_5 : Int) (x3 : Int) (x30 : List Client) (x31 : Int) (x32 : Int) : St := ⟨sk 1 (.v (.one (.rdp [.d (.sl TCommit) x1_0, .d (.sl TRef) x1_1, .d (.sl TClient) x1_2, .d (.sl TWatch) x1_3, .d (.sl TMoment) x1_4, .d (.int .i64) x1_5])) :: (sk 1 (.v (.one (.b (.d (.int .i64) x3))) :: (sk 26 (.v (.one (.b (.d (.sl TClient) x30))) :: .v (.one (.b (.d (.int .i64) x31))) :: .v (.one (.b (.d (.int .i64) x32))) :: (sk 51 ([]))))))), sko 84 ([])⟩
def impl_WorldOK.sx5 (y : (List Commit) × (List Ref) × (List Client) × (List Watch) × (List Moment) × Int × Int) : St := ⟨sk 1 (.v (.one (.rdp [.d (.sl TCommit) y.1, .d (.sl TRef) y.2.1, .d (.sl TClient) y.2.2.1, .d (.sl TWatch) y.2.2.2.1, .d (.sl TMoment) y.2.2.2.2.1, .d (.int .i64) y.2.2.2.2.2.1])) :: (sk 1 (.v (.one (.b (.d (.int .i64) y.2.2.2.2.2.2))) :: (sk 80 ([]))))), sko 84 ([])⟩
def impl_WorldOK.sr5 (z : Bool) : St := ⟨sk 2 (.v (.one (.b (.d .bool z))) :: (sk 81 ([]))), sko 84 ([])⟩
def impl_WorldOK.s14 (x1_0 : List Commit) (x1_1 : List Ref) (x1_2 : List Client) (x1_3 : List Watch) (x1_4 : List Moment) (x1_5 : Int) (x6 : Int) : St := ⟨sk 1 (.v (.one (.rdp [.d (.sl TCommit) x1_0, .d (.sl TRef) x1_1, .d (.sl TClient) x1_2, .d (.sl TWatch) x1_3, .d (.sl TMoment) x1_4, .d (.int .i64) x1_5])) :: (sk 4 (.v (.one (.b (.d (.int .i64) x6))) :: (sk 77 ([]))))), sko 84 ([])⟩
def impl_WorldOK.sx14 (y : (List Commit) × (List Ref) × (List Client) × (List Watch) × (List Moment) × Int) : St := ⟨sk 1 (.v (.one (.rdp [.d (.sl TCommit) y.1, .d (.sl TRef) y.2.1, .d (.sl TClient) y.2.2.1, .d (.sl TWatch) y.2.2.2.1, .d (.sl TMoment) y.2.2.2.2.1, .d (.int .i64) y.2.2.2.2.2])) :: (sk 82 ([]))), sko 84 ([])⟩
def impl_WorldOK.sr14 (z : Bool) : St := ⟨sk 2 (.v (.one (.b (.d .bool z))) :: (sk 81 ([]))), sko 84 ([])⟩
def impl_WorldOK.S (lp : Nat) : Spec := { ats := [.v TWorld], rts := [.bool], F := fun x => impl_WorldOK lp x.1 }
theorem impl_WorldOK.t_b14 (lp : Nat) {R : Type} (N : St → Option R) (X : Out → St → Option R) (x1_0 : List Commit) (x1_1 : List Ref) (x1_2 : List Client) (x1_3 : List Watch) (x1_4 : List Moment) (x1_5 : Int) (x6 : Int) : codeK (impl_WorldOK.E lp) impl_WorldOK.an lp (loopAt 14 (codeOf Tryz.f31)) (impl_WorldOK.s14 x1_0 x1_1 x1_2 x1_3 x1_4 x1_5 x6) (lpK impl_WorldOK.la14 N X) = impl_WorldOK.b14 lp (fun x1_0 x1_1 x1_2 x1_3 x1_4 x1_5 x6 => N (impl_WorldOK.s14 x1_0 x1_1 x1_2 x1_3 x1_4 x1_5 x6)) (fun y => X (.exit 2) (impl_WorldOK.sx14 y)) (fun z => X .ret (impl_WorldOK.sr14 z)) x1_0 x1_1 x1_2 x1_3 x1_4 x1_5 x6 := by kernel_rfl
theorem impl_WorldOK.n_b14 (lp : Nat) {R S : Type} (N : List Commit → List Ref → List Client → List Watch → List Moment → Int → Int → Option R) (X : ((List Commit) × (List Ref) × (List Client) × (List Watch) × (List Moment) × Int) → Option R) (Q : Bool → Option R) (x1_0 : List Commit) (x1_1 : List Ref) (x1_2 : List Client) (x1_3 : List Watch) (x1_4 : List Moment) (x1_5 : Int) (x6 : Int) (k : R → Option S) : obind (impl_WorldOK.b14 lp N X Q x1_0 x1_1 x1_2 x1_3 x1_4 x1_5 x6) k = impl_WorldOK.b14 lp (fun x1_0 x1_1 x1_2 x1_3 x1_4 x1_5 x6 => obind (N x1_0 x1_1 x1_2 x1_3 x1_4 x1_5 x6) k) (fun y => obind (X y) k) (fun z => obind (Q z) k) x1_0 x1_1 x1_2 x1_3 x1_4 x1_5 x6 := by
  unfold impl_WorldOK.b14; simp only [obind_none, obind_some, obind_cond, obind_oif, obind_oget, obind_obind]
theorem impl_WorldOK.k14 (lp : Nat) {R : Type} (K : Out → St → Option R) : ∀ (n : Nat) (x1_0 : List Commit) (x1_1 : List Ref) (x1_2 : List Client) (x1_3 : List Watch) (x1_4 : List Moment) (x1_5 : Int) (x6 : Int), loopK impl_WorldOK.la14 (fun σ K => codeK (impl_WorldOK.E lp) impl_WorldOK.an lp (loopAt 14 (codeOf Tryz.f31)) σ K) n (impl_WorldOK.s14 x1_0 x1_1 x1_2 x1_3 x1_4 x1_5 x6) K = obind (impl_WorldOK.l14 lp n x1_0 x1_1 x1_2 x1_3 x1_4 x1_5 x6) (leK 2 impl_WorldOK.sr14 impl_WorldOK.sx14 K) := by
  intro n
  induction n with
  | zero => intros; rfl
  | succ n ih =>
    intro x1_0 x1_1 x1_2 x1_3 x1_4 x1_5 x6
    rw [loopK_succ, impl_WorldOK.t_b14, impl_WorldOK.l14, impl_WorldOK.n_b14]
    simp only [ih, obind_some, leK_ret, leK_brk]
theorem impl_WorldOK.t_b5 (lp : Nat) {R : Type} (N : St → Option R) (X : Out → St → Option R) (x1_0 : List Commit) (x1_1 : List Ref) (x1_2 : List Client) (x1_3 : List Watch) (x1_4 : List Moment) (x1_5 : Int) (x3 : Int) (x30 : List Client) (x31 : Int) (x32 : Int) : codeK (impl_WorldOK.E lp) impl_WorldOK.an lp (loopAt 5 (codeOf Tryz.f31)) (impl_WorldOK.s5 x1_0 x1_1 x1_2 x1_3 x1_4 x1_5 x3 x30 x31 x32) (lpK impl_WorldOK.la5 N X) = impl_WorldOK.b5 lp (fun x1_0 x1_1 x1_2 x1_3 x1_4 x1_5 x3 x30 x31 x32 => N (impl_WorldOK.s5 x1_0 x1_1 x1_2 x1_3 x1_4 x1_5 x3 x30 x31 x32)) (fun y => X (.exit 0) (impl_WorldOK.sx5 y)) (fun z => X .ret (impl_WorldOK.sr5 z)) x1_0 x1_1 x1_2 x1_3 x1_4 x1_5 x3 x30 x31 x32 := by kernel_rfl
theorem impl_WorldOK.n_b5 (lp : Nat) {R S : Type} (N : List Commit → List Ref → List Client → List Watch → List Moment → Int → Int → List Client → Int → Int → Option R) (X : ((List Commit) × (List Ref) × (List Client) × (List Watch) × (List Moment) × Int × Int) → Option R) (Q : Bool → Option R) (x1_0 : List Commit) (x1_1 : List Ref) (x1_2 : List Client) (x1_3 : List Watch) (x1_4 : List Moment) (x1_5 : Int) (x3 : Int) (x30 : List Client) (x31 : Int) (x32 : Int) (k : R → Option S) : obind (impl_WorldOK.b5 lp N X Q x1_0 x1_1 x1_2 x1_3 x1_4 x1_5 x3 x30 x31 x32) k = impl_WorldOK.b5 lp (fun x1_0 x1_1 x1_2 x1_3 x1_4 x1_5 x3 x30 x31 x32 => obind (N x1_0 x1_1 x1_2 x1_3 x1_4 x1_5 x3 x30 x31 x32) k) (fun y => obind (X y) k) (fun z => obind (Q z) k) x1_0 x1_1 x1_2 x1_3 x1_4 x1_5 x3 x30 x31 x32 := by
  unfold impl_WorldOK.b5; simp only [obind_none, obind_some, obind_cond, obind_oif, obind_oget, obind_obind]
theorem impl_WorldOK.k5 (lp : Nat) {R : Type} (K : Out → St → Option R) : ∀ (n : Nat) (x1_0 : List Commit) (x1_1 : List Ref) (x1_2 : List Client) (x1_3 : List Watch) (x1_4 : List Moment) (x1_5 : Int) (x3 : Int) (x30 : List Client) (x31 : Int) (x32 : Int), loopK impl_WorldOK.la5 (fun σ K => codeK (impl_WorldOK.E lp) impl_WorldOK.an lp (loopAt 5 (codeOf Tryz.f31)) σ K) n (impl_WorldOK.s5 x1_0 x1_1 x1_2 x1_3 x1_4 x1_5 x3 x30 x31 x32) K = obind (impl_WorldOK.l5 lp n x1_0 x1_1 x1_2 x1_3 x1_4 x1_5 x3 x30 x31 x32) (leK 0 impl_WorldOK.sr5 impl_WorldOK.sx5 K) := by
  intro n
  induction n with
  | zero => intros; rfl
  | succ n ih =>
    intro x1_0 x1_1 x1_2 x1_3 x1_4 x1_5 x3 x30 x31 x32
    rw [loopK_succ, impl_WorldOK.t_b5, impl_WorldOK.l5, impl_WorldOK.n_b5]
    simp only [ih, obind_some, leK_ret, leK_brk]
theorem impl_WorldOK.t_a14 (lp : Nat) (y : (List Commit) × (List Ref) × (List Client) × (List Watch) × (List Moment) × Int) : kont (R := Bool) (impl_WorldOK.E lp) impl_WorldOK.an lp (finK (impl_WorldOK.E lp) Tryz.f31 [.bool]) (stkAt 14 (codeOf Tryz.f31)) (.exit 2) (impl_WorldOK.sx14 y) = impl_WorldOK.a14 lp y := by kernel_rfl
theorem impl_WorldOK.t_q14 (lp : Nat) (z : Bool) : kont (R := Bool) (impl_WorldOK.E lp) impl_WorldOK.an lp (finK (impl_WorldOK.E lp) Tryz.f31 [.bool]) (stkAt 14 (codeOf Tryz.f31)) .ret (impl_WorldOK.sr14 z) = impl_WorldOK.q14 lp z := by kernel_rfl
theorem impl_WorldOK.t_a5 (lp : Nat) (y : (List Commit) × (List Ref) × (List Client) × (List Watch) × (List Moment) × Int × Int) : kont (R := Bool) (impl_WorldOK.E lp) impl_WorldOK.an lp (finK (impl_WorldOK.E lp) Tryz.f31 [.bool]) (stkAt 5 (codeOf Tryz.f31)) (.exit 0) (impl_WorldOK.sx5 y) = impl_WorldOK.a5 lp (fun x1_0 x1_1 x1_2 x1_3 x1_4 x1_5 x6 => loopK impl_WorldOK.la14 (fun σ K => codeK (impl_WorldOK.E lp) impl_WorldOK.an lp (loopAt 14 (codeOf Tryz.f31)) σ K) lp (impl_WorldOK.s14 x1_0 x1_1 x1_2 x1_3 x1_4 x1_5 x6) (kont (impl_WorldOK.E lp) impl_WorldOK.an lp (finK (impl_WorldOK.E lp) Tryz.f31 [.bool]) (stkAt 14 (codeOf Tryz.f31)))) y := by kernel_rfl
theorem impl_WorldOK.t_q5 (lp : Nat) (z : Bool) : kont (R := Bool) (impl_WorldOK.E lp) impl_WorldOK.an lp (finK (impl_WorldOK.E lp) Tryz.f31 [.bool]) (stkAt 5 (codeOf Tryz.f31)) .ret (impl_WorldOK.sr5 z) = impl_WorldOK.q5 lp z := by kernel_rfl
theorem impl_WorldOK.t_e (lp : Nat) (x0 : World) : evalF (impl_WorldOK.E lp) impl_WorldOK.an lp Tryz.f31 [.v TWorld] [.bool] (x0, ()) = impl_WorldOK.e lp (fun x1_0 x1_1 x1_2 x1_3 x1_4 x1_5 x3 x30 x31 x32 => loopK impl_WorldOK.la5 (fun σ K => codeK (impl_WorldOK.E lp) impl_WorldOK.an lp (loopAt 5 (codeOf Tryz.f31)) σ K) lp (impl_WorldOK.s5 x1_0 x1_1 x1_2 x1_3 x1_4 x1_5 x3 x30 x31 x32) (kont (impl_WorldOK.E lp) impl_WorldOK.an lp (finK (impl_WorldOK.E lp) Tryz.f31 [.bool]) (stkAt 5 (codeOf Tryz.f31)))) x0 := by kernel_rfl
theorem impl_WorldOK.eq0 (lp : Nat) (x0 : World) : evalF (impl_WorldOK.E lp) impl_WorldOK.an lp Tryz.f31 [.v TWorld] [.bool] (x0, ()) = impl_WorldOK lp x0 := by
  rw [impl_WorldOK.t_e]; unfold impl_WorldOK
  simp only [leK_leF _ impl_WorldOK.sr5 impl_WorldOK.sx5, leK_leF _ impl_WorldOK.sr14 impl_WorldOK.sx14, impl_WorldOK.k5, impl_WorldOK.k14, impl_WorldOK.t_a14, impl_WorldOK.t_q14, impl_WorldOK.t_a5, impl_WorldOK.t_q5]
theorem impl_WorldOK.eq (lp : Nat) (x : ADens [.v TWorld]) : evalF (impl_WorldOK.E lp) impl_WorldOK.an lp Tryz.f31 [.v TWorld] [.bool] x = (impl_WorldOK.S lp).F x := impl_WorldOK.eq0 lp x.1
theorem impl_WorldOK.ok (lp : Nat) : Sound Tryz.prog 31 (impl_WorldOK.S lp) := sound_of (E := impl_WorldOK.E lp) (env_ok tabFits tabEqs ⟨impl_BaseOK.ok lp, impl_within.ok, impl_Client_isFor.ok lp, impl_World_isMoment.ok lp, impl_areAll_Moment.ok lp, impl_WorldOK_c1.ok lp, impl_areAll_Watch.ok lp, trivial⟩ trivial) mixed Tryz.func31 (by kernel_rfl) (c := codeOf Tryz.f31) (by kernel_rfl) (by kernel_rfl) impl_WorldOK.an (fun x r h => ⟨lp, (impl_WorldOK.eq lp x).trans h⟩)
def impl_InOrder.E (lp : Nat) : Env := { tab := tab, fns := [(31, impl_WorldOK.S lp)], ann := { own := [], ro := [1] } }
def impl_InOrder.la5 : LoopAn := { kn := { tms := [1, 4, 18, 19, 20], obs := [16] }, kx := { tms := [1, 4], obs := [16] }, kr := { tms := [2, 3] } }
def impl_InOrder.la12 : LoopAn := { kn := { tms := [4, 42, 43, 44], obs := [16] }, kx := {}, kr := { tms := [2, 3] } }
def impl_InOrder.an : An := { loops := [(5, impl_InOrder.la5), (12, impl_InOrder.la12)] }
def impl_InOrder.s5 (x1_0 : List Commit) (x1_1 : List Ref) (x1_2 : List Client) (x1_3 : List Watch) (x1_4 : List Moment) (x1_5 : Int) (x18 : List Moment) (x19 : Int) (x20 : Int) (xo16 : List Int) : St := ⟨sk 1 (.v (.one (.rdp [.d (.sl TCommit) x1_0, .d (.sl TRef) x1_1, .d (.sl TClient) x1_2, .d (.sl TWatch) x1_3, .d (.sl TMoment) x1_4, .d (.int .i64) x1_5])) :: (sk 2 (.v (.one (.row 16 0)) :: (sk 13 (.v (.one (.b (.d (.sl TMoment) x18))) :: .v (.one (.b (.d (.int .i64) x19))) :: .v (.one (.b (.d (.int .i64) x20))) :: (sk 37 ([]))))))), sko 16 (some (.row 3 (.int .i64) xo16 0) :: (sko 41 ([])))⟩
def impl_InOrder.sx5 (y : (List Commit) × (List Ref) × (List Client) × (List Watch) × (List Moment) × Int × (List Int)) : St := ⟨sk 1 (.v (.one (.rdp [.d (.sl TCommit) y.1, .d (.sl TRef) y.2.1, .d (.sl TClient) y.2.2.1, .d (.sl TWatch) y.2.2.2.1, .d (.sl TMoment) y.2.2.2.2.1, .d (.int .i64) y.2.2.2.2.2.1])) :: (sk 2 (.v (.one (.row 16 0)) :: (sk 53 ([]))))), sko 16 (some (.row 3 (.int .i64) y.2.2.2.2.2.2 0) :: (sko 41 ([])))⟩
def impl_InOrder.sr5 (z : Bool × Int) : St := ⟨sk 2 (.v (.one (.b (.d .bool z.1))) :: .v (.one (.b (.d (.int .i64) z.2))) :: (sk 54 ([]))), sko 58 ([])⟩
def impl_InOrder.s12 (x42 : List Client) (x43 : Int) (x44 : Int) (xo16 : List Int) : St := ⟨sk 4 (.v (.one (.row 16 0)) :: (sk 37 (.v (.one (.b (.d (.sl TClient) x42))) :: .v (.one (.b (.d (.int .i64) x43))) :: .v (.one (.b (.d (.int .i64) x44))) :: (sk 13 ([]))))), sko 16 (some (.row 3 (.int .i64) xo16 0) :: (sko 41 ([])))⟩
def impl_InOrder.sx12 (y : Unit) : St := ⟨sk 58 ([]), sko 58 ([])⟩
def impl_InOrder.sr12 (z : Bool × Int) : St := ⟨sk 2 (.v (.one (.b (.d .bool z.1))) :: .v (.one (.b (.d (.int .i64) z.2))) :: (sk 54 ([]))), sko 58 ([])⟩
def impl_InOrder.S (lp : Nat) : Spec := { ats := [.v TWorld], rts := [.bool, (.int .i64)], F := fun x => impl_InOrder lp x.1 }
theorem impl_InOrder.t_b12 (lp : Nat) {R : Type} (N : St → Option R) (X : Out → St → Option R) (x42 : List Client) (x43 : Int) (x44 : Int) (xo16 : List Int) : codeK (impl_InOrder.E lp) impl_InOrder.an lp (loopAt 12 (codeOf Tryz.f11)) (impl_InOrder.s12 x42 x43 x44 xo16) (lpK impl_InOrder.la12 N X) = impl_InOrder.b12 lp (fun x42 x43 x44 xo16 => N (impl_InOrder.s12 x42 x43 x44 xo16)) (fun y => X (.exit 2) (impl_InOrder.sx12 y)) (fun z => X .ret (impl_InOrder.sr12 z)) x42 x43 x44 xo16 := by kernel_rfl
theorem impl_InOrder.n_b12 (lp : Nat) {R S : Type} (N : List Client → Int → Int → List Int → Option R) (X : Unit → Option R) (Q : (Bool × Int) → Option R) (x42 : List Client) (x43 : Int) (x44 : Int) (xo16 : List Int) (k : R → Option S) : obind (impl_InOrder.b12 lp N X Q x42 x43 x44 xo16) k = impl_InOrder.b12 lp (fun x42 x43 x44 xo16 => obind (N x42 x43 x44 xo16) k) (fun y => obind (X y) k) (fun z => obind (Q z) k) x42 x43 x44 xo16 := by
  unfold impl_InOrder.b12; simp only [obind_none, obind_some, obind_cond, obind_oif, obind_oget, obind_obind]
theorem impl_InOrder.k12 (lp : Nat) {R : Type} (K : Out → St → Option R) : ∀ (n : Nat) (x42 : List Client) (x43 : Int) (x44 : Int) (xo16 : List Int), loopK impl_InOrder.la12 (fun σ K => codeK (impl_InOrder.E lp) impl_InOrder.an lp (loopAt 12 (codeOf Tryz.f11)) σ K) n (impl_InOrder.s12 x42 x43 x44 xo16) K = obind (impl_InOrder.l12 lp n x42 x43 x44 xo16) (leK 2 impl_InOrder.sr12 impl_InOrder.sx12 K) := by
  intro n
  induction n with
  | zero => intros; rfl
  | succ n ih =>
    intro x42 x43 x44 xo16
    rw [loopK_succ, impl_InOrder.t_b12, impl_InOrder.l12, impl_InOrder.n_b12]
    simp only [ih, obind_some, leK_ret, leK_brk]
theorem impl_InOrder.t_b5 (lp : Nat) {R : Type} (N : St → Option R) (X : Out → St → Option R) (x1_0 : List Commit) (x1_1 : List Ref) (x1_2 : List Client) (x1_3 : List Watch) (x1_4 : List Moment) (x1_5 : Int) (x18 : List Moment) (x19 : Int) (x20 : Int) (xo16 : List Int) : codeK (impl_InOrder.E lp) impl_InOrder.an lp (loopAt 5 (codeOf Tryz.f11)) (impl_InOrder.s5 x1_0 x1_1 x1_2 x1_3 x1_4 x1_5 x18 x19 x20 xo16) (lpK impl_InOrder.la5 N X) = impl_InOrder.b5 lp (fun x1_0 x1_1 x1_2 x1_3 x1_4 x1_5 x18 x19 x20 xo16 => N (impl_InOrder.s5 x1_0 x1_1 x1_2 x1_3 x1_4 x1_5 x18 x19 x20 xo16)) (fun y => X (.exit 0) (impl_InOrder.sx5 y)) (fun z => X .ret (impl_InOrder.sr5 z)) x1_0 x1_1 x1_2 x1_3 x1_4 x1_5 x18 x19 x20 xo16 := by kernel_rfl
theorem impl_InOrder.n_b5 (lp : Nat) {R S : Type} (N : List Commit → List Ref → List Client → List Watch → List Moment → Int → List Moment → Int → Int → List Int → Option R) (X : ((List Commit) × (List Ref) × (List Client) × (List Watch) × (List Moment) × Int × (List Int)) → Option R) (Q : (Bool × Int) → Option R) (x1_0 : List Commit) (x1_1 : List Ref) (x1_2 : List Client) (x1_3 : List Watch) (x1_4 : List Moment) (x1_5 : Int) (x18 : List Moment) (x19 : Int) (x20 : Int) (xo16 : List Int) (k : R → Option S) : obind (impl_InOrder.b5 lp N X Q x1_0 x1_1 x1_2 x1_3 x1_4 x1_5 x18 x19 x20 xo16) k = impl_InOrder.b5 lp (fun x1_0 x1_1 x1_2 x1_3 x1_4 x1_5 x18 x19 x20 xo16 => obind (N x1_0 x1_1 x1_2 x1_3 x1_4 x1_5 x18 x19 x20 xo16) k) (fun y => obind (X y) k) (fun z => obind (Q z) k) x1_0 x1_1 x1_2 x1_3 x1_4 x1_5 x18 x19 x20 xo16 := by
  unfold impl_InOrder.b5; simp only [obind_none, obind_some, obind_cond, obind_oif, obind_oget, obind_obind]
theorem impl_InOrder.k5 (lp : Nat) {R : Type} (K : Out → St → Option R) : ∀ (n : Nat) (x1_0 : List Commit) (x1_1 : List Ref) (x1_2 : List Client) (x1_3 : List Watch) (x1_4 : List Moment) (x1_5 : Int) (x18 : List Moment) (x19 : Int) (x20 : Int) (xo16 : List Int), loopK impl_InOrder.la5 (fun σ K => codeK (impl_InOrder.E lp) impl_InOrder.an lp (loopAt 5 (codeOf Tryz.f11)) σ K) n (impl_InOrder.s5 x1_0 x1_1 x1_2 x1_3 x1_4 x1_5 x18 x19 x20 xo16) K = obind (impl_InOrder.l5 lp n x1_0 x1_1 x1_2 x1_3 x1_4 x1_5 x18 x19 x20 xo16) (leK 0 impl_InOrder.sr5 impl_InOrder.sx5 K) := by
  intro n
  induction n with
  | zero => intros; rfl
  | succ n ih =>
    intro x1_0 x1_1 x1_2 x1_3 x1_4 x1_5 x18 x19 x20 xo16
    rw [loopK_succ, impl_InOrder.t_b5, impl_InOrder.l5, impl_InOrder.n_b5]
    simp only [ih, obind_some, leK_ret, leK_brk]
theorem impl_InOrder.t_a12 (lp : Nat) (y : Unit) : kont (R := Bool × Int) (impl_InOrder.E lp) impl_InOrder.an lp (finK (impl_InOrder.E lp) Tryz.f11 [.bool, (.int .i64)]) (stkAt 12 (codeOf Tryz.f11)) (.exit 2) (impl_InOrder.sx12 y) = impl_InOrder.a12 lp y := by kernel_rfl
theorem impl_InOrder.t_q12 (lp : Nat) (z : Bool × Int) : kont (R := Bool × Int) (impl_InOrder.E lp) impl_InOrder.an lp (finK (impl_InOrder.E lp) Tryz.f11 [.bool, (.int .i64)]) (stkAt 12 (codeOf Tryz.f11)) .ret (impl_InOrder.sr12 z) = impl_InOrder.q12 lp z := by kernel_rfl
theorem impl_InOrder.t_a5 (lp : Nat) (y : (List Commit) × (List Ref) × (List Client) × (List Watch) × (List Moment) × Int × (List Int)) : kont (R := Bool × Int) (impl_InOrder.E lp) impl_InOrder.an lp (finK (impl_InOrder.E lp) Tryz.f11 [.bool, (.int .i64)]) (stkAt 5 (codeOf Tryz.f11)) (.exit 0) (impl_InOrder.sx5 y) = impl_InOrder.a5 lp (fun x42 x43 x44 xo16 => loopK impl_InOrder.la12 (fun σ K => codeK (impl_InOrder.E lp) impl_InOrder.an lp (loopAt 12 (codeOf Tryz.f11)) σ K) lp (impl_InOrder.s12 x42 x43 x44 xo16) (kont (impl_InOrder.E lp) impl_InOrder.an lp (finK (impl_InOrder.E lp) Tryz.f11 [.bool, (.int .i64)]) (stkAt 12 (codeOf Tryz.f11)))) y := by kernel_rfl
theorem impl_InOrder.t_q5 (lp : Nat) (z : Bool × Int) : kont (R := Bool × Int) (impl_InOrder.E lp) impl_InOrder.an lp (finK (impl_InOrder.E lp) Tryz.f11 [.bool, (.int .i64)]) (stkAt 5 (codeOf Tryz.f11)) .ret (impl_InOrder.sr5 z) = impl_InOrder.q5 lp z := by kernel_rfl
theorem impl_InOrder.t_e (lp : Nat) (x0 : World) : evalF (impl_InOrder.E lp) impl_InOrder.an lp Tryz.f11 [.v TWorld] [.bool, (.int .i64)] (x0, ()) = impl_InOrder.e lp (fun x1_0 x1_1 x1_2 x1_3 x1_4 x1_5 x18 x19 x20 xo16 => loopK impl_InOrder.la5 (fun σ K => codeK (impl_InOrder.E lp) impl_InOrder.an lp (loopAt 5 (codeOf Tryz.f11)) σ K) lp (impl_InOrder.s5 x1_0 x1_1 x1_2 x1_3 x1_4 x1_5 x18 x19 x20 xo16) (kont (impl_InOrder.E lp) impl_InOrder.an lp (finK (impl_InOrder.E lp) Tryz.f11 [.bool, (.int .i64)]) (stkAt 5 (codeOf Tryz.f11)))) x0 := by kernel_rfl
theorem impl_InOrder.eq0 (lp : Nat) (x0 : World) : evalF (impl_InOrder.E lp) impl_InOrder.an lp Tryz.f11 [.v TWorld] [.bool, (.int .i64)] (x0, ()) = impl_InOrder lp x0 := by
  rw [impl_InOrder.t_e]; unfold impl_InOrder
  simp only [leK_leF _ impl_InOrder.sr5 impl_InOrder.sx5, leK_leF _ impl_InOrder.sr12 impl_InOrder.sx12, impl_InOrder.k5, impl_InOrder.k12, impl_InOrder.t_a12, impl_InOrder.t_q12, impl_InOrder.t_a5, impl_InOrder.t_q5]
theorem impl_InOrder.eq (lp : Nat) (x : ADens [.v TWorld]) : evalF (impl_InOrder.E lp) impl_InOrder.an lp Tryz.f11 [.v TWorld] [.bool, (.int .i64)] x = (impl_InOrder.S lp).F x := impl_InOrder.eq0 lp x.1
theorem impl_InOrder.ok (lp : Nat) : Sound Tryz.prog 11 (impl_InOrder.S lp) := sound_of (E := impl_InOrder.E lp) (env_ok tabFits tabEqs ⟨impl_WorldOK.ok lp, trivial⟩ trivial) mixed Tryz.func11 (by kernel_rfl) (c := codeOf Tryz.f11) (by kernel_rfl) (by kernel_rfl) impl_InOrder.an (fun x r h => ⟨lp, (impl_InOrder.eq lp x).trans h⟩)
def laws_eqEntry.E : Env := { tab := tab, fns := [], ann := { own := [], ro := [2, 3] } }
def laws_eqEntry.an : An := { pre := [] }
def laws_eqEntry.S : Spec := { ats := [.v TEntry, .v TEntry], rts := [.bool], F := fun x => laws_eqEntry x.1 x.2.1 }
theorem laws_eqEntry.eq (lp : Nat) (x : ADens [.v TEntry, .v TEntry]) : evalF (laws_eqEntry.E) laws_eqEntry.an lp Tryz.f176 [.v TEntry, .v TEntry] [.bool] x = (laws_eqEntry.S).F x := by kernel_rfl
theorem laws_eqEntry.ok : Sound Tryz.prog 176 (laws_eqEntry.S) := sound_of (E := laws_eqEntry.E) (env_ok tabFits tabEqs trivial trivial) mixed Tryz.func176 (by kernel_rfl) (c := codeOf Tryz.f176) (by kernel_rfl) (by kernel_rfl) laws_eqEntry.an (fun x r h => ⟨0, (laws_eqEntry.eq 0 x).trans h⟩)
def laws_eqEntryS.E (lp : Nat) : Env := { tab := tab, fns := [(176, laws_eqEntry.S)], ann := { own := [], ro := [] } }
def laws_eqEntryS.la4 : LoopAn := { kn := { tms := [0, 1, 5] }, kx := {}, kr := { tms := [4] } }
def laws_eqEntryS.an : An := { loops := [(4, laws_eqEntryS.la4)] }
def laws_eqEntryS.s4 (x0 : List Entry) (x1 : List Entry) (x5 : Int) : St := ⟨.v (.one (.b (.d (.sl TEntry) x0))) :: .v (.one (.b (.d (.sl TEntry) x1))) :: (sk 3 (.v (.one (.b (.d (.int .i64) x5))) :: (sk 21 ([])))), sko 27 ([])⟩
def laws_eqEntryS.sx4 (y : Unit) : St := ⟨sk 27 ([]), sko 27 ([])⟩
def laws_eqEntryS.sr4 (z : Bool) : St := ⟨sk 4 (.v (.one (.b (.d .bool z))) :: (sk 22 ([]))), sko 27 ([])⟩
def laws_eqEntryS.S (lp : Nat) : Spec := { ats := [.v (.sl TEntry), .v (.sl TEntry)], rts := [.bool], F := fun x => laws_eqEntryS lp x.1 x.2.1 }
theorem laws_eqEntryS.t_b4 (lp : Nat) {R : Type} (N : St → Option R) (X : Out → St → Option R) (x0 : List Entry) (x1 : List Entry) (x5 : Int) : codeK (laws_eqEntryS.E lp) laws_eqEntryS.an lp (loopAt 4 (codeOf Tryz.f123)) (laws_eqEntryS.s4 x0 x1 x5) (lpK laws_eqEntryS.la4 N X) = laws_eqEntryS.b4 lp (fun x0 x1 x5 => N (laws_eqEntryS.s4 x0 x1 x5)) (fun y => X (.exit 0) (laws_eqEntryS.sx4 y)) (fun z => X .ret (laws_eqEntryS.sr4 z)) x0 x1 x5 := by kernel_rfl
theorem laws_eqEntryS.n_b4 (lp : Nat) {R S : Type} (N : List Entry → List Entry → Int → Option R) (X : Unit → Option R) (Q : Bool → Option R) (x0 : List Entry) (x1 : List Entry) (x5 : Int) (k : R → Option S) : obind (laws_eqEntryS.b4 lp N X Q x0 x1 x5) k = laws_eqEntryS.b4 lp (fun x0 x1 x5 => obind (N x0 x1 x5) k) (fun y => obind (X y) k) (fun z => obind (Q z) k) x0 x1 x5 := by
  unfold laws_eqEntryS.b4; simp only [obind_none, obind_some, obind_cond, obind_oif, obind_oget, obind_obind]
theorem laws_eqEntryS.k4 (lp : Nat) {R : Type} (K : Out → St → Option R) : ∀ (n : Nat) (x0 : List Entry) (x1 : List Entry) (x5 : Int), loopK laws_eqEntryS.la4 (fun σ K => codeK (laws_eqEntryS.E lp) laws_eqEntryS.an lp (loopAt 4 (codeOf Tryz.f123)) σ K) n (laws_eqEntryS.s4 x0 x1 x5) K = obind (laws_eqEntryS.l4 lp n x0 x1 x5) (leK 0 laws_eqEntryS.sr4 laws_eqEntryS.sx4 K) := by
  intro n
  induction n with
  | zero => intros; rfl
  | succ n ih =>
    intro x0 x1 x5
    rw [loopK_succ, laws_eqEntryS.t_b4, laws_eqEntryS.l4, laws_eqEntryS.n_b4]
    simp only [ih, obind_some, leK_ret, leK_brk]
theorem laws_eqEntryS.t_a4 (lp : Nat) (y : Unit) : kont (R := Bool) (laws_eqEntryS.E lp) laws_eqEntryS.an lp (finK (laws_eqEntryS.E lp) Tryz.f123 [.bool]) (stkAt 4 (codeOf Tryz.f123)) (.exit 0) (laws_eqEntryS.sx4 y) = laws_eqEntryS.a4 lp y := by kernel_rfl
theorem laws_eqEntryS.t_q4 (lp : Nat) (z : Bool) : kont (R := Bool) (laws_eqEntryS.E lp) laws_eqEntryS.an lp (finK (laws_eqEntryS.E lp) Tryz.f123 [.bool]) (stkAt 4 (codeOf Tryz.f123)) .ret (laws_eqEntryS.sr4 z) = laws_eqEntryS.q4 lp z := by kernel_rfl
theorem laws_eqEntryS.t_e (lp : Nat) (x0 : List Entry) (x1 : List Entry) : evalF (laws_eqEntryS.E lp) laws_eqEntryS.an lp Tryz.f123 [.v (.sl TEntry), .v (.sl TEntry)] [.bool] (x0, x1, ()) = laws_eqEntryS.e lp (fun x0 x1 x5 => loopK laws_eqEntryS.la4 (fun σ K => codeK (laws_eqEntryS.E lp) laws_eqEntryS.an lp (loopAt 4 (codeOf Tryz.f123)) σ K) lp (laws_eqEntryS.s4 x0 x1 x5) (kont (laws_eqEntryS.E lp) laws_eqEntryS.an lp (finK (laws_eqEntryS.E lp) Tryz.f123 [.bool]) (stkAt 4 (codeOf Tryz.f123)))) x0 x1 := by kernel_rfl
theorem laws_eqEntryS.eq0 (lp : Nat) (x0 : List Entry) (x1 : List Entry) : evalF (laws_eqEntryS.E lp) laws_eqEntryS.an lp Tryz.f123 [.v (.sl TEntry), .v (.sl TEntry)] [.bool] (x0, x1, ()) = laws_eqEntryS lp x0 x1 := by
  rw [laws_eqEntryS.t_e]; unfold laws_eqEntryS
  simp only [leK_leF _ laws_eqEntryS.sr4 laws_eqEntryS.sx4, laws_eqEntryS.k4, laws_eqEntryS.t_a4, laws_eqEntryS.t_q4]
theorem laws_eqEntryS.eq (lp : Nat) (x : ADens [.v (.sl TEntry), .v (.sl TEntry)]) : evalF (laws_eqEntryS.E lp) laws_eqEntryS.an lp Tryz.f123 [.v (.sl TEntry), .v (.sl TEntry)] [.bool] x = (laws_eqEntryS.S lp).F x := laws_eqEntryS.eq0 lp x.1 x.2.1
theorem laws_eqEntryS.ok (lp : Nat) : Sound Tryz.prog 123 (laws_eqEntryS.S lp) := sound_of (E := laws_eqEntryS.E lp) (env_ok tabFits tabEqs ⟨laws_eqEntry.ok, trivial⟩ trivial) mixed Tryz.func123 (by kernel_rfl) (c := codeOf Tryz.f123) (by kernel_rfl) (by kernel_rfl) laws_eqEntryS.an (fun x r h => ⟨lp, (laws_eqEntryS.eq lp x).trans h⟩)
def laws_eqIntS.E (lp : Nat) : Env := { tab := tab, fns := [], ann := { own := [], ro := [] } }
def laws_eqIntS.la4 : LoopAn := { kn := { tms := [0, 1, 5] }, kx := {}, kr := { tms := [4] } }
def laws_eqIntS.an : An := { loops := [(4, laws_eqIntS.la4)] }
def laws_eqIntS.s4 (x0 : List Int) (x1 : List Int) (x5 : Int) : St := ⟨.v (.one (.b (.d (.sl (.int .i64)) x0))) :: .v (.one (.b (.d (.sl (.int .i64)) x1))) :: (sk 3 (.v (.one (.b (.d (.int .i64) x5))) :: (sk 20 ([])))), sko 26 ([])⟩
def laws_eqIntS.sx4 (y : Unit) : St := ⟨sk 26 ([]), sko 26 ([])⟩
def laws_eqIntS.sr4 (z : Bool) : St := ⟨sk 4 (.v (.one (.b (.d .bool z))) :: (sk 21 ([]))), sko 26 ([])⟩
def laws_eqIntS.S (lp : Nat) : Spec := { ats := [.v (.sl (.int .i64)), .v (.sl (.int .i64))], rts := [.bool], F := fun x => laws_eqIntS lp x.1 x.2.1 }
theorem laws_eqIntS.t_b4 (lp : Nat) {R : Type} (N : St → Option R) (X : Out → St → Option R) (x0 : List Int) (x1 : List Int) (x5 : Int) : codeK (laws_eqIntS.E lp) laws_eqIntS.an lp (loopAt 4 (codeOf Tryz.f174)) (laws_eqIntS.s4 x0 x1 x5) (lpK laws_eqIntS.la4 N X) = laws_eqIntS.b4 lp (fun x0 x1 x5 => N (laws_eqIntS.s4 x0 x1 x5)) (fun y => X (.exit 0) (laws_eqIntS.sx4 y)) (fun z => X .ret (laws_eqIntS.sr4 z)) x0 x1 x5 := by kernel_rfl
theorem laws_eqIntS.n_b4 (lp : Nat) {R S : Type} (N : List Int → List Int → Int → Option R) (X : Unit → Option R) (Q : Bool → Option R) (x0 : List Int) (x1 : List Int) (x5 : Int) (k : R → Option S) : obind (laws_eqIntS.b4 lp N X Q x0 x1 x5) k = laws_eqIntS.b4 lp (fun x0 x1 x5 => obind (N x0 x1 x5) k) (fun y => obind (X y) k) (fun z => obind (Q z) k) x0 x1 x5 := by
  unfold laws_eqIntS.b4; simp only [obind_none, obind_some, obind_cond, obind_oif, obind_oget, obind_obind]
theorem laws_eqIntS.k4 (lp : Nat) {R : Type} (K : Out → St → Option R) : ∀ (n : Nat) (x0 : List Int) (x1 : List Int) (x5 : Int), loopK laws_eqIntS.la4 (fun σ K => codeK (laws_eqIntS.E lp) laws_eqIntS.an lp (loopAt 4 (codeOf Tryz.f174)) σ K) n (laws_eqIntS.s4 x0 x1 x5) K = obind (laws_eqIntS.l4 lp n x0 x1 x5) (leK 0 laws_eqIntS.sr4 laws_eqIntS.sx4 K) := by
  intro n
  induction n with
  | zero => intros; rfl
  | succ n ih =>
    intro x0 x1 x5
    rw [loopK_succ, laws_eqIntS.t_b4, laws_eqIntS.l4, laws_eqIntS.n_b4]
    simp only [ih, obind_some, leK_ret, leK_brk]
theorem laws_eqIntS.t_a4 (lp : Nat) (y : Unit) : kont (R := Bool) (laws_eqIntS.E lp) laws_eqIntS.an lp (finK (laws_eqIntS.E lp) Tryz.f174 [.bool]) (stkAt 4 (codeOf Tryz.f174)) (.exit 0) (laws_eqIntS.sx4 y) = laws_eqIntS.a4 lp y := by kernel_rfl
theorem laws_eqIntS.t_q4 (lp : Nat) (z : Bool) : kont (R := Bool) (laws_eqIntS.E lp) laws_eqIntS.an lp (finK (laws_eqIntS.E lp) Tryz.f174 [.bool]) (stkAt 4 (codeOf Tryz.f174)) .ret (laws_eqIntS.sr4 z) = laws_eqIntS.q4 lp z := by kernel_rfl
theorem laws_eqIntS.t_e (lp : Nat) (x0 : List Int) (x1 : List Int) : evalF (laws_eqIntS.E lp) laws_eqIntS.an lp Tryz.f174 [.v (.sl (.int .i64)), .v (.sl (.int .i64))] [.bool] (x0, x1, ()) = laws_eqIntS.e lp (fun x0 x1 x5 => loopK laws_eqIntS.la4 (fun σ K => codeK (laws_eqIntS.E lp) laws_eqIntS.an lp (loopAt 4 (codeOf Tryz.f174)) σ K) lp (laws_eqIntS.s4 x0 x1 x5) (kont (laws_eqIntS.E lp) laws_eqIntS.an lp (finK (laws_eqIntS.E lp) Tryz.f174 [.bool]) (stkAt 4 (codeOf Tryz.f174)))) x0 x1 := by kernel_rfl
theorem laws_eqIntS.eq0 (lp : Nat) (x0 : List Int) (x1 : List Int) : evalF (laws_eqIntS.E lp) laws_eqIntS.an lp Tryz.f174 [.v (.sl (.int .i64)), .v (.sl (.int .i64))] [.bool] (x0, x1, ()) = laws_eqIntS lp x0 x1 := by
  rw [laws_eqIntS.t_e]; unfold laws_eqIntS
  simp only [leK_leF _ laws_eqIntS.sr4 laws_eqIntS.sx4, laws_eqIntS.k4, laws_eqIntS.t_a4, laws_eqIntS.t_q4]
theorem laws_eqIntS.eq (lp : Nat) (x : ADens [.v (.sl (.int .i64)), .v (.sl (.int .i64))]) : evalF (laws_eqIntS.E lp) laws_eqIntS.an lp Tryz.f174 [.v (.sl (.int .i64)), .v (.sl (.int .i64))] [.bool] x = (laws_eqIntS.S lp).F x := laws_eqIntS.eq0 lp x.1 x.2.1
theorem laws_eqIntS.ok (lp : Nat) : Sound Tryz.prog 174 (laws_eqIntS.S lp) := sound_of (E := laws_eqIntS.E lp) (env_ok tabFits tabEqs trivial trivial) mixed Tryz.func174 (by kernel_rfl) (c := codeOf Tryz.f174) (by kernel_rfl) (by kernel_rfl) laws_eqIntS.an (fun x r h => ⟨lp, (laws_eqIntS.eq lp x).trans h⟩)
def laws_eqCommit.E (lp : Nat) : Env := { tab := tab, fns := [(174, laws_eqIntS.S lp), (123, laws_eqEntryS.S lp)], ann := { own := [], ro := [2, 3] } }
def laws_eqCommit.an : An := { pre := [] }
def laws_eqCommit.S (lp : Nat) : Spec := { ats := [.v TCommit, .v TCommit], rts := [.bool], F := fun x => laws_eqCommit lp x.1 x.2.1 }
theorem laws_eqCommit.eq (lp : Nat) (x : ADens [.v TCommit, .v TCommit]) : evalF (laws_eqCommit.E lp) laws_eqCommit.an lp Tryz.f120 [.v TCommit, .v TCommit] [.bool] x = (laws_eqCommit.S lp).F x := by kernel_rfl
theorem laws_eqCommit.ok (lp : Nat) : Sound Tryz.prog 120 (laws_eqCommit.S lp) := sound_of (E := laws_eqCommit.E lp) (env_ok tabFits tabEqs ⟨laws_eqIntS.ok lp, laws_eqEntryS.ok lp, trivial⟩ trivial) mixed Tryz.func120 (by kernel_rfl) (c := codeOf Tryz.f120) (by kernel_rfl) (by kernel_rfl) laws_eqCommit.an (fun x r h => ⟨lp, (laws_eqCommit.eq lp x).trans h⟩)
def laws_eqCommitS.E (lp : Nat) : Env := { tab := tab, fns := [(120, laws_eqCommit.S lp)], ann := { own := [], ro := [] } }
def laws_eqCommitS.la4 : LoopAn := { kn := { tms := [0, 1, 5] }, kx := {}, kr := { tms := [4] } }
def laws_eqCommitS.an : An := { loops := [(4, laws_eqCommitS.la4)] }
def laws_eqCommitS.s4 (x0 : List Commit) (x1 : List Commit) (x5 : Int) : St := ⟨.v (.one (.b (.d (.sl TCommit) x0))) :: .v (.one (.b (.d (.sl TCommit) x1))) :: (sk 3 (.v (.one (.b (.d (.int .i64) x5))) :: (sk 21 ([])))), sko 27 ([])⟩
def laws_eqCommitS.sx4 (y : Unit) : St := ⟨sk 27 ([]), sko 27 ([])⟩
def laws_eqCommitS.sr4 (z : Bool) : St := ⟨sk 4 (.v (.one (.b (.d .bool z))) :: (sk 22 ([]))), sko 27 ([])⟩
def laws_eqCommitS.S (lp : Nat) : Spec := { ats := [.v (.sl TCommit), .v (.sl TCommit)], rts := [.bool], F := fun x => laws_eqCommitS lp x.1 x.2.1 }
theorem laws_eqCommitS.t_b4 (lp : Nat) {R : Type} (N : St → Option R) (X : Out → St → Option R) (x0 : List Commit) (x1 : List Commit) (x5 : Int) : codeK (laws_eqCommitS.E lp) laws_eqCommitS.an lp (loopAt 4 (codeOf Tryz.f69)) (laws_eqCommitS.s4 x0 x1 x5) (lpK laws_eqCommitS.la4 N X) = laws_eqCommitS.b4 lp (fun x0 x1 x5 => N (laws_eqCommitS.s4 x0 x1 x5)) (fun y => X (.exit 0) (laws_eqCommitS.sx4 y)) (fun z => X .ret (laws_eqCommitS.sr4 z)) x0 x1 x5 := by kernel_rfl
theorem laws_eqCommitS.n_b4 (lp : Nat) {R S : Type} (N : List Commit → List Commit → Int → Option R) (X : Unit → Option R) (Q : Bool → Option R) (x0 : List Commit) (x1 : List Commit) (x5 : Int) (k : R → Option S) : obind (laws_eqCommitS.b4 lp N X Q x0 x1 x5) k = laws_eqCommitS.b4 lp (fun x0 x1 x5 => obind (N x0 x1 x5) k) (fun y => obind (X y) k) (fun z => obind (Q z) k) x0 x1 x5 := by
  unfold laws_eqCommitS.b4; simp only [obind_none, obind_some, obind_cond, obind_oif, obind_oget, obind_obind]
theorem laws_eqCommitS.k4 (lp : Nat) {R : Type} (K : Out → St → Option R) : ∀ (n : Nat) (x0 : List Commit) (x1 : List Commit) (x5 : Int), loopK laws_eqCommitS.la4 (fun σ K => codeK (laws_eqCommitS.E lp) laws_eqCommitS.an lp (loopAt 4 (codeOf Tryz.f69)) σ K) n (laws_eqCommitS.s4 x0 x1 x5) K = obind (laws_eqCommitS.l4 lp n x0 x1 x5) (leK 0 laws_eqCommitS.sr4 laws_eqCommitS.sx4 K) := by
  intro n
  induction n with
  | zero => intros; rfl
  | succ n ih =>
    intro x0 x1 x5
    rw [loopK_succ, laws_eqCommitS.t_b4, laws_eqCommitS.l4, laws_eqCommitS.n_b4]
    simp only [ih, obind_some, leK_ret, leK_brk]
theorem laws_eqCommitS.t_a4 (lp : Nat) (y : Unit) : kont (R := Bool) (laws_eqCommitS.E lp) laws_eqCommitS.an lp (finK (laws_eqCommitS.E lp) Tryz.f69 [.bool]) (stkAt 4 (codeOf Tryz.f69)) (.exit 0) (laws_eqCommitS.sx4 y) = laws_eqCommitS.a4 lp y := by kernel_rfl
theorem laws_eqCommitS.t_q4 (lp : Nat) (z : Bool) : kont (R := Bool) (laws_eqCommitS.E lp) laws_eqCommitS.an lp (finK (laws_eqCommitS.E lp) Tryz.f69 [.bool]) (stkAt 4 (codeOf Tryz.f69)) .ret (laws_eqCommitS.sr4 z) = laws_eqCommitS.q4 lp z := by kernel_rfl
theorem laws_eqCommitS.t_e (lp : Nat) (x0 : List Commit) (x1 : List Commit) : evalF (laws_eqCommitS.E lp) laws_eqCommitS.an lp Tryz.f69 [.v (.sl TCommit), .v (.sl TCommit)] [.bool] (x0, x1, ()) = laws_eqCommitS.e lp (fun x0 x1 x5 => loopK laws_eqCommitS.la4 (fun σ K => codeK (laws_eqCommitS.E lp) laws_eqCommitS.an lp (loopAt 4 (codeOf Tryz.f69)) σ K) lp (laws_eqCommitS.s4 x0 x1 x5) (kont (laws_eqCommitS.E lp) laws_eqCommitS.an lp (finK (laws_eqCommitS.E lp) Tryz.f69 [.bool]) (stkAt 4 (codeOf Tryz.f69)))) x0 x1 := by kernel_rfl
theorem laws_eqCommitS.eq0 (lp : Nat) (x0 : List Commit) (x1 : List Commit) : evalF (laws_eqCommitS.E lp) laws_eqCommitS.an lp Tryz.f69 [.v (.sl TCommit), .v (.sl TCommit)] [.bool] (x0, x1, ()) = laws_eqCommitS lp x0 x1 := by
  rw [laws_eqCommitS.t_e]; unfold laws_eqCommitS
  simp only [leK_leF _ laws_eqCommitS.sr4 laws_eqCommitS.sx4, laws_eqCommitS.k4, laws_eqCommitS.t_a4, laws_eqCommitS.t_q4]
theorem laws_eqCommitS.eq (lp : Nat) (x : ADens [.v (.sl TCommit), .v (.sl TCommit)]) : evalF (laws_eqCommitS.E lp) laws_eqCommitS.an lp Tryz.f69 [.v (.sl TCommit), .v (.sl TCommit)] [.bool] x = (laws_eqCommitS.S lp).F x := laws_eqCommitS.eq0 lp x.1 x.2.1
theorem laws_eqCommitS.ok (lp : Nat) : Sound Tryz.prog 69 (laws_eqCommitS.S lp) := sound_of (E := laws_eqCommitS.E lp) (env_ok tabFits tabEqs ⟨laws_eqCommit.ok lp, trivial⟩ trivial) mixed Tryz.func69 (by kernel_rfl) (c := codeOf Tryz.f69) (by kernel_rfl) (by kernel_rfl) laws_eqCommitS.an (fun x r h => ⟨lp, (laws_eqCommitS.eq lp x).trans h⟩)
def laws_eqRef.E : Env := { tab := tab, fns := [], ann := { own := [], ro := [2, 3] } }
def laws_eqRef.an : An := { pre := [] }
def laws_eqRef.S : Spec := { ats := [.v TRef, .v TRef], rts := [.bool], F := fun x => laws_eqRef x.1 x.2.1 }
theorem laws_eqRef.eq (lp : Nat) (x : ADens [.v TRef, .v TRef]) : evalF (laws_eqRef.E) laws_eqRef.an lp Tryz.f121 [.v TRef, .v TRef] [.bool] x = (laws_eqRef.S).F x := by kernel_rfl
theorem laws_eqRef.ok : Sound Tryz.prog 121 (laws_eqRef.S) := sound_of (E := laws_eqRef.E) (env_ok tabFits tabEqs trivial trivial) mixed Tryz.func121 (by kernel_rfl) (c := codeOf Tryz.f121) (by kernel_rfl) (by kernel_rfl) laws_eqRef.an (fun x r h => ⟨0, (laws_eqRef.eq 0 x).trans h⟩)
def laws_eqRefS.E (lp : Nat) : Env := { tab := tab, fns := [(121, laws_eqRef.S)], ann := { own := [], ro := [] } }
def laws_eqRefS.la4 : LoopAn := { kn := { tms := [0, 1, 5] }, kx := {}, kr := { tms := [4] } }
def laws_eqRefS.an : An := { loops := [(4, laws_eqRefS.la4)] }
def laws_eqRefS.s4 (x0 : List Ref) (x1 : List Ref) (x5 : Int) : St := ⟨.v (.one (.b (.d (.sl TRef) x0))) :: .v (.one (.b (.d (.sl TRef) x1))) :: (sk 3 (.v (.one (.b (.d (.int .i64) x5))) :: (sk 21 ([])))), sko 27 ([])⟩
def laws_eqRefS.sx4 (y : Unit) : St := ⟨sk 27 ([]), sko 27 ([])⟩
def laws_eqRefS.sr4 (z : Bool) : St := ⟨sk 4 (.v (.one (.b (.d .bool z))) :: (sk 22 ([]))), sko 27 ([])⟩
def laws_eqRefS.S (lp : Nat) : Spec := { ats := [.v (.sl TRef), .v (.sl TRef)], rts := [.bool], F := fun x => laws_eqRefS lp x.1 x.2.1 }
theorem laws_eqRefS.t_b4 (lp : Nat) {R : Type} (N : St → Option R) (X : Out → St → Option R) (x0 : List Ref) (x1 : List Ref) (x5 : Int) : codeK (laws_eqRefS.E lp) laws_eqRefS.an lp (loopAt 4 (codeOf Tryz.f70)) (laws_eqRefS.s4 x0 x1 x5) (lpK laws_eqRefS.la4 N X) = laws_eqRefS.b4 lp (fun x0 x1 x5 => N (laws_eqRefS.s4 x0 x1 x5)) (fun y => X (.exit 0) (laws_eqRefS.sx4 y)) (fun z => X .ret (laws_eqRefS.sr4 z)) x0 x1 x5 := by kernel_rfl
theorem laws_eqRefS.n_b4 (lp : Nat) {R S : Type} (N : List Ref → List Ref → Int → Option R) (X : Unit → Option R) (Q : Bool → Option R) (x0 : List Ref) (x1 : List Ref) (x5 : Int) (k : R → Option S) : obind (laws_eqRefS.b4 lp N X Q x0 x1 x5) k = laws_eqRefS.b4 lp (fun x0 x1 x5 => obind (N x0 x1 x5) k) (fun y => obind (X y) k) (fun z => obind (Q z) k) x0 x1 x5 := by
  unfold laws_eqRefS.b4; simp only [obind_none, obind_some, obind_cond, obind_oif, obind_oget, obind_obind]
theorem laws_eqRefS.k4 (lp : Nat) {R : Type} (K : Out → St → Option R) : ∀ (n : Nat) (x0 : List Ref) (x1 : List Ref) (x5 : Int), loopK laws_eqRefS.la4 (fun σ K => codeK (laws_eqRefS.E lp) laws_eqRefS.an lp (loopAt 4 (codeOf Tryz.f70)) σ K) n (laws_eqRefS.s4 x0 x1 x5) K = obind (laws_eqRefS.l4 lp n x0 x1 x5) (leK 0 laws_eqRefS.sr4 laws_eqRefS.sx4 K) := by
  intro n
  induction n with
  | zero => intros; rfl
  | succ n ih =>
    intro x0 x1 x5
    rw [loopK_succ, laws_eqRefS.t_b4, laws_eqRefS.l4, laws_eqRefS.n_b4]
    simp only [ih, obind_some, leK_ret, leK_brk]
theorem laws_eqRefS.t_a4 (lp : Nat) (y : Unit) : kont (R := Bool) (laws_eqRefS.E lp) laws_eqRefS.an lp (finK (laws_eqRefS.E lp) Tryz.f70 [.bool]) (stkAt 4 (codeOf Tryz.f70)) (.exit 0) (laws_eqRefS.sx4 y) = laws_eqRefS.a4 lp y := by kernel_rfl
theorem laws_eqRefS.t_q4 (lp : Nat) (z : Bool) : kont (R := Bool) (laws_eqRefS.E lp) laws_eqRefS.an lp (finK (laws_eqRefS.E lp) Tryz.f70 [.bool]) (stkAt 4 (codeOf Tryz.f70)) .ret (laws_eqRefS.sr4 z) = laws_eqRefS.q4 lp z := by kernel_rfl
theorem laws_eqRefS.t_e (lp : Nat) (x0 : List Ref) (x1 : List Ref) : evalF (laws_eqRefS.E lp) laws_eqRefS.an lp Tryz.f70 [.v (.sl TRef), .v (.sl TRef)] [.bool] (x0, x1, ()) = laws_eqRefS.e lp (fun x0 x1 x5 => loopK laws_eqRefS.la4 (fun σ K => codeK (laws_eqRefS.E lp) laws_eqRefS.an lp (loopAt 4 (codeOf Tryz.f70)) σ K) lp (laws_eqRefS.s4 x0 x1 x5) (kont (laws_eqRefS.E lp) laws_eqRefS.an lp (finK (laws_eqRefS.E lp) Tryz.f70 [.bool]) (stkAt 4 (codeOf Tryz.f70)))) x0 x1 := by kernel_rfl
theorem laws_eqRefS.eq0 (lp : Nat) (x0 : List Ref) (x1 : List Ref) : evalF (laws_eqRefS.E lp) laws_eqRefS.an lp Tryz.f70 [.v (.sl TRef), .v (.sl TRef)] [.bool] (x0, x1, ()) = laws_eqRefS lp x0 x1 := by
  rw [laws_eqRefS.t_e]; unfold laws_eqRefS
  simp only [leK_leF _ laws_eqRefS.sr4 laws_eqRefS.sx4, laws_eqRefS.k4, laws_eqRefS.t_a4, laws_eqRefS.t_q4]
theorem laws_eqRefS.eq (lp : Nat) (x : ADens [.v (.sl TRef), .v (.sl TRef)]) : evalF (laws_eqRefS.E lp) laws_eqRefS.an lp Tryz.f70 [.v (.sl TRef), .v (.sl TRef)] [.bool] x = (laws_eqRefS.S lp).F x := laws_eqRefS.eq0 lp x.1 x.2.1
theorem laws_eqRefS.ok (lp : Nat) : Sound Tryz.prog 70 (laws_eqRefS.S lp) := sound_of (E := laws_eqRefS.E lp) (env_ok tabFits tabEqs ⟨laws_eqRef.ok, trivial⟩ trivial) mixed Tryz.func70 (by kernel_rfl) (c := codeOf Tryz.f70) (by kernel_rfl) (by kernel_rfl) laws_eqRefS.an (fun x r h => ⟨lp, (laws_eqRefS.eq lp x).trans h⟩)
def laws_eqBase.E (lp : Nat) : Env := { tab := tab, fns := [(69, laws_eqCommitS.S lp), (70, laws_eqRefS.S lp)], ann := { own := [], ro := [2, 3] } }
def laws_eqBase.an : An := { pre := [] }
def laws_eqBase.S (lp : Nat) : Spec := { ats := [.v TBase, .v TBase], rts := [.bool], F := fun x => laws_eqBase lp x.1 x.2.1 }
theorem laws_eqBase.eq (lp : Nat) (x : ADens [.v TBase, .v TBase]) : evalF (laws_eqBase.E lp) laws_eqBase.an lp Tryz.f32 [.v TBase, .v TBase] [.bool] x = (laws_eqBase.S lp).F x := by kernel_rfl
theorem laws_eqBase.ok (lp : Nat) : Sound Tryz.prog 32 (laws_eqBase.S lp) := sound_of (E := laws_eqBase.E lp) (env_ok tabFits tabEqs ⟨laws_eqCommitS.ok lp, laws_eqRefS.ok lp, trivial⟩ trivial) mixed Tryz.func32 (by kernel_rfl) (c := codeOf Tryz.f32) (by kernel_rfl) (by kernel_rfl) laws_eqBase.an (fun x r h => ⟨lp, (laws_eqBase.eq lp x).trans h⟩)
def laws_eqEdit.E : Env := { tab := tab, fns := [], ann := { own := [], ro := [2, 3] } }
def laws_eqEdit.an : An := { pre := [] }
def laws_eqEdit.S : Spec := { ats := [.v TEdit, .v TEdit], rts := [.bool], F := fun x => laws_eqEdit x.1 x.2.1 }
theorem laws_eqEdit.eq (lp : Nat) (x : ADens [.v TEdit, .v TEdit]) : evalF (laws_eqEdit.E) laws_eqEdit.an lp Tryz.f194 [.v TEdit, .v TEdit] [.bool] x = (laws_eqEdit.S).F x := by kernel_rfl
theorem laws_eqEdit.ok : Sound Tryz.prog 194 (laws_eqEdit.S) := sound_of (E := laws_eqEdit.E) (env_ok tabFits tabEqs trivial trivial) mixed Tryz.func194 (by kernel_rfl) (c := codeOf Tryz.f194) (by kernel_rfl) (by kernel_rfl) laws_eqEdit.an (fun x r h => ⟨0, (laws_eqEdit.eq 0 x).trans h⟩)
def laws_eqEditS.E (lp : Nat) : Env := { tab := tab, fns := [(194, laws_eqEdit.S)], ann := { own := [], ro := [] } }
def laws_eqEditS.la4 : LoopAn := { kn := { tms := [0, 1, 5] }, kx := {}, kr := { tms := [4] } }
def laws_eqEditS.an : An := { loops := [(4, laws_eqEditS.la4)] }
def laws_eqEditS.s4 (x0 : List Edit) (x1 : List Edit) (x5 : Int) : St := ⟨.v (.one (.b (.d (.sl TEdit) x0))) :: .v (.one (.b (.d (.sl TEdit) x1))) :: (sk 3 (.v (.one (.b (.d (.int .i64) x5))) :: (sk 21 ([])))), sko 27 ([])⟩
def laws_eqEditS.sx4 (y : Unit) : St := ⟨sk 27 ([]), sko 27 ([])⟩
def laws_eqEditS.sr4 (z : Bool) : St := ⟨sk 4 (.v (.one (.b (.d .bool z))) :: (sk 22 ([]))), sko 27 ([])⟩
def laws_eqEditS.S (lp : Nat) : Spec := { ats := [.v (.sl TEdit), .v (.sl TEdit)], rts := [.bool], F := fun x => laws_eqEditS lp x.1 x.2.1 }
theorem laws_eqEditS.t_b4 (lp : Nat) {R : Type} (N : St → Option R) (X : Out → St → Option R) (x0 : List Edit) (x1 : List Edit) (x5 : Int) : codeK (laws_eqEditS.E lp) laws_eqEditS.an lp (loopAt 4 (codeOf Tryz.f178)) (laws_eqEditS.s4 x0 x1 x5) (lpK laws_eqEditS.la4 N X) = laws_eqEditS.b4 lp (fun x0 x1 x5 => N (laws_eqEditS.s4 x0 x1 x5)) (fun y => X (.exit 0) (laws_eqEditS.sx4 y)) (fun z => X .ret (laws_eqEditS.sr4 z)) x0 x1 x5 := by kernel_rfl
theorem laws_eqEditS.n_b4 (lp : Nat) {R S : Type} (N : List Edit → List Edit → Int → Option R) (X : Unit → Option R) (Q : Bool → Option R) (x0 : List Edit) (x1 : List Edit) (x5 : Int) (k : R → Option S) : obind (laws_eqEditS.b4 lp N X Q x0 x1 x5) k = laws_eqEditS.b4 lp (fun x0 x1 x5 => obind (N x0 x1 x5) k) (fun y => obind (X y) k) (fun z => obind (Q z) k) x0 x1 x5 := by
  unfold laws_eqEditS.b4; simp only [obind_none, obind_some, obind_cond, obind_oif, obind_oget, obind_obind]
theorem laws_eqEditS.k4 (lp : Nat) {R : Type} (K : Out → St → Option R) : ∀ (n : Nat) (x0 : List Edit) (x1 : List Edit) (x5 : Int), loopK laws_eqEditS.la4 (fun σ K => codeK (laws_eqEditS.E lp) laws_eqEditS.an lp (loopAt 4 (codeOf Tryz.f178)) σ K) n (laws_eqEditS.s4 x0 x1 x5) K = obind (laws_eqEditS.l4 lp n x0 x1 x5) (leK 0 laws_eqEditS.sr4 laws_eqEditS.sx4 K) := by
  intro n
  induction n with
  | zero => intros; rfl
  | succ n ih =>
    intro x0 x1 x5
    rw [loopK_succ, laws_eqEditS.t_b4, laws_eqEditS.l4, laws_eqEditS.n_b4]
    simp only [ih, obind_some, leK_ret, leK_brk]
theorem laws_eqEditS.t_a4 (lp : Nat) (y : Unit) : kont (R := Bool) (laws_eqEditS.E lp) laws_eqEditS.an lp (finK (laws_eqEditS.E lp) Tryz.f178 [.bool]) (stkAt 4 (codeOf Tryz.f178)) (.exit 0) (laws_eqEditS.sx4 y) = laws_eqEditS.a4 lp y := by kernel_rfl
theorem laws_eqEditS.t_q4 (lp : Nat) (z : Bool) : kont (R := Bool) (laws_eqEditS.E lp) laws_eqEditS.an lp (finK (laws_eqEditS.E lp) Tryz.f178 [.bool]) (stkAt 4 (codeOf Tryz.f178)) .ret (laws_eqEditS.sr4 z) = laws_eqEditS.q4 lp z := by kernel_rfl
theorem laws_eqEditS.t_e (lp : Nat) (x0 : List Edit) (x1 : List Edit) : evalF (laws_eqEditS.E lp) laws_eqEditS.an lp Tryz.f178 [.v (.sl TEdit), .v (.sl TEdit)] [.bool] (x0, x1, ()) = laws_eqEditS.e lp (fun x0 x1 x5 => loopK laws_eqEditS.la4 (fun σ K => codeK (laws_eqEditS.E lp) laws_eqEditS.an lp (loopAt 4 (codeOf Tryz.f178)) σ K) lp (laws_eqEditS.s4 x0 x1 x5) (kont (laws_eqEditS.E lp) laws_eqEditS.an lp (finK (laws_eqEditS.E lp) Tryz.f178 [.bool]) (stkAt 4 (codeOf Tryz.f178)))) x0 x1 := by kernel_rfl
theorem laws_eqEditS.eq0 (lp : Nat) (x0 : List Edit) (x1 : List Edit) : evalF (laws_eqEditS.E lp) laws_eqEditS.an lp Tryz.f178 [.v (.sl TEdit), .v (.sl TEdit)] [.bool] (x0, x1, ()) = laws_eqEditS lp x0 x1 := by
  rw [laws_eqEditS.t_e]; unfold laws_eqEditS
  simp only [leK_leF _ laws_eqEditS.sr4 laws_eqEditS.sx4, laws_eqEditS.k4, laws_eqEditS.t_a4, laws_eqEditS.t_q4]
theorem laws_eqEditS.eq (lp : Nat) (x : ADens [.v (.sl TEdit), .v (.sl TEdit)]) : evalF (laws_eqEditS.E lp) laws_eqEditS.an lp Tryz.f178 [.v (.sl TEdit), .v (.sl TEdit)] [.bool] x = (laws_eqEditS.S lp).F x := laws_eqEditS.eq0 lp x.1 x.2.1
theorem laws_eqEditS.ok (lp : Nat) : Sound Tryz.prog 178 (laws_eqEditS.S lp) := sound_of (E := laws_eqEditS.E lp) (env_ok tabFits tabEqs ⟨laws_eqEdit.ok, trivial⟩ trivial) mixed Tryz.func178 (by kernel_rfl) (c := codeOf Tryz.f178) (by kernel_rfl) (by kernel_rfl) laws_eqEditS.an (fun x r h => ⟨lp, (laws_eqEditS.eq lp x).trans h⟩)
def laws_eqWish.E (lp : Nat) : Env := { tab := tab, fns := [(178, laws_eqEditS.S lp)], ann := { own := [], ro := [2, 3] } }
def laws_eqWish.an : An := { pre := [] }
def laws_eqWish.S (lp : Nat) : Spec := { ats := [.v TWish, .v TWish], rts := [.bool], F := fun x => laws_eqWish lp x.1 x.2.1 }
theorem laws_eqWish.eq (lp : Nat) (x : ADens [.v TWish, .v TWish]) : evalF (laws_eqWish.E lp) laws_eqWish.an lp Tryz.f175 [.v TWish, .v TWish] [.bool] x = (laws_eqWish.S lp).F x := by kernel_rfl
theorem laws_eqWish.ok (lp : Nat) : Sound Tryz.prog 175 (laws_eqWish.S lp) := sound_of (E := laws_eqWish.E lp) (env_ok tabFits tabEqs ⟨laws_eqEditS.ok lp, trivial⟩ trivial) mixed Tryz.func175 (by kernel_rfl) (c := codeOf Tryz.f175) (by kernel_rfl) (by kernel_rfl) laws_eqWish.an (fun x r h => ⟨lp, (laws_eqWish.eq lp x).trans h⟩)
def laws_eqWishS.E (lp : Nat) : Env := { tab := tab, fns := [(175, laws_eqWish.S lp)], ann := { own := [], ro := [] } }
def laws_eqWishS.la4 : LoopAn := { kn := { tms := [0, 1, 5] }, kx := {}, kr := { tms := [4] } }
def laws_eqWishS.an : An := { loops := [(4, laws_eqWishS.la4)] }
def laws_eqWishS.s4 (x0 : List Wish) (x1 : List Wish) (x5 : Int) : St := ⟨.v (.one (.b (.d (.sl TWish) x0))) :: .v (.one (.b (.d (.sl TWish) x1))) :: (sk 3 (.v (.one (.b (.d (.int .i64) x5))) :: (sk 21 ([])))), sko 27 ([])⟩
def laws_eqWishS.sx4 (y : Unit) : St := ⟨sk 27 ([]), sko 27 ([])⟩
def laws_eqWishS.sr4 (z : Bool) : St := ⟨sk 4 (.v (.one (.b (.d .bool z))) :: (sk 22 ([]))), sko 27 ([])⟩
def laws_eqWishS.S (lp : Nat) : Spec := { ats := [.v (.sl TWish), .v (.sl TWish)], rts := [.bool], F := fun x => laws_eqWishS lp x.1 x.2.1 }
theorem laws_eqWishS.t_b4 (lp : Nat) {R : Type} (N : St → Option R) (X : Out → St → Option R) (x0 : List Wish) (x1 : List Wish) (x5 : Int) : codeK (laws_eqWishS.E lp) laws_eqWishS.an lp (loopAt 4 (codeOf Tryz.f122)) (laws_eqWishS.s4 x0 x1 x5) (lpK laws_eqWishS.la4 N X) = laws_eqWishS.b4 lp (fun x0 x1 x5 => N (laws_eqWishS.s4 x0 x1 x5)) (fun y => X (.exit 0) (laws_eqWishS.sx4 y)) (fun z => X .ret (laws_eqWishS.sr4 z)) x0 x1 x5 := by kernel_rfl
theorem laws_eqWishS.n_b4 (lp : Nat) {R S : Type} (N : List Wish → List Wish → Int → Option R) (X : Unit → Option R) (Q : Bool → Option R) (x0 : List Wish) (x1 : List Wish) (x5 : Int) (k : R → Option S) : obind (laws_eqWishS.b4 lp N X Q x0 x1 x5) k = laws_eqWishS.b4 lp (fun x0 x1 x5 => obind (N x0 x1 x5) k) (fun y => obind (X y) k) (fun z => obind (Q z) k) x0 x1 x5 := by
  unfold laws_eqWishS.b4; simp only [obind_none, obind_some, obind_cond, obind_oif, obind_oget, obind_obind]
theorem laws_eqWishS.k4 (lp : Nat) {R : Type} (K : Out → St → Option R) : ∀ (n : Nat) (x0 : List Wish) (x1 : List Wish) (x5 : Int), loopK laws_eqWishS.la4 (fun σ K => codeK (laws_eqWishS.E lp) laws_eqWishS.an lp (loopAt 4 (codeOf Tryz.f122)) σ K) n (laws_eqWishS.s4 x0 x1 x5) K = obind (laws_eqWishS.l4 lp n x0 x1 x5) (leK 0 laws_eqWishS.sr4 laws_eqWishS.sx4 K) := by
  intro n
  induction n with
  | zero => intros; rfl
  | succ n ih =>
    intro x0 x1 x5
    rw [loopK_succ, laws_eqWishS.t_b4, laws_eqWishS.l4, laws_eqWishS.n_b4]
    simp only [ih, obind_some, leK_ret, leK_brk]
theorem laws_eqWishS.t_a4 (lp : Nat) (y : Unit) : kont (R := Bool) (laws_eqWishS.E lp) laws_eqWishS.an lp (finK (laws_eqWishS.E lp) Tryz.f122 [.bool]) (stkAt 4 (codeOf Tryz.f122)) (.exit 0) (laws_eqWishS.sx4 y) = laws_eqWishS.a4 lp y := by kernel_rfl
theorem laws_eqWishS.t_q4 (lp : Nat) (z : Bool) : kont (R := Bool) (laws_eqWishS.E lp) laws_eqWishS.an lp (finK (laws_eqWishS.E lp) Tryz.f122 [.bool]) (stkAt 4 (codeOf Tryz.f122)) .ret (laws_eqWishS.sr4 z) = laws_eqWishS.q4 lp z := by kernel_rfl
theorem laws_eqWishS.t_e (lp : Nat) (x0 : List Wish) (x1 : List Wish) : evalF (laws_eqWishS.E lp) laws_eqWishS.an lp Tryz.f122 [.v (.sl TWish), .v (.sl TWish)] [.bool] (x0, x1, ()) = laws_eqWishS.e lp (fun x0 x1 x5 => loopK laws_eqWishS.la4 (fun σ K => codeK (laws_eqWishS.E lp) laws_eqWishS.an lp (loopAt 4 (codeOf Tryz.f122)) σ K) lp (laws_eqWishS.s4 x0 x1 x5) (kont (laws_eqWishS.E lp) laws_eqWishS.an lp (finK (laws_eqWishS.E lp) Tryz.f122 [.bool]) (stkAt 4 (codeOf Tryz.f122)))) x0 x1 := by kernel_rfl
theorem laws_eqWishS.eq0 (lp : Nat) (x0 : List Wish) (x1 : List Wish) : evalF (laws_eqWishS.E lp) laws_eqWishS.an lp Tryz.f122 [.v (.sl TWish), .v (.sl TWish)] [.bool] (x0, x1, ()) = laws_eqWishS lp x0 x1 := by
  rw [laws_eqWishS.t_e]; unfold laws_eqWishS
  simp only [leK_leF _ laws_eqWishS.sr4 laws_eqWishS.sx4, laws_eqWishS.k4, laws_eqWishS.t_a4, laws_eqWishS.t_q4]
theorem laws_eqWishS.eq (lp : Nat) (x : ADens [.v (.sl TWish), .v (.sl TWish)]) : evalF (laws_eqWishS.E lp) laws_eqWishS.an lp Tryz.f122 [.v (.sl TWish), .v (.sl TWish)] [.bool] x = (laws_eqWishS.S lp).F x := laws_eqWishS.eq0 lp x.1 x.2.1
theorem laws_eqWishS.ok (lp : Nat) : Sound Tryz.prog 122 (laws_eqWishS.S lp) := sound_of (E := laws_eqWishS.E lp) (env_ok tabFits tabEqs ⟨laws_eqWish.ok lp, trivial⟩ trivial) mixed Tryz.func122 (by kernel_rfl) (c := codeOf Tryz.f122) (by kernel_rfl) (by kernel_rfl) laws_eqWishS.an (fun x r h => ⟨lp, (laws_eqWishS.eq lp x).trans h⟩)
def laws_eqClient.E (lp : Nat) : Env := { tab := tab, fns := [(122, laws_eqWishS.S lp), (123, laws_eqEntryS.S lp)], ann := { own := [], ro := [2, 3] } }
def laws_eqClient.an : An := { pre := [] }
def laws_eqClient.S (lp : Nat) : Spec := { ats := [.v TClient, .v TClient], rts := [.bool], F := fun x => laws_eqClient lp x.1 x.2.1 }
theorem laws_eqClient.eq (lp : Nat) (x : ADens [.v TClient, .v TClient]) : evalF (laws_eqClient.E lp) laws_eqClient.an lp Tryz.f71 [.v TClient, .v TClient] [.bool] x = (laws_eqClient.S lp).F x := by kernel_rfl
theorem laws_eqClient.ok (lp : Nat) : Sound Tryz.prog 71 (laws_eqClient.S lp) := sound_of (E := laws_eqClient.E lp) (env_ok tabFits tabEqs ⟨laws_eqWishS.ok lp, laws_eqEntryS.ok lp, trivial⟩ trivial) mixed Tryz.func71 (by kernel_rfl) (c := codeOf Tryz.f71) (by kernel_rfl) (by kernel_rfl) laws_eqClient.an (fun x r h => ⟨lp, (laws_eqClient.eq lp x).trans h⟩)
def laws_eqClientS.E (lp : Nat) : Env := { tab := tab, fns := [(71, laws_eqClient.S lp)], ann := { own := [], ro := [] } }
def laws_eqClientS.la4 : LoopAn := { kn := { tms := [0, 1, 5] }, kx := {}, kr := { tms := [4] } }
def laws_eqClientS.an : An := { loops := [(4, laws_eqClientS.la4)] }
def laws_eqClientS.s4 (x0 : List Client) (x1 : List Client) (x5 : Int) : St := ⟨.v (.one (.b (.d (.sl TClient) x0))) :: .v (.one (.b (.d (.sl TClient) x1))) :: (sk 3 (.v (.one (.b (.d (.int .i64) x5))) :: (sk 21 ([])))), sko 27 ([])⟩
def laws_eqClientS.sx4 (y : Unit) : St := ⟨sk 27 ([]), sko 27 ([])⟩
def laws_eqClientS.sr4 (z : Bool) : St := ⟨sk 4 (.v (.one (.b (.d .bool z))) :: (sk 22 ([]))), sko 27 ([])⟩
def laws_eqClientS.S (lp : Nat) : Spec := { ats := [.v (.sl TClient), .v (.sl TClient)], rts := [.bool], F := fun x => laws_eqClientS lp x.1 x.2.1 }
theorem laws_eqClientS.t_b4 (lp : Nat) {R : Type} (N : St → Option R) (X : Out → St → Option R) (x0 : List Client) (x1 : List Client) (x5 : Int) : codeK (laws_eqClientS.E lp) laws_eqClientS.an lp (loopAt 4 (codeOf Tryz.f33)) (laws_eqClientS.s4 x0 x1 x5) (lpK laws_eqClientS.la4 N X) = laws_eqClientS.b4 lp (fun x0 x1 x5 => N (laws_eqClientS.s4 x0 x1 x5)) (fun y => X (.exit 0) (laws_eqClientS.sx4 y)) (fun z => X .ret (laws_eqClientS.sr4 z)) x0 x1 x5 := by kernel_rfl
theorem laws_eqClientS.n_b4 (lp : Nat) {R S : Type} (N : List Client → List Client → Int → Option R) (X : Unit → Option R) (Q : Bool → Option R) (x0 : List Client) (x1 : List Client) (x5 : Int) (k : R → Option S) : obind (laws_eqClientS.b4 lp N X Q x0 x1 x5) k = laws_eqClientS.b4 lp (fun x0 x1 x5 => obind (N x0 x1 x5) k) (fun y => obind (X y) k) (fun z => obind (Q z) k) x0 x1 x5 := by
  unfold laws_eqClientS.b4; simp only [obind_none, obind_some, obind_cond, obind_oif, obind_oget, obind_obind]
theorem laws_eqClientS.k4 (lp : Nat) {R : Type} (K : Out → St → Option R) : ∀ (n : Nat) (x0 : List Client) (x1 : List Client) (x5 : Int), loopK laws_eqClientS.la4 (fun σ K => codeK (laws_eqClientS.E lp) laws_eqClientS.an lp (loopAt 4 (codeOf Tryz.f33)) σ K) n (laws_eqClientS.s4 x0 x1 x5) K = obind (laws_eqClientS.l4 lp n x0 x1 x5) (leK 0 laws_eqClientS.sr4 laws_eqClientS.sx4 K) := by
  intro n
  induction n with
  | zero => intros; rfl
  | succ n ih =>
    intro x0 x1 x5
    rw [loopK_succ, laws_eqClientS.t_b4, laws_eqClientS.l4, laws_eqClientS.n_b4]
    simp only [ih, obind_some, leK_ret, leK_brk]
theorem laws_eqClientS.t_a4 (lp : Nat) (y : Unit) : kont (R := Bool) (laws_eqClientS.E lp) laws_eqClientS.an lp (finK (laws_eqClientS.E lp) Tryz.f33 [.bool]) (stkAt 4 (codeOf Tryz.f33)) (.exit 0) (laws_eqClientS.sx4 y) = laws_eqClientS.a4 lp y := by kernel_rfl
theorem laws_eqClientS.t_q4 (lp : Nat) (z : Bool) : kont (R := Bool) (laws_eqClientS.E lp) laws_eqClientS.an lp (finK (laws_eqClientS.E lp) Tryz.f33 [.bool]) (stkAt 4 (codeOf Tryz.f33)) .ret (laws_eqClientS.sr4 z) = laws_eqClientS.q4 lp z := by kernel_rfl
theorem laws_eqClientS.t_e (lp : Nat) (x0 : List Client) (x1 : List Client) : evalF (laws_eqClientS.E lp) laws_eqClientS.an lp Tryz.f33 [.v (.sl TClient), .v (.sl TClient)] [.bool] (x0, x1, ()) = laws_eqClientS.e lp (fun x0 x1 x5 => loopK laws_eqClientS.la4 (fun σ K => codeK (laws_eqClientS.E lp) laws_eqClientS.an lp (loopAt 4 (codeOf Tryz.f33)) σ K) lp (laws_eqClientS.s4 x0 x1 x5) (kont (laws_eqClientS.E lp) laws_eqClientS.an lp (finK (laws_eqClientS.E lp) Tryz.f33 [.bool]) (stkAt 4 (codeOf Tryz.f33)))) x0 x1 := by kernel_rfl
theorem laws_eqClientS.eq0 (lp : Nat) (x0 : List Client) (x1 : List Client) : evalF (laws_eqClientS.E lp) laws_eqClientS.an lp Tryz.f33 [.v (.sl TClient), .v (.sl TClient)] [.bool] (x0, x1, ()) = laws_eqClientS lp x0 x1 := by
  rw [laws_eqClientS.t_e]; unfold laws_eqClientS
  simp only [leK_leF _ laws_eqClientS.sr4 laws_eqClientS.sx4, laws_eqClientS.k4, laws_eqClientS.t_a4, laws_eqClientS.t_q4]
theorem laws_eqClientS.eq (lp : Nat) (x : ADens [.v (.sl TClient), .v (.sl TClient)]) : evalF (laws_eqClientS.E lp) laws_eqClientS.an lp Tryz.f33 [.v (.sl TClient), .v (.sl TClient)] [.bool] x = (laws_eqClientS.S lp).F x := laws_eqClientS.eq0 lp x.1 x.2.1
theorem laws_eqClientS.ok (lp : Nat) : Sound Tryz.prog 33 (laws_eqClientS.S lp) := sound_of (E := laws_eqClientS.E lp) (env_ok tabFits tabEqs ⟨laws_eqClient.ok lp, trivial⟩ trivial) mixed Tryz.func33 (by kernel_rfl) (c := codeOf Tryz.f33) (by kernel_rfl) (by kernel_rfl) laws_eqClientS.an (fun x r h => ⟨lp, (laws_eqClientS.eq lp x).trans h⟩)
def laws_eqEvent.E : Env := { tab := tab, fns := [], ann := { own := [], ro := [2, 3] } }
def laws_eqEvent.an : An := { pre := [] }
def laws_eqEvent.S : Spec := { ats := [.v TEvent, .v TEvent], rts := [.bool], F := fun x => laws_eqEvent x.1 x.2.1 }
theorem laws_eqEvent.eq (lp : Nat) (x : ADens [.v TEvent, .v TEvent]) : evalF (laws_eqEvent.E) laws_eqEvent.an lp Tryz.f177 [.v TEvent, .v TEvent] [.bool] x = (laws_eqEvent.S).F x := by kernel_rfl
theorem laws_eqEvent.ok : Sound Tryz.prog 177 (laws_eqEvent.S) := sound_of (E := laws_eqEvent.E) (env_ok tabFits tabEqs trivial trivial) mixed Tryz.func177 (by kernel_rfl) (c := codeOf Tryz.f177) (by kernel_rfl) (by kernel_rfl) laws_eqEvent.an (fun x r h => ⟨0, (laws_eqEvent.eq 0 x).trans h⟩)
def laws_eqEventS.E (lp : Nat) : Env := { tab := tab, fns := [(177, laws_eqEvent.S)], ann := { own := [], ro := [] } }
def laws_eqEventS.la4 : LoopAn := { kn := { tms := [0, 1, 5] }, kx := {}, kr := { tms := [4] } }
def laws_eqEventS.an : An := { loops := [(4, laws_eqEventS.la4)] }
def laws_eqEventS.s4 (x0 : List Event) (x1 : List Event) (x5 : Int) : St := ⟨.v (.one (.b (.d (.sl TEvent) x0))) :: .v (.one (.b (.d (.sl TEvent) x1))) :: (sk 3 (.v (.one (.b (.d (.int .i64) x5))) :: (sk 21 ([])))), sko 27 ([])⟩
def laws_eqEventS.sx4 (y : Unit) : St := ⟨sk 27 ([]), sko 27 ([])⟩
def laws_eqEventS.sr4 (z : Bool) : St := ⟨sk 4 (.v (.one (.b (.d .bool z))) :: (sk 22 ([]))), sko 27 ([])⟩
def laws_eqEventS.S (lp : Nat) : Spec := { ats := [.v (.sl TEvent), .v (.sl TEvent)], rts := [.bool], F := fun x => laws_eqEventS lp x.1 x.2.1 }
theorem laws_eqEventS.t_b4 (lp : Nat) {R : Type} (N : St → Option R) (X : Out → St → Option R) (x0 : List Event) (x1 : List Event) (x5 : Int) : codeK (laws_eqEventS.E lp) laws_eqEventS.an lp (loopAt 4 (codeOf Tryz.f124)) (laws_eqEventS.s4 x0 x1 x5) (lpK laws_eqEventS.la4 N X) = laws_eqEventS.b4 lp (fun x0 x1 x5 => N (laws_eqEventS.s4 x0 x1 x5)) (fun y => X (.exit 0) (laws_eqEventS.sx4 y)) (fun z => X .ret (laws_eqEventS.sr4 z)) x0 x1 x5 := by kernel_rfl
theorem laws_eqEventS.n_b4 (lp : Nat) {R S : Type} (N : List Event → List Event → Int → Option R) (X : Unit → Option R) (Q : Bool → Option R) (x0 : List Event) (x1 : List Event) (x5 : Int) (k : R → Option S) : obind (laws_eqEventS.b4 lp N X Q x0 x1 x5) k = laws_eqEventS.b4 lp (fun x0 x1 x5 => obind (N x0 x1 x5) k) (fun y => obind (X y) k) (fun z => obind (Q z) k) x0 x1 x5 := by
  unfold laws_eqEventS.b4; simp only [obind_none, obind_some, obind_cond, obind_oif, obind_oget, obind_obind]
theorem laws_eqEventS.k4 (lp : Nat) {R : Type} (K : Out → St → Option R) : ∀ (n : Nat) (x0 : List Event) (x1 : List Event) (x5 : Int), loopK laws_eqEventS.la4 (fun σ K => codeK (laws_eqEventS.E lp) laws_eqEventS.an lp (loopAt 4 (codeOf Tryz.f124)) σ K) n (laws_eqEventS.s4 x0 x1 x5) K = obind (laws_eqEventS.l4 lp n x0 x1 x5) (leK 0 laws_eqEventS.sr4 laws_eqEventS.sx4 K) := by
  intro n
  induction n with
  | zero => intros; rfl
  | succ n ih =>
    intro x0 x1 x5
    rw [loopK_succ, laws_eqEventS.t_b4, laws_eqEventS.l4, laws_eqEventS.n_b4]
    simp only [ih, obind_some, leK_ret, leK_brk]
theorem laws_eqEventS.t_a4 (lp : Nat) (y : Unit) : kont (R := Bool) (laws_eqEventS.E lp) laws_eqEventS.an lp (finK (laws_eqEventS.E lp) Tryz.f124 [.bool]) (stkAt 4 (codeOf Tryz.f124)) (.exit 0) (laws_eqEventS.sx4 y) = laws_eqEventS.a4 lp y := by kernel_rfl
theorem laws_eqEventS.t_q4 (lp : Nat) (z : Bool) : kont (R := Bool) (laws_eqEventS.E lp) laws_eqEventS.an lp (finK (laws_eqEventS.E lp) Tryz.f124 [.bool]) (stkAt 4 (codeOf Tryz.f124)) .ret (laws_eqEventS.sr4 z) = laws_eqEventS.q4 lp z := by kernel_rfl
theorem laws_eqEventS.t_e (lp : Nat) (x0 : List Event) (x1 : List Event) : evalF (laws_eqEventS.E lp) laws_eqEventS.an lp Tryz.f124 [.v (.sl TEvent), .v (.sl TEvent)] [.bool] (x0, x1, ()) = laws_eqEventS.e lp (fun x0 x1 x5 => loopK laws_eqEventS.la4 (fun σ K => codeK (laws_eqEventS.E lp) laws_eqEventS.an lp (loopAt 4 (codeOf Tryz.f124)) σ K) lp (laws_eqEventS.s4 x0 x1 x5) (kont (laws_eqEventS.E lp) laws_eqEventS.an lp (finK (laws_eqEventS.E lp) Tryz.f124 [.bool]) (stkAt 4 (codeOf Tryz.f124)))) x0 x1 := by kernel_rfl
theorem laws_eqEventS.eq0 (lp : Nat) (x0 : List Event) (x1 : List Event) : evalF (laws_eqEventS.E lp) laws_eqEventS.an lp Tryz.f124 [.v (.sl TEvent), .v (.sl TEvent)] [.bool] (x0, x1, ()) = laws_eqEventS lp x0 x1 := by
  rw [laws_eqEventS.t_e]; unfold laws_eqEventS
  simp only [leK_leF _ laws_eqEventS.sr4 laws_eqEventS.sx4, laws_eqEventS.k4, laws_eqEventS.t_a4, laws_eqEventS.t_q4]
theorem laws_eqEventS.eq (lp : Nat) (x : ADens [.v (.sl TEvent), .v (.sl TEvent)]) : evalF (laws_eqEventS.E lp) laws_eqEventS.an lp Tryz.f124 [.v (.sl TEvent), .v (.sl TEvent)] [.bool] x = (laws_eqEventS.S lp).F x := laws_eqEventS.eq0 lp x.1 x.2.1
theorem laws_eqEventS.ok (lp : Nat) : Sound Tryz.prog 124 (laws_eqEventS.S lp) := sound_of (E := laws_eqEventS.E lp) (env_ok tabFits tabEqs ⟨laws_eqEvent.ok, trivial⟩ trivial) mixed Tryz.func124 (by kernel_rfl) (c := codeOf Tryz.f124) (by kernel_rfl) (by kernel_rfl) laws_eqEventS.an (fun x r h => ⟨lp, (laws_eqEventS.eq lp x).trans h⟩)
def laws_eqWatch.E (lp : Nat) : Env := { tab := tab, fns := [(124, laws_eqEventS.S lp)], ann := { own := [], ro := [2, 3] } }
def laws_eqWatch.an : An := { pre := [] }
def laws_eqWatch.S (lp : Nat) : Spec := { ats := [.v TWatch, .v TWatch], rts := [.bool], F := fun x => laws_eqWatch lp x.1 x.2.1 }
theorem laws_eqWatch.eq (lp : Nat) (x : ADens [.v TWatch, .v TWatch]) : evalF (laws_eqWatch.E lp) laws_eqWatch.an lp Tryz.f72 [.v TWatch, .v TWatch] [.bool] x = (laws_eqWatch.S lp).F x := by kernel_rfl
theorem laws_eqWatch.ok (lp : Nat) : Sound Tryz.prog 72 (laws_eqWatch.S lp) := sound_of (E := laws_eqWatch.E lp) (env_ok tabFits tabEqs ⟨laws_eqEventS.ok lp, trivial⟩ trivial) mixed Tryz.func72 (by kernel_rfl) (c := codeOf Tryz.f72) (by kernel_rfl) (by kernel_rfl) laws_eqWatch.an (fun x r h => ⟨lp, (laws_eqWatch.eq lp x).trans h⟩)
def laws_eqWatchS.E (lp : Nat) : Env := { tab := tab, fns := [(72, laws_eqWatch.S lp)], ann := { own := [], ro := [] } }
def laws_eqWatchS.la4 : LoopAn := { kn := { tms := [0, 1, 5] }, kx := {}, kr := { tms := [4] } }
def laws_eqWatchS.an : An := { loops := [(4, laws_eqWatchS.la4)] }
def laws_eqWatchS.s4 (x0 : List Watch) (x1 : List Watch) (x5 : Int) : St := ⟨.v (.one (.b (.d (.sl TWatch) x0))) :: .v (.one (.b (.d (.sl TWatch) x1))) :: (sk 3 (.v (.one (.b (.d (.int .i64) x5))) :: (sk 21 ([])))), sko 27 ([])⟩
def laws_eqWatchS.sx4 (y : Unit) : St := ⟨sk 27 ([]), sko 27 ([])⟩
def laws_eqWatchS.sr4 (z : Bool) : St := ⟨sk 4 (.v (.one (.b (.d .bool z))) :: (sk 22 ([]))), sko 27 ([])⟩
def laws_eqWatchS.S (lp : Nat) : Spec := { ats := [.v (.sl TWatch), .v (.sl TWatch)], rts := [.bool], F := fun x => laws_eqWatchS lp x.1 x.2.1 }
theorem laws_eqWatchS.t_b4 (lp : Nat) {R : Type} (N : St → Option R) (X : Out → St → Option R) (x0 : List Watch) (x1 : List Watch) (x5 : Int) : codeK (laws_eqWatchS.E lp) laws_eqWatchS.an lp (loopAt 4 (codeOf Tryz.f34)) (laws_eqWatchS.s4 x0 x1 x5) (lpK laws_eqWatchS.la4 N X) = laws_eqWatchS.b4 lp (fun x0 x1 x5 => N (laws_eqWatchS.s4 x0 x1 x5)) (fun y => X (.exit 0) (laws_eqWatchS.sx4 y)) (fun z => X .ret (laws_eqWatchS.sr4 z)) x0 x1 x5 := by kernel_rfl
theorem laws_eqWatchS.n_b4 (lp : Nat) {R S : Type} (N : List Watch → List Watch → Int → Option R) (X : Unit → Option R) (Q : Bool → Option R) (x0 : List Watch) (x1 : List Watch) (x5 : Int) (k : R → Option S) : obind (laws_eqWatchS.b4 lp N X Q x0 x1 x5) k = laws_eqWatchS.b4 lp (fun x0 x1 x5 => obind (N x0 x1 x5) k) (fun y => obind (X y) k) (fun z => obind (Q z) k) x0 x1 x5 := by
  unfold laws_eqWatchS.b4; simp only [obind_none, obind_some, obind_cond, obind_oif, obind_oget, obind_obind]
theorem laws_eqWatchS.k4 (lp : Nat) {R : Type} (K : Out → St → Option R) : ∀ (n : Nat) (x0 : List Watch) (x1 : List Watch) (x5 : Int), loopK laws_eqWatchS.la4 (fun σ K => codeK (laws_eqWatchS.E lp) laws_eqWatchS.an lp (loopAt 4 (codeOf Tryz.f34)) σ K) n (laws_eqWatchS.s4 x0 x1 x5) K = obind (laws_eqWatchS.l4 lp n x0 x1 x5) (leK 0 laws_eqWatchS.sr4 laws_eqWatchS.sx4 K) := by
  intro n
  induction n with
  | zero => intros; rfl
  | succ n ih =>
    intro x0 x1 x5
    rw [loopK_succ, laws_eqWatchS.t_b4, laws_eqWatchS.l4, laws_eqWatchS.n_b4]
    simp only [ih, obind_some, leK_ret, leK_brk]
theorem laws_eqWatchS.t_a4 (lp : Nat) (y : Unit) : kont (R := Bool) (laws_eqWatchS.E lp) laws_eqWatchS.an lp (finK (laws_eqWatchS.E lp) Tryz.f34 [.bool]) (stkAt 4 (codeOf Tryz.f34)) (.exit 0) (laws_eqWatchS.sx4 y) = laws_eqWatchS.a4 lp y := by kernel_rfl
theorem laws_eqWatchS.t_q4 (lp : Nat) (z : Bool) : kont (R := Bool) (laws_eqWatchS.E lp) laws_eqWatchS.an lp (finK (laws_eqWatchS.E lp) Tryz.f34 [.bool]) (stkAt 4 (codeOf Tryz.f34)) .ret (laws_eqWatchS.sr4 z) = laws_eqWatchS.q4 lp z := by kernel_rfl
theorem laws_eqWatchS.t_e (lp : Nat) (x0 : List Watch) (x1 : List Watch) : evalF (laws_eqWatchS.E lp) laws_eqWatchS.an lp Tryz.f34 [.v (.sl TWatch), .v (.sl TWatch)] [.bool] (x0, x1, ()) = laws_eqWatchS.e lp (fun x0 x1 x5 => loopK laws_eqWatchS.la4 (fun σ K => codeK (laws_eqWatchS.E lp) laws_eqWatchS.an lp (loopAt 4 (codeOf Tryz.f34)) σ K) lp (laws_eqWatchS.s4 x0 x1 x5) (kont (laws_eqWatchS.E lp) laws_eqWatchS.an lp (finK (laws_eqWatchS.E lp) Tryz.f34 [.bool]) (stkAt 4 (codeOf Tryz.f34)))) x0 x1 := by kernel_rfl
theorem laws_eqWatchS.eq0 (lp : Nat) (x0 : List Watch) (x1 : List Watch) : evalF (laws_eqWatchS.E lp) laws_eqWatchS.an lp Tryz.f34 [.v (.sl TWatch), .v (.sl TWatch)] [.bool] (x0, x1, ()) = laws_eqWatchS lp x0 x1 := by
  rw [laws_eqWatchS.t_e]; unfold laws_eqWatchS
  simp only [leK_leF _ laws_eqWatchS.sr4 laws_eqWatchS.sx4, laws_eqWatchS.k4, laws_eqWatchS.t_a4, laws_eqWatchS.t_q4]
theorem laws_eqWatchS.eq (lp : Nat) (x : ADens [.v (.sl TWatch), .v (.sl TWatch)]) : evalF (laws_eqWatchS.E lp) laws_eqWatchS.an lp Tryz.f34 [.v (.sl TWatch), .v (.sl TWatch)] [.bool] x = (laws_eqWatchS.S lp).F x := laws_eqWatchS.eq0 lp x.1 x.2.1
theorem laws_eqWatchS.ok (lp : Nat) : Sound Tryz.prog 34 (laws_eqWatchS.S lp) := sound_of (E := laws_eqWatchS.E lp) (env_ok tabFits tabEqs ⟨laws_eqWatch.ok lp, trivial⟩ trivial) mixed Tryz.func34 (by kernel_rfl) (c := codeOf Tryz.f34) (by kernel_rfl) (by kernel_rfl) laws_eqWatchS.an (fun x r h => ⟨lp, (laws_eqWatchS.eq lp x).trans h⟩)
def laws_eqOp.E (lp : Nat) : Env := { tab := tab, fns := [(178, laws_eqEditS.S lp)], ann := { own := [], ro := [2, 3] } }
def laws_eqOp.an : An := { pre := [] }
def laws_eqOp.S (lp : Nat) : Spec := { ats := [.v TOp, .v TOp], rts := [.bool], F := fun x => laws_eqOp lp x.1 x.2.1 }
theorem laws_eqOp.eq (lp : Nat) (x : ADens [.v TOp, .v TOp]) : evalF (laws_eqOp.E lp) laws_eqOp.an lp Tryz.f125 [.v TOp, .v TOp] [.bool] x = (laws_eqOp.S lp).F x := by kernel_rfl
theorem laws_eqOp.ok (lp : Nat) : Sound Tryz.prog 125 (laws_eqOp.S lp) := sound_of (E := laws_eqOp.E lp) (env_ok tabFits tabEqs ⟨laws_eqEditS.ok lp, trivial⟩ trivial) mixed Tryz.func125 (by kernel_rfl) (c := codeOf Tryz.f125) (by kernel_rfl) (by kernel_rfl) laws_eqOp.an (fun x r h => ⟨lp, (laws_eqOp.eq lp x).trans h⟩)
def laws_eqStringS.E (lp : Nat) : Env := { tab := tab, fns := [], ann := { own := [], ro := [] } }
def laws_eqStringS.la4 : LoopAn := { kn := { tms := [0, 1, 5] }, kx := {}, kr := { tms := [4] } }
def laws_eqStringS.an : An := { loops := [(4, laws_eqStringS.la4)] }
def laws_eqStringS.s4 (x0 : List ByteArray) (x1 : List ByteArray) (x5 : Int) : St := ⟨.v (.one (.b (.d (.sl .str) x0))) :: .v (.one (.b (.d (.sl .str) x1))) :: (sk 3 (.v (.one (.b (.d (.int .i64) x5))) :: (sk 20 ([])))), sko 26 ([])⟩
def laws_eqStringS.sx4 (y : Unit) : St := ⟨sk 26 ([]), sko 26 ([])⟩
def laws_eqStringS.sr4 (z : Bool) : St := ⟨sk 4 (.v (.one (.b (.d .bool z))) :: (sk 21 ([]))), sko 26 ([])⟩
def laws_eqStringS.S (lp : Nat) : Spec := { ats := [.v (.sl .str), .v (.sl .str)], rts := [.bool], F := fun x => laws_eqStringS lp x.1 x.2.1 }
theorem laws_eqStringS.t_b4 (lp : Nat) {R : Type} (N : St → Option R) (X : Out → St → Option R) (x0 : List ByteArray) (x1 : List ByteArray) (x5 : Int) : codeK (laws_eqStringS.E lp) laws_eqStringS.an lp (loopAt 4 (codeOf Tryz.f179)) (laws_eqStringS.s4 x0 x1 x5) (lpK laws_eqStringS.la4 N X) = laws_eqStringS.b4 lp (fun x0 x1 x5 => N (laws_eqStringS.s4 x0 x1 x5)) (fun y => X (.exit 0) (laws_eqStringS.sx4 y)) (fun z => X .ret (laws_eqStringS.sr4 z)) x0 x1 x5 := by kernel_rfl
theorem laws_eqStringS.n_b4 (lp : Nat) {R S : Type} (N : List ByteArray → List ByteArray → Int → Option R) (X : Unit → Option R) (Q : Bool → Option R) (x0 : List ByteArray) (x1 : List ByteArray) (x5 : Int) (k : R → Option S) : obind (laws_eqStringS.b4 lp N X Q x0 x1 x5) k = laws_eqStringS.b4 lp (fun x0 x1 x5 => obind (N x0 x1 x5) k) (fun y => obind (X y) k) (fun z => obind (Q z) k) x0 x1 x5 := by
  unfold laws_eqStringS.b4; simp only [obind_none, obind_some, obind_cond, obind_oif, obind_oget, obind_obind]
theorem laws_eqStringS.k4 (lp : Nat) {R : Type} (K : Out → St → Option R) : ∀ (n : Nat) (x0 : List ByteArray) (x1 : List ByteArray) (x5 : Int), loopK laws_eqStringS.la4 (fun σ K => codeK (laws_eqStringS.E lp) laws_eqStringS.an lp (loopAt 4 (codeOf Tryz.f179)) σ K) n (laws_eqStringS.s4 x0 x1 x5) K = obind (laws_eqStringS.l4 lp n x0 x1 x5) (leK 0 laws_eqStringS.sr4 laws_eqStringS.sx4 K) := by
  intro n
  induction n with
  | zero => intros; rfl
  | succ n ih =>
    intro x0 x1 x5
    rw [loopK_succ, laws_eqStringS.t_b4, laws_eqStringS.l4, laws_eqStringS.n_b4]
    simp only [ih, obind_some, leK_ret, leK_brk]
theorem laws_eqStringS.t_a4 (lp : Nat) (y : Unit) : kont (R := Bool) (laws_eqStringS.E lp) laws_eqStringS.an lp (finK (laws_eqStringS.E lp) Tryz.f179 [.bool]) (stkAt 4 (codeOf Tryz.f179)) (.exit 0) (laws_eqStringS.sx4 y) = laws_eqStringS.a4 lp y := by kernel_rfl
theorem laws_eqStringS.t_q4 (lp : Nat) (z : Bool) : kont (R := Bool) (laws_eqStringS.E lp) laws_eqStringS.an lp (finK (laws_eqStringS.E lp) Tryz.f179 [.bool]) (stkAt 4 (codeOf Tryz.f179)) .ret (laws_eqStringS.sr4 z) = laws_eqStringS.q4 lp z := by kernel_rfl
theorem laws_eqStringS.t_e (lp : Nat) (x0 : List ByteArray) (x1 : List ByteArray) : evalF (laws_eqStringS.E lp) laws_eqStringS.an lp Tryz.f179 [.v (.sl .str), .v (.sl .str)] [.bool] (x0, x1, ()) = laws_eqStringS.e lp (fun x0 x1 x5 => loopK laws_eqStringS.la4 (fun σ K => codeK (laws_eqStringS.E lp) laws_eqStringS.an lp (loopAt 4 (codeOf Tryz.f179)) σ K) lp (laws_eqStringS.s4 x0 x1 x5) (kont (laws_eqStringS.E lp) laws_eqStringS.an lp (finK (laws_eqStringS.E lp) Tryz.f179 [.bool]) (stkAt 4 (codeOf Tryz.f179)))) x0 x1 := by kernel_rfl
theorem laws_eqStringS.eq0 (lp : Nat) (x0 : List ByteArray) (x1 : List ByteArray) : evalF (laws_eqStringS.E lp) laws_eqStringS.an lp Tryz.f179 [.v (.sl .str), .v (.sl .str)] [.bool] (x0, x1, ()) = laws_eqStringS lp x0 x1 := by
  rw [laws_eqStringS.t_e]; unfold laws_eqStringS
  simp only [leK_leF _ laws_eqStringS.sr4 laws_eqStringS.sx4, laws_eqStringS.k4, laws_eqStringS.t_a4, laws_eqStringS.t_q4]
theorem laws_eqStringS.eq (lp : Nat) (x : ADens [.v (.sl .str), .v (.sl .str)]) : evalF (laws_eqStringS.E lp) laws_eqStringS.an lp Tryz.f179 [.v (.sl .str), .v (.sl .str)] [.bool] x = (laws_eqStringS.S lp).F x := laws_eqStringS.eq0 lp x.1 x.2.1
theorem laws_eqStringS.ok (lp : Nat) : Sound Tryz.prog 179 (laws_eqStringS.S lp) := sound_of (E := laws_eqStringS.E lp) (env_ok tabFits tabEqs trivial trivial) mixed Tryz.func179 (by kernel_rfl) (c := codeOf Tryz.f179) (by kernel_rfl) (by kernel_rfl) laws_eqStringS.an (fun x r h => ⟨lp, (laws_eqStringS.eq lp x).trans h⟩)
def laws_eqResult.E (lp : Nat) : Env := { tab := tab, fns := [(179, laws_eqStringS.S lp), (123, laws_eqEntryS.S lp)], ann := { own := [], ro := [2, 3] } }
def laws_eqResult.an : An := { pre := [] }
def laws_eqResult.S (lp : Nat) : Spec := { ats := [.v TResult, .v TResult], rts := [.bool], F := fun x => laws_eqResult lp x.1 x.2.1 }
theorem laws_eqResult.eq (lp : Nat) (x : ADens [.v TResult, .v TResult]) : evalF (laws_eqResult.E lp) laws_eqResult.an lp Tryz.f126 [.v TResult, .v TResult] [.bool] x = (laws_eqResult.S lp).F x := by kernel_rfl
theorem laws_eqResult.ok (lp : Nat) : Sound Tryz.prog 126 (laws_eqResult.S lp) := sound_of (E := laws_eqResult.E lp) (env_ok tabFits tabEqs ⟨laws_eqStringS.ok lp, laws_eqEntryS.ok lp, trivial⟩ trivial) mixed Tryz.func126 (by kernel_rfl) (c := codeOf Tryz.f126) (by kernel_rfl) (by kernel_rfl) laws_eqResult.an (fun x r h => ⟨lp, (laws_eqResult.eq lp x).trans h⟩)
def laws_eqMoment.E (lp : Nat) : Env := { tab := tab, fns := [(125, laws_eqOp.S lp), (126, laws_eqResult.S lp)], ann := { own := [], ro := [2, 3] } }
def laws_eqMoment.an : An := { pre := [] }
def laws_eqMoment.S (lp : Nat) : Spec := { ats := [.v TMoment, .v TMoment], rts := [.bool], F := fun x => laws_eqMoment lp x.1 x.2.1 }
theorem laws_eqMoment.eq (lp : Nat) (x : ADens [.v TMoment, .v TMoment]) : evalF (laws_eqMoment.E lp) laws_eqMoment.an lp Tryz.f73 [.v TMoment, .v TMoment] [.bool] x = (laws_eqMoment.S lp).F x := by kernel_rfl
theorem laws_eqMoment.ok (lp : Nat) : Sound Tryz.prog 73 (laws_eqMoment.S lp) := sound_of (E := laws_eqMoment.E lp) (env_ok tabFits tabEqs ⟨laws_eqOp.ok lp, laws_eqResult.ok lp, trivial⟩ trivial) mixed Tryz.func73 (by kernel_rfl) (c := codeOf Tryz.f73) (by kernel_rfl) (by kernel_rfl) laws_eqMoment.an (fun x r h => ⟨lp, (laws_eqMoment.eq lp x).trans h⟩)
def laws_eqMomentS.E (lp : Nat) : Env := { tab := tab, fns := [(73, laws_eqMoment.S lp)], ann := { own := [], ro := [] } }
def laws_eqMomentS.la4 : LoopAn := { kn := { tms := [0, 1, 5] }, kx := {}, kr := { tms := [4] } }
def laws_eqMomentS.an : An := { loops := [(4, laws_eqMomentS.la4)] }
def laws_eqMomentS.s4 (x0 : List Moment) (x1 : List Moment) (x5 : Int) : St := ⟨.v (.one (.b (.d (.sl TMoment) x0))) :: .v (.one (.b (.d (.sl TMoment) x1))) :: (sk 3 (.v (.one (.b (.d (.int .i64) x5))) :: (sk 21 ([])))), sko 27 ([])⟩
def laws_eqMomentS.sx4 (y : Unit) : St := ⟨sk 27 ([]), sko 27 ([])⟩
def laws_eqMomentS.sr4 (z : Bool) : St := ⟨sk 4 (.v (.one (.b (.d .bool z))) :: (sk 22 ([]))), sko 27 ([])⟩
def laws_eqMomentS.S (lp : Nat) : Spec := { ats := [.v (.sl TMoment), .v (.sl TMoment)], rts := [.bool], F := fun x => laws_eqMomentS lp x.1 x.2.1 }
theorem laws_eqMomentS.t_b4 (lp : Nat) {R : Type} (N : St → Option R) (X : Out → St → Option R) (x0 : List Moment) (x1 : List Moment) (x5 : Int) : codeK (laws_eqMomentS.E lp) laws_eqMomentS.an lp (loopAt 4 (codeOf Tryz.f35)) (laws_eqMomentS.s4 x0 x1 x5) (lpK laws_eqMomentS.la4 N X) = laws_eqMomentS.b4 lp (fun x0 x1 x5 => N (laws_eqMomentS.s4 x0 x1 x5)) (fun y => X (.exit 0) (laws_eqMomentS.sx4 y)) (fun z => X .ret (laws_eqMomentS.sr4 z)) x0 x1 x5 := by kernel_rfl
theorem laws_eqMomentS.n_b4 (lp : Nat) {R S : Type} (N : List Moment → List Moment → Int → Option R) (X : Unit → Option R) (Q : Bool → Option R) (x0 : List Moment) (x1 : List Moment) (x5 : Int) (k : R → Option S) : obind (laws_eqMomentS.b4 lp N X Q x0 x1 x5) k = laws_eqMomentS.b4 lp (fun x0 x1 x5 => obind (N x0 x1 x5) k) (fun y => obind (X y) k) (fun z => obind (Q z) k) x0 x1 x5 := by
  unfold laws_eqMomentS.b4; simp only [obind_none, obind_some, obind_cond, obind_oif, obind_oget, obind_obind]
theorem laws_eqMomentS.k4 (lp : Nat) {R : Type} (K : Out → St → Option R) : ∀ (n : Nat) (x0 : List Moment) (x1 : List Moment) (x5 : Int), loopK laws_eqMomentS.la4 (fun σ K => codeK (laws_eqMomentS.E lp) laws_eqMomentS.an lp (loopAt 4 (codeOf Tryz.f35)) σ K) n (laws_eqMomentS.s4 x0 x1 x5) K = obind (laws_eqMomentS.l4 lp n x0 x1 x5) (leK 0 laws_eqMomentS.sr4 laws_eqMomentS.sx4 K) := by
  intro n
  induction n with
  | zero => intros; rfl
  | succ n ih =>
    intro x0 x1 x5
    rw [loopK_succ, laws_eqMomentS.t_b4, laws_eqMomentS.l4, laws_eqMomentS.n_b4]
    simp only [ih, obind_some, leK_ret, leK_brk]
theorem laws_eqMomentS.t_a4 (lp : Nat) (y : Unit) : kont (R := Bool) (laws_eqMomentS.E lp) laws_eqMomentS.an lp (finK (laws_eqMomentS.E lp) Tryz.f35 [.bool]) (stkAt 4 (codeOf Tryz.f35)) (.exit 0) (laws_eqMomentS.sx4 y) = laws_eqMomentS.a4 lp y := by kernel_rfl
theorem laws_eqMomentS.t_q4 (lp : Nat) (z : Bool) : kont (R := Bool) (laws_eqMomentS.E lp) laws_eqMomentS.an lp (finK (laws_eqMomentS.E lp) Tryz.f35 [.bool]) (stkAt 4 (codeOf Tryz.f35)) .ret (laws_eqMomentS.sr4 z) = laws_eqMomentS.q4 lp z := by kernel_rfl
theorem laws_eqMomentS.t_e (lp : Nat) (x0 : List Moment) (x1 : List Moment) : evalF (laws_eqMomentS.E lp) laws_eqMomentS.an lp Tryz.f35 [.v (.sl TMoment), .v (.sl TMoment)] [.bool] (x0, x1, ()) = laws_eqMomentS.e lp (fun x0 x1 x5 => loopK laws_eqMomentS.la4 (fun σ K => codeK (laws_eqMomentS.E lp) laws_eqMomentS.an lp (loopAt 4 (codeOf Tryz.f35)) σ K) lp (laws_eqMomentS.s4 x0 x1 x5) (kont (laws_eqMomentS.E lp) laws_eqMomentS.an lp (finK (laws_eqMomentS.E lp) Tryz.f35 [.bool]) (stkAt 4 (codeOf Tryz.f35)))) x0 x1 := by kernel_rfl
theorem laws_eqMomentS.eq0 (lp : Nat) (x0 : List Moment) (x1 : List Moment) : evalF (laws_eqMomentS.E lp) laws_eqMomentS.an lp Tryz.f35 [.v (.sl TMoment), .v (.sl TMoment)] [.bool] (x0, x1, ()) = laws_eqMomentS lp x0 x1 := by
  rw [laws_eqMomentS.t_e]; unfold laws_eqMomentS
  simp only [leK_leF _ laws_eqMomentS.sr4 laws_eqMomentS.sx4, laws_eqMomentS.k4, laws_eqMomentS.t_a4, laws_eqMomentS.t_q4]
theorem laws_eqMomentS.eq (lp : Nat) (x : ADens [.v (.sl TMoment), .v (.sl TMoment)]) : evalF (laws_eqMomentS.E lp) laws_eqMomentS.an lp Tryz.f35 [.v (.sl TMoment), .v (.sl TMoment)] [.bool] x = (laws_eqMomentS.S lp).F x := laws_eqMomentS.eq0 lp x.1 x.2.1
theorem laws_eqMomentS.ok (lp : Nat) : Sound Tryz.prog 35 (laws_eqMomentS.S lp) := sound_of (E := laws_eqMomentS.E lp) (env_ok tabFits tabEqs ⟨laws_eqMoment.ok lp, trivial⟩ trivial) mixed Tryz.func35 (by kernel_rfl) (c := codeOf Tryz.f35) (by kernel_rfl) (by kernel_rfl) laws_eqMomentS.an (fun x r h => ⟨lp, (laws_eqMomentS.eq lp x).trans h⟩)
def laws_eqWorld.E (lp : Nat) : Env := { tab := tab, fns := [(32, laws_eqBase.S lp), (33, laws_eqClientS.S lp), (34, laws_eqWatchS.S lp), (35, laws_eqMomentS.S lp)], ann := { own := [], ro := [2, 3] } }
def laws_eqWorld.an : An := { pre := [] }
def laws_eqWorld.S (lp : Nat) : Spec := { ats := [.v TWorld, .v TWorld], rts := [.bool], F := fun x => laws_eqWorld lp x.1 x.2.1 }
theorem laws_eqWorld.eq (lp : Nat) (x : ADens [.v TWorld, .v TWorld]) : evalF (laws_eqWorld.E lp) laws_eqWorld.an lp Tryz.f12 [.v TWorld, .v TWorld] [.bool] x = (laws_eqWorld.S lp).F x := by kernel_rfl
theorem laws_eqWorld.ok (lp : Nat) : Sound Tryz.prog 12 (laws_eqWorld.S lp) := sound_of (E := laws_eqWorld.E lp) (env_ok tabFits tabEqs ⟨laws_eqBase.ok lp, laws_eqClientS.ok lp, laws_eqWatchS.ok lp, laws_eqMomentS.ok lp, trivial⟩ trivial) mixed Tryz.func12 (by kernel_rfl) (c := codeOf Tryz.f12) (by kernel_rfl) (by kernel_rfl) laws_eqWorld.an (fun x r h => ⟨lp, (laws_eqWorld.eq lp x).trans h⟩)
def laws_FnExactInOrder.E (lp : Nat) : Env := { tab := tab, fns := [(8, laws_szWorld.S lp), (10, laws_toWorld.S lp), (9, spec_InOrder.S lp), (11, impl_InOrder.S lp), (12, laws_eqWorld.S lp)], ann := { own := [], ro := [1] } }
def laws_FnExactInOrder.an : An := { pre := [] }
def laws_FnExactInOrder.S (lp : Nat) : Spec := { ats := [.v TWorld], rts := [.bool], F := fun x => laws_FnExactInOrder lp x.1 }
theorem laws_FnExactInOrder.eq (lp : Nat) (x : ADens [.v TWorld]) : evalF (laws_FnExactInOrder.E lp) laws_FnExactInOrder.an lp Tryz.f3 [.v TWorld] [.bool] x = (laws_FnExactInOrder.S lp).F x := by kernel_rfl
theorem laws_FnExactInOrder.ok (lp : Nat) : Sound Tryz.prog 3 (laws_FnExactInOrder.S lp) := sound_of (E := laws_FnExactInOrder.E lp) (env_ok tabFits tabEqs ⟨laws_szWorld.ok lp, laws_toWorld.ok lp, spec_InOrder.ok lp, impl_InOrder.ok lp, laws_eqWorld.ok lp, trivial⟩ trivial) mixed Tryz.func3 (by kernel_rfl) (c := codeOf Tryz.f3) (by kernel_rfl) (by kernel_rfl) laws_FnExactInOrder.an (fun x r h => ⟨lp, (laws_FnExactInOrder.eq lp x).trans h⟩)
end Go.Vx

end
section

end
section
set_option linter.unusedVariables false
namespace Go.Vx
open Go Go.Proofs Go.RowKit Go.Lib
theorem laws_FnExactInOrder_true (x0 : Den TWorld) (w0 : Wf TWorld x0) : ∃ lp, (laws_FnExactInOrder.S lp).F (x0, ()) = some true :=
  ⟨LP, laws_FnExactInOrder_eq x0 w0⟩
end Go.Vx

end
