/- The row of the law FnExactSameWorld: for every input it returns true, and the input reads axs it did. -/
import Derived.Test.YtiafbadciofohaaGreatSwFacts
import Derived.Test.YtiafbadciofohaaGreatSwPartF
import Derived.Test.YtiafbadciofohaaGreatRows
import Derived.WalkKit
import Derived.ProofKit
import Derived.OpenShut
import Derived.ShutString
import Derived.ChangeOld
import Derived.Below
import Derived.SizedLaws
namespace Go.Proofs.YtiafbadciofohaaGreat.fnExactSameWorld
open Go.ChangeShapes Go.WideShapes Go.ChangeAt Go.RowKit Go.Vx
set_option linter.unusedVariables false
theorem own : ownKnob Tryz.prog.godebug = none := by kernel_rfl
theorem laidOut : laidOutB Tryz.prog = true := by kernel_rfl
theorem walk (W : World) (v0 v1 : Value) (x0 : Den TWorld) (x1 : Den TWorld) (r0 : RepV W (fun _ => True) TWorld x0 v0) (w0 : Wf TWorld x0) (r1 : RepV W (fun _ => True) TWorld x1 v1) (w1 : Wf TWorld x1) :
    Calls Tryz.prog 3 #[v0, v1] W fun e W' => e = .returned (.bool true) ∧ Below W.heap.size W W' := by
  obtain ⟨lp, hp⟩ := z8s x0 x1 w0 w1
  refine ((z3b.ok lp).2 W (fun _ => True) (x0, x1, ()) [v0, v1] true ⟨v0, _, rfl, r0, ⟨v1, _, rfl, r1, rfl⟩⟩ hp).mono ?_
  rintro e W' ⟨us, rfl, hr, bel⟩
  rw [ret_bool hr]
  exact ⟨rfl, bel⟩
set_option maxRecDepth 100000 in
theorem lifted (os : Os) (started : os.Started) (H : Type) (enc : TypeId × Value → H) :
    ReturnsInHanded {} Tryz.checked os 3 .any (Rows.fnExactSameWorldSpec.pre6 enc Tryz.prog Tryz.f3 Rows.fnExactSameWorldRow.domain false) (Rows.fnExactSameWorldSpec.post enc Tryz.prog Tryz.f3 false true false false) := by
  refine returnsInHanded_of_change_sized (C := Tryz.checked) own started (by kernel_rfl) Tryz.func3
    (ChangeSpec.witness6 (enc := enc) (C := Tryz.checked) false ⟨#[], #[.agg #[.slice none 0 0, .slice none 0 0, .slice none 0 0, .slice none 0 0, .slice none 0 0, .int .i64 0], .agg #[.slice none 0 0, .slice none 0 0, .slice none 0 0, .slice none 0 0, .slice none 0 0, .int .i64 0]], []⟩ 8 (by kernel_rfl) (by kernel_rfl) (by kernel_rfl) (by kernel_rfl)) ?_
  intro W base args ds gs before hval0 hW hcnd hsz0 _
  have hval : ∀ (j : Nat) t v, Tryz.f3.params[j]? = some t → args[j]? = some v → Value.okWide Tryz.prog W .any base t v := hval0
  have hW' := hW
  obtain ⟨p, q, hA0, hV, rfl, hfz, hnd⟩ := hW
  have hA : DataW.TrodAll enc Tryz.prog W 0 (fun _ => true) true Tryz.f3.params.toList args.toList ds p := hA0
  rw [Tryz.params3] at hA hval
  obtain ⟨v0, vs0, d0, ds0, p0, q0, hargs, rfl, rfl, h0, r0⟩ := trodAll_cons hA
  obtain ⟨v1, vs1, d1, ds1, p1, q1, rfl, rfl, rfl, h1, r1⟩ := trodAll_cons r0
  obtain ⟨rfl, rfl, rfl⟩ := trodAll_nil r1
  obtain rfl : args = #[v0, v1] := by cases args; simp_all
  obtain ⟨rfl, rfl⟩ := trodVars_none hV
  have lt0 : ∀ x ∈ p0, x.block < W.heap.size := by
    obtain ⟨m, hm⟩ := h0
    exact DataW.trod_lt m _ _ _ hm
  obtain ⟨x0, rr0, w0⟩ := open_arg (ty := TWorld) (t := 30) (by kernel_rfl) (hval 0 30 v0 rfl rfl) h0
  have lt1 : ∀ x ∈ p1, x.block < W.heap.size := by
    obtain ⟨m, hm⟩ := h1
    exact DataW.trod_lt m _ _ _ hm
  obtain ⟨x1, rr1, w1⟩ := open_arg (ty := TWorld) (t := 30) (by kernel_rfl) (hval 1 30 v1 rfl rfl) h1
  clear hA0 hval0 hsz0
  refine (walk W v0 v1 x0 x1 rr0 w0 rr1 w1).mono fun e W' ⟨he, bel⟩ => ?_
  subst he
  exact ⟨_, rfl, _, _, _, [], _, [], hW', trodAll_mk1 (shut_bool Tryz.underlying4 _), (trodAll_cons_mk (Below.trod laidOut (by kernel_rfl) (of_decide_eq_true (by kernel_rfl)) h0 bel lt0) (trodAll_cons_mk (Below.trod laidOut (by kernel_rfl) (of_decide_eq_true (by kernel_rfl)) h1 bel lt1) trodAll_mk0)), rfl, bel.frame _, fun h => by cases h⟩
theorem over : Rows.fnExactSameWorldRow.holds Tryz.pinned (OpenSpec.ofChange Rows.fnExactSameWorldSpec) :=
  OpenClaim.holds_of_wide 3 Tryz.f3 rfl rfl rfl rfl rfl rfl rfl ⟨rfl, rfl, rfl, rfl, rfl⟩ rfl rfl rfl rfl rfl h_name Tryz.func3 closed
    (of_decide_eq_true (by kernel_rfl)) (by unfold Func.isWrapper; first | (rw [if_pos (by decide +kernel)]; kernel_rfl) | (rw [if_neg (by decide +kernel)]; exact ⟨rfl, rfl⟩))
    (fun os started H enc _ => lifted os started H enc)
theorem proved : Rows.FnExactSameWorldSaid := over
#print axioms proved
end Go.Proofs.YtiafbadciofohaaGreat.fnExactSameWorld
namespace Go.Proofs.YtiafbadciofohaaGreat
/-- The row, under a short name, for the claim. -/
theorem fnExactSameWorld_holds : Rows.FnExactSameWorldSaid := fnExactSameWorld.proved
end Go.Proofs.YtiafbadciofohaaGreat
