/- The row of the law FnExactChangesOf: for every input it returns true, and the input reads axs it did. -/
import Derived.Test.YtajhmldalehbjaaGreatChoFacts
import Derived.Test.YtajhmldalehbjaaGreatChoPartD
import Derived.Test.YtajhmldalehbjaaGreatRows
import Derived.WalkKit
import Derived.ProofKit
import Derived.OpenShut
import Derived.ShutString
import Derived.ChangeOld
import Derived.Below
import Derived.SizedLaws
namespace Go.Proofs.YtajhmldalehbjaaGreat.fnExactChangesOf
open Go.ChangeShapes Go.WideShapes Go.ChangeAt Go.RowKit Go.Vx
set_option linter.unusedVariables false
theorem own : ownKnob Tryz.prog.godebug = none := by kernel_rfl
theorem laidOut : laidOutB Tryz.prog = true := by kernel_rfl
theorem walk (W : World) (v0 v1 v2 v3 : Value) (x0 : Den TWorld) (x1 : Den .str) (x2 : Den (.int .i64)) (x3 : Den (.int .i64)) (r0 : RepV W (fun _ => True) TWorld x0 v0) (w0 : Wf TWorld x0) (r1 : RepV W (fun _ => True) .str x1 v1) (w1 : Wf .str x1) (r2 : RepV W (fun _ => True) (.int .i64) x2 v2) (w2 : Wf (.int .i64) x2) (r3 : RepV W (fun _ => True) (.int .i64) x3 v3) (w3 : Wf (.int .i64) x3) :
    Calls Tryz.prog 4 #[v0, v1, v2, v3] W fun e W' => e = .returned (.bool true) ∧ Below W.heap.size W W' := by
  obtain ⟨lp, hp⟩ := laws_FnExactChangesOf_true x0 x1 x2 x3 w0 w1 w2 w3
  refine ((laws_FnExactChangesOf.ok lp).2 W (fun _ => True) (x0, x1, x2, x3, ()) [v0, v1, v2, v3] true ⟨v0, _, rfl, r0, ⟨v1, _, rfl, r1, ⟨v2, _, rfl, r2, ⟨v3, _, rfl, r3, rfl⟩⟩⟩⟩ hp).mono ?_
  rintro e W' ⟨us, rfl, hr, bel⟩
  rw [ret_bool hr]
  exact ⟨rfl, bel⟩
set_option maxRecDepth 100000 in
theorem lifted (os : Os) (started : os.Started) (H : Type) (enc : TypeId × Value → H) :
    ReturnsInHanded {} Tryz.checked os 4 .any (Rows.fnExactChangesOfSpec.pre6 enc Tryz.prog Tryz.f4 Rows.fnExactChangesOfRow.domain false) (Rows.fnExactChangesOfSpec.post enc Tryz.prog Tryz.f4 false true false false) := by
  refine returnsInHanded_of_change_sized (C := Tryz.checked) own started (by kernel_rfl) Tryz.func4
    (ChangeSpec.witness6 (enc := enc) (C := Tryz.checked) false ⟨#[], #[.agg #[.slice none 0 0, .slice none 0 0, .slice none 0 0, .slice none 0 0, .slice none 0 0, .int .i64 0], .string ByteArray.empty, .int .i64 0, .int .i64 0], []⟩ 8 (by kernel_rfl) (by kernel_rfl) (by kernel_rfl) (by kernel_rfl)) ?_
  intro W base args ds gs before hval0 hW hcnd hsz0 _
  have hval : ∀ (j : Nat) t v, Tryz.f4.params[j]? = some t → args[j]? = some v → Value.okWide Tryz.prog W .any base t v := hval0
  have hW' := hW
  obtain ⟨p, q, hA0, hV, rfl, hfz, hnd⟩ := hW
  have hA : DataW.TrodAll enc Tryz.prog W 0 (fun _ => true) true Tryz.f4.params.toList args.toList ds p := hA0
  rw [Tryz.params4] at hA hval
  obtain ⟨v0, vs0, d0, ds0, p0, q0, hargs, rfl, rfl, h0, r0⟩ := trodAll_cons hA
  obtain ⟨v1, vs1, d1, ds1, p1, q1, rfl, rfl, rfl, h1, r1⟩ := trodAll_cons r0
  obtain ⟨v2, vs2, d2, ds2, p2, q2, rfl, rfl, rfl, h2, r2⟩ := trodAll_cons r1
  obtain ⟨v3, vs3, d3, ds3, p3, q3, rfl, rfl, rfl, h3, r3⟩ := trodAll_cons r2
  obtain ⟨rfl, rfl, rfl⟩ := trodAll_nil r3
  obtain rfl : args = #[v0, v1, v2, v3] := by cases args; simp_all
  obtain ⟨rfl, rfl⟩ := trodVars_none hV
  have lt0 : ∀ x ∈ p0, x.block < W.heap.size := by
    obtain ⟨m, hm⟩ := h0
    exact DataW.trod_lt m _ _ _ hm
  obtain ⟨x0, rr0, w0⟩ := open_arg (ty := TWorld) (t := 30) (by kernel_rfl) (hval 0 30 v0 rfl rfl) h0
  have lt1 : ∀ x ∈ p1, x.block < W.heap.size := by
    obtain ⟨m, hm⟩ := h1
    exact DataW.trod_lt m _ _ _ hm
  obtain ⟨x1, rr1, w1⟩ := open_arg (ty := .str) (t := 9) (by kernel_rfl) (hval 1 9 v1 rfl rfl) h1
  have lt2 : ∀ x ∈ p2, x.block < W.heap.size := by
    obtain ⟨m, hm⟩ := h2
    exact DataW.trod_lt m _ _ _ hm
  obtain ⟨x2, rr2, w2⟩ := open_arg (ty := (.int .i64)) (t := 3) (by kernel_rfl) (hval 2 3 v2 rfl rfl) h2
  have lt3 : ∀ x ∈ p3, x.block < W.heap.size := by
    obtain ⟨m, hm⟩ := h3
    exact DataW.trod_lt m _ _ _ hm
  obtain ⟨x3, rr3, w3⟩ := open_arg (ty := (.int .i64)) (t := 3) (by kernel_rfl) (hval 3 3 v3 rfl rfl) h3
  clear hA0 hval0 hsz0
  refine (walk W v0 v1 v2 v3 x0 x1 x2 x3 rr0 w0 rr1 w1 rr2 w2 rr3 w3).mono fun e W' ⟨he, bel⟩ => ?_
  subst he
  exact ⟨_, rfl, _, _, _, [], _, [], hW', trodAll_mk1 (shut_bool Tryz.underlying4 _), (trodAll_cons_mk (Below.trod laidOut (by kernel_rfl) (of_decide_eq_true (by kernel_rfl)) h0 bel lt0) (trodAll_cons_mk (Below.trod laidOut (by kernel_rfl) (of_decide_eq_true (by kernel_rfl)) h1 bel lt1) (trodAll_cons_mk (Below.trod laidOut (by kernel_rfl) (of_decide_eq_true (by kernel_rfl)) h2 bel lt2) (trodAll_cons_mk (Below.trod laidOut (by kernel_rfl) (of_decide_eq_true (by kernel_rfl)) h3 bel lt3) trodAll_mk0)))), rfl, bel.frame _, fun h => by cases h⟩
theorem over : Rows.fnExactChangesOfRow.holds Tryz.pinned (OpenSpec.ofChange Rows.fnExactChangesOfSpec) :=
  OpenClaim.holds_of_wide 4 Tryz.f4 rfl rfl rfl rfl rfl rfl rfl ⟨rfl, rfl, rfl, rfl, rfl⟩ rfl rfl rfl rfl rfl h_name Tryz.func4 closed
    (of_decide_eq_true (by kernel_rfl)) (by unfold Func.isWrapper; first | (rw [if_pos (by decide +kernel)]; kernel_rfl) | (rw [if_neg (by decide +kernel)]; exact ⟨rfl, rfl⟩))
    (fun os started H enc _ => lifted os started H enc)
theorem proved : Rows.FnExactChangesOfSaid := over
#print axioms proved
end Go.Proofs.YtajhmldalehbjaaGreat.fnExactChangesOf
namespace Go.Proofs.YtajhmldalehbjaaGreat
/-- The row, under a short name, for the claim. -/
theorem fnExactChangesOf_holds : Rows.FnExactChangesOfSaid := fnExactChangesOf.proved
end Go.Proofs.YtajhmldalehbjaaGreat
