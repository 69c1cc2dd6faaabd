/- The row of the law FnExactIsOpened: the Go function returns true at every input, and its arguments read as they did. Out of the pure statement and the printed contract of the law's function. -/
import Derived.Test.YtkiebefaancmiaaRows
import Derived.Test.YtkiebefaancmiaaPFnExactIsOpenedx3
import Derived.Test.YtkiebefaancmiaaPureFnExactIsOpened
import Derived.Test.YtkiebefaancmiaaOpen
import Derived.WalkKit
import Derived.ProofKit
import Derived.OpenShut
import Derived.ShutString
import Derived.ChangeOld
import Derived.Below
import Derived.SizedLaws
import Derived.Lib.SmallJoins
namespace Go.Proofs.Ytkiebefaancmiaa.fnExactIsOpened
open Go.ChangeShapes Go.WideShapes Go.ChangeAt Go.RowKit Go.Proofs.YtkiebefaancmiaaW.PrintWords Go.Proofs.Ytkiebefaancmiaa.Open Go.Proofs.Ytkiebefaancmiaa.PFnExactIsOpened
set_option linter.unusedVariables false
theorem own : ownKnob Try.prog.godebug = none := by kernel_rfl
theorem laidOut : laidOutB Try.prog = true := by kernel_rfl
set_option maxRecDepth 100000 in
theorem lifted (os : Os) (started : os.Started) (H : Type) (enc : TypeId × Value → H) :
    ReturnsInHanded {} Try.checked os 8 .any (Rows.fnExactIsOpenedSpec.pre6 enc Try.prog Try.f8 Rows.fnExactIsOpenedRow.domain false) (Rows.fnExactIsOpenedSpec.post enc Try.prog Try.f8 false true false false) := by
  refine returnsInHanded_of_change_sized (C := Try.checked) own started (by kernel_rfl) Try.func8
    (ChangeSpec.witness6 (enc := enc) (C := Try.checked) false ⟨#[], #[.agg #[.int .i64 0, .int .i64 0, .slice none 0 0]], []⟩ 8 (by kernel_rfl) (by kernel_rfl) (by kernel_rfl) (by kernel_rfl)) ?_
  intro W base args ds gs before hval0 hW hcnd hsz0 _
  have hval : ∀ (j : Nat) t v, Try.f8.params[j]? = some t → args[j]? = some v → Value.okWide Try.prog W .any base t v := hval0
  have hW' := hW
  obtain ⟨p, q, hA0, hV, rfl, hfz, hnd⟩ := hW
  have hA : DataW.TrodAll enc Try.prog W 0 (fun _ => true) true Try.f8.params.toList args.toList ds p := hA0
  rw [Try.params8] at hA hval
  obtain ⟨v0, vs0, d0, ds0, p0, q0, hargs, rfl, rfl, h0, r0⟩ := trodAll_cons hA
  obtain ⟨rfl, rfl, rfl⟩ := trodAll_nil r0
  obtain rfl : args = #[v0] := by cases args; simp_all
  obtain ⟨rfl, rfl⟩ := trodVars_none hV
  have k0 := h0
  have lt0 : ∀ x ∈ p0, x.block < W.heap.size := by obtain ⟨m, hm⟩ := k0; exact DataW.trod_lt m _ _ _ hm
  obtain ⟨v0_0, v0_1, v0_2, y0_0, y0_1, y0_2, n0, rfl, rfl, rfl, e0_0, e0_1, e0_2⟩ := Go.Joins.open_agg3 Try.underlying33 (by kernel_rfl) (by kernel_rfl) (hval 0 33 v0 rfl rfl) h0
  obtain ⟨a0_0, rfl, w0_0⟩ := open_int_cell Try.underlying3 e0_0
  obtain ⟨a0_1, rfl, w0_1⟩ := open_int_cell Try.underlying3 e0_1
  obtain ⟨l0_2, A0_2, c0_2, rfl, hr0_2, hc0_2, w0_2⟩ := open_cell (opens_slice (d := (Kd.int .i64)) Try.underlying22 (by kernel_rfl) (opens_int Try.underlying3)) e0_2
  clear hA0 hval0 hsz0
  obtain ⟨k, h⟩ := Pure.FnExactIsOpened a0_0 a0_1 l0_2 w0_0 w0_1 w0_2
  refine (PFnExactIsOpened.laws_FnExactIsOpened.calls k a0_0 a0_1 A0_2 c0_2 l0_2 true W hr0_2 hc0_2 h).mono fun e W' ⟨he, bel0⟩ => ?_
  have bel : Below W.heap.size W W' := bel0
  subst he
  exact ⟨_, rfl, _, _, _, [], _, [], hW', trodAll_mk1 (shut_bool Try.underlying4 _), (trodAll_cons_mk (Below.trod laidOut (by kernel_rfl) (of_decide_eq_true (by kernel_rfl)) k0 bel lt0) trodAll_mk0), rfl, bel.frame _, fun h => by cases h⟩
theorem over : Rows.fnExactIsOpenedRow.holds Try.pinned (OpenSpec.ofChange Rows.fnExactIsOpenedSpec) :=
  OpenClaim.holds_of_wide 8 Try.f8 rfl rfl rfl rfl rfl rfl rfl ⟨rfl, rfl, rfl, rfl, rfl⟩ rfl rfl rfl rfl rfl (by kernel_rfl) Try.func8 (by kernel_rfl)
    (of_decide_eq_true (by kernel_rfl)) (by unfold Func.isWrapper; first | (rw [if_pos (by decide +kernel)]; kernel_rfl) | (rw [if_neg (by decide +kernel)]; exact ⟨rfl, rfl⟩))
    (fun os started H enc _ => lifted os started H enc)
theorem proved : Rows.FnExactIsOpenedSaid := over
#print axioms proved
end Go.Proofs.Ytkiebefaancmiaa.fnExactIsOpened
namespace Go.Proofs.Ytkiebefaancmiaa
/-- The row, under a short name, for the claim. -/
theorem fnExactIsOpened_holds : Rows.FnExactIsOpenedSaid := fnExactIsOpened.proved
end Go.Proofs.Ytkiebefaancmiaa
