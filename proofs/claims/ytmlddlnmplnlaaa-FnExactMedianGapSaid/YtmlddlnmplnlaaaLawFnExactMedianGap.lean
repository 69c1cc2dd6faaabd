/- The row of the law FnExactMedianGap: the Go function returns true at every input, and its arguments read as they did. Out of the pure statement and the printed contract of the law's function. -/
import Derived.Test.YtmlddlnmplnlaaaRows
import Derived.Test.YtmlddlnmplnlaaaHFnExactMedianGapx4
import Derived.Test.YtmlddlnmplnlaaaPureFnExactMedianGap
import Derived.Test.YtmlddlnmplnlaaaOpen
import Derived.WalkKit
import Derived.ProofKit
import Derived.OpenShut
import Derived.ShutString
import Derived.ChangeOld
import Derived.Below
import Derived.SizedLaws
import Derived.Lib.SmallJoins
namespace Go.Proofs.Ytmlddlnmplnlaaa.fnExactMedianGap
open Go.ChangeShapes Go.WideShapes Go.ChangeAt Go.RowKit Go.Proofs.YtmlddlnmplnlaaaW.PrintWords Go.Proofs.Ytmlddlnmplnlaaa.Open Go.Proofs.Ytmlddlnmplnlaaa.PFnExactMedianGap
set_option linter.unusedVariables false
theorem own : ownKnob Try.prog.godebug = none := by kernel_rfl
theorem laidOut : laidOutB Try.prog = true := by kernel_rfl
theorem opens_T59 {H : Type} {enc : TypeId × Value → H} {w : World} {spare : Nat → Bool} {held : Bool} : OpensAs enc Try.prog w spare held 59 k59 (fun x => ((Lit.int .i64 x.f0).wf = true ∧ (Lit.int .i64 x.f1).wf = true)) := by
  intro n cs y h
  obtain ⟨y0, y1, m, _, hl, h0, h1⟩ := trod_struct2 Try.underlying59 h
  rw [show Try.prog.cellsOf 59 = 2 from by kernel_rfl] at hl
  match cs, hl with
  | [c0, c1], _ =>
    have e0 : DataW.trod enc Try.prog w 0 spare held m 3 [c0] = some y0 := by
      have z : Try.prog.cellsOf 3 = 1 := by kernel_rfl
      simpa [z] using h0
    obtain ⟨a0, rfl, w0⟩ := open_int_cell Try.underlying3 e0
    have e1 : DataW.trod enc Try.prog w 0 spare held m 3 [c1] = some y1 := by
      have z : Try.prog.cellsOf 3 = 1 := by kernel_rfl
      simpa [z] using h1
    obtain ⟨a1, rfl, w1⟩ := open_int_cell Try.underlying3 e1
    exact ⟨⟨a0, a1⟩, k59_mk w ⟨a0, a1⟩, w0, w1⟩
set_option maxRecDepth 100000 in
theorem lifted (os : Os) (started : os.Started) (H : Type) (enc : TypeId × Value → H) :
    ReturnsInHanded {} Try.checked os 10 .any (Rows.fnExactMedianGapSpec.pre6 enc Try.prog Try.f10 Rows.fnExactMedianGapRow.domain false) (Rows.fnExactMedianGapSpec.post enc Try.prog Try.f10 false true false false) := by
  refine returnsInHanded_of_change_sized (C := Try.checked) own started (by kernel_rfl) Try.func10
    (ChangeSpec.witness6 (enc := enc) (C := Try.checked) false ⟨#[], #[.slice none 0 0], []⟩ 8 (by kernel_rfl) (by kernel_rfl) (by kernel_rfl) (by kernel_rfl)) ?_
  intro W base args ds gs before hval0 hW hcnd hsz0 _
  have hval : ∀ (j : Nat) t v, Try.f10.params[j]? = some t → args[j]? = some v → Value.okWide Try.prog W .any base t v := hval0
  have hW' := hW
  obtain ⟨p, q, hA0, hV, rfl, hfz, hnd⟩ := hW
  have hA : DataW.TrodAll enc Try.prog W 0 (fun _ => true) true Try.f10.params.toList args.toList ds p := hA0
  rw [Try.params10] at hA hval
  obtain ⟨v0, vs0, d0, ds0, p0, q0, hargs, rfl, rfl, h0, r0⟩ := trodAll_cons hA
  obtain ⟨rfl, rfl, rfl⟩ := trodAll_nil r0
  obtain rfl : args = #[v0] := by cases args; simp_all
  obtain ⟨rfl, rfl⟩ := trodVars_none hV
  have k0 := h0
  have lt0 : ∀ x ∈ p0, x.block < W.heap.size := by obtain ⟨m, hm⟩ := k0; exact DataW.trod_lt m _ _ _ hm
  obtain ⟨A0, len0, c0, rfl⟩ := okWide_slice Try.underlying34 (hval 0 34 v0 rfl rfl)
  obtain ⟨l0, rfl, hr0, hc0, w0⟩ := open_arg (opens_slice (d := k59) Try.underlying34 (by kernel_rfl) opens_T59) h0
  clear hA0 hval0 hsz0
  obtain ⟨k, h⟩ := Pure.FnExactMedianGap l0 w0
  refine (PFnExactMedianGap.laws_FnExactMedianGap.calls k A0 c0 l0 true W hr0 hc0 h).mono fun e W' ⟨he, bel0⟩ => ?_
  have bel : Below W.heap.size W W' := bel0
  subst he
  exact ⟨_, rfl, _, _, _, [], _, [], hW', trodAll_mk1 (shut_bool Try.underlying4 _), (trodAll_cons_mk (Below.trod laidOut (by kernel_rfl) (of_decide_eq_true (by kernel_rfl)) k0 bel lt0) trodAll_mk0), rfl, bel.frame _, fun h => by cases h⟩
theorem over : Rows.fnExactMedianGapRow.holds Try.pinned (OpenSpec.ofChange Rows.fnExactMedianGapSpec) :=
  OpenClaim.holds_of_wide 10 Try.f10 rfl rfl rfl rfl rfl rfl rfl ⟨rfl, rfl, rfl, rfl, rfl⟩ rfl rfl rfl rfl rfl (by kernel_rfl) Try.func10 (by kernel_rfl)
    (of_decide_eq_true (by kernel_rfl)) (by unfold Func.isWrapper; first | (rw [if_pos (by decide +kernel)]; kernel_rfl) | (rw [if_neg (by decide +kernel)]; exact ⟨rfl, rfl⟩))
    (fun os started H enc _ => lifted os started H enc)
theorem proved : Rows.FnExactMedianGapSaid := over
#print axioms proved
end Go.Proofs.Ytmlddlnmplnlaaa.fnExactMedianGap
namespace Go.Proofs.Ytmlddlnmplnlaaa
/-- The row, under a short name, for the claim. -/
theorem fnExactMedianGap_holds : Rows.FnExactMedianGapSaid := fnExactMedianGap.proved
end Go.Proofs.Ytmlddlnmplnlaaa
