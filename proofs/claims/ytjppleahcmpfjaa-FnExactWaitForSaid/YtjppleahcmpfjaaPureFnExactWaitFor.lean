/- The law FnExactWaitFor returns true at every bucket and number: the program's WaitFor answers as the reference's. No condition. -/
import Derived.Test.YtjppleahcmpfjaaPFnExactWaitForx1
namespace Go.Proofs.Ytjppleahcmpfjaa.Pure
open Go.RowKit Go.Proofs.Ytjppleahcmpfjaa.PFnExactWaitFor Go.Proofs.YtjppleahcmpfjaaW.PrintWords Go.Proofs.YtjppleahcmpfjaaW.PrintLast
set_option linter.unusedSimpArgs false
set_option linter.unusedVariables false

theorem implIn (a l h : Int) : impl_InRange.f a l h = some (decide (l ≤ a ∧ a ≤ h)) := by
  unfold impl_InRange.f
  by_cases h1 : l ≤ a <;> simp [h1]

def isB (a b c d : Int) : Bool := decide (0 ≤ b ∧ b ≤ 1000 ∧ 0 ≤ c ∧ c ≤ 1000 ∧ 0 ≤ a ∧ a ≤ b ∧ 0 ≤ d ∧ d ≤ 100000)

theorem implIsB (a b c d : Int) : impl_IsBucket.f a b c d = some (isB a b c d) := by
  unfold impl_IsBucket.f isB
  simp only [implIn, Option.bind_some]
  by_cases h1 : 0 ≤ b ∧ b ≤ 1000 <;> by_cases h2 : 0 ≤ c ∧ c ≤ 1000 <;> by_cases h3 : 0 ≤ a ∧ a ≤ b <;> by_cases h4 : 0 ≤ d ∧ d ≤ 100000 <;> simp [h1, h2, h3, h4] <;> omega

theorem specIn (a l h : Int) : spec_l1In.f a l h = some (decide (l ≤ a ∧ a ≤ h)) := by
  unfold spec_l1In.f
  by_cases h1 : l ≤ a <;> simp [h1]

theorem specIsB (a b c d : Int) : spec_IsBucket.f a b c d = some (isB a b c d) := by
  unfold spec_IsBucket.f isB
  simp only [specIn, Option.bind_some]
  by_cases h1 : 0 ≤ b ∧ b ≤ 1000 <;> by_cases h2 : 0 ≤ c ∧ c ≤ 1000 <;> by_cases h3 : 0 ≤ a ∧ a ≤ b <;> by_cases h4 : 0 ≤ d ∧ d ≤ 100000 <;> simp [h1, h2, h3, h4] <;> omega

theorem wr {x : Int} (h1 : -9223372036854775808 ≤ x) (h2 : x ≤ 9223372036854775807) : wrap64 x = x := by unfold wrap64; omega
theorem implCeil (a b : Int) (h1 : 0 ≤ a) (h2 : a ≤ 1000000000000) (h3 : 1 ≤ b) (h4 : b ≤ 1000000000000) : impl_CeilDiv.f a b = some (wrap64 (Int.tdiv (a + b - 1) b)) := by
  unfold impl_CeilDiv.f
  simp only [implIn, Option.bind_some]
  rw [if_pos (by simp [h1, h2]), if_pos (by simp [h3, h4]), if_neg (by omega), wr (x := a + b) (by omega) (by omega), wr (x := a + b - 1) (by omega) (by omega)]
theorem FnExactWaitFor : ∀ (a0_0 : Int) (a0_1 : Int) (a0_2 : Int) (a0_3 : Int) (a1 : Int), (Lit.int .i64 a0_0).wf = true → (Lit.int .i64 a0_1).wf = true → (Lit.int .i64 a0_2).wf = true → (Lit.int .i64 a0_3).wf = true → (Lit.int .i64 a1).wf = true → ∃ k, laws_FnExactWaitFor.f k a0_0 a0_1 a0_2 a0_3 a1 = some true := by
  intro a b c d n _ _ _ _ _
  refine ⟨1, ?_⟩
  unfold laws_FnExactWaitFor.f laws_toBucket.f spec_WaitFor.f impl_WaitFor.f
  simp only [implIsB, specIsB, implIn, specIn, Option.bind_some, spec_WaitFor.j0, impl_WaitFor.j0]
  by_cases h1 : isB a b c d = true
  · by_cases h2 : 0 ≤ n ∧ n ≤ b
    · by_cases h3 : n ≤ a
      · simp [h1, h2, h3]
      · by_cases h4 : c = 0
        · simp [h1, h2, h3, h4]
        · have h5 := h1
          simp only [isB, decide_eq_true_eq] at h5
          have e := implCeil (n - a) c (by omega) (by omega) (by omega) (by omega)
          rw [← wr (x := n - a) (by omega) (by omega)] at e
          simp only [h1, h2, h3, h4, if_true, if_false, and_self, decide_true, Bool.not_true, Bool.false_eq_true, e, Option.bind_some]
          rw [wr (x := n - a) (by omega) (by omega), wr (x := n - a + c) (by omega) (by omega), wr (x := n - a + c - 1) (by omega) (by omega)]
          simp
    · simp [h1, h2]
  · simp [h1]

end Go.Proofs.Ytjppleahcmpfjaa.Pure
