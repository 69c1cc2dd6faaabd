/- The law FnExactFillBucket returns true at every bucket and time: the program's FillBucket answers as the reference's. No condition. -/
import Derived.Test.YtjppleahcmpfjaaHFnExactFillBucketx1
namespace Go.Proofs.Ytjppleahcmpfjaa.Pure
open Go.RowKit Go.Proofs.Ytjppleahcmpfjaa.PFnExactFillBucket Go.Proofs.YtjppleahcmpfjaaW.PrintWords Go.Proofs.YtjppleahcmpfjaaW.PrintLast
set_option linter.unusedSimpArgs false
set_option linter.unusedVariables false

theorem implIn (a l h : Int) : impl_InRange.f a l h = some (decide (l ≤ a ∧ a ≤ h)) := by
  unfold impl_InRange.f
  by_cases h1 : l ≤ a <;> simp [h1]

def isB (a b c d : Int) : Bool := decide (0 ≤ b ∧ b ≤ 1000 ∧ 0 ≤ c ∧ c ≤ 1000 ∧ 0 ≤ a ∧ a ≤ b ∧ 0 ≤ d ∧ d ≤ 100000)

theorem implIsB (a b c d : Int) : impl_IsBucket.f a b c d = some (isB a b c d) := by
  unfold impl_IsBucket.f isB
  simp only [implIn, Option.bind_some]
  by_cases h1 : 0 ≤ b ∧ b ≤ 1000 <;> by_cases h2 : 0 ≤ c ∧ c ≤ 1000 <;> by_cases h3 : 0 ≤ a ∧ a ≤ b <;> by_cases h4 : 0 ≤ d ∧ d ≤ 100000 <;> simp [h1, h2, h3, h4] <;> omega

theorem specIn (a l h : Int) : spec_l1In.f a l h = some (decide (l ≤ a ∧ a ≤ h)) := by
  unfold spec_l1In.f
  by_cases h1 : l ≤ a <;> simp [h1]

theorem specIsB (a b c d : Int) : spec_IsBucket.f a b c d = some (isB a b c d) := by
  unfold spec_IsBucket.f isB
  simp only [specIn, Option.bind_some]
  by_cases h1 : 0 ≤ b ∧ b ≤ 1000 <;> by_cases h2 : 0 ≤ c ∧ c ≤ 1000 <;> by_cases h3 : 0 ≤ a ∧ a ≤ b <;> by_cases h4 : 0 ≤ d ∧ d ≤ 100000 <;> simp [h1, h2, h3, h4] <;> omega

def fillB (a b c d t : Int) : Int × Int × Int × Int := if isB a b c d = true ∧ d ≤ t ∧ t ≤ 100000 then (mn b (wrap64 (a + (wrap64 (c * (wrap64 (t - d)))))), b, c, t) else (a, b, c, d)
theorem implFill (a b c d t : Int) : impl_FillBucket.f a b c d t = some (fillB a b c d t) := by
  unfold impl_FillBucket.f fillB
  simp only [implIsB, implIn, Option.bind_some]
  by_cases h1 : isB a b c d = true <;> by_cases h2 : d ≤ t ∧ t ≤ 100000 <;> simp [h1, h2]
theorem specMin (a b : Int) : spec_Min.f a b = some (mn a b) := by
  unfold spec_Min.f mn
  repeat' split
  all_goals first | rfl | (congr 1; omega)
theorem specFill (a b c d t : Int) : spec_FillBucket.f a b c d t = some (fillB a b c d t) := by
  unfold spec_FillBucket.f fillB
  simp only [specIsB, specIn, specMin, Option.bind_some]
  by_cases h1 : isB a b c d = true <;> by_cases h2 : d ≤ t ∧ t ≤ 100000 <;> simp [h1, h2]

theorem FnExactFillBucket : ∀ (a0_0 : Int) (a0_1 : Int) (a0_2 : Int) (a0_3 : Int) (a1 : Int), (Lit.int .i64 a0_0).wf = true → (Lit.int .i64 a0_1).wf = true → (Lit.int .i64 a0_2).wf = true → (Lit.int .i64 a0_3).wf = true → (Lit.int .i64 a1).wf = true → laws_FnExactFillBucket.f a0_0 a0_1 a0_2 a0_3 a1 = some true := by
  intro a b c d t _ _ _ _ _
  unfold laws_FnExactFillBucket.f laws_toBucket.f laws_eqBucket.f
  simp [implFill, specFill]

end Go.Proofs.Ytjppleahcmpfjaa.Pure
