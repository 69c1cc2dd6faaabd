/- The law FnExactIsBucket returns true at every bucket: the program's IsBucket answers as the reference's. No condition. -/
import Derived.Test.YtjppleahcmpfjaaPFnExactIsBucketx1
namespace Go.Proofs.Ytjppleahcmpfjaa.Pure
open Go.RowKit Go.Proofs.Ytjppleahcmpfjaa.PFnExactIsBucket Go.Proofs.YtjppleahcmpfjaaW.PrintWords Go.Proofs.YtjppleahcmpfjaaW.PrintLast

theorem implIn (a l h : Int) : impl_InRange.f a l h = some (decide (l ≤ a ∧ a ≤ h)) := by
  unfold impl_InRange.f
  by_cases h1 : l ≤ a <;> simp [h1]

def isB (a b c d : Int) : Bool := decide (0 ≤ b ∧ b ≤ 1000 ∧ 0 ≤ c ∧ c ≤ 1000 ∧ 0 ≤ a ∧ a ≤ b ∧ 0 ≤ d ∧ d ≤ 100000)

theorem implIsB (a b c d : Int) : impl_IsBucket.f a b c d = some (isB a b c d) := by
  unfold impl_IsBucket.f isB
  simp only [implIn, Option.bind_some]
  by_cases h1 : 0 ≤ b ∧ b ≤ 1000 <;> by_cases h2 : 0 ≤ c ∧ c ≤ 1000 <;> by_cases h3 : 0 ≤ a ∧ a ≤ b <;> by_cases h4 : 0 ≤ d ∧ d ≤ 100000 <;> simp [h1, h2, h3, h4] <;> omega

theorem specIn (a l h : Int) : spec_l1In.f a l h = some (decide (l ≤ a ∧ a ≤ h)) := by
  unfold spec_l1In.f
  by_cases h1 : l ≤ a <;> simp [h1]

theorem specIsB (a b c d : Int) : spec_IsBucket.f a b c d = some (isB a b c d) := by
  unfold spec_IsBucket.f isB
  simp only [specIn, Option.bind_some]
  by_cases h1 : 0 ≤ b ∧ b ≤ 1000 <;> by_cases h2 : 0 ≤ c ∧ c ≤ 1000 <;> by_cases h3 : 0 ≤ a ∧ a ≤ b <;> by_cases h4 : 0 ≤ d ∧ d ≤ 100000 <;> simp [h1, h2, h3, h4] <;> omega

theorem FnExactIsBucket : ∀ (a0_0 : Int) (a0_1 : Int) (a0_2 : Int) (a0_3 : Int), (Lit.int .i64 a0_0).wf = true → (Lit.int .i64 a0_1).wf = true → (Lit.int .i64 a0_2).wf = true → (Lit.int .i64 a0_3).wf = true → laws_FnExactIsBucket.f a0_0 a0_1 a0_2 a0_3 = some true := by
  intro a b c d _ _ _ _
  unfold laws_FnExactIsBucket.f laws_toBucket.f
  simp [implIsB, specIsB]

end Go.Proofs.Ytjppleahcmpfjaa.Pure
