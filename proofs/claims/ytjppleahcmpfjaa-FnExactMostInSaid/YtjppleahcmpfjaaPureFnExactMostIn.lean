/- The law FnExactMostIn returns true at every bucket and number: the program's MostIn answers as the reference's. No condition. -/
import Derived.Test.YtjppleahcmpfjaaPFnExactMostInx1
namespace Go.Proofs.Ytjppleahcmpfjaa.Pure
open Go.RowKit Go.Proofs.Ytjppleahcmpfjaa.PFnExactMostIn Go.Proofs.YtjppleahcmpfjaaW.PrintWords Go.Proofs.YtjppleahcmpfjaaW.PrintLast

theorem implIn (a l h : Int) : impl_InRange.f a l h = some (decide (l ≤ a ∧ a ≤ h)) := by
  unfold impl_InRange.f
  by_cases h1 : l ≤ a <;> simp [h1]

def isB (a b c d : Int) : Bool := decide (0 ≤ b ∧ b ≤ 1000 ∧ 0 ≤ c ∧ c ≤ 1000 ∧ 0 ≤ a ∧ a ≤ b ∧ 0 ≤ d ∧ d ≤ 100000)

theorem implIsB (a b c d : Int) : impl_IsBucket.f a b c d = some (isB a b c d) := by
  unfold impl_IsBucket.f isB
  simp only [implIn, Option.bind_some]
  by_cases h1 : 0 ≤ b ∧ b ≤ 1000 <;> by_cases h2 : 0 ≤ c ∧ c ≤ 1000 <;> by_cases h3 : 0 ≤ a ∧ a ≤ b <;> by_cases h4 : 0 ≤ d ∧ d ≤ 100000 <;> simp [h1, h2, h3, h4] <;> omega

theorem specIn (a l h : Int) : spec_l1In.f a l h = some (decide (l ≤ a ∧ a ≤ h)) := by
  unfold spec_l1In.f
  by_cases h1 : l ≤ a <;> simp [h1]

theorem specIsB (a b c d : Int) : spec_IsBucket.f a b c d = some (isB a b c d) := by
  unfold spec_IsBucket.f isB
  simp only [specIn, Option.bind_some]
  by_cases h1 : 0 ≤ b ∧ b ≤ 1000 <;> by_cases h2 : 0 ≤ c ∧ c ≤ 1000 <;> by_cases h3 : 0 ≤ a ∧ a ≤ b <;> by_cases h4 : 0 ≤ d ∧ d ≤ 100000 <;> simp [h1, h2, h3, h4] <;> omega

theorem FnExactMostIn : ∀ (a0_0 : Int) (a0_1 : Int) (a0_2 : Int) (a0_3 : Int) (a1 : Int), (Lit.int .i64 a0_0).wf = true → (Lit.int .i64 a0_1).wf = true → (Lit.int .i64 a0_2).wf = true → (Lit.int .i64 a0_3).wf = true → (Lit.int .i64 a1).wf = true → laws_FnExactMostIn.f a0_0 a0_1 a0_2 a0_3 a1 = some true := by
  intro a b c d t _ _ _ _ _
  unfold laws_FnExactMostIn.f laws_toBucket.f impl_MostIn.f spec_MostIn.f
  simp only [implIsB, specIsB, implIn, specIn, Option.bind_some]
  by_cases h1 : isB a b c d = true <;> by_cases h2 : 0 ≤ t ∧ t ≤ 100000 <;> simp [h1, h2]

end Go.Proofs.Ytjppleahcmpfjaa.Pure
