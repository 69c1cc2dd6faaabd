/- The law FnExactDisputeName holds of every argument: the program's DisputeName and the reference's answer alike. No condition. -/
import Derived.Test.YtjppleahcmpfjaaPFnExactDisputeNamex1
namespace Go.Proofs.Ytjppleahcmpfjaa.Pure
open Go.RowKit Go.Proofs.Ytjppleahcmpfjaa.PFnExactDisputeName Go.Proofs.YtjppleahcmpfjaaW.PrintWords Go.Proofs.YtjppleahcmpfjaaW.PrintLast

theorem FnExactDisputeName : laws_FnExactDisputeName.Pure := by
  intro a0 _
  unfold laws_FnExactDisputeName.f spec_DisputeName.f impl_DisputeName.f spec_l1In.f impl_at.f
  simp only [Option.bind_some, List.length_cons, List.length_nil]
  by_cases h0 : 0 ≤ a0
  · by_cases h4 : a0 ≤ 4
    · have : a0 = 0 ∨ a0 = 1 ∨ a0 = 2 ∨ a0 = 3 ∨ a0 = 4 := by omega
      rcases this with rfl | rfl | rfl | rfl | rfl <;> simp
    · have h5 : ¬ a0 < 5 := by omega
      simp [h0, h4, h5]
  · simp [h0]

end Go.Proofs.Ytjppleahcmpfjaa.Pure
