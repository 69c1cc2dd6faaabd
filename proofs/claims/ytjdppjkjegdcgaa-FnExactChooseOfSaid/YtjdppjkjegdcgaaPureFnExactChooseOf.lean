/- The law FnExactChooseOf returns true at every two numbers: the program's ChooseOf answers as the reference's. No condition. -/
import Derived.Test.YtjdppjkjegdcgaaPFnExactChooseOfx1
namespace Go.Proofs.Ytjdppjkjegdcgaa.Pure
open Go.RowKit Go.Proofs.Ytjdppjkjegdcgaa.PFnExactChooseOf Go.Proofs.YtjdppjkjegdcgaaW.PrintWords Go.Proofs.YtjdppjkjegdcgaaW.PrintLast
set_option linter.unusedSimpArgs false
set_option linter.unusedVariables false

theorem wr {x : Int} (h1 : -9223372036854775808 ≤ x) (h2 : x ≤ 9223372036854775807) : wrap64 x = x := by unfold wrap64; omega
theorem Ev.pos {α : Type} {c : Prop} [Decidable c] {g f : Nat → Option α} {r : α} (h : c) (e : Ev g r) : Ev (fun k => if c then g k else f k) r := by
  simp only [if_pos h]; exact e
theorem Ev.neg {α : Type} {c : Prop} [Decidable c] {g f : Nat → Option α} {r : α} (h : ¬ c) (e : Ev f r) : Ev (fun k => if c then g k else f k) r := by
  simp only [if_neg h]; exact e
theorem Ev.some_ {α : Type} {r r' : α} (h : r = r') : Ev (fun _ => some r) r' := h ▸ Ev.now r
theorem Ev.bnow {α β : Type} {g : Option α} {f : Nat → α → Option β} {a : α} {r : β} (h : g = some a) (k : Ev (fun n => f n a) r) : Ev (fun n => g.bind (f n)) r := by
  subst h; exact k

/-- Pascal's triangle. -/
def C : Nat → Nat → Nat
  | _, 0 => 1
  | 0, _ + 1 => 0
  | n + 1, k + 1 => C n k + C n (k + 1)
def allN (m : Nat) (p : Nat → Bool) : Bool := match m with
  | 0 => true
  | m + 1 => p m && allN m p
theorem allN_get {m : Nat} {p : Nat → Bool} (h : allN m p = true) : ∀ i, i < m → p i = true := by
  induction m with
  | zero => intro i hi; omega
  | succ m ih =>
    simp only [allN, Bool.and_eq_true] at h
    intro i hi
    by_cases e : i = m
    · exact e ▸ h.1
    · exact ih h.2 i (by omega)
/-- The row of Pascal's triangle, quickly. -/
def nextRow : List Nat → List Nat := fun l => List.zipWith (· + ·) (0 :: l) (l ++ [0])

def chI (n k : Int) : Int := if 0 ≤ n ∧ n ≤ 20 ∧ 0 ≤ k ∧ k ≤ n then (C n.toNat k.toNat : Int) else 0

theorem implIn (a l h : Int) : impl_InRange.f a l h = some (decide (l ≤ a ∧ a ≤ h)) := by
  unfold impl_InRange.f
  by_cases h1 : l ≤ a <;> simp [h1]

def okImplC (n k : Nat) : Bool := decide (impl_ChooseOf.f 25 n k = some (C n k : Int))
theorem implC_all : allN 21 (fun n => allN (n + 1) (fun k => okImplC n k)) = true := by decide +kernel
theorem implC (n k : Int) : Ev (fun j => impl_ChooseOf.f j n k) (chI n k) := by
  by_cases h : 0 ≤ n ∧ n ≤ 20 ∧ 0 ≤ k ∧ k ≤ n
  · obtain ⟨a, rfl⟩ := Int.eq_ofNat_of_zero_le h.1
    obtain ⟨b, rfl⟩ := Int.eq_ofNat_of_zero_le h.2.2.1
    have e := allN_get (allN_get implC_all a (by omega)) b (by omega)
    simp only [okImplC, decide_eq_true_eq] at e
    unfold chI
    rw [if_pos h]
    exact Ev.of (fun k => impl_ChooseOf.mono _ _ k) e
  · unfold chI
    rw [if_neg h]
    unfold impl_ChooseOf.f
    simp only [implIn, Option.bind_some]
    by_cases h1 : 0 ≤ n ∧ n ≤ 20
    · have h2 : ¬ (0 ≤ k ∧ k ≤ n) := by omega
      refine ⟨1, fun j hj => ?_⟩
      obtain ⟨j, rfl⟩ : ∃ m, j = m + 1 := ⟨j - 1, by omega⟩
      simp [h1, h2, impl_ChooseOf.j0]
    · refine ⟨1, fun j hj => ?_⟩
      obtain ⟨j, rfl⟩ : ∃ m, j = m + 1 := ⟨j - 1, by omega⟩
      simp [h1, impl_ChooseOf.j0]

theorem specIn (a l h : Int) : spec_l1In.f a l h = some (decide (l ≤ a ∧ a ≤ h)) := by
  unfold spec_l1In.f
  by_cases h1 : l ≤ a <;> simp [h1]

def okSpecC (n k : Nat) : Bool := decide (spec_ChooseOf.f 25 n k = some (C n k : Int))
theorem specC_all : allN 21 (fun n => allN (n + 1) (fun k => okSpecC n k)) = true := by decide +kernel
theorem specC (n k : Int) : Ev (fun j => spec_ChooseOf.f j n k) (chI n k) := by
  by_cases h : 0 ≤ n ∧ n ≤ 20 ∧ 0 ≤ k ∧ k ≤ n
  · obtain ⟨a, rfl⟩ := Int.eq_ofNat_of_zero_le h.1
    obtain ⟨b, rfl⟩ := Int.eq_ofNat_of_zero_le h.2.2.1
    have e := allN_get (allN_get specC_all a (by omega)) b (by omega)
    simp only [okSpecC, decide_eq_true_eq] at e
    unfold chI
    rw [if_pos h]
    exact Ev.of (fun k => spec_ChooseOf.mono _ _ k) e
  · unfold chI
    rw [if_neg h]
    unfold spec_ChooseOf.f
    simp only [specIn, Option.bind_some]
    by_cases h1 : 0 ≤ n ∧ n ≤ 20
    · have h2 : ¬ (0 ≤ k ∧ k ≤ n) := by omega
      refine ⟨1, fun j hj => ?_⟩
      obtain ⟨j, rfl⟩ : ∃ m, j = m + 1 := ⟨j - 1, by omega⟩
      simp [h1, h2, spec_ChooseOf.j0]
    · refine ⟨1, fun j hj => ?_⟩
      obtain ⟨j, rfl⟩ : ∃ m, j = m + 1 := ⟨j - 1, by omega⟩
      simp [h1, spec_ChooseOf.j0]

theorem FnExactChooseOf : laws_FnExactChooseOf.Pure := by
  intro n k _ _
  refine Ev.rounds (g := fun j => laws_FnExactChooseOf.f j n k) ?_
  unfold laws_FnExactChooseOf.f
  refine Ev.bind (specC n k) ?_
  refine Ev.bind (implC n k) ?_
  exact Ev.pos rfl (Ev.now _)

end Go.Proofs.Ytjdppjkjegdcgaa.Pure
