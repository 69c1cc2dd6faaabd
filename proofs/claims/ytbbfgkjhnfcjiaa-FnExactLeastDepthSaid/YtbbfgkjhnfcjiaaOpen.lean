/- Lemmas of this claim: how an argument that reads as data stands in the printed words' form (Kd). For every type of whole numbers, bools and slices of such. -/
import Derived.ProofKit
import Derived.OpenShut
import Derived.Deep.Slices
import Derived.Lib.SmallJoins
import Derived.Test.YtbbfgkjhnfcjiaaWWords
namespace Go.Proofs.Ytbbfgkjhnfcjiaa.Open
open Go.ChangeShapes Go.WideShapes Go.RowKit Go.Proofs.YtbbfgkjhnfcjiaaW.PrintWords
set_option linter.unusedVariables false

/-- Whatever reads as a datum of type e stands in memory as d tells it, and Wf holds of it. -/
def OpensAs {α H : Type} (enc : TypeId × Value → H) (P : Program) (w : World) (spare : Nat → Bool) (held : Bool) (e : TypeId) (d : Kd α) (Wf : α → Prop) : Prop :=
  ∀ (n : Nat) (cs : List Value) (y : DataW H × List MemPlace), DataW.trod enc P w 0 spare held n e cs = some y → ∃ x, d.K w x cs ∧ Wf x

section
variable {H : Type} {enc : TypeId × Value → H} {P : Program} {w : World} {spare : Nat → Bool} {held : Bool}

theorem opens_int {e : TypeId} {k : IntKind} (hu : P.underlying e = some (.int k)) : OpensAs enc P w spare held e (Kd.int k) (fun x => (Lit.int k x).wf = true) := by
  intro n cs y h
  obtain ⟨x, rfl, _, hw⟩ := DataW.trod_int hu h
  exact ⟨x, rfl, hw⟩

theorem opens_bool {e : TypeId} (hu : P.underlying e = some .bool) : OpensAs enc P w spare held e Kd.bool (fun _ => True) := by
  intro n cs y h
  obtain ⟨x, rfl, _⟩ := DataW.trod_bool hu h
  exact ⟨x, rfl, trivial⟩

theorem opens_slice {α : Type} {t e : TypeId} {d : Kd α} {Wf : α → Prop} (ht : P.underlying t = some (.slice e)) (hc : P.cellsOf e = d.sz) (ho : OpensAs enc P w spare held e d Wf) :
    OpensAs enc P w spare held t (Kd.slice e d) (fun l => l.length ≤ maxLen ∧ ∀ x ∈ l, Wf x) := by
  classical
  intro n cs y h
  rcases Go.Deep.open_slice ht h with ⟨rfl, _⟩ | ⟨a, len, cap, m, n', D, Pl, rfl, _, hl, hm, hmm, _, hx⟩
  · exact ⟨[], ⟨none, 0, rfl, Nat.le_refl _, Kd.C_nil d w⟩, by simp, by simp⟩
  · have hlm : len ≤ m := by rw [hmm]; split <;> omega
    have each : ∀ i, i < len → ∃ x : α, (∃ cs', w.cells? 0 (a.add (i * P.cellsOf e)) (P.cellsOf e) = some cs' ∧ d.K w x cs') ∧ Wf x := by
      intro i hi
      obtain ⟨cs', h1, h2⟩ := hx i (by omega)
      obtain ⟨x, h3, h4⟩ := ho _ _ _ h2
      exact ⟨x, ⟨cs', h1, h3⟩, h4⟩
    refine ⟨List.ofFn (fun i : Fin len => Classical.choose (each i.1 i.2)), ⟨some a, cap, by simp, by simpa using hl, ?_⟩, by simpa using Nat.le_trans hl hm, ?_⟩
    · refine ⟨by simp, by simp; unfold maxLen at hm; omega, fun _ => ⟨a, rfl, ?_⟩⟩
      intro j p hp
      simp only [List.getElem?_ofFn] at hp
      split at hp
      · rename_i hj
        injection hp with hp
        subst hp
        obtain ⟨⟨cs', h1, h2⟩, _⟩ := Classical.choose_spec (each j hj)
        refine ⟨cs', d.K_len h2, h2, fun i u hu => ?_⟩
        have hlt : i < d.sz := by
          have := (List.getElem?_eq_some_iff.1 hu).1
          rw [d.K_len h2] at this
          exact this
        rw [hc] at h1
        have h5 := ((World.cells?_some h1).2.2 i hlt).trans hu
        rwa [Go.Deep.add_add] at h5
      · cases hp
    · intro x hx
      obtain ⟨i, rfl⟩ := (List.mem_ofFn).1 hx
      exact (Classical.choose_spec (each i.1 i.2)).2

/-- A slice argument. -/
theorem open_arg {α : Type} {t e : TypeId} {d : Kd α} {Wf : List α → Prop} (hs : OpensAs enc P w spare held t (Kd.slice e d) Wf) {a : Option Addr} {len cap : Nat} {x : DataW H} {ps : List MemPlace}
    (h : DataW.Trod enc P w 0 spare held t (.slice a len cap) x ps) : ∃ l : List α, len = l.length ∧ d.C w a l.length l ∧ l.length ≤ cap ∧ Wf l := by
  obtain ⟨fuel, hf⟩ := h
  obtain ⟨l, ⟨A, c, he, hl, hr⟩, hw⟩ := hs _ _ _ hf
  simp [Value.cells] at he
  obtain ⟨rfl, rfl, rfl⟩ := he
  exact ⟨l, rfl, hr, hl, hw⟩
/-- A slice in a field. -/
theorem open_cell {α : Type} {t e : TypeId} {d : Kd α} {Wf : List α → Prop} (hs : OpensAs enc P w spare held t (Kd.slice e d) Wf) {v : Value} {n : Nat} {y : DataW H × List MemPlace}
    (h : DataW.trod enc P w 0 spare held n t [v] = some y) : ∃ (l : List α) (a : Option Addr) (c : Nat), v = .slice a l.length c ∧ d.C w a l.length l ∧ l.length ≤ c ∧ Wf l := by
  obtain ⟨l, ⟨A, c, he, hl, hr⟩, hw⟩ := hs _ _ _ h
  simp at he
  exact ⟨l, A, c, he, hr, hl, hw⟩
theorem open_int_cell {t : TypeId} {k : IntKind} (hu : P.underlying t = some (.int k)) {v : Value} {n : Nat} {y : DataW H × List MemPlace}
    (h : DataW.trod enc P w 0 spare held n t [v] = some y) : ∃ x, v = .int k x ∧ (Lit.int k x).wf = true := by
  obtain ⟨x, he, hw⟩ := opens_int hu _ _ _ h
  simp [Kd.int, Kd.scalar] at he
  exact ⟨x, he, hw⟩
end
end Go.Proofs.Ytbbfgkjhnfcjiaa.Open
