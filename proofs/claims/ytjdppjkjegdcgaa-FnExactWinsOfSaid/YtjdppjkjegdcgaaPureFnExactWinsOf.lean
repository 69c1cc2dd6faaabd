/- The law FnExactWinsOf returns true at every list of pairs: the program's WinsOf answers as the reference's. No condition. -/
import Derived.Test.YtjdppjkjegdcgaaPFnExactWinsOfx2
namespace Go.Proofs.Ytjdppjkjegdcgaa.Pure
open Go.RowKit Go.Proofs.Ytjdppjkjegdcgaa.PFnExactWinsOf Go.Proofs.YtjdppjkjegdcgaaW.PrintWords Go.Proofs.YtjdppjkjegdcgaaW.PrintLast
set_option linter.unusedSimpArgs false
set_option linter.unusedVariables false

theorem wr {x : Int} (h1 : -9223372036854775808 ≤ x) (h2 : x ≤ 9223372036854775807) : wrap64 x = x := by unfold wrap64; omega
theorem Ev.pos {α : Type} {c : Prop} [Decidable c] {g f : Nat → Option α} {r : α} (h : c) (e : Ev g r) : Ev (fun k => if c then g k else f k) r := by
  simp only [if_pos h]; exact e
theorem Ev.neg {α : Type} {c : Prop} [Decidable c] {g f : Nat → Option α} {r : α} (h : ¬ c) (e : Ev f r) : Ev (fun k => if c then g k else f k) r := by
  simp only [if_neg h]; exact e
theorem Ev.some_ {α : Type} {r r' : α} (h : r = r') : Ev (fun _ => some r) r' := h ▸ Ev.now r
theorem Ev.bnow {α β : Type} {g : Option α} {f : Nat → α → Option β} {a : α} {r : β} (h : g = some a) (k : Ev (fun n => f n a) r) : Ev (fun n => g.bind (f n)) r := by
  subst h; exact k

def cv (x : S52) : S44 := ⟨x.f0, x.f1⟩
theorem wnext {i n : Nat} (h : i < n) (hn : n ≤ 9223372036854775807) : wrap64 ((i : Int) + 1) = ((i + 1 : Nat) : Int) := by rw [wr (by omega) (by omega)]; rfl
theorem toPair_l (l : List S52) (hl : l.length ≤ 1048576) : ∀ (d i : Nat) (acc : List S44), i + d = l.length → acc.length = l.length → (∀ j, j < i → acc[j]? = (l.map cv)[j]?) → Ev (fun k => laws_toPairS.l0 k l acc i) (l.map cv) := by
  intro d
  induction d with
  | zero =>
    intro i acc hi ha hj
    refine Ev.step (fun k => laws_toPairS.l0.eq_2 _ _ _ k) ?_
    refine Ev.neg (by omega) (Ev.some_ ?_)
    apply List.ext_getElem?
    intro j
    by_cases h : j < i
    · exact hj j h
    · rw [List.getElem?_eq_none (by omega), List.getElem?_eq_none (by simp; omega)]
  | succ d ih =>
    intro i acc hi ha hj
    refine Ev.step (fun k => laws_toPairS.l0.eq_2 _ _ _ k) ?_
    refine Ev.pos (by omega) ?_
    refine Ev.pos (by omega) ?_
    refine Ev.bnow (by unfold laws_toPair.f; rfl) ?_
    refine Ev.pos (by omega) ?_
    simp only [wnext (show i < l.length by omega) (by omega), Int.toNat_natCast]
    refine ih (i + 1) _ (by omega) (by simp; omega) ?_
    intro j hj2
    by_cases h : j = i
    · subst h
      have hlt : j < l.length := by omega
      rw [List.getElem?_set_self (by omega)]
      simp [rd_T52, cv, hlt, List.getD]
    · rw [List.getElem?_set_ne (by omega)]
      exact hj j (by omega)
theorem toPairs (l : List S52) (hl : l.length ≤ 1048576) : Ev (fun k => laws_toPairS.f k l) (l.map cv) := by
  unfold laws_toPairS.f
  refine Ev.pos (by omega) ?_
  refine Ev.pos (by omega) ?_
  exact toPair_l l hl l.length 0 _ (by omega) (by simp) (by intro j hj; omega)
theorem eqPair_l (l : List S44) (hl : l.length ≤ 1048576) : ∀ (d i : Nat), i + d = l.length → Ev (fun k => laws_eqPairS.l0 k l l i) true := by
  intro d
  induction d with
  | zero =>
    intro i hi
    refine Ev.step (fun k => laws_eqPairS.l0.eq_2 _ _ _ k) ?_
    exact Ev.neg (by omega) (Ev.now _)
  | succ d ih =>
    intro i hi
    refine Ev.step (fun k => laws_eqPairS.l0.eq_2 _ _ _ k) ?_
    refine Ev.pos (by omega) ?_
    refine Ev.pos (by omega) ?_
    refine Ev.pos (by omega) ?_
    refine Ev.bnow (a := true) (by unfold laws_eqPair.f; simp) ?_
    refine Ev.pos rfl ?_
    simp only [wnext (show i < l.length by omega) (by omega)]
    exact ih (i + 1) (by omega)
theorem eqPairs (l : List S44) (hl : l.length ≤ 1048576) : Ev (fun k => laws_eqPairS.f k l l) true := by
  unfold laws_eqPairS.f
  exact Ev.pos rfl (eqPair_l l hl l.length 0 (by omega))
theorem szPairs (l : List S52) (hl : l.length ≤ maxLen) : ∃ t, laws_szPairS.f l 1048576 = some t ∧ (t < 0 ∨ l.length ≤ 1048576) := by
  unfold maxLen at hl
  unfold laws_szPairS.f
  rw [wr (x := 1048576 - (l.length : Int)) (by omega) (by omega)]
  split
  · exact ⟨-1, rfl, .inl (by omega)⟩
  · exact ⟨_, rfl, .inr (by omega)⟩

def winsL (l : List S44) : Nat := (l.filter (fun p => decide (p.f0 < p.f1))).length
def diffL (l : List S44) : Nat := (l.filter (fun p => decide (p.f1 ≠ p.f0))).length
theorem winsL_cons (p : S44) (l : List S44) : winsL (p :: l) = (if p.f0 < p.f1 then 1 else 0) + winsL l := by
  unfold winsL; rw [List.filter_cons]; split <;> simp_all; omega
theorem diffL_cons (p : S44) (l : List S44) : diffL (p :: l) = (if p.f1 = p.f0 then 0 else 1) + diffL l := by
  unfold diffL; rw [List.filter_cons]; split <;> simp_all; omega
theorem winsL_le (l : List S44) : winsL l ≤ l.length := List.length_filter_le _ _
theorem diffL_le (l : List S44) : diffL l ≤ l.length := List.length_filter_le _ _
theorem wins_le_diff (l : List S44) : winsL l ≤ diffL l := by
  induction l with
  | nil => simp [winsL, diffL]
  | cons p l ih => rw [winsL_cons, diffL_cons]; split <;> split <;> omega

theorem wnextw {i n : Nat} (h : i < n) (hn : n ≤ 9223372036854775807) : wrap64 ((i : Int) + 1) = ((i + 1 : Nat) : Int) := by rw [wr (by omega) (by omega)]; rfl
theorem implWins_l (l : List S44) (hl : l.length ≤ 1048576) : ∀ (d i : Nat) (a b : Nat), i + d = l.length → a ≤ i → b ≤ i → Ev (fun k => impl_WinsOf.l0 k a b l l.length i) (((a + winsL (l.drop i) : Nat) : Int), ((b + diffL (l.drop i) : Nat) : Int)) := by
  intro d
  induction d with
  | zero =>
    intro i a b hi ha hb
    refine Ev.step (fun k => impl_WinsOf.l0.eq_2 _ _ _ _ _ k) ?_
    refine Ev.neg (by omega) (Ev.some_ ?_)
    rw [List.drop_eq_nil_of_le (by omega)]; simp [winsL, diffL]
  | succ d ih =>
    intro i a b hi ha hb
    have hlt : i < l.length := by omega
    refine Ev.step (fun k => impl_WinsOf.l0.eq_2 _ _ _ _ _ k) ?_
    refine Ev.pos (by omega) ?_
    refine Ev.pos (by omega) ?_
    refine Ev.pos (by omega) ?_
    have hr : rd_T44 l (i : Int) = l[i] := by simp [rd_T44, hlt, List.getD]
    rw [List.drop_eq_getElem_cons hlt, winsL_cons, diffL_cons]
    simp only [hr, wnextw hlt (by omega), wnextw (show a < 1048577 by omega) (by omega), wnextw (show b < 1048577 by omega) (by omega)]
    by_cases h1 : l[i].f1 > l[i].f0
    · refine Ev.pos h1 ?_
      rw [if_pos h1]
      by_cases h2 : l[i].f1 = l[i].f0
      · omega
      · refine Ev.neg h2 ?_
        rw [if_neg h2]
        have e := ih (i + 1) (a + 1) (b + 1) (by omega) (by omega) (by omega)
        rw [← Nat.add_assoc, ← Nat.add_assoc]
        exact e
    · refine Ev.neg h1 ?_
      rw [if_neg h1]
      by_cases h2 : l[i].f1 = l[i].f0
      · refine Ev.pos h2 ?_
        rw [if_pos h2]
        have e := ih (i + 1) a b (by omega) (by omega) (by omega)
        rw [Nat.zero_add, Nat.zero_add]
        exact e
      · refine Ev.neg h2 ?_
        rw [if_neg h2]
        have e := ih (i + 1) a (b + 1) (by omega) (by omega) (by omega)
        rw [Nat.zero_add, ← Nat.add_assoc]
        exact e
theorem implWins (l : List S44) (hl : l.length ≤ 1048576) : Ev (fun k => impl_WinsOf.f k l) ((winsL l : Int), (diffL l : Int)) := by
  unfold impl_WinsOf.f
  have e := implWins_l l hl l.length 0 0 0 (by omega) (by omega) (by omega)
  simpa using e

theorem wnexts {i n : Nat} (h : i < n) (hn : n ≤ 9223372036854775807) : wrap64 ((i : Int) + 1) = ((i + 1 : Nat) : Int) := by rw [wr (by omega) (by omega)]; rfl
theorem specWins_l (l : List S44) (hl : l.length ≤ 1048576) : ∀ (d i : Nat) (a b : Nat), i + d = l.length → a ≤ i → b ≤ i → Ev (fun k => spec_WinsOf.l0 k l a b i) (((a + winsL (l.drop i) : Nat) : Int), ((b + diffL (l.drop i) : Nat) : Int)) := by
  intro d
  induction d with
  | zero =>
    intro i a b hi ha hb
    refine Ev.step (fun k => spec_WinsOf.l0.eq_2 _ _ _ _ k) ?_
    refine Ev.neg (by omega) (Ev.some_ ?_)
    rw [List.drop_eq_nil_of_le (by omega)]; simp [winsL, diffL]
  | succ d ih =>
    intro i a b hi ha hb
    have hlt : i < l.length := by omega
    refine Ev.step (fun k => spec_WinsOf.l0.eq_2 _ _ _ _ k) ?_
    refine Ev.pos (by omega) ?_
    refine Ev.pos (by omega) ?_
    have hr : rd_T44 l (i : Int) = l[i] := by simp [rd_T44, hlt, List.getD]
    rw [List.drop_eq_getElem_cons hlt, winsL_cons, diffL_cons]
    simp only [hr, wnexts hlt (by omega), wnexts (show a < 1048577 by omega) (by omega), wnexts (show b < 1048577 by omega) (by omega)]
    by_cases h1 : l[i].f1 > l[i].f0
    · refine Ev.pos h1 ?_
      rw [if_pos h1]
      by_cases h2 : l[i].f1 = l[i].f0
      · omega
      · refine Ev.neg h2 ?_
        rw [if_neg h2]
        have e := ih (i + 1) (a + 1) (b + 1) (by omega) (by omega) (by omega)
        rw [← Nat.add_assoc, ← Nat.add_assoc]
        exact e
    · refine Ev.neg h1 ?_
      rw [if_neg h1]
      by_cases h2 : l[i].f1 = l[i].f0
      · refine Ev.pos h2 ?_
        rw [if_pos h2]
        have e := ih (i + 1) a b (by omega) (by omega) (by omega)
        rw [Nat.zero_add, Nat.zero_add]
        exact e
      · refine Ev.neg h2 ?_
        rw [if_neg h2]
        have e := ih (i + 1) a (b + 1) (by omega) (by omega) (by omega)
        rw [Nat.zero_add, ← Nat.add_assoc]
        exact e
theorem specWins (l : List S44) (hl : l.length ≤ 1048576) : Ev (fun k => spec_WinsOf.f k l) ((winsL l : Int), (diffL l : Int)) := by
  unfold spec_WinsOf.f
  have e := specWins_l l hl l.length 0 0 0 (by omega) (by omega) (by omega)
  simpa using e

theorem FnExactWinsOf : ∀ (l0 : List S52), (l0.length ≤ maxLen ∧ ∀ x_ ∈ l0, ((Lit.int .i64 x_.f0).wf = true ∧ (Lit.int .i64 x_.f1).wf = true)) → ∃ k, laws_FnExactWinsOf.f k l0 = some true := by
  intro l ⟨hl, _⟩
  refine Ev.rounds (g := fun j => laws_FnExactWinsOf.f j l) ?_
  unfold laws_FnExactWinsOf.f
  obtain ⟨t, ht, h⟩ := szPairs l hl
  refine Ev.bnow ht ?_
  by_cases h0 : t < 0
  · exact Ev.pos h0 (Ev.now _)
  · have hl2 : l.length ≤ 1048576 := by omega
    refine Ev.neg h0 ?_
    refine Ev.bind (toPairs l hl2) ?_
    refine Ev.bind (specWins _ (by simpa using hl2)) ?_
    refine Ev.bind (toPairs l hl2) ?_
    refine Ev.bind (implWins _ (by simpa using hl2)) ?_
    refine Ev.pos rfl ?_
    refine Ev.step (fun k => laws_FnExactWinsOf.j0.eq_2 _ _ _ k) ?_
    refine Ev.neg (by simp) ?_
    refine Ev.bind (toPairs l hl2) ?_
    refine Ev.bind (eqPairs _ (by simpa using hl2)) ?_
    exact Ev.pos rfl (Ev.now _)

end Go.Proofs.Ytjdppjkjegdcgaa.Pure
