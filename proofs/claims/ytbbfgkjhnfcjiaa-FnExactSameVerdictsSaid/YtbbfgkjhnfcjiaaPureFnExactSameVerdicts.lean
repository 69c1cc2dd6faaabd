/- The law FnExactSameVerdicts returns true at every list of rows and every two sets: the program's SameVerdicts answers as the reference's. No condition. -/
import Derived.Test.YtbbfgkjhnfcjiaaHFnExactSameVerdictsx2
namespace Go.Proofs.Ytbbfgkjhnfcjiaa.Pure
open Go.RowKit Go.Proofs.Ytbbfgkjhnfcjiaa.PFnExactSameVerdicts Go.Proofs.YtbbfgkjhnfcjiaaW.PrintWords Go.Proofs.YtbbfgkjhnfcjiaaW.PrintLast
set_option linter.unusedSimpArgs false
set_option linter.unusedVariables false

def fwB (row : List Int) (k : Int) : Bool := decide (0 ≤ k ∧ k < row.length ∧ rd row k = 1)
/-- whether a row fails with these links. -/
def fw (row g : List Int) : Bool := g.any (fwB row)

/-- whether every row fails with both sets alike. -/
def sv (m : List (List Int)) (a b : List Int) : Bool := !(m.any (fun row => fw row a != fw row b))

theorem isv (m : List (List Int)) (a b : List Int) : impl_SameVerdicts.f m a b = some (sv m a b) := rfl

theorem wr {x : Int} (h1 : -9223372036854775808 ≤ x) (h2 : x ≤ 9223372036854775807) : wrap64 x = x := by unfold wrap64; omega
theorem Ev.pos {α : Type} {c : Prop} [Decidable c] {g f : Nat → Option α} {r : α} (h : c) (e : Ev g r) : Ev (fun k => if c then g k else f k) r := by
  simp only [if_pos h]; exact e
theorem Ev.neg {α : Type} {c : Prop} [Decidable c] {g f : Nat → Option α} {r : α} (h : ¬ c) (e : Ev f r) : Ev (fun k => if c then g k else f k) r := by
  simp only [if_neg h]; exact e
theorem Ev.some_ {α : Type} {r r' : α} (h : r = r') : Ev (fun _ => some r) r' := h ▸ Ev.now r
theorem Ev.bnow {α β : Type} {g : Option α} {f : Nat → α → Option β} {a : α} {r : β} (h : g = some a) (k : Ev (fun n => f n a) r) : Ev (fun n => g.bind (f n)) r := by
  subst h; exact k

theorem wnx {i n : Nat} (h : i < n) (hn : n ≤ 9223372036854775807) : wrap64 ((i : Int) + 1) = ((i + 1 : Nat) : Int) := by rw [wr (by omega) (by omega)]; rfl
theorem rd_get (l : List Int) (i : Nat) (h : i < l.length) : rd l (i : Int) = l[i] := by simp [rd, List.getD, h]

theorem specIn (a l h : Int) : spec_l1In.f a l h = some (decide (l ≤ a ∧ a ≤ h)) := by
  unfold spec_l1In.f
  by_cases h1 : l ≤ a <;> simp [h1]

theorem sfw_l (row g : List Int) (hr : row.length ≤ 1048576) (hg : g.length ≤ 1048576) : ∀ (d i : Nat), i + d = g.length → Ev (fun k => spec_FailsWith.l0 k row g i) ((g.drop i).any (fwB row)) := by
  intro d
  induction d with
  | zero =>
    intro i hi
    refine Ev.step (fun k => spec_FailsWith.l0.eq_2 _ _ _ k) ?_
    refine Ev.neg (by omega) (Ev.some_ ?_)
    rw [List.drop_eq_nil_of_le (by omega)]; rfl
  | succ d ih =>
    intro i hi
    have hlt : i < g.length := by omega
    refine Ev.step (fun k => spec_FailsWith.l0.eq_2 _ _ _ k) ?_
    refine Ev.pos (by omega) ?_
    refine Ev.pos (by omega) ?_
    rw [rd_get g i hlt, List.drop_eq_getElem_cons hlt, List.any_cons, wr (x := (row.length : Int) - 1) (by omega) (by omega)]
    refine Ev.bnow (specIn _ _ _) ?_
    by_cases h : 0 ≤ g[i] ∧ g[i] ≤ (row.length : Int) - 1
    · refine Ev.pos (decide_eq_true h) ?_
      refine Ev.pos h.1 ?_
      refine Ev.pos (by omega) ?_
      by_cases h1 : rd row g[i] = 1
      · refine Ev.pos h1 (Ev.some_ ?_)
        have : fwB row g[i] = true := decide_eq_true ⟨h.1, by omega, h1⟩
        rw [this]; rfl
      · refine Ev.neg h1 ?_
        have : fwB row g[i] = false := decide_eq_false (fun x => h1 x.2.2)
        rw [this, Bool.false_or]
        simp only [wnx hlt (by omega)]
        exact ih (i + 1) (by omega)
    · refine Ev.neg (by rw [decide_eq_false h]; simp) ?_
      have : fwB row g[i] = false := decide_eq_false (fun x => h ⟨x.1, by omega⟩)
      rw [this, Bool.false_or]
      simp only [wnx hlt (by omega)]
      exact ih (i + 1) (by omega)
theorem sfw (row g : List Int) (hr : row.length ≤ 1048576) (hg : g.length ≤ 1048576) : Ev (fun k => spec_FailsWith.f k row g) (fw row g) := by
  unfold spec_FailsWith.f
  exact sfw_l row g hr hg g.length 0 (by omega)

theorem toInt_l (l : List Int) (hl : l.length ≤ 1048576) : ∀ (d i : Nat) (acc : List Int), i + d = l.length → acc.length = l.length → (∀ j, j < i → acc[j]? = l[j]?) → Ev (fun k => laws_toIntS.l0 k l acc i) l := by
  intro d
  induction d with
  | zero =>
    intro i acc hi ha hj
    refine Ev.step (fun k => laws_toIntS.l0.eq_2 _ _ _ k) ?_
    refine Ev.neg (by omega) (Ev.some_ ?_)
    apply List.ext_getElem?
    intro j
    by_cases h : j < i
    · exact hj j h
    · rw [List.getElem?_eq_none (by omega), List.getElem?_eq_none (by omega)]
  | succ d ih =>
    intro i acc hi ha hj
    refine Ev.step (fun k => laws_toIntS.l0.eq_2 _ _ _ k) ?_
    refine Ev.pos (by omega) ?_
    refine Ev.pos (by omega) ?_
    refine Ev.pos (by omega) ?_
    simp only [wnx (show i < l.length by omega) (by omega), Int.toNat_natCast]
    refine ih (i + 1) _ (by omega) (by simp; omega) ?_
    intro j hj2
    by_cases h : j = i
    · subst h
      have hlt : j < l.length := by omega
      rw [List.getElem?_set_self (by omega), rd_get l j hlt, List.getElem?_eq_getElem hlt]
    · rw [List.getElem?_set_ne (by omega)]
      exact hj j (by omega)
theorem toInts (l : List Int) (hl : l.length ≤ 1048576) : Ev (fun k => laws_toIntS.f k l) l := by
  unfold laws_toIntS.f
  refine Ev.pos (by omega) ?_
  refine Ev.pos (by omega) ?_
  exact toInt_l l hl l.length 0 _ (by omega) (by simp) (by intro j hj; omega)

theorem eqInt_l (l : List Int) (hl : l.length ≤ 1048576) : ∀ (d i : Nat), i + d = l.length → Ev (fun k => laws_eqIntS.l0 k l l i) true := by
  intro d
  induction d with
  | zero =>
    intro i hi
    refine Ev.step (fun k => laws_eqIntS.l0.eq_2 _ _ _ k) ?_
    exact Ev.neg (by omega) (Ev.now _)
  | succ d ih =>
    intro i hi
    refine Ev.step (fun k => laws_eqIntS.l0.eq_2 _ _ _ k) ?_
    refine Ev.pos (by omega) ?_
    refine Ev.pos (by omega) ?_
    refine Ev.pos (by omega) ?_
    refine Ev.pos rfl ?_
    simp only [wnx (show i < l.length by omega) (by omega)]
    exact ih (i + 1) (by omega)
theorem eqInts (l : List Int) (hl : l.length ≤ 1048576) : Ev (fun k => laws_eqIntS.f k l l) true := by
  unfold laws_eqIntS.f
  exact Ev.pos rfl (eqInt_l l hl l.length 0 (by omega))

def tot (l : List (List Int)) : Nat := (l.map List.length).sum
theorem rd1 (l : List (List Int)) (i : Nat) (h : i < l.length) : rd_L1 l (i : Int) = l[i] := by simp [rd_L1, List.getD, h]
theorem tot_mem : ∀ (l : List (List Int)) (x : List Int), x ∈ l → x.length ≤ tot l := by
  intro l
  induction l with
  | nil => intro x h; cases h
  | cons y l ih =>
    intro x h
    simp only [tot, List.map_cons, List.sum_cons]
    rcases List.mem_cons.1 h with rfl | h
    · omega
    · have := ih x h; unfold tot at this; omega
theorem szSS_l (l : List (List Int)) (hl : l.length ≤ 1048576) (hm : ∀ x ∈ l, x.length ≤ maxLen) : ∀ (d i : Nat) (q : Int), i + d = l.length → 0 ≤ q → q ≤ 1048576 → ∃ t, Ev (fun k => laws_szIntSS.l0 k l q i) t ∧ (t < 0 ∨ (t = q - tot (l.drop i) ∧ 0 ≤ t)) := by
  intro d
  induction d with
  | zero =>
    intro i q hi h0 h1
    refine ⟨q, Ev.step (fun k => laws_szIntSS.l0.eq_2 _ _ _ k) (Ev.neg (by omega) (Ev.now _)), .inr ?_⟩
    rw [List.drop_eq_nil_of_le (by omega)]
    simp [tot]; omega
  | succ d ih =>
    intro i q hi h0 h1
    have hlt : i < l.length := by omega
    have hx := hm l[i] (List.getElem_mem hlt)
    unfold maxLen at hx
    have e0 : laws_szIntS.f l[i] q = some (if q - (l[i].length : Int) < 0 then -1 else q - (l[i].length : Int)) := by
      unfold laws_szIntS.f
      rw [wr (x := q - (l[i].length : Int)) (by omega) (by omega)]
      split <;> rfl
    by_cases h : q - (l[i].length : Int) < 0
    · rw [if_pos h] at e0
      refine ⟨-1, Ev.step (fun k => laws_szIntSS.l0.eq_2 _ _ _ k) (Ev.pos (by omega) (Ev.pos (by omega) ?_)), .inl (by omega)⟩
      rw [rd1 l i hlt]
      exact Ev.bnow e0 (Ev.pos (by omega) (Ev.now _))
    · rw [if_neg h] at e0
      obtain ⟨t, et, ht⟩ := ih (i + 1) (q - (l[i].length : Int)) (by omega) (by omega) (by omega)
      refine ⟨t, Ev.step (fun k => laws_szIntSS.l0.eq_2 _ _ _ k) (Ev.pos (by omega) (Ev.pos (by omega) ?_)), ?_⟩
      · rw [rd1 l i hlt]
        refine Ev.bnow e0 (Ev.neg h ?_)
        simp only [wnx hlt (by omega)]
        exact et
      · rcases ht with ht | ⟨ht, h2⟩
        · exact .inl ht
        · refine .inr ⟨?_, h2⟩
          have : tot (l.drop i) = l[i].length + tot (l.drop (i + 1)) := by
            rw [List.drop_eq_getElem_cons hlt]; simp only [tot, List.map_cons, List.sum_cons]
          omega
theorem szSS (l : List (List Int)) (q : Int) (h0 : 0 ≤ q) (h1 : q ≤ 1048576) (hl : l.length ≤ maxLen) (hm : ∀ x ∈ l, x.length ≤ maxLen) : ∃ t, Ev (fun k => laws_szIntSS.f k l q) t ∧ (t < 0 ∨ (t = q - l.length - tot l ∧ 0 ≤ t)) := by
  unfold maxLen at hl
  unfold laws_szIntSS.f
  rw [wr (x := q - (l.length : Int)) (by omega) (by omega)]
  by_cases h : q - (l.length : Int) < 0
  · exact ⟨-1, Ev.pos h (Ev.now _), .inl (by omega)⟩
  · obtain ⟨t, et, ht⟩ := szSS_l l (by omega) hm l.length 0 (q - (l.length : Int)) (by omega) (by omega) (by omega)
    exact ⟨t, Ev.neg h et, ht⟩
theorem toSS_l (l : List (List Int)) (hl : l.length ≤ 1048576) (hm : ∀ x ∈ l, x.length ≤ 1048576) : ∀ (d i : Nat) (acc : List (List Int)), i + d = l.length → acc.length = l.length → (∀ j, j < i → acc[j]? = l[j]?) → Ev (fun k => laws_toIntSS.l0 k l acc i) l := by
  intro d
  induction d with
  | zero =>
    intro i acc hi ha hj
    refine Ev.step (fun k => laws_toIntSS.l0.eq_2 _ _ _ k) ?_
    refine Ev.neg (by omega) (Ev.some_ ?_)
    apply List.ext_getElem?
    intro j
    by_cases h : j < i
    · exact hj j h
    · rw [List.getElem?_eq_none (by omega), List.getElem?_eq_none (by omega)]
  | succ d ih =>
    intro i acc hi ha hj
    have hlt : i < l.length := by omega
    refine Ev.step (fun k => laws_toIntSS.l0.eq_2 _ _ _ k) ?_
    refine Ev.pos (by omega) ?_
    refine Ev.pos (by omega) ?_
    rw [rd1 l i hlt]
    refine Ev.bind (toInts l[i] (hm _ (List.getElem_mem hlt))) ?_
    refine Ev.pos (by omega) ?_
    simp only [wnx (show i < l.length by omega) (by omega), Int.toNat_natCast]
    refine ih (i + 1) _ (by omega) (by simp; omega) ?_
    intro j hj2
    by_cases h : j = i
    · subst h
      rw [List.getElem?_set_self (by omega), List.getElem?_eq_getElem hlt]
    · rw [List.getElem?_set_ne (by omega)]
      exact hj j (by omega)
theorem toSS (l : List (List Int)) (hl : l.length ≤ 1048576) (hm : ∀ x ∈ l, x.length ≤ 1048576) : Ev (fun k => laws_toIntSS.f k l) l := by
  unfold laws_toIntSS.f
  refine Ev.pos (by omega) ?_
  refine Ev.pos (by omega) ?_
  exact toSS_l l hl hm l.length 0 _ (by omega) (by simp) (by intro j hj; omega)
theorem eqSS_l (l : List (List Int)) (hl : l.length ≤ 1048576) (hm : ∀ x ∈ l, x.length ≤ 1048576) : ∀ (d i : Nat), i + d = l.length → Ev (fun k => laws_eqIntSS.l0 k l l i) true := by
  intro d
  induction d with
  | zero =>
    intro i hi
    refine Ev.step (fun k => laws_eqIntSS.l0.eq_2 _ _ _ k) ?_
    exact Ev.neg (by omega) (Ev.now _)
  | succ d ih =>
    intro i hi
    have hlt : i < l.length := by omega
    refine Ev.step (fun k => laws_eqIntSS.l0.eq_2 _ _ _ k) ?_
    refine Ev.pos (by omega) ?_
    refine Ev.pos (by omega) ?_
    refine Ev.pos (by omega) ?_
    rw [rd1 l i hlt]
    refine Ev.bind (eqInts l[i] (hm _ (List.getElem_mem hlt))) ?_
    refine Ev.pos rfl ?_
    simp only [wnx (show i < l.length by omega) (by omega)]
    exact ih (i + 1) (by omega)
theorem eqSS (l : List (List Int)) (hl : l.length ≤ 1048576) (hm : ∀ x ∈ l, x.length ≤ 1048576) : Ev (fun k => laws_eqIntSS.f k l l) true := by
  unfold laws_eqIntSS.f
  exact Ev.pos rfl (eqSS_l l hl hm l.length 0 (by omega))

theorem ssv_l (m : List (List Int)) (a b : List Int) (hl : m.length ≤ 1048576) (hm : ∀ x ∈ m, x.length ≤ 1048576) (ha : a.length ≤ 1048576) (hb : b.length ≤ 1048576) : ∀ (d i : Nat), i + d = m.length → Ev (fun k => spec_SameVerdicts.l0 k m a b i) (sv (m.drop i) a b) := by
  intro d
  induction d with
  | zero =>
    intro i hi
    refine Ev.step (fun k => spec_SameVerdicts.l0.eq_2 _ _ _ _ k) ?_
    refine Ev.neg (by omega) (Ev.some_ ?_)
    rw [List.drop_eq_nil_of_le (by omega)]; rfl
  | succ d ih =>
    intro i hi
    have hlt : i < m.length := by omega
    have hx := hm m[i] (List.getElem_mem hlt)
    refine Ev.step (fun k => spec_SameVerdicts.l0.eq_2 _ _ _ _ k) ?_
    refine Ev.pos (by omega) ?_
    refine Ev.pos (by omega) ?_
    rw [rd1 m i hlt, List.drop_eq_getElem_cons hlt]
    refine Ev.bind (sfw m[i] a hx ha) ?_
    refine Ev.bind (sfw m[i] b hx hb) ?_
    have e : sv (m[i] :: m.drop (i + 1)) a b = (!(fw m[i] a != fw m[i] b) && sv (m.drop (i + 1)) a b) := by
      unfold sv; rw [List.any_cons, Bool.not_or]
    rw [e]
    by_cases h : (fw m[i] a != fw m[i] b) = true
    · refine Ev.pos h (Ev.some_ ?_)
      rw [h]; rfl
    · refine Ev.neg h ?_
      rw [Bool.eq_false_iff.2 h]
      simp only [wnx hlt (by omega)]
      exact ih (i + 1) (by omega)
theorem ssv (m : List (List Int)) (a b : List Int) (hl : m.length ≤ 1048576) (hm : ∀ x ∈ m, x.length ≤ 1048576) (ha : a.length ≤ 1048576) (hb : b.length ≤ 1048576) : Ev (fun k => spec_SameVerdicts.f k m a b) (sv m a b) := by
  unfold spec_SameVerdicts.f
  exact ssv_l m a b hl hm ha hb m.length 0 (by omega)

theorem FnExactSameVerdicts : ∀ (l0 : List (List Int)) (l1 : List Int) (l2 : List Int), (l0.length ≤ maxLen ∧ ∀ x_ ∈ l0, (x_.length ≤ maxLen ∧ ∀ y_ ∈ x_, (Lit.int .i64 y_).wf = true)) → (l1.length ≤ maxLen ∧ ∀ x_ ∈ l1, (Lit.int .i64 x_).wf = true) → (l2.length ≤ maxLen ∧ ∀ x_ ∈ l2, (Lit.int .i64 x_).wf = true) → ∃ k, laws_FnExactSameVerdicts.f k l0 l1 l2 = some true := by
  intro l a b ⟨h1, h2⟩ _ _
  refine Ev.rounds (g := fun j => laws_FnExactSameVerdicts.f j l a b) ?_
  unfold laws_FnExactSameVerdicts.f
  by_cases ga : (a.length : Int) > 1048576
  · exact Ev.pos ga (Ev.now _)
  refine Ev.neg ga ?_
  by_cases gb : (b.length : Int) > 1048576
  · exact Ev.pos gb (Ev.now _)
  refine Ev.neg gb ?_
  obtain ⟨q, eq, hq⟩ := szSS l 1048576 (by omega) (by omega) h1 (fun x hx => (h2 x hx).1)
  refine Ev.bind eq ?_
  by_cases h0 : q < 0
  · exact Ev.pos h0 (Ev.now _)
  refine Ev.neg h0 ?_
  have ha : a.length ≤ 1048576 := by omega
  have hb : b.length ≤ 1048576 := by omega
  have hl : l.length ≤ 1048576 := by omega
  have hm : ∀ x ∈ l, x.length ≤ 1048576 := fun x hx => by have := tot_mem l x hx; omega
  refine Ev.bind (toSS l hl hm) ?_
  refine Ev.bind (toInts a ha) ?_
  refine Ev.bind (toInts b hb) ?_
  refine Ev.bind (ssv l a b hl hm ha hb) ?_
  refine Ev.bind (toSS l hl hm) ?_
  refine Ev.bind (toInts a ha) ?_
  refine Ev.bind (toInts b hb) ?_
  refine Ev.bnow (isv l a b) ?_
  refine Ev.neg (by simp) ?_
  refine Ev.bind (toSS l hl hm) ?_
  refine Ev.bind (eqSS l hl hm) ?_
  refine Ev.pos rfl ?_
  refine Ev.bind (toInts a ha) ?_
  refine Ev.bind (eqInts a ha) ?_
  refine Ev.pos rfl ?_
  refine Ev.bind (toInts b hb) ?_
  refine Ev.bind (eqInts b hb) ?_
  exact Ev.pos rfl (Ev.now _)

end Go.Proofs.Ytbbfgkjhnfcjiaa.Pure
