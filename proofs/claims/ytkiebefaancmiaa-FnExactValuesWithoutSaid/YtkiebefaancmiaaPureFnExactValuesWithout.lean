/- The law FnExactValuesWithout returns true at every three lists: the program's ValuesWithout answers as the reference's, in memory of its own. No condition. -/
import Derived.Test.YtkiebefaancmiaaHFnExactValuesWithoutx2
namespace Go.Proofs.Ytkiebefaancmiaa.Pure
open Go.RowKit Go.Proofs.Ytkiebefaancmiaa.PFnExactValuesWithout Go.Proofs.YtkiebefaancmiaaW.PrintWords Go.Proofs.YtkiebefaancmiaaW.PrintLast
set_option linter.unusedSimpArgs false
set_option linter.unusedVariables false

theorem wr {x : Int} (h1 : -9223372036854775808 ≤ x) (h2 : x ≤ 9223372036854775807) : wrap64 x = x := by unfold wrap64; omega
theorem Ev.pos {α : Type} {c : Prop} [Decidable c] {g f : Nat → Option α} {r : α} (h : c) (e : Ev g r) : Ev (fun k => if c then g k else f k) r := by
  simp only [if_pos h]; exact e
theorem Ev.neg {α : Type} {c : Prop} [Decidable c] {g f : Nat → Option α} {r : α} (h : ¬ c) (e : Ev f r) : Ev (fun k => if c then g k else f k) r := by
  simp only [if_neg h]; exact e
theorem Ev.some_ {α : Type} {r r' : α} (h : r = r') : Ev (fun _ => some r) r' := h ▸ Ev.now r
theorem Ev.bnow {α β : Type} {g : Option α} {f : Nat → α → Option β} {a : α} {r : β} (h : g = some a) (k : Ev (fun n => f n a) r) : Ev (fun n => g.bind (f n)) r := by
  subst h; exact k

theorem wnx {i n : Nat} (h : i < n) (hn : n ≤ 9223372036854775807) : wrap64 ((i : Int) + 1) = ((i + 1 : Nat) : Int) := by rw [wr (by omega) (by omega)]; rfl
theorem rd_get (l : List Int) (i : Nat) (h : i < l.length) : rd l (i : Int) = l[i] := by simp [rd, List.getD, h]

theorem toInt_l (l : List Int) (hl : l.length ≤ 1048576) : ∀ (d i : Nat) (acc : List Int), i + d = l.length → acc.length = l.length → (∀ j, j < i → acc[j]? = l[j]?) → Ev (fun k => laws_toIntS.l0 k l acc i) l := by
  intro d
  induction d with
  | zero =>
    intro i acc hi ha hj
    refine Ev.step (fun k => laws_toIntS.l0.eq_2 _ _ _ k) ?_
    refine Ev.neg (by omega) (Ev.some_ ?_)
    apply List.ext_getElem?
    intro j
    by_cases h : j < i
    · exact hj j h
    · rw [List.getElem?_eq_none (by omega), List.getElem?_eq_none (by omega)]
  | succ d ih =>
    intro i acc hi ha hj
    refine Ev.step (fun k => laws_toIntS.l0.eq_2 _ _ _ k) ?_
    refine Ev.pos (by omega) ?_
    refine Ev.pos (by omega) ?_
    refine Ev.pos (by omega) ?_
    simp only [wnx (show i < l.length by omega) (by omega), Int.toNat_natCast]
    refine ih (i + 1) _ (by omega) (by simp; omega) ?_
    intro j hj2
    by_cases h : j = i
    · subst h
      have hlt : j < l.length := by omega
      rw [List.getElem?_set_self (by omega), rd_get l j hlt, List.getElem?_eq_getElem hlt]
    · rw [List.getElem?_set_ne (by omega)]
      exact hj j (by omega)
theorem toInts (l : List Int) (hl : l.length ≤ 1048576) : Ev (fun k => laws_toIntS.f k l) l := by
  unfold laws_toIntS.f
  refine Ev.pos (by omega) ?_
  refine Ev.pos (by omega) ?_
  exact toInt_l l hl l.length 0 _ (by omega) (by simp) (by intro j hj; omega)

theorem eqInt_l (l : List Int) (hl : l.length ≤ 1048576) : ∀ (d i : Nat), i + d = l.length → Ev (fun k => laws_eqIntS.l0 k l l i) true := by
  intro d
  induction d with
  | zero =>
    intro i hi
    refine Ev.step (fun k => laws_eqIntS.l0.eq_2 _ _ _ k) ?_
    exact Ev.neg (by omega) (Ev.now _)
  | succ d ih =>
    intro i hi
    refine Ev.step (fun k => laws_eqIntS.l0.eq_2 _ _ _ k) ?_
    refine Ev.pos (by omega) ?_
    refine Ev.pos (by omega) ?_
    refine Ev.pos (by omega) ?_
    refine Ev.pos rfl ?_
    simp only [wnx (show i < l.length by omega) (by omega)]
    exact ih (i + 1) (by omega)
theorem eqInts (l : List Int) (hl : l.length ≤ 1048576) : Ev (fun k => laws_eqIntS.f k l l) true := by
  unfold laws_eqIntS.f
  exact Ev.pos rfl (eqInt_l l hl l.length 0 (by omega))

/-- Numbers from a on. -/
def mkI : Nat → Int → List Int
  | 0, _ => []
  | n + 1, a => a :: mkI n (a + 1)
theorem mkI_len : ∀ (n : Nat) (a : Int), (mkI n a).length = n := by
  intro n
  induction n with
  | zero => intro a; rfl
  | succ n ih => intro a; simp [mkI, ih]
theorem rdI (pre rest : List Int) (x : Int) : rd (pre ++ x :: rest) (pre.length : Int) = x := by
  simp [rd, List.getD]
theorem setI (pre rest : List Int) (x y : Int) : (pre ++ x :: rest).set pre.length y = pre ++ y :: rest := by simp
theorem markI_l : ∀ (rest pre : List Int) (a : Int), 0 ≤ a → a + rest.length ≤ 1000000000000 → pre.length + rest.length ≤ 1048576 → Ev (fun k => laws_markIntS.l0 k (pre ++ rest) a pre.length) (a + rest.length, pre ++ mkI rest.length a) := by
  intro rest
  induction rest with
  | nil =>
    intro pre a h0 h1 h2
    refine Ev.step (fun k => laws_markIntS.l0.eq_2 _ _ _ k) ?_
    refine Ev.neg (by simp) (Ev.some_ ?_)
    simp [mkI]
  | cons x rest ih =>
    intro pre a h0 h1 h2
    rw [List.length_cons] at h1 h2
    refine Ev.step (fun k => laws_markIntS.l0.eq_2 _ _ _ k) ?_
    refine Ev.pos (by simp; omega) ?_
    refine Ev.pos (by omega) ?_
    simp only [Int.toNat_natCast, setI, wnx (show pre.length < 1048577 by omega) (by omega), wr (x := a + 1) (by omega) (by omega)]
    have e := ih (pre ++ [a]) (a + 1) (by omega) (by omega) (by simp; omega)
    rw [List.append_assoc, List.append_assoc, List.length_append] at e
    simp only [List.length_cons, List.length_nil, List.cons_append, List.nil_append] at e
    simp only [List.length_cons, mkI]
    rw [show a + ((rest.length + 1 : Nat) : Int) = a + 1 + (rest.length : Int) by omega]
    exact e
theorem markI (l : List Int) (a : Int) (hl : l.length ≤ 1048576) (h0 : 0 ≤ a) (h1 : a ≤ 100000000000) : Ev (fun k => laws_markIntS.f k l a) (a + l.length, mkI l.length a) := by
  unfold laws_markIntS.f
  have e := markI_l l [] a h0 (by omega) (by simp; omega)
  simpa using e
theorem heldI_l : ∀ (n : Nat) (pre : List Int) (a : Int), 0 ≤ a → a + n ≤ 1000000000000 → pre.length + n ≤ 1048576 → Ev (fun k => laws_heldIntS.l0 k (pre ++ mkI n a) a pre.length) (a + n) := by
  intro n
  induction n with
  | zero =>
    intro pre a h0 h1 h2
    refine Ev.step (fun k => laws_heldIntS.l0.eq_2 _ _ _ k) ?_
    refine Ev.neg (by simp [mkI]) (Ev.some_ (by simp))
  | succ n ih =>
    intro pre a h0 h1 h2
    refine Ev.step (fun k => laws_heldIntS.l0.eq_2 _ _ _ k) ?_
    refine Ev.pos (by simp [mkI]; omega) ?_
    refine Ev.pos (by omega) ?_
    simp only [mkI, rdI]
    refine Ev.pos trivial ?_
    simp only [wnx (show pre.length < 1048577 by omega) (by omega), wr (x := a + 1) (by omega) (by omega)]
    have e := ih (pre ++ [a]) (a + 1) (by omega) (by omega) (by simp; omega)
    rw [List.append_assoc, List.length_append] at e
    simp only [List.length_cons, List.length_nil, List.cons_append, List.nil_append] at e
    rw [show a + ((n + 1 : Nat) : Int) = a + 1 + (n : Int) by omega]
    exact e
theorem heldI (n : Nat) (hn : n ≤ 1048576) : Ev (fun k => laws_heldIntS.f k (mkI n 1) 1) (1 + n) := by
  unfold laws_heldIntS.f
  have e := heldI_l n [] 1 (by omega) (by omega) (by simp; omega)
  simpa using e

def wo (drop : List Int) : List Int → List Int → List Int
  | x :: a, y :: b => if drop.any (fun z => z == y) = true then wo drop a b else x :: wo drop a b
  | _, _ => []
theorem wo_len (drop : List Int) : ∀ a b, (wo drop a b).length ≤ a.length := by
  intro a
  induction a with
  | nil => intro b; simp [wo]
  | cons x a ih =>
    intro b
    cases b with
    | nil => simp [wo]
    | cons y b => have := ih b; simp only [wo]; split <;> simp <;> omega
theorem wo_nil (drop : List Int) : ∀ a, wo drop a [] = [] := fun a => by cases a <;> rfl

theorem idx_l (l : List Int) (x : Int) (hl : l.length ≤ 1048576) : ∀ (d i : Nat), i + d = l.length → ∃ r, Ev (fun k => slices_Index_int_int.l0 k l x l.length i) r ∧ decide (r ≥ 0) = (l.drop i).any (fun z => z == x) := by
  intro d
  induction d with
  | zero =>
    intro i hi
    refine ⟨-1, Ev.step (fun k => slices_Index_int_int.l0.eq_2 _ _ _ _ k) (Ev.neg (by omega) (Ev.now _)), ?_⟩
    rw [List.drop_eq_nil_of_le (by omega)]; rfl
  | succ d ih =>
    intro i hi
    have hlt : i < l.length := by omega
    rw [List.drop_eq_getElem_cons hlt, List.any_cons]
    by_cases h : x = l[i]
    · refine ⟨i, Ev.step (fun k => slices_Index_int_int.l0.eq_2 _ _ _ _ k) (Ev.pos (by omega) (Ev.pos (by omega) (Ev.pos (by omega) ?_))), ?_⟩
      · rw [rd_get l i hlt]
        exact Ev.pos h (Ev.now _)
      · have : (l[i] == x) = true := by rw [h]; simp
        rw [this]
        simp
    · obtain ⟨r, e, hr⟩ := ih (i + 1) (by omega)
      refine ⟨r, Ev.step (fun k => slices_Index_int_int.l0.eq_2 _ _ _ _ k) (Ev.pos (by omega) (Ev.pos (by omega) (Ev.pos (by omega) ?_))), ?_⟩
      · rw [rd_get l i hlt]
        refine Ev.neg h ?_
        simp only [wnx hlt (by omega)]
        exact e
      · have : (l[i] == x) = false := by simpa using fun q => h q.symm
        rw [this, Bool.false_or]
        exact hr
theorem contains (l : List Int) (x : Int) (hl : l.length ≤ 1048576) : Ev (fun k => slices_Contains_int_int.f k l x) (l.any (fun z => z == x)) := by
  obtain ⟨r, e, hr⟩ := idx_l l x hl l.length 0 (by omega)
  unfold slices_Contains_int_int.f
  refine Ev.bind (a := r) (by unfold slices_Index_int_int.f; exact e) (Ev.some_ ?_)
  simpa using hr

theorem has_l (l : List Int) (x : Int) (hl : l.length ≤ 1048576) : ∀ (d i : Nat), i + d = l.length → Ev (fun k => spec_l7Has.l0 k l x i) ((l.drop i).any (fun z => z == x)) := by
  intro d
  induction d with
  | zero =>
    intro i hi
    refine Ev.step (fun k => spec_l7Has.l0.eq_2 _ _ _ k) ?_
    refine Ev.neg (by omega) (Ev.some_ ?_)
    rw [List.drop_eq_nil_of_le (by omega)]; rfl
  | succ d ih =>
    intro i hi
    have hlt : i < l.length := by omega
    refine Ev.step (fun k => spec_l7Has.l0.eq_2 _ _ _ k) ?_
    refine Ev.pos (by omega) ?_
    refine Ev.pos (by omega) ?_
    rw [rd_get l i hlt, List.drop_eq_getElem_cons hlt, List.any_cons]
    by_cases h : l[i] = x
    · refine Ev.pos h (Ev.some_ ?_)
      rw [h]; simp
    · refine Ev.neg h ?_
      have : (l[i] == x) = false := by simpa using h
      rw [this, Bool.false_or]
      simp only [wnx hlt (by omega)]
      exact ih (i + 1) (by omega)
theorem has (l : List Int) (x : Int) (hl : l.length ≤ 1048576) : Ev (fun k => spec_l7Has.f k l x) (l.any (fun z => z == x)) := by
  unfold spec_l7Has.f
  exact has_l l x hl l.length 0 (by omega)
theorem specWo_l (a b c : List Int) (ha : a.length ≤ 1048576) (hb : b.length ≤ 1048576) (hc : c.length ≤ 1048576) : ∀ (d i : Nat) (acc : List Int), i + d = min a.length b.length → acc.length ≤ i → Ev (fun k => spec_ValuesWithout.l0 k a b c acc i) (acc ++ wo c (a.drop i) (b.drop i)) := by
  intro d
  induction d with
  | zero =>
    intro i acc hi hacc
    refine Ev.step (fun k => spec_ValuesWithout.l0.eq_2 _ _ _ _ _ k) ?_
    have fin : Ev (fun k => spec_ValuesWithout.j1 k a b c acc i false) (acc ++ wo c (a.drop i) (b.drop i)) := by
      refine Ev.step (fun k => spec_ValuesWithout.j1.eq_2 _ _ _ _ _ _ k) ?_
      refine Ev.neg (by simp) (Ev.some_ ?_)
      by_cases h : a.length ≤ i
      · rw [List.drop_eq_nil_of_le h]; simp [wo]
      · have e : b.drop i = [] := List.drop_eq_nil_of_le (by omega)
        rw [e, wo_nil]; simp
    by_cases h : (i : Int) < (a.length : Int)
    · refine Ev.pos h ?_
      rw [decide_eq_false (show ¬ (i : Int) < (b.length : Int) by omega)]
      exact fin
    · exact Ev.neg h fin
  | succ d ih =>
    intro i acc hi hacc
    have h1 : i < a.length := by omega
    have h2 : i < b.length := by omega
    refine Ev.step (fun k => spec_ValuesWithout.l0.eq_2 _ _ _ _ _ k) ?_
    refine Ev.pos (by omega) ?_
    rw [decide_eq_true (show (i : Int) < (b.length : Int) by omega)]
    refine Ev.step (fun k => spec_ValuesWithout.j1.eq_2 _ _ _ _ _ _ k) ?_
    refine Ev.pos rfl ?_
    refine Ev.pos (by omega) ?_
    refine Ev.pos (by omega) ?_
    rw [rd_get a i h1, rd_get b i h2, List.drop_eq_getElem_cons h1, List.drop_eq_getElem_cons h2]
    refine Ev.bind (has c _ hc) ?_
    simp only [wnx h1 (by omega), wo]
    cases h : c.any (fun z => z == b[i]) with
    | true =>
      refine Ev.pos rfl ?_
      rw [if_pos rfl]
      exact ih (i + 1) acc (by omega) (by omega)
    | false =>
      refine Ev.neg (by simp) ?_
      rw [if_neg (by simp)]
      refine Ev.pos (by omega) ?_
      refine Ev.pos (by omega) ?_
      have e := ih (i + 1) (acc ++ [a[i]]) (by omega) (by simp; omega)
      rw [List.append_assoc] at e
      exact e
theorem implWo_l (a b c : List Int) (ha : a.length ≤ 1048576) (hb : b.length ≤ 1048576) (hc : c.length ≤ 1048576) : ∀ (d i : Nat) (acc : List Int), i + d = min a.length b.length → acc.length ≤ i → Ev (fun k => impl_ValuesWithout.l0 k a b c acc ((min a.length b.length : Nat) : Int) i) (acc ++ wo c (a.drop i) (b.drop i)) := by
  intro d
  induction d with
  | zero =>
    intro i acc hi hacc
    refine Ev.step (fun k => impl_ValuesWithout.l0.eq_2 _ _ _ _ _ _ k) ?_
    refine Ev.neg (by omega) (Ev.some_ ?_)
    by_cases h : a.length ≤ i
    · rw [List.drop_eq_nil_of_le h]; simp [wo]
    · have e : b.drop i = [] := List.drop_eq_nil_of_le (by omega)
      rw [e, wo_nil]; simp
  | succ d ih =>
    intro i acc hi hacc
    have h1 : i < a.length := by omega
    have h2 : i < b.length := by omega
    refine Ev.step (fun k => impl_ValuesWithout.l0.eq_2 _ _ _ _ _ _ k) ?_
    refine Ev.pos (by omega) ?_
    refine Ev.pos (by omega) ?_
    refine Ev.pos (by omega) ?_
    rw [rd_get a i h1, rd_get b i h2, List.drop_eq_getElem_cons h1, List.drop_eq_getElem_cons h2]
    refine Ev.bind (contains c _ hc) ?_
    simp only [wnx h1 (by omega), wo]
    cases h : c.any (fun z => z == b[i]) with
    | true =>
      refine Ev.pos rfl ?_
      rw [if_pos rfl]
      exact ih (i + 1) acc (by omega) (by omega)
    | false =>
      refine Ev.neg (by simp) ?_
      rw [if_neg (by simp)]
      refine Ev.pos (by omega) ?_
      refine Ev.pos (by omega) ?_
      have e := ih (i + 1) (acc ++ [a[i]]) (by omega) (by simp; omega)
      rw [List.append_assoc] at e
      exact e
theorem specWo (a b c : List Int) (ha : a.length ≤ 1048576) (hb : b.length ≤ 1048576) (hc : c.length ≤ 1048576) : Ev (fun k => spec_ValuesWithout.f k a b c) (wo c a b) := by
  unfold spec_ValuesWithout.f
  exact specWo_l a b c ha hb hc (min a.length b.length) 0 [] (by omega) (by simp)
theorem implWo (a b c : List Int) (ha : a.length ≤ 1048576) (hb : b.length ≤ 1048576) (hc : c.length ≤ 1048576) : Ev (fun k => impl_ValuesWithout.f k a b c) (wo c a b) := by
  unfold impl_ValuesWithout.f
  have hm : mn (a.length : Int) (b.length : Int) = ((min a.length b.length : Nat) : Int) := by unfold mn; split <;> omega
  rw [hm]
  exact implWo_l a b c ha hb hc (min a.length b.length) 0 [] (by omega) (by simp)
theorem FnExactValuesWithout : laws_FnExactValuesWithout.Pure := by
  intro a b c _ _ _ _ _ _ _ _ _
  refine Ev.rounds (g := fun j => laws_FnExactValuesWithout.f j a b c) ?_
  unfold laws_FnExactValuesWithout.f
  by_cases h : (a.length : Int) > 1048576
  · exact Ev.pos h (Ev.now _)
  refine Ev.neg h ?_
  by_cases h2 : (b.length : Int) > 1048576
  · exact Ev.pos h2 (Ev.now _)
  refine Ev.neg h2 ?_
  by_cases h3 : (c.length : Int) > 1048576
  · exact Ev.pos h3 (Ev.now _)
  refine Ev.neg h3 ?_
  have ha : a.length ≤ 1048576 := by omega
  have hb : b.length ≤ 1048576 := by omega
  have hc : c.length ≤ 1048576 := by omega
  have hw : (wo c a b).length ≤ 1048576 := by have := wo_len c a b; omega
  refine Ev.bind (toInts a ha) ?_
  refine Ev.bind (toInts b hb) ?_
  refine Ev.bind (toInts c hc) ?_
  refine Ev.bind (specWo a b c ha hb hc) ?_
  refine Ev.bind (toInts a ha) ?_
  refine Ev.bind (toInts b hb) ?_
  refine Ev.bind (toInts c hc) ?_
  refine Ev.bind (implWo a b c ha hb hc) ?_
  refine Ev.bind (eqInts _ hw) ?_
  refine Ev.pos rfl ?_
  refine Ev.bind (toInts a ha) ?_
  refine Ev.bind (eqInts a ha) ?_
  refine Ev.pos rfl ?_
  refine Ev.bind (toInts b hb) ?_
  refine Ev.bind (eqInts b hb) ?_
  refine Ev.pos rfl ?_
  refine Ev.bind (toInts c hc) ?_
  refine Ev.bind (eqInts c hc) ?_
  refine Ev.pos rfl ?_
  refine Ev.bind (markI a 1 ha (by omega) (by omega)) ?_
  refine Ev.bind (markI b (1 + a.length) hb (by omega) (by omega)) ?_
  refine Ev.bind (markI c (1 + a.length + b.length) hc (by omega) (by omega)) ?_
  dsimp only
  refine Ev.neg (by omega) ?_
  refine Ev.bind (eqInts _ hw) ?_
  refine Ev.step (fun k => laws_FnExactValuesWithout.j0.eq_2 _ _ _ _ _ _ k) ?_
  refine Ev.neg (by simp) ?_
  refine Ev.bind (markI _ 1 hw (by omega) (by omega)) ?_
  refine Ev.bind (heldI _ hw) ?_
  refine Ev.neg (by omega) ?_
  refine Ev.pos rfl ?_
  refine Ev.bind (toInts a ha) ?_
  refine Ev.bind (toInts b hb) ?_
  refine Ev.bind (toInts c hc) ?_
  refine Ev.bind (implWo a b c ha hb hc) ?_
  refine Ev.bind (eqInts _ hw) ?_
  refine Ev.pos rfl ?_
  refine Ev.bind (heldI _ hw) ?_
  refine Ev.neg (by omega) ?_
  exact Ev.pos rfl (Ev.now _)

end Go.Proofs.Ytkiebefaancmiaa.Pure
