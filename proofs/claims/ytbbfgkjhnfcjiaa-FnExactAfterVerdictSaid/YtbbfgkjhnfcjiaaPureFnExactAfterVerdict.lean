/- The law FnExactAfterVerdict returns true at every list of guesses, every row and both verdicts: the program's AfterVerdict answers as the reference's. No condition. -/
import Derived.Test.YtbbfgkjhnfcjiaaHFnExactAfterVerdictx3
namespace Go.Proofs.Ytbbfgkjhnfcjiaa.Pure
open Go.RowKit Go.Proofs.Ytbbfgkjhnfcjiaa.PFnExactAfterVerdict Go.Proofs.YtbbfgkjhnfcjiaaW.PrintWords Go.Proofs.YtbbfgkjhnfcjiaaW.PrintLast
set_option linter.unusedSimpArgs false
set_option linter.unusedVariables false

def fwB (row : List Int) (k : Int) : Bool := decide (0 ≤ k ∧ k < row.length ∧ rd row k = 1)
/-- whether a row fails with these links. -/
def fw (row g : List Int) : Bool := g.any (fwB row)

theorem ifw (row g : List Int) : impl_FailsWith.f row g = some (fw row g) := rfl

theorem wr {x : Int} (h1 : -9223372036854775808 ≤ x) (h2 : x ≤ 9223372036854775807) : wrap64 x = x := by unfold wrap64; omega
theorem Ev.pos {α : Type} {c : Prop} [Decidable c] {g f : Nat → Option α} {r : α} (h : c) (e : Ev g r) : Ev (fun k => if c then g k else f k) r := by
  simp only [if_pos h]; exact e
theorem Ev.neg {α : Type} {c : Prop} [Decidable c] {g f : Nat → Option α} {r : α} (h : ¬ c) (e : Ev f r) : Ev (fun k => if c then g k else f k) r := by
  simp only [if_neg h]; exact e
theorem Ev.some_ {α : Type} {r r' : α} (h : r = r') : Ev (fun _ => some r) r' := h ▸ Ev.now r
theorem Ev.bnow {α β : Type} {g : Option α} {f : Nat → α → Option β} {a : α} {r : β} (h : g = some a) (k : Ev (fun n => f n a) r) : Ev (fun n => g.bind (f n)) r := by
  subst h; exact k

theorem wnx {i n : Nat} (h : i < n) (hn : n ≤ 9223372036854775807) : wrap64 ((i : Int) + 1) = ((i + 1 : Nat) : Int) := by rw [wr (by omega) (by omega)]; rfl
theorem rd_get (l : List Int) (i : Nat) (h : i < l.length) : rd l (i : Int) = l[i] := by simp [rd, List.getD, h]

theorem toInt_l (l : List Int) (hl : l.length ≤ 1048576) : ∀ (d i : Nat) (acc : List Int), i + d = l.length → acc.length = l.length → (∀ j, j < i → acc[j]? = l[j]?) → Ev (fun k => laws_toIntS.l0 k l acc i) l := by
  intro d
  induction d with
  | zero =>
    intro i acc hi ha hj
    refine Ev.step (fun k => laws_toIntS.l0.eq_2 _ _ _ k) ?_
    refine Ev.neg (by omega) (Ev.some_ ?_)
    apply List.ext_getElem?
    intro j
    by_cases h : j < i
    · exact hj j h
    · rw [List.getElem?_eq_none (by omega), List.getElem?_eq_none (by omega)]
  | succ d ih =>
    intro i acc hi ha hj
    refine Ev.step (fun k => laws_toIntS.l0.eq_2 _ _ _ k) ?_
    refine Ev.pos (by omega) ?_
    refine Ev.pos (by omega) ?_
    refine Ev.pos (by omega) ?_
    simp only [wnx (show i < l.length by omega) (by omega), Int.toNat_natCast]
    refine ih (i + 1) _ (by omega) (by simp; omega) ?_
    intro j hj2
    by_cases h : j = i
    · subst h
      have hlt : j < l.length := by omega
      rw [List.getElem?_set_self (by omega), rd_get l j hlt, List.getElem?_eq_getElem hlt]
    · rw [List.getElem?_set_ne (by omega)]
      exact hj j (by omega)
theorem toInts (l : List Int) (hl : l.length ≤ 1048576) : Ev (fun k => laws_toIntS.f k l) l := by
  unfold laws_toIntS.f
  refine Ev.pos (by omega) ?_
  refine Ev.pos (by omega) ?_
  exact toInt_l l hl l.length 0 _ (by omega) (by simp) (by intro j hj; omega)

theorem eqInt_l (l : List Int) (hl : l.length ≤ 1048576) : ∀ (d i : Nat), i + d = l.length → Ev (fun k => laws_eqIntS.l0 k l l i) true := by
  intro d
  induction d with
  | zero =>
    intro i hi
    refine Ev.step (fun k => laws_eqIntS.l0.eq_2 _ _ _ k) ?_
    exact Ev.neg (by omega) (Ev.now _)
  | succ d ih =>
    intro i hi
    refine Ev.step (fun k => laws_eqIntS.l0.eq_2 _ _ _ k) ?_
    refine Ev.pos (by omega) ?_
    refine Ev.pos (by omega) ?_
    refine Ev.pos (by omega) ?_
    refine Ev.pos rfl ?_
    simp only [wnx (show i < l.length by omega) (by omega)]
    exact ih (i + 1) (by omega)
theorem eqInts (l : List Int) (hl : l.length ≤ 1048576) : Ev (fun k => laws_eqIntS.f k l l) true := by
  unfold laws_eqIntS.f
  exact Ev.pos rfl (eqInt_l l hl l.length 0 (by omega))

def tot (l : List (List Int)) : Nat := (l.map List.length).sum
theorem rd1 (l : List (List Int)) (i : Nat) (h : i < l.length) : rd_L1 l (i : Int) = l[i] := by simp [rd_L1, List.getD, h]
theorem tot_mem : ∀ (l : List (List Int)) (x : List Int), x ∈ l → x.length ≤ tot l := by
  intro l
  induction l with
  | nil => intro x h; cases h
  | cons y l ih =>
    intro x h
    simp only [tot, List.map_cons, List.sum_cons]
    rcases List.mem_cons.1 h with rfl | h
    · omega
    · have := ih x h; unfold tot at this; omega
theorem szSS_l (l : List (List Int)) (hl : l.length ≤ 1048576) (hm : ∀ x ∈ l, x.length ≤ maxLen) : ∀ (d i : Nat) (q : Int), i + d = l.length → 0 ≤ q → q ≤ 1048576 → ∃ t, Ev (fun k => laws_szIntSS.l0 k l q i) t ∧ (t < 0 ∨ (t = q - tot (l.drop i) ∧ 0 ≤ t)) := by
  intro d
  induction d with
  | zero =>
    intro i q hi h0 h1
    refine ⟨q, Ev.step (fun k => laws_szIntSS.l0.eq_2 _ _ _ k) (Ev.neg (by omega) (Ev.now _)), .inr ?_⟩
    rw [List.drop_eq_nil_of_le (by omega)]
    simp [tot]; omega
  | succ d ih =>
    intro i q hi h0 h1
    have hlt : i < l.length := by omega
    have hx := hm l[i] (List.getElem_mem hlt)
    unfold maxLen at hx
    have e0 : laws_szIntS.f l[i] q = some (if q - (l[i].length : Int) < 0 then -1 else q - (l[i].length : Int)) := by
      unfold laws_szIntS.f
      rw [wr (x := q - (l[i].length : Int)) (by omega) (by omega)]
      split <;> rfl
    by_cases h : q - (l[i].length : Int) < 0
    · rw [if_pos h] at e0
      refine ⟨-1, Ev.step (fun k => laws_szIntSS.l0.eq_2 _ _ _ k) (Ev.pos (by omega) (Ev.pos (by omega) ?_)), .inl (by omega)⟩
      rw [rd1 l i hlt]
      exact Ev.bnow e0 (Ev.pos (by omega) (Ev.now _))
    · rw [if_neg h] at e0
      obtain ⟨t, et, ht⟩ := ih (i + 1) (q - (l[i].length : Int)) (by omega) (by omega) (by omega)
      refine ⟨t, Ev.step (fun k => laws_szIntSS.l0.eq_2 _ _ _ k) (Ev.pos (by omega) (Ev.pos (by omega) ?_)), ?_⟩
      · rw [rd1 l i hlt]
        refine Ev.bnow e0 (Ev.neg h ?_)
        simp only [wnx hlt (by omega)]
        exact et
      · rcases ht with ht | ⟨ht, h2⟩
        · exact .inl ht
        · refine .inr ⟨?_, h2⟩
          have : tot (l.drop i) = l[i].length + tot (l.drop (i + 1)) := by
            rw [List.drop_eq_getElem_cons hlt]; simp only [tot, List.map_cons, List.sum_cons]
          omega
theorem szSS (l : List (List Int)) (q : Int) (h0 : 0 ≤ q) (h1 : q ≤ 1048576) (hl : l.length ≤ maxLen) (hm : ∀ x ∈ l, x.length ≤ maxLen) : ∃ t, Ev (fun k => laws_szIntSS.f k l q) t ∧ (t < 0 ∨ (t = q - l.length - tot l ∧ 0 ≤ t)) := by
  unfold maxLen at hl
  unfold laws_szIntSS.f
  rw [wr (x := q - (l.length : Int)) (by omega) (by omega)]
  by_cases h : q - (l.length : Int) < 0
  · exact ⟨-1, Ev.pos h (Ev.now _), .inl (by omega)⟩
  · obtain ⟨t, et, ht⟩ := szSS_l l (by omega) hm l.length 0 (q - (l.length : Int)) (by omega) (by omega) (by omega)
    exact ⟨t, Ev.neg h et, ht⟩
theorem toSS_l (l : List (List Int)) (hl : l.length ≤ 1048576) (hm : ∀ x ∈ l, x.length ≤ 1048576) : ∀ (d i : Nat) (acc : List (List Int)), i + d = l.length → acc.length = l.length → (∀ j, j < i → acc[j]? = l[j]?) → Ev (fun k => laws_toIntSS.l0 k l acc i) l := by
  intro d
  induction d with
  | zero =>
    intro i acc hi ha hj
    refine Ev.step (fun k => laws_toIntSS.l0.eq_2 _ _ _ k) ?_
    refine Ev.neg (by omega) (Ev.some_ ?_)
    apply List.ext_getElem?
    intro j
    by_cases h : j < i
    · exact hj j h
    · rw [List.getElem?_eq_none (by omega), List.getElem?_eq_none (by omega)]
  | succ d ih =>
    intro i acc hi ha hj
    have hlt : i < l.length := by omega
    refine Ev.step (fun k => laws_toIntSS.l0.eq_2 _ _ _ k) ?_
    refine Ev.pos (by omega) ?_
    refine Ev.pos (by omega) ?_
    rw [rd1 l i hlt]
    refine Ev.bind (toInts l[i] (hm _ (List.getElem_mem hlt))) ?_
    refine Ev.pos (by omega) ?_
    simp only [wnx (show i < l.length by omega) (by omega), Int.toNat_natCast]
    refine ih (i + 1) _ (by omega) (by simp; omega) ?_
    intro j hj2
    by_cases h : j = i
    · subst h
      rw [List.getElem?_set_self (by omega), List.getElem?_eq_getElem hlt]
    · rw [List.getElem?_set_ne (by omega)]
      exact hj j (by omega)
theorem toSS (l : List (List Int)) (hl : l.length ≤ 1048576) (hm : ∀ x ∈ l, x.length ≤ 1048576) : Ev (fun k => laws_toIntSS.f k l) l := by
  unfold laws_toIntSS.f
  refine Ev.pos (by omega) ?_
  refine Ev.pos (by omega) ?_
  exact toSS_l l hl hm l.length 0 _ (by omega) (by simp) (by intro j hj; omega)
theorem eqSS_l (l : List (List Int)) (hl : l.length ≤ 1048576) (hm : ∀ x ∈ l, x.length ≤ 1048576) : ∀ (d i : Nat), i + d = l.length → Ev (fun k => laws_eqIntSS.l0 k l l i) true := by
  intro d
  induction d with
  | zero =>
    intro i hi
    refine Ev.step (fun k => laws_eqIntSS.l0.eq_2 _ _ _ k) ?_
    exact Ev.neg (by omega) (Ev.now _)
  | succ d ih =>
    intro i hi
    have hlt : i < l.length := by omega
    refine Ev.step (fun k => laws_eqIntSS.l0.eq_2 _ _ _ k) ?_
    refine Ev.pos (by omega) ?_
    refine Ev.pos (by omega) ?_
    refine Ev.pos (by omega) ?_
    rw [rd1 l i hlt]
    refine Ev.bind (eqInts l[i] (hm _ (List.getElem_mem hlt))) ?_
    refine Ev.pos rfl ?_
    simp only [wnx (show i < l.length by omega) (by omega)]
    exact ih (i + 1) (by omega)
theorem eqSS (l : List (List Int)) (hl : l.length ≤ 1048576) (hm : ∀ x ∈ l, x.length ≤ 1048576) : Ev (fun k => laws_eqIntSS.f k l l) true := by
  unfold laws_eqIntSS.f
  exact Ev.pos rfl (eqSS_l l hl hm l.length 0 (by omega))

/-- The guesses of one verdict. -/
def av (row : List Int) (b : Bool) (l : List (List Int)) : List (List Int) := l.filter (fun g => fw row g == b)
theorem av_cons (row g : List Int) (b : Bool) (l : List (List Int)) : av row b (g :: l) = if (fw row g == b) = true then g :: av row b l else av row b l := by
  unfold av; rw [List.filter_cons]
theorem iav_l (row : List Int) (b : Bool) (l : List (List Int)) (hl : l.length ≤ 1048576) (hm : ∀ x ∈ l, x.length ≤ 1048576) : ∀ (d i : Nat) (acc : List (List Int)), i + d = l.length → acc.length ≤ i → Ev (fun k => impl_AfterVerdict.l0 k row b acc l l.length i) (acc ++ av row b (l.drop i)) := by
  intro d
  induction d with
  | zero =>
    intro i acc hi ha
    refine Ev.step (fun k => impl_AfterVerdict.l0.eq_2 _ _ _ _ _ _ k) ?_
    refine Ev.neg (by omega) (Ev.some_ ?_)
    rw [List.drop_eq_nil_of_le (by omega)]; simp [av]
  | succ d ih =>
    intro i acc hi ha
    have hlt : i < l.length := by omega
    have hx := hm l[i] (List.getElem_mem hlt)
    refine Ev.step (fun k => impl_AfterVerdict.l0.eq_2 _ _ _ _ _ _ k) ?_
    refine Ev.pos (by omega) ?_
    refine Ev.pos (by omega) ?_
    refine Ev.pos (by omega) ?_
    rw [rd1 l i hlt, List.drop_eq_getElem_cons hlt, av_cons]
    refine Ev.bnow (ifw _ _) ?_
    simp only [wnx hlt (by omega)]
    by_cases h : (fw row l[i] == b) = true
    · refine Ev.pos h ?_
      refine Ev.pos (by simp; omega) ?_
      refine Ev.pos (by omega) ?_
      rw [if_pos h]
      have e := ih (i + 1) (acc ++ [l[i]]) (by omega) (by simp; omega)
      rw [List.append_assoc] at e
      exact e
    · refine Ev.neg h ?_
      rw [if_neg h]
      exact ih (i + 1) acc (by omega) (by omega)
theorem iav (row : List Int) (b : Bool) (l : List (List Int)) (hl : l.length ≤ 1048576) (hm : ∀ x ∈ l, x.length ≤ 1048576) : Ev (fun k => impl_AfterVerdict.f k l row b) (av row b l) := by
  unfold impl_AfterVerdict.f
  exact iav_l row b l hl hm l.length 0 [] (by omega) (by simp)
theorem av_len (row : List Int) (b : Bool) (l : List (List Int)) : (av row b l).length ≤ l.length := List.length_filter_le _ _
theorem av_sum (row : List Int) : ∀ (l : List (List Int)), (av row true l).length + (av row false l).length = l.length := by
  intro l
  induction l with
  | nil => rfl
  | cons g l ih =>
    rw [av_cons, av_cons]
    cases fw row g <;> simp <;> omega
/-- The greater part that a verdict leaves. -/
def wl (l : List (List Int)) (row : List Int) : Nat := max (av row true l).length (l.length - (av row true l).length)

theorem specIn (a l h : Int) : spec_l1In.f a l h = some (decide (l ≤ a ∧ a ≤ h)) := by
  unfold spec_l1In.f
  by_cases h1 : l ≤ a <;> simp [h1]

theorem sfw_l (row g : List Int) (hr : row.length ≤ 1048576) (hg : g.length ≤ 1048576) : ∀ (d i : Nat), i + d = g.length → Ev (fun k => spec_FailsWith.l0 k row g i) ((g.drop i).any (fwB row)) := by
  intro d
  induction d with
  | zero =>
    intro i hi
    refine Ev.step (fun k => spec_FailsWith.l0.eq_2 _ _ _ k) ?_
    refine Ev.neg (by omega) (Ev.some_ ?_)
    rw [List.drop_eq_nil_of_le (by omega)]; rfl
  | succ d ih =>
    intro i hi
    have hlt : i < g.length := by omega
    refine Ev.step (fun k => spec_FailsWith.l0.eq_2 _ _ _ k) ?_
    refine Ev.pos (by omega) ?_
    refine Ev.pos (by omega) ?_
    rw [rd_get g i hlt, List.drop_eq_getElem_cons hlt, List.any_cons, wr (x := (row.length : Int) - 1) (by omega) (by omega)]
    refine Ev.bnow (specIn _ _ _) ?_
    by_cases h : 0 ≤ g[i] ∧ g[i] ≤ (row.length : Int) - 1
    · refine Ev.pos (decide_eq_true h) ?_
      refine Ev.pos h.1 ?_
      refine Ev.pos (by omega) ?_
      by_cases h1 : rd row g[i] = 1
      · refine Ev.pos h1 (Ev.some_ ?_)
        have : fwB row g[i] = true := decide_eq_true ⟨h.1, by omega, h1⟩
        rw [this]; rfl
      · refine Ev.neg h1 ?_
        have : fwB row g[i] = false := decide_eq_false (fun x => h1 x.2.2)
        rw [this, Bool.false_or]
        simp only [wnx hlt (by omega)]
        exact ih (i + 1) (by omega)
    · refine Ev.neg (by rw [decide_eq_false h]; simp) ?_
      have : fwB row g[i] = false := decide_eq_false (fun x => h ⟨x.1, by omega⟩)
      rw [this, Bool.false_or]
      simp only [wnx hlt (by omega)]
      exact ih (i + 1) (by omega)
theorem sfw (row g : List Int) (hr : row.length ≤ 1048576) (hg : g.length ≤ 1048576) : Ev (fun k => spec_FailsWith.f k row g) (fw row g) := by
  unfold spec_FailsWith.f
  exact sfw_l row g hr hg g.length 0 (by omega)

theorem sav_l (row : List Int) (b : Bool) (l : List (List Int)) (hr : row.length ≤ 1048576) (hl : l.length ≤ 1048576) (hm : ∀ x ∈ l, x.length ≤ 1048576) : ∀ (d i : Nat) (acc : List (List Int)), i + d = l.length → acc.length ≤ i → Ev (fun k => spec_AfterVerdict.l0 k l row b acc i) (acc ++ av row b (l.drop i)) := by
  intro d
  induction d with
  | zero =>
    intro i acc hi ha
    refine Ev.step (fun k => spec_AfterVerdict.l0.eq_2 _ _ _ _ _ k) ?_
    refine Ev.neg (by omega) (Ev.some_ ?_)
    rw [List.drop_eq_nil_of_le (by omega)]; simp [av]
  | succ d ih =>
    intro i acc hi ha
    have hlt : i < l.length := by omega
    have hx := hm l[i] (List.getElem_mem hlt)
    refine Ev.step (fun k => spec_AfterVerdict.l0.eq_2 _ _ _ _ _ k) ?_
    refine Ev.pos (by omega) ?_
    refine Ev.pos (by omega) ?_
    rw [rd1 l i hlt, List.drop_eq_getElem_cons hlt, av_cons]
    refine Ev.bind (sfw row l[i] hr hx) ?_
    simp only [wnx hlt (by omega)]
    by_cases h : (fw row l[i] == b) = true
    · refine Ev.pos h ?_
      refine Ev.bnow rfl ?_
      refine Ev.pos (by simp; omega) ?_
      refine Ev.pos (by omega) ?_
      rw [if_pos h]
      have e := ih (i + 1) (acc ++ [l[i]]) (by omega) (by simp; omega)
      rw [List.append_assoc] at e
      exact e
    · refine Ev.neg h ?_
      rw [if_neg h]
      exact ih (i + 1) acc (by omega) (by omega)
theorem sav (row : List Int) (b : Bool) (l : List (List Int)) (hr : row.length ≤ 1048576) (hl : l.length ≤ 1048576) (hm : ∀ x ∈ l, x.length ≤ 1048576) : Ev (fun k => spec_AfterVerdict.f k l row b) (av row b l) := by
  unfold spec_AfterVerdict.f
  exact sav_l row b l hr hl hm l.length 0 [] (by omega) (by simp)

/-- Numbers from a on. -/
def mkI : Nat → Int → List Int
  | 0, _ => []
  | n + 1, a => a :: mkI n (a + 1)
theorem mkI_len : ∀ (n : Nat) (a : Int), (mkI n a).length = n := by
  intro n
  induction n with
  | zero => intro a; rfl
  | succ n ih => intro a; simp [mkI, ih]
theorem rdI (pre rest : List Int) (x : Int) : rd (pre ++ x :: rest) (pre.length : Int) = x := by
  simp [rd, List.getD]
theorem setI (pre rest : List Int) (x y : Int) : (pre ++ x :: rest).set pre.length y = pre ++ y :: rest := by simp
theorem markI_l : ∀ (rest pre : List Int) (a : Int), 0 ≤ a → a + rest.length ≤ 1000000000000 → pre.length + rest.length ≤ 1048576 → Ev (fun k => laws_markIntS.l0 k (pre ++ rest) a pre.length) (a + rest.length, pre ++ mkI rest.length a) := by
  intro rest
  induction rest with
  | nil =>
    intro pre a h0 h1 h2
    refine Ev.step (fun k => laws_markIntS.l0.eq_2 _ _ _ k) ?_
    refine Ev.neg (by simp) (Ev.some_ ?_)
    simp [mkI]
  | cons x rest ih =>
    intro pre a h0 h1 h2
    rw [List.length_cons] at h1 h2
    refine Ev.step (fun k => laws_markIntS.l0.eq_2 _ _ _ k) ?_
    refine Ev.pos (by simp; omega) ?_
    refine Ev.pos (by omega) ?_
    simp only [Int.toNat_natCast, setI, wnx (show pre.length < 1048577 by omega) (by omega), wr (x := a + 1) (by omega) (by omega)]
    have e := ih (pre ++ [a]) (a + 1) (by omega) (by omega) (by simp; omega)
    rw [List.append_assoc, List.append_assoc, List.length_append] at e
    simp only [List.length_cons, List.length_nil, List.cons_append, List.nil_append] at e
    simp only [List.length_cons, mkI]
    rw [show a + ((rest.length + 1 : Nat) : Int) = a + 1 + (rest.length : Int) by omega]
    exact e
theorem markI (l : List Int) (a : Int) (hl : l.length ≤ 1048576) (h0 : 0 ≤ a) (h1 : a ≤ 100000000000) : Ev (fun k => laws_markIntS.f k l a) (a + l.length, mkI l.length a) := by
  unfold laws_markIntS.f
  have e := markI_l l [] a h0 (by omega) (by simp; omega)
  simpa using e
theorem heldI_l : ∀ (n : Nat) (pre : List Int) (a : Int), 0 ≤ a → a + n ≤ 1000000000000 → pre.length + n ≤ 1048576 → Ev (fun k => laws_heldIntS.l0 k (pre ++ mkI n a) a pre.length) (a + n) := by
  intro n
  induction n with
  | zero =>
    intro pre a h0 h1 h2
    refine Ev.step (fun k => laws_heldIntS.l0.eq_2 _ _ _ k) ?_
    refine Ev.neg (by simp [mkI]) (Ev.some_ (by simp))
  | succ n ih =>
    intro pre a h0 h1 h2
    refine Ev.step (fun k => laws_heldIntS.l0.eq_2 _ _ _ k) ?_
    refine Ev.pos (by simp [mkI]; omega) ?_
    refine Ev.pos (by omega) ?_
    simp only [mkI, rdI]
    refine Ev.pos trivial ?_
    simp only [wnx (show pre.length < 1048577 by omega) (by omega), wr (x := a + 1) (by omega) (by omega)]
    have e := ih (pre ++ [a]) (a + 1) (by omega) (by omega) (by simp; omega)
    rw [List.append_assoc, List.length_append] at e
    simp only [List.length_cons, List.length_nil, List.cons_append, List.nil_append] at e
    rw [show a + ((n + 1 : Nat) : Int) = a + 1 + (n : Int) by omega]
    exact e
theorem heldI (n : Nat) (hn : n ≤ 1048576) : Ev (fun k => laws_heldIntS.f k (mkI n 1) 1) (1 + n) := by
  unfold laws_heldIntS.f
  have e := heldI_l n [] 1 (by omega) (by omega) (by simp; omega)
  simpa using e

/-- Numbers from a on, in rows as long as these. -/
def mkSS : List (List Int) → Int → List (List Int)
  | [], _ => []
  | r :: l, a => mkI r.length a :: mkSS l (a + r.length)
theorem tot_cons (r : List Int) (l : List (List Int)) : tot (r :: l) = r.length + tot l := by simp [tot]
theorem markSS : ∀ (l : List (List Int)) (a : Int), 0 ≤ a → a + tot l ≤ 100000000000 → (∀ x ∈ l, x.length ≤ 1048576) → Ev (fun k => laws_markIntSS.f k l a) (a + tot l, mkSS l a) := by
  intro l
  induction l with
  | nil =>
    intro a _ _ _
    simp only [laws_markIntSS.f]
    exact Ev.some_ (by simp [tot, mkSS])
  | cons r l ih =>
    intro a h0 h1 hm
    have hr := hm r (by simp)
    have ht := tot_cons r l
    simp only [laws_markIntSS.f]
    refine Ev.bind (markI r a hr h0 (by omega)) ?_
    refine Ev.bind (ih (a + r.length) (by omega) (by omega) (fun x hx => hm x (by simp [hx]))) (Ev.some_ ?_)
    simp only [mkSS, ht]
    congr 1
    omega
theorem heldRow (n : Nat) (a : Int) (h0 : 0 ≤ a) (h1 : a + n ≤ 1000000000000) (hn : n ≤ 1048576) : Ev (fun k => laws_heldIntS.f k (mkI n a) a) (a + n) := by
  unfold laws_heldIntS.f
  have e := heldI_l n [] a h0 h1 (by simp; omega)
  simpa using e
theorem rd1_at (pre rest : List (List Int)) (x : List Int) : rd_L1 (pre ++ x :: rest) (pre.length : Int) = x := by simp [rd_L1, List.getD]
theorem mkSS_len : ∀ (l : List (List Int)) (a : Int), (mkSS l a).length = l.length := by
  intro l
  induction l with
  | nil => intro a; rfl
  | cons r l ih => intro a; simp [mkSS, ih]
theorem heldSS_l : ∀ (rest pre : List (List Int)) (a : Int), 0 ≤ a → a + tot rest ≤ 100000000000 → pre.length + rest.length ≤ 1048576 → (∀ x ∈ rest, x.length ≤ 1048576) → Ev (fun k => laws_heldIntSS.l0 k (pre ++ mkSS rest a) a pre.length) (a + tot rest) := by
  intro rest
  induction rest with
  | nil =>
    intro pre a h0 h1 h2 _
    refine Ev.step (fun k => laws_heldIntSS.l0.eq_2 _ _ _ k) ?_
    refine Ev.neg (by simp [mkSS]) (Ev.some_ (by simp [tot]))
  | cons r rest ih =>
    intro pre a h0 h1 h2 hm
    have hr := hm r (by simp)
    have ht := tot_cons r rest
    rw [List.length_cons] at h2
    refine Ev.step (fun k => laws_heldIntSS.l0.eq_2 _ _ _ k) ?_
    refine Ev.pos (by simp [mkSS]; omega) ?_
    refine Ev.pos (by omega) ?_
    simp only [mkSS, rd1_at]
    refine Ev.bind (heldRow r.length a h0 (by omega) hr) ?_
    refine Ev.neg (by omega) ?_
    simp only [wnx (show pre.length < 1048577 by omega) (by omega)]
    have e := ih (pre ++ [mkI r.length a]) (a + r.length) (by omega) (by omega) (by simp; omega) (fun x hx => hm x (by simp [hx]))
    rw [List.append_assoc, List.length_append] at e
    simp only [List.length_cons, List.length_nil, List.cons_append, List.nil_append] at e
    rw [show a + ((tot (r :: rest) : Nat) : Int) = a + (r.length : Int) + ((tot rest : Nat) : Int) by omega]
    exact e
theorem heldSS (l : List (List Int)) (hl : l.length ≤ 1048576) (ht : tot l ≤ 2000000) (hm : ∀ x ∈ l, x.length ≤ 1048576) : Ev (fun k => laws_heldIntSS.f k (mkSS l 1) 1) (1 + tot l) := by
  unfold laws_heldIntSS.f
  have e := heldSS_l l [] 1 (by omega) (by omega) (by simp; omega) hm
  simpa using e

theorem tot_av (row : List Int) (b : Bool) : ∀ l : List (List Int), tot (av row b l) ≤ tot l := by
  intro l
  induction l with
  | nil => exact Nat.le_refl _
  | cons g l ih =>
    rw [av_cons, tot_cons]
    split
    · rw [tot_cons]; omega
    · omega
theorem FnExactAfterVerdict : ∀ (l0 : List (List Int)) (l1 : List Int) (a2 : Bool), (l0.length ≤ maxLen ∧ ∀ x_ ∈ l0, (x_.length ≤ maxLen ∧ ∀ y_ ∈ x_, (Lit.int .i64 y_).wf = true)) → (l1.length ≤ maxLen ∧ ∀ x_ ∈ l1, (Lit.int .i64 x_).wf = true) → ∃ k, laws_FnExactAfterVerdict.f k l0 l1 a2 = some true := by
  intro l a b ⟨h1, h2⟩ _
  refine Ev.rounds (g := fun j => laws_FnExactAfterVerdict.f j l a b) ?_
  unfold laws_FnExactAfterVerdict.f
  by_cases ga : (a.length : Int) > 1048576
  · exact Ev.pos ga (Ev.now _)
  refine Ev.neg ga ?_
  obtain ⟨q, eq, hq⟩ := szSS l 1048576 (by omega) (by omega) h1 (fun x hx => (h2 x hx).1)
  refine Ev.bind eq ?_
  by_cases h0 : q < 0
  · exact Ev.pos h0 (Ev.now _)
  refine Ev.neg h0 ?_
  have ha : a.length ≤ 1048576 := by omega
  have hl : l.length ≤ 1048576 := by omega
  have ht : tot l ≤ 1048576 := by omega
  have hm : ∀ x ∈ l, x.length ≤ 1048576 := fun x hx => by have := tot_mem l x hx; omega
  have hL : (av a b l).length ≤ 1048576 := Nat.le_trans (av_len a b l) hl
  have hT : tot (av a b l) ≤ 1048576 := Nat.le_trans (tot_av a b l) ht
  have hM : ∀ x ∈ av a b l, x.length ≤ 1048576 := fun x hx => hm x (by unfold av at hx; exact (List.mem_filter.1 hx).1)
  clear hq h1 h2
  refine Ev.bind (toSS l hl hm) ?_
  refine Ev.bind (toInts a ha) ?_
  refine Ev.bind (sav a b l ha hl hm) ?_
  refine Ev.bind (toSS l hl hm) ?_
  refine Ev.bind (toInts a ha) ?_
  refine Ev.bind (iav a b l hl hm) ?_
  refine Ev.bind (eqSS _ hL hM) ?_
  refine Ev.pos rfl ?_
  refine Ev.bind (toSS l hl hm) ?_
  refine Ev.bind (eqSS l hl hm) ?_
  refine Ev.pos rfl ?_
  refine Ev.bind (toInts a ha) ?_
  refine Ev.bind (eqInts a ha) ?_
  refine Ev.pos rfl ?_
  refine Ev.bind (markSS l 1 (by omega) (by omega) hm) ?_
  refine Ev.bind (markI a _ ha (by simp only []; omega) (by simp only []; omega)) ?_
  refine Ev.neg (by simp only []; omega) ?_
  refine Ev.bind (eqSS _ hL hM) ?_
  refine Ev.pos rfl ?_
  refine Ev.bind (markSS _ 1 (by omega) (by omega) hM) ?_
  have hh := heldSS _ hL (by omega) hM
  refine Ev.bind hh ?_
  refine Ev.neg (by omega) ?_
  refine Ev.pos rfl ?_
  refine Ev.bind (toSS l hl hm) ?_
  refine Ev.bind (toInts a ha) ?_
  refine Ev.bind (iav a b l hl hm) ?_
  refine Ev.bind (eqSS _ hL hM) ?_
  refine Ev.pos rfl ?_
  refine Ev.bind hh ?_
  refine Ev.neg (by omega) ?_
  exact Ev.pos rfl (Ev.now _)

end Go.Proofs.Ytbbfgkjhnfcjiaa.Pure
