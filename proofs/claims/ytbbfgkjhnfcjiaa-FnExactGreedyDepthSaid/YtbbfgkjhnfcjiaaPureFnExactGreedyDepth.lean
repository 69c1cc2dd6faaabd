/- The law FnExactGreedyDepth returns true at every two lists of rows: the program's GreedyDepth answers as the reference's. No condition. -/
import Derived.Test.YtbbfgkjhnfcjiaaHFnExactGreedyDepthx4
namespace Go.Proofs.Ytbbfgkjhnfcjiaa.Pure
open Go.RowKit Go.Proofs.Ytbbfgkjhnfcjiaa.PFnExactGreedyDepth Go.Proofs.YtbbfgkjhnfcjiaaW.PrintWords Go.Proofs.YtbbfgkjhnfcjiaaW.PrintLast
set_option linter.unusedSimpArgs false
set_option linter.unusedVariables false

def fwB (row : List Int) (k : Int) : Bool := decide (0 ≤ k ∧ k < row.length ∧ rd row k = 1)
/-- whether a row fails with these links. -/
def fw (row g : List Int) : Bool := g.any (fwB row)

theorem ifw (row g : List Int) : impl_FailsWith.f row g = some (fw row g) := rfl

theorem wr {x : Int} (h1 : -9223372036854775808 ≤ x) (h2 : x ≤ 9223372036854775807) : wrap64 x = x := by unfold wrap64; omega
theorem Ev.pos {α : Type} {c : Prop} [Decidable c] {g f : Nat → Option α} {r : α} (h : c) (e : Ev g r) : Ev (fun k => if c then g k else f k) r := by
  simp only [if_pos h]; exact e
theorem Ev.neg {α : Type} {c : Prop} [Decidable c] {g f : Nat → Option α} {r : α} (h : ¬ c) (e : Ev f r) : Ev (fun k => if c then g k else f k) r := by
  simp only [if_neg h]; exact e
theorem Ev.some_ {α : Type} {r r' : α} (h : r = r') : Ev (fun _ => some r) r' := h ▸ Ev.now r
theorem Ev.bnow {α β : Type} {g : Option α} {f : Nat → α → Option β} {a : α} {r : β} (h : g = some a) (k : Ev (fun n => f n a) r) : Ev (fun n => g.bind (f n)) r := by
  subst h; exact k

theorem wnx {i n : Nat} (h : i < n) (hn : n ≤ 9223372036854775807) : wrap64 ((i : Int) + 1) = ((i + 1 : Nat) : Int) := by rw [wr (by omega) (by omega)]; rfl
theorem rd_get (l : List Int) (i : Nat) (h : i < l.length) : rd l (i : Int) = l[i] := by simp [rd, List.getD, h]

theorem toInt_l (l : List Int) (hl : l.length ≤ 1048576) : ∀ (d i : Nat) (acc : List Int), i + d = l.length → acc.length = l.length → (∀ j, j < i → acc[j]? = l[j]?) → Ev (fun k => laws_toIntS.l0 k l acc i) l := by
  intro d
  induction d with
  | zero =>
    intro i acc hi ha hj
    refine Ev.step (fun k => laws_toIntS.l0.eq_2 _ _ _ k) ?_
    refine Ev.neg (by omega) (Ev.some_ ?_)
    apply List.ext_getElem?
    intro j
    by_cases h : j < i
    · exact hj j h
    · rw [List.getElem?_eq_none (by omega), List.getElem?_eq_none (by omega)]
  | succ d ih =>
    intro i acc hi ha hj
    refine Ev.step (fun k => laws_toIntS.l0.eq_2 _ _ _ k) ?_
    refine Ev.pos (by omega) ?_
    refine Ev.pos (by omega) ?_
    refine Ev.pos (by omega) ?_
    simp only [wnx (show i < l.length by omega) (by omega), Int.toNat_natCast]
    refine ih (i + 1) _ (by omega) (by simp; omega) ?_
    intro j hj2
    by_cases h : j = i
    · subst h
      have hlt : j < l.length := by omega
      rw [List.getElem?_set_self (by omega), rd_get l j hlt, List.getElem?_eq_getElem hlt]
    · rw [List.getElem?_set_ne (by omega)]
      exact hj j (by omega)
theorem toInts (l : List Int) (hl : l.length ≤ 1048576) : Ev (fun k => laws_toIntS.f k l) l := by
  unfold laws_toIntS.f
  refine Ev.pos (by omega) ?_
  refine Ev.pos (by omega) ?_
  exact toInt_l l hl l.length 0 _ (by omega) (by simp) (by intro j hj; omega)

theorem eqInt_l (l : List Int) (hl : l.length ≤ 1048576) : ∀ (d i : Nat), i + d = l.length → Ev (fun k => laws_eqIntS.l0 k l l i) true := by
  intro d
  induction d with
  | zero =>
    intro i hi
    refine Ev.step (fun k => laws_eqIntS.l0.eq_2 _ _ _ k) ?_
    exact Ev.neg (by omega) (Ev.now _)
  | succ d ih =>
    intro i hi
    refine Ev.step (fun k => laws_eqIntS.l0.eq_2 _ _ _ k) ?_
    refine Ev.pos (by omega) ?_
    refine Ev.pos (by omega) ?_
    refine Ev.pos (by omega) ?_
    refine Ev.pos rfl ?_
    simp only [wnx (show i < l.length by omega) (by omega)]
    exact ih (i + 1) (by omega)
theorem eqInts (l : List Int) (hl : l.length ≤ 1048576) : Ev (fun k => laws_eqIntS.f k l l) true := by
  unfold laws_eqIntS.f
  exact Ev.pos rfl (eqInt_l l hl l.length 0 (by omega))

def tot (l : List (List Int)) : Nat := (l.map List.length).sum
theorem rd1 (l : List (List Int)) (i : Nat) (h : i < l.length) : rd_L1 l (i : Int) = l[i] := by simp [rd_L1, List.getD, h]
theorem tot_mem : ∀ (l : List (List Int)) (x : List Int), x ∈ l → x.length ≤ tot l := by
  intro l
  induction l with
  | nil => intro x h; cases h
  | cons y l ih =>
    intro x h
    simp only [tot, List.map_cons, List.sum_cons]
    rcases List.mem_cons.1 h with rfl | h
    · omega
    · have := ih x h; unfold tot at this; omega
theorem szSS_l (l : List (List Int)) (hl : l.length ≤ 1048576) (hm : ∀ x ∈ l, x.length ≤ maxLen) : ∀ (d i : Nat) (q : Int), i + d = l.length → 0 ≤ q → q ≤ 1048576 → ∃ t, Ev (fun k => laws_szIntSS.l0 k l q i) t ∧ (t < 0 ∨ (t = q - tot (l.drop i) ∧ 0 ≤ t)) := by
  intro d
  induction d with
  | zero =>
    intro i q hi h0 h1
    refine ⟨q, Ev.step (fun k => laws_szIntSS.l0.eq_2 _ _ _ k) (Ev.neg (by omega) (Ev.now _)), .inr ?_⟩
    rw [List.drop_eq_nil_of_le (by omega)]
    simp [tot]; omega
  | succ d ih =>
    intro i q hi h0 h1
    have hlt : i < l.length := by omega
    have hx := hm l[i] (List.getElem_mem hlt)
    unfold maxLen at hx
    have e0 : laws_szIntS.f l[i] q = some (if q - (l[i].length : Int) < 0 then -1 else q - (l[i].length : Int)) := by
      unfold laws_szIntS.f
      rw [wr (x := q - (l[i].length : Int)) (by omega) (by omega)]
      split <;> rfl
    by_cases h : q - (l[i].length : Int) < 0
    · rw [if_pos h] at e0
      refine ⟨-1, Ev.step (fun k => laws_szIntSS.l0.eq_2 _ _ _ k) (Ev.pos (by omega) (Ev.pos (by omega) ?_)), .inl (by omega)⟩
      rw [rd1 l i hlt]
      exact Ev.bnow e0 (Ev.pos (by omega) (Ev.now _))
    · rw [if_neg h] at e0
      obtain ⟨t, et, ht⟩ := ih (i + 1) (q - (l[i].length : Int)) (by omega) (by omega) (by omega)
      refine ⟨t, Ev.step (fun k => laws_szIntSS.l0.eq_2 _ _ _ k) (Ev.pos (by omega) (Ev.pos (by omega) ?_)), ?_⟩
      · rw [rd1 l i hlt]
        refine Ev.bnow e0 (Ev.neg h ?_)
        simp only [wnx hlt (by omega)]
        exact et
      · rcases ht with ht | ⟨ht, h2⟩
        · exact .inl ht
        · refine .inr ⟨?_, h2⟩
          have : tot (l.drop i) = l[i].length + tot (l.drop (i + 1)) := by
            rw [List.drop_eq_getElem_cons hlt]; simp only [tot, List.map_cons, List.sum_cons]
          omega
theorem szSS (l : List (List Int)) (q : Int) (h0 : 0 ≤ q) (h1 : q ≤ 1048576) (hl : l.length ≤ maxLen) (hm : ∀ x ∈ l, x.length ≤ maxLen) : ∃ t, Ev (fun k => laws_szIntSS.f k l q) t ∧ (t < 0 ∨ (t = q - l.length - tot l ∧ 0 ≤ t)) := by
  unfold maxLen at hl
  unfold laws_szIntSS.f
  rw [wr (x := q - (l.length : Int)) (by omega) (by omega)]
  by_cases h : q - (l.length : Int) < 0
  · exact ⟨-1, Ev.pos h (Ev.now _), .inl (by omega)⟩
  · obtain ⟨t, et, ht⟩ := szSS_l l (by omega) hm l.length 0 (q - (l.length : Int)) (by omega) (by omega) (by omega)
    exact ⟨t, Ev.neg h et, ht⟩
theorem toSS_l (l : List (List Int)) (hl : l.length ≤ 1048576) (hm : ∀ x ∈ l, x.length ≤ 1048576) : ∀ (d i : Nat) (acc : List (List Int)), i + d = l.length → acc.length = l.length → (∀ j, j < i → acc[j]? = l[j]?) → Ev (fun k => laws_toIntSS.l0 k l acc i) l := by
  intro d
  induction d with
  | zero =>
    intro i acc hi ha hj
    refine Ev.step (fun k => laws_toIntSS.l0.eq_2 _ _ _ k) ?_
    refine Ev.neg (by omega) (Ev.some_ ?_)
    apply List.ext_getElem?
    intro j
    by_cases h : j < i
    · exact hj j h
    · rw [List.getElem?_eq_none (by omega), List.getElem?_eq_none (by omega)]
  | succ d ih =>
    intro i acc hi ha hj
    have hlt : i < l.length := by omega
    refine Ev.step (fun k => laws_toIntSS.l0.eq_2 _ _ _ k) ?_
    refine Ev.pos (by omega) ?_
    refine Ev.pos (by omega) ?_
    rw [rd1 l i hlt]
    refine Ev.bind (toInts l[i] (hm _ (List.getElem_mem hlt))) ?_
    refine Ev.pos (by omega) ?_
    simp only [wnx (show i < l.length by omega) (by omega), Int.toNat_natCast]
    refine ih (i + 1) _ (by omega) (by simp; omega) ?_
    intro j hj2
    by_cases h : j = i
    · subst h
      rw [List.getElem?_set_self (by omega), List.getElem?_eq_getElem hlt]
    · rw [List.getElem?_set_ne (by omega)]
      exact hj j (by omega)
theorem toSS (l : List (List Int)) (hl : l.length ≤ 1048576) (hm : ∀ x ∈ l, x.length ≤ 1048576) : Ev (fun k => laws_toIntSS.f k l) l := by
  unfold laws_toIntSS.f
  refine Ev.pos (by omega) ?_
  refine Ev.pos (by omega) ?_
  exact toSS_l l hl hm l.length 0 _ (by omega) (by simp) (by intro j hj; omega)
theorem eqSS_l (l : List (List Int)) (hl : l.length ≤ 1048576) (hm : ∀ x ∈ l, x.length ≤ 1048576) : ∀ (d i : Nat), i + d = l.length → Ev (fun k => laws_eqIntSS.l0 k l l i) true := by
  intro d
  induction d with
  | zero =>
    intro i hi
    refine Ev.step (fun k => laws_eqIntSS.l0.eq_2 _ _ _ k) ?_
    exact Ev.neg (by omega) (Ev.now _)
  | succ d ih =>
    intro i hi
    have hlt : i < l.length := by omega
    refine Ev.step (fun k => laws_eqIntSS.l0.eq_2 _ _ _ k) ?_
    refine Ev.pos (by omega) ?_
    refine Ev.pos (by omega) ?_
    refine Ev.pos (by omega) ?_
    rw [rd1 l i hlt]
    refine Ev.bind (eqInts l[i] (hm _ (List.getElem_mem hlt))) ?_
    refine Ev.pos rfl ?_
    simp only [wnx (show i < l.length by omega) (by omega)]
    exact ih (i + 1) (by omega)
theorem eqSS (l : List (List Int)) (hl : l.length ≤ 1048576) (hm : ∀ x ∈ l, x.length ≤ 1048576) : Ev (fun k => laws_eqIntSS.f k l l) true := by
  unfold laws_eqIntSS.f
  exact Ev.pos rfl (eqSS_l l hl hm l.length 0 (by omega))

/-- The guesses of one verdict. -/
def av (row : List Int) (b : Bool) (l : List (List Int)) : List (List Int) := l.filter (fun g => fw row g == b)
theorem av_cons (row g : List Int) (b : Bool) (l : List (List Int)) : av row b (g :: l) = if (fw row g == b) = true then g :: av row b l else av row b l := by
  unfold av; rw [List.filter_cons]
theorem iav_l (row : List Int) (b : Bool) (l : List (List Int)) (hl : l.length ≤ 1048576) (hm : ∀ x ∈ l, x.length ≤ 1048576) : ∀ (d i : Nat) (acc : List (List Int)), i + d = l.length → acc.length ≤ i → Ev (fun k => impl_AfterVerdict.l0 k row b acc l l.length i) (acc ++ av row b (l.drop i)) := by
  intro d
  induction d with
  | zero =>
    intro i acc hi ha
    refine Ev.step (fun k => impl_AfterVerdict.l0.eq_2 _ _ _ _ _ _ k) ?_
    refine Ev.neg (by omega) (Ev.some_ ?_)
    rw [List.drop_eq_nil_of_le (by omega)]; simp [av]
  | succ d ih =>
    intro i acc hi ha
    have hlt : i < l.length := by omega
    have hx := hm l[i] (List.getElem_mem hlt)
    refine Ev.step (fun k => impl_AfterVerdict.l0.eq_2 _ _ _ _ _ _ k) ?_
    refine Ev.pos (by omega) ?_
    refine Ev.pos (by omega) ?_
    refine Ev.pos (by omega) ?_
    rw [rd1 l i hlt, List.drop_eq_getElem_cons hlt, av_cons]
    refine Ev.bnow (ifw _ _) ?_
    simp only [wnx hlt (by omega)]
    by_cases h : (fw row l[i] == b) = true
    · refine Ev.pos h ?_
      refine Ev.pos (by simp; omega) ?_
      refine Ev.pos (by omega) ?_
      rw [if_pos h]
      have e := ih (i + 1) (acc ++ [l[i]]) (by omega) (by simp; omega)
      rw [List.append_assoc] at e
      exact e
    · refine Ev.neg h ?_
      rw [if_neg h]
      exact ih (i + 1) acc (by omega) (by omega)
theorem iav (row : List Int) (b : Bool) (l : List (List Int)) (hl : l.length ≤ 1048576) (hm : ∀ x ∈ l, x.length ≤ 1048576) : Ev (fun k => impl_AfterVerdict.f k l row b) (av row b l) := by
  unfold impl_AfterVerdict.f
  exact iav_l row b l hl hm l.length 0 [] (by omega) (by simp)
theorem av_len (row : List Int) (b : Bool) (l : List (List Int)) : (av row b l).length ≤ l.length := List.length_filter_le _ _
theorem av_sum (row : List Int) : ∀ (l : List (List Int)), (av row true l).length + (av row false l).length = l.length := by
  intro l
  induction l with
  | nil => rfl
  | cons g l ih =>
    rw [av_cons, av_cons]
    cases fw row g <;> simp <;> omega
/-- The greater part that a verdict leaves. -/
def wl (l : List (List Int)) (row : List Int) : Nat := max (av row true l).length (l.length - (av row true l).length)

/-- The first row that leaves the least, told from row i on. -/
def bst (l : List (List Int)) : List (List Int) → Nat → Int → Nat → Int
  | [], _, b, _ => b
  | row :: m, i, b, n => if wl l row < n then bst l m (i + 1) i (wl l row) else bst l m (i + 1) b n
theorem bst_ok (l m0 : List (List Int)) : ∀ (m : List (List Int)) (i : Nat) (b : Int) (n : Nat), m = m0.drop i → n ≤ l.length → i ≤ m0.length →
    (∀ k : Nat, b = k → ∃ h : k < m0.length, wl l m0[k] < l.length) → ∀ k : Nat, bst l m i b n = k → ∃ h : k < m0.length, wl l m0[k] < l.length := by
  intro m
  induction m with
  | nil => intro i b n _ _ _ hb k hk; exact hb k hk
  | cons row m ih =>
    intro i b n hm hn hi hb k hk
    have hlt : i < m0.length := by
      rcases Nat.lt_or_ge i m0.length with h | h
      · exact h
      · rw [List.drop_eq_nil_of_le h] at hm; cases hm
    rw [List.drop_eq_getElem_cons hlt] at hm
    obtain ⟨rfl, hm2⟩ := List.cons.inj hm
    unfold bst at hk
    split at hk
    · rename_i h
      exact ih (i + 1) i _ hm2 (by omega) hlt (fun k' hk' => by
        obtain rfl : i = k' := by omega
        exact ⟨hlt, by omega⟩) k hk
    · exact ih (i + 1) b n hm2 hn hlt hb k hk
theorem bst_row (l m : List (List Int)) (k : Nat) (h : bst l m 0 (-1) l.length = k) : ∃ h : k < m.length, wl l m[k] < l.length :=
  bst_ok l m m 0 (-1) l.length rfl (Nat.le_refl _) (Nat.zero_le _) (fun k hk => by omega) k h
theorem bst_ge (l : List (List Int)) : ∀ (m : List (List Int)) (i : Nat) (b : Int) (n : Nat), -1 ≤ b → -1 ≤ bst l m i b n := by
  intro m
  induction m with
  | nil => intro i b n h; exact h
  | cons row m ih =>
    intro i b n h
    unfold bst
    split
    · exact ih _ _ _ (by omega)
    · exact ih _ _ _ h

theorem specIn (a l h : Int) : spec_l1In.f a l h = some (decide (l ≤ a ∧ a ≤ h)) := by
  unfold spec_l1In.f
  by_cases h1 : l ≤ a <;> simp [h1]

theorem sfw_l (row g : List Int) (hr : row.length ≤ 1048576) (hg : g.length ≤ 1048576) : ∀ (d i : Nat), i + d = g.length → Ev (fun k => spec_FailsWith.l0 k row g i) ((g.drop i).any (fwB row)) := by
  intro d
  induction d with
  | zero =>
    intro i hi
    refine Ev.step (fun k => spec_FailsWith.l0.eq_2 _ _ _ k) ?_
    refine Ev.neg (by omega) (Ev.some_ ?_)
    rw [List.drop_eq_nil_of_le (by omega)]; rfl
  | succ d ih =>
    intro i hi
    have hlt : i < g.length := by omega
    refine Ev.step (fun k => spec_FailsWith.l0.eq_2 _ _ _ k) ?_
    refine Ev.pos (by omega) ?_
    refine Ev.pos (by omega) ?_
    rw [rd_get g i hlt, List.drop_eq_getElem_cons hlt, List.any_cons, wr (x := (row.length : Int) - 1) (by omega) (by omega)]
    refine Ev.bnow (specIn _ _ _) ?_
    by_cases h : 0 ≤ g[i] ∧ g[i] ≤ (row.length : Int) - 1
    · refine Ev.pos (decide_eq_true h) ?_
      refine Ev.pos h.1 ?_
      refine Ev.pos (by omega) ?_
      by_cases h1 : rd row g[i] = 1
      · refine Ev.pos h1 (Ev.some_ ?_)
        have : fwB row g[i] = true := decide_eq_true ⟨h.1, by omega, h1⟩
        rw [this]; rfl
      · refine Ev.neg h1 ?_
        have : fwB row g[i] = false := decide_eq_false (fun x => h1 x.2.2)
        rw [this, Bool.false_or]
        simp only [wnx hlt (by omega)]
        exact ih (i + 1) (by omega)
    · refine Ev.neg (by rw [decide_eq_false h]; simp) ?_
      have : fwB row g[i] = false := decide_eq_false (fun x => h ⟨x.1, by omega⟩)
      rw [this, Bool.false_or]
      simp only [wnx hlt (by omega)]
      exact ih (i + 1) (by omega)
theorem sfw (row g : List Int) (hr : row.length ≤ 1048576) (hg : g.length ≤ 1048576) : Ev (fun k => spec_FailsWith.f k row g) (fw row g) := by
  unfold spec_FailsWith.f
  exact sfw_l row g hr hg g.length 0 (by omega)

theorem iwl (l : List (List Int)) (row : List Int) (hl : l.length ≤ 1048576) (hm : ∀ x ∈ l, x.length ≤ 1048576) : Ev (fun k => impl_WorstLeft.f k l row) (wl l row) := by
  unfold impl_WorstLeft.f
  have h := av_len row true l
  refine Ev.bind (iav row true l hl hm) (Ev.some_ ?_)
  rw [wr (by omega) (by omega)]
  unfold mx wl
  split <;> omega

theorem ibr_l (l m : List (List Int)) (hl : l.length ≤ 1048576) (hm : ∀ x ∈ l, x.length ≤ 1048576) (h2 : m.length ≤ 1048576) : ∀ (d i : Nat) (b : Int) (n : Nat), i + d = m.length → Ev (fun k => impl_BestRow.l0 k l b n m m.length i) (bst l (m.drop i) i b n) := by
  intro d
  induction d with
  | zero =>
    intro i b n hi
    refine Ev.step (fun k => impl_BestRow.l0.eq_2 _ _ _ _ _ _ k) ?_
    refine Ev.neg (by omega) (Ev.some_ ?_)
    rw [List.drop_eq_nil_of_le (by omega)]; rfl
  | succ d ih =>
    intro i b n hi
    have hlt : i < m.length := by omega
    refine Ev.step (fun k => impl_BestRow.l0.eq_2 _ _ _ _ _ _ k) ?_
    refine Ev.pos (by omega) ?_
    refine Ev.pos (by omega) ?_
    refine Ev.pos (by omega) ?_
    rw [rd1 m i hlt, List.drop_eq_getElem_cons hlt]
    refine Ev.bind (iwl l m[i] hl hm) ?_
    simp only [wnx hlt (by omega), bst]
    by_cases h : wl l m[i] < n
    · refine Ev.pos (by omega) ?_
      rw [if_pos h]
      exact ih (i + 1) i _ (by omega)
    · refine Ev.neg (by omega) ?_
      rw [if_neg h]
      exact ih (i + 1) b n (by omega)
theorem ibr (l m : List (List Int)) (hl : l.length ≤ 1048576) (hm : ∀ x ∈ l, x.length ≤ 1048576) (h2 : m.length ≤ 1048576) : Ev (fun k => impl_BestRow.f k l m) (bst l m 0 (-1) l.length) := by
  unfold impl_BestRow.f
  exact ibr_l l m hl hm h2 m.length 0 (-1) l.length (by omega)

theorem specMax (a b : Int) : spec_Max.f a b = some (mx a b) := by
  unfold spec_Max.f mx
  repeat' split
  all_goals first | rfl | (congr 1; omega)

theorem swl_l (l : List (List Int)) (row : List Int) (hr : row.length ≤ 1048576) (hl : l.length ≤ 1048576) (hm : ∀ x ∈ l, x.length ≤ 1048576) : ∀ (d i n : Nat), i + d = l.length → n ≤ i → n + (av row true (l.drop i)).length = (av row true l).length → Ev (fun k => spec_WorstLeft.l0 k l row n i) (wl l row) := by
  intro d
  induction d with
  | zero =>
    intro i n hi hn ht
    refine Ev.step (fun k => spec_WorstLeft.l0.eq_2 _ _ _ _ k) ?_
    refine Ev.neg (by omega) ?_
    rw [List.drop_eq_nil_of_le (by omega)] at ht
    simp [av] at ht
    have ht : n = (av row true l).length := by simpa [av] using ht
    rw [wr (x := (l.length : Int) - n) (by omega) (by omega)]
    refine Ev.bnow (specMax _ _) (Ev.some_ ?_)
    unfold mx wl
    split <;> omega
  | succ d ih =>
    intro i n hi hn ht
    have hlt : i < l.length := by omega
    refine Ev.step (fun k => spec_WorstLeft.l0.eq_2 _ _ _ _ k) ?_
    refine Ev.pos (by omega) ?_
    refine Ev.pos (by omega) ?_
    rw [rd1 l i hlt]
    rw [List.drop_eq_getElem_cons hlt, av_cons] at ht
    refine Ev.bind (sfw row l[i] hr (hm _ (List.getElem_mem hlt))) ?_
    simp only [wnx hlt (by omega), wr (x := (n : Int) + 1) (by omega) (by omega)]
    cases h : fw row l[i] with
    | true =>
      refine Ev.pos rfl ?_
      rw [h] at ht
      simp at ht
      exact ih (i + 1) (n + 1) (by omega) (by omega) (by omega)
    | false =>
      refine Ev.neg (by simp) ?_
      rw [h] at ht
      simp at ht
      exact ih (i + 1) n (by omega) (by omega) ht
theorem swl (l : List (List Int)) (row : List Int) (hr : row.length ≤ 1048576) (hl : l.length ≤ 1048576) (hm : ∀ x ∈ l, x.length ≤ 1048576) : Ev (fun k => spec_WorstLeft.f k l row) (wl l row) := by
  unfold spec_WorstLeft.f
  exact swl_l l row hr hl hm l.length 0 0 (by omega) (by omega) (by simp)

theorem sbr_l (l m : List (List Int)) (hl : l.length ≤ 1048576) (hm : ∀ x ∈ l, x.length ≤ 1048576) (h2 : m.length ≤ 1048576) (h3 : ∀ x ∈ m, x.length ≤ 1048576) : ∀ (d i : Nat) (b : Int) (n : Nat), i + d = m.length → Ev (fun k => spec_BestRow.l0 k l m b n i) (bst l (m.drop i) i b n) := by
  intro d
  induction d with
  | zero =>
    intro i b n hi
    refine Ev.step (fun k => spec_BestRow.l0.eq_2 _ _ _ _ _ k) ?_
    refine Ev.neg (by omega) (Ev.some_ ?_)
    rw [List.drop_eq_nil_of_le (by omega)]; rfl
  | succ d ih =>
    intro i b n hi
    have hlt : i < m.length := by omega
    refine Ev.step (fun k => spec_BestRow.l0.eq_2 _ _ _ _ _ k) ?_
    refine Ev.pos (by omega) ?_
    refine Ev.pos (by omega) ?_
    rw [rd1 m i hlt, List.drop_eq_getElem_cons hlt]
    refine Ev.bind (swl l m[i] (h3 _ (List.getElem_mem hlt)) hl hm) ?_
    simp only [wnx hlt (by omega), bst]
    by_cases h : wl l m[i] < n
    · refine Ev.pos (by omega) ?_
      rw [if_pos h]
      exact ih (i + 1) i _ (by omega)
    · refine Ev.neg (by omega) ?_
      rw [if_neg h]
      exact ih (i + 1) b n (by omega)
theorem sbr (l m : List (List Int)) (hl : l.length ≤ 1048576) (hm : ∀ x ∈ l, x.length ≤ 1048576) (h2 : m.length ≤ 1048576) (h3 : ∀ x ∈ m, x.length ≤ 1048576) : Ev (fun k => spec_BestRow.f k l m) (bst l m 0 (-1) l.length) := by
  unfold spec_BestRow.f
  exact sbr_l l m hl hm h2 h3 m.length 0 (-1) l.length (by omega)

theorem sav_l (row : List Int) (b : Bool) (l : List (List Int)) (hr : row.length ≤ 1048576) (hl : l.length ≤ 1048576) (hm : ∀ x ∈ l, x.length ≤ 1048576) : ∀ (d i : Nat) (acc : List (List Int)), i + d = l.length → acc.length ≤ i → Ev (fun k => spec_AfterVerdict.l0 k l row b acc i) (acc ++ av row b (l.drop i)) := by
  intro d
  induction d with
  | zero =>
    intro i acc hi ha
    refine Ev.step (fun k => spec_AfterVerdict.l0.eq_2 _ _ _ _ _ k) ?_
    refine Ev.neg (by omega) (Ev.some_ ?_)
    rw [List.drop_eq_nil_of_le (by omega)]; simp [av]
  | succ d ih =>
    intro i acc hi ha
    have hlt : i < l.length := by omega
    have hx := hm l[i] (List.getElem_mem hlt)
    refine Ev.step (fun k => spec_AfterVerdict.l0.eq_2 _ _ _ _ _ k) ?_
    refine Ev.pos (by omega) ?_
    refine Ev.pos (by omega) ?_
    rw [rd1 l i hlt, List.drop_eq_getElem_cons hlt, av_cons]
    refine Ev.bind (sfw row l[i] hr hx) ?_
    simp only [wnx hlt (by omega)]
    by_cases h : (fw row l[i] == b) = true
    · refine Ev.pos h ?_
      refine Ev.bnow rfl ?_
      refine Ev.pos (by simp; omega) ?_
      refine Ev.pos (by omega) ?_
      rw [if_pos h]
      have e := ih (i + 1) (acc ++ [l[i]]) (by omega) (by simp; omega)
      rw [List.append_assoc] at e
      exact e
    · refine Ev.neg h ?_
      rw [if_neg h]
      exact ih (i + 1) acc (by omega) (by omega)
theorem sav (row : List Int) (b : Bool) (l : List (List Int)) (hr : row.length ≤ 1048576) (hl : l.length ≤ 1048576) (hm : ∀ x ∈ l, x.length ≤ 1048576) : Ev (fun k => spec_AfterVerdict.f k l row b) (av row b l) := by
  unfold spec_AfterVerdict.f
  exact sav_l row b l hr hl hm l.length 0 [] (by omega) (by simp)

theorem av_sub (row : List Int) (b : Bool) (l : List (List Int)) {n : Nat} (hm : ∀ x ∈ l, x.length ≤ n) : ∀ x ∈ av row b l, x.length ≤ n := fun x hx => hm x (List.mem_filter.1 hx).1
/-- Both ways to plan greedily give the number v. -/
def GD (m l : List (List Int)) (v : Int) : Prop := Ev (fun k => impl_GreedyDepth.f k l m) v ∧ Ev (fun k => spec_GreedyDepth.f k l m) v
theorem gdi (m l : List (List Int)) (k : Nat) (hk : k < m.length) (hl : l.length ≤ 1048576) (hm : ∀ x ∈ l, x.length ≤ 1048576) (v u : Int) (ei : Ev (fun j => impl_BestRow.f j l m) (k : Int))
    (iv : Ev (fun j => impl_GreedyDepth.f j (av m[k] true l) m) v) (iu : Ev (fun j => impl_GreedyDepth.f j (av m[k] false l) m) u) : Ev (fun j => impl_GreedyDepth.j0 j l m false) (wrap64 (1 + mx v u)) := by
  refine Ev.step (fun k => impl_GreedyDepth.j0.eq_2 _ _ _ k) ?_
  refine Ev.neg (by simp) ?_
  refine Ev.bind ei ?_
  refine Ev.neg (by omega) ?_
  refine Ev.pos (by omega) ?_
  refine Ev.pos (by omega) ?_
  rw [rd1 m k hk]
  refine Ev.bind (iav m[k] true l hl hm) ?_
  refine Ev.bind iv ?_
  refine Ev.bind (iav m[k] false l hl hm) ?_
  refine Ev.bind iu ?_
  exact Ev.now _
theorem gds (m l : List (List Int)) (k : Nat) (hk : k < m.length) (h3 : ∀ x ∈ m, x.length ≤ 1048576) (hl : l.length ≤ 1048576) (hm : ∀ x ∈ l, x.length ≤ 1048576) (v u : Int) (ei : Ev (fun j => spec_BestRow.f j l m) (k : Int))
    (iv : Ev (fun j => spec_GreedyDepth.f j (av m[k] true l) m) v) (iu : Ev (fun j => spec_GreedyDepth.f j (av m[k] false l) m) u) : Ev (fun j => spec_GreedyDepth.j0 j l m false) (wrap64 (1 + mx v u)) := by
  have h4 := h3 m[k] (List.getElem_mem hk)
  refine Ev.step (fun k => spec_GreedyDepth.j0.eq_2 _ _ _ k) ?_
  refine Ev.neg (by simp) ?_
  refine Ev.bind ei ?_
  refine Ev.neg (by omega) ?_
  refine Ev.pos (by omega) ?_
  refine Ev.pos (by omega) ?_
  rw [rd1 m k hk]
  refine Ev.bind (sav m[k] true l h4 hl hm) ?_
  refine Ev.bind iv ?_
  refine Ev.bind (sav m[k] false l h4 hl hm) ?_
  refine Ev.bind iu ?_
  refine Ev.bnow (specMax _ _) ?_
  exact Ev.now _
theorem gd0 (m : List (List Int)) (h2 : m.length ≤ 1048576) (h3 : ∀ x ∈ m, x.length ≤ 1048576) (l : List (List Int)) (hl : l.length ≤ 1048576) (hm : ∀ x ∈ l, x.length ≤ 1048576)
    (hr : ∀ k : Nat, bst l m 0 (-1) l.length = k → ∃ h : k < m.length, (∃ v, GD m (av m[k] true l) v) ∧ (∃ v, GD m (av m[k] false l) v)) : ∃ v, GD m l v := by
  have main : ∀ b : Bool, ∃ v, Ev (fun k => impl_GreedyDepth.j0 k l m b) v ∧ Ev (fun k => spec_GreedyDepth.j0 k l m b) v := by
    intro b
    cases b with
    | true =>
      refine ⟨-1, ?_, ?_⟩
      · exact Ev.step (fun k => impl_GreedyDepth.j0.eq_2 _ _ _ k) (Ev.pos rfl (Ev.now _))
      · exact Ev.step (fun k => spec_GreedyDepth.j0.eq_2 _ _ _ k) (Ev.pos rfl (Ev.now _))
    | false =>
      have hge := bst_ge l m 0 (-1) l.length (by omega)
      have ei := ibr l m hl hm h2
      have es := sbr l m hl hm h2 h3
      generalize bst l m 0 (-1) l.length = b at hge ei es hr
      by_cases h0 : b < 0
      · refine ⟨0, ?_, ?_⟩
        · exact Ev.step (fun k => impl_GreedyDepth.j0.eq_2 _ _ _ k) (Ev.neg (by simp) (Ev.bind ei (Ev.pos h0 (Ev.now _))))
        · exact Ev.step (fun k => spec_GreedyDepth.j0.eq_2 _ _ _ k) (Ev.neg (by simp) (Ev.bind es (Ev.pos h0 (Ev.now _))))
      · obtain ⟨k, rfl⟩ := Int.eq_ofNat_of_zero_le (show 0 ≤ b by omega)
        obtain ⟨hk, ⟨v, iv, sv⟩, ⟨u, iu, su⟩⟩ := hr k rfl
        exact ⟨_, gdi m l k hk hl hm v u ei iv iu, gds m l k hk h3 hl hm v u es sv su⟩
  have both : ∀ c : Prop, [Decidable c] → ∀ b : Bool, ∃ v, Ev (fun k => if c then impl_GreedyDepth.j0 k l m true else impl_GreedyDepth.j0 k l m b) v ∧ Ev (fun k => if c then spec_GreedyDepth.j0 k l m true else spec_GreedyDepth.j0 k l m b) v := by
    intro c _ b
    by_cases h : c
    · obtain ⟨v, e1, e2⟩ := main true
      exact ⟨v, Ev.pos h e1, Ev.pos h e2⟩
    · obtain ⟨v, e1, e2⟩ := main b
      exact ⟨v, Ev.neg h e1, Ev.neg h e2⟩
  obtain ⟨v, e1, e2⟩ := both ((l.length : Int) > 22) (decide ((m.length : Int) > 12))
  exact ⟨v, Ev.step (fun k => impl_GreedyDepth.f.eq_2 _ _ k) e1, Ev.step (fun k => spec_GreedyDepth.f.eq_2 _ _ k) e2⟩
theorem greedy (m : List (List Int)) (h2 : m.length ≤ 1048576) (h3 : ∀ x ∈ m, x.length ≤ 1048576) : ∀ (n : Nat) (l : List (List Int)), l.length ≤ n → l.length ≤ 1048576 → (∀ x ∈ l, x.length ≤ 1048576) → ∃ v, GD m l v := by
  intro n
  induction n with
  | zero =>
    intro l hn hl hm
    have e : l = [] := List.eq_nil_of_length_eq_zero (by omega)
    subst e
    exact gd0 m h2 h3 [] (by simp) (by simp) (fun k hk => by
      obtain ⟨h, h'⟩ := bst_row [] m k hk
      simp at h')
  | succ n ih =>
    intro l hn hl hm
    refine gd0 m h2 h3 l hl hm (fun k hk => ?_)
    obtain ⟨h, h'⟩ := bst_row l m k hk
    have a1 := av_len m[k] true l
    have a2 := av_len m[k] false l
    have a3 := av_sum m[k] l
    unfold wl at h'
    exact ⟨h, ih (av m[k] true l) (by omega) (by omega) (av_sub _ _ _ hm), ih (av m[k] false l) (by omega) (by omega) (av_sub _ _ _ hm)⟩

theorem FnExactGreedyDepth : ∀ (l0 : List (List Int)) (l1 : List (List Int)), (l0.length ≤ maxLen ∧ ∀ x_ ∈ l0, (x_.length ≤ maxLen ∧ ∀ y_ ∈ x_, (Lit.int .i64 y_).wf = true)) → (l1.length ≤ maxLen ∧ ∀ x_ ∈ l1, (x_.length ≤ maxLen ∧ ∀ y_ ∈ x_, (Lit.int .i64 y_).wf = true)) → ∃ k, laws_FnExactGreedyDepth.f k l0 l1 = some true := by
  intro l m ⟨h1, h2⟩ ⟨h3, h4⟩
  refine Ev.rounds (g := fun j => laws_FnExactGreedyDepth.f j l m) ?_
  unfold laws_FnExactGreedyDepth.f
  obtain ⟨q, eq, hq⟩ := szSS l 1048576 (by omega) (by omega) h1 (fun x hx => (h2 x hx).1)
  refine Ev.bind eq ?_
  by_cases h0 : q < 0
  · exact Ev.pos h0 (Ev.now _)
  refine Ev.neg h0 ?_
  obtain ⟨p, ep, hp⟩ := szSS m q (by omega) (by omega) h3 (fun x hx => (h4 x hx).1)
  refine Ev.bind ep ?_
  by_cases h0' : p < 0
  · exact Ev.pos h0' (Ev.now _)
  refine Ev.neg h0' ?_
  have hl : l.length ≤ 1048576 := by omega
  have hm : ∀ x ∈ l, x.length ≤ 1048576 := fun x hx => by have := tot_mem l x hx; omega
  have kl : m.length ≤ 1048576 := by omega
  have km : ∀ x ∈ m, x.length ≤ 1048576 := fun x hx => by have := tot_mem m x hx; omega
  clear hq hp eq ep
  obtain ⟨v, ei, es⟩ := greedy m kl km l.length l (by omega) hl hm
  refine Ev.bind (toSS l hl hm) ?_
  refine Ev.bind (toSS m kl km) ?_
  refine Ev.bind es ?_
  refine Ev.bind (toSS l hl hm) ?_
  refine Ev.bind (toSS m kl km) ?_
  refine Ev.bind ei ?_
  refine Ev.pos rfl ?_
  refine Ev.bind (toSS l hl hm) ?_
  refine Ev.bind (eqSS l hl hm) ?_
  refine Ev.pos rfl ?_
  refine Ev.bind (toSS m kl km) ?_
  refine Ev.bind (eqSS m kl km) ?_
  exact Ev.pos rfl (Ev.now _)

end Go.Proofs.Ytbbfgkjhnfcjiaa.Pure
