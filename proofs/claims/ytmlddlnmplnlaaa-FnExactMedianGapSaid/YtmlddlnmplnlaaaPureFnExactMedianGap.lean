/- The law FnExactMedianGap returns true at every list of pairs: the program's MedianGap answers as the reference's. No condition. -/
import Derived.Test.YtmlddlnmplnlaaaHFnExactMedianGapx4
namespace Go.Proofs.Ytmlddlnmplnlaaa.Pure
open Go.RowKit Go.Proofs.Ytmlddlnmplnlaaa.PFnExactMedianGap Go.Proofs.YtmlddlnmplnlaaaW.PrintWords Go.Proofs.YtmlddlnmplnlaaaW.PrintLast
set_option linter.unusedSimpArgs false
set_option linter.unusedVariables false

theorem wr {x : Int} (h1 : -9223372036854775808 ≤ x) (h2 : x ≤ 9223372036854775807) : wrap64 x = x := by unfold wrap64; omega
theorem Ev.pos {α : Type} {c : Prop} [Decidable c] {g f : Nat → Option α} {r : α} (h : c) (e : Ev g r) : Ev (fun k => if c then g k else f k) r := by
  simp only [if_pos h]; exact e
theorem Ev.neg {α : Type} {c : Prop} [Decidable c] {g f : Nat → Option α} {r : α} (h : ¬ c) (e : Ev f r) : Ev (fun k => if c then g k else f k) r := by
  simp only [if_neg h]; exact e
theorem Ev.some_ {α : Type} {r r' : α} (h : r = r') : Ev (fun _ => some r) r' := h ▸ Ev.now r
theorem Ev.bnow {α β : Type} {g : Option α} {f : Nat → α → Option β} {a : α} {r : β} (h : g = some a) (k : Ev (fun n => f n a) r) : Ev (fun n => g.bind (f n)) r := by
  subst h; exact k

theorem wnext {i n : Nat} (h : i < n) (hn : n ≤ 9223372036854775807) : wrap64 ((i : Int) + 1) = ((i + 1 : Nat) : Int) := by rw [wr (by omega) (by omega)]; rfl

def cv (x : S59) : S49 := ⟨x.f0, x.f1⟩
theorem toPair_l (l : List S59) (hl : l.length ≤ 1048576) : ∀ (d i : Nat) (acc : List S49), i + d = l.length → acc.length = l.length → (∀ j, j < i → acc[j]? = (l.map cv)[j]?) → Ev (fun k => laws_toPairS.l0 k l acc i) (l.map cv) := by
  intro d
  induction d with
  | zero =>
    intro i acc hi ha hj
    refine Ev.step (fun k => laws_toPairS.l0.eq_2 _ _ _ k) ?_
    refine Ev.neg (by omega) (Ev.some_ ?_)
    apply List.ext_getElem?
    intro j
    by_cases h : j < i
    · exact hj j h
    · rw [List.getElem?_eq_none (by omega), List.getElem?_eq_none (by simp; omega)]
  | succ d ih =>
    intro i acc hi ha hj
    refine Ev.step (fun k => laws_toPairS.l0.eq_2 _ _ _ k) ?_
    refine Ev.pos (by omega) ?_
    refine Ev.pos (by omega) ?_
    refine Ev.bnow (by unfold laws_toPair.f; rfl) ?_
    refine Ev.pos (by omega) ?_
    simp only [wnext (show i < l.length by omega) (by omega), Int.toNat_natCast]
    refine ih (i + 1) _ (by omega) (by simp; omega) ?_
    intro j hj2
    by_cases h : j = i
    · subst h
      have hlt : j < l.length := by omega
      rw [List.getElem?_set_self (by omega)]
      simp [rd_T59, cv, hlt, List.getD]
    · rw [List.getElem?_set_ne (by omega)]
      exact hj j (by omega)
theorem toPairs (l : List S59) (hl : l.length ≤ 1048576) : Ev (fun k => laws_toPairS.f k l) (l.map cv) := by
  unfold laws_toPairS.f
  refine Ev.pos (by omega) ?_
  refine Ev.pos (by omega) ?_
  exact toPair_l l hl l.length 0 _ (by omega) (by simp) (by intro j hj; omega)
theorem eqPair_l (l : List S49) (hl : l.length ≤ 1048576) : ∀ (d i : Nat), i + d = l.length → Ev (fun k => laws_eqPairS.l0 k l l i) true := by
  intro d
  induction d with
  | zero =>
    intro i hi
    refine Ev.step (fun k => laws_eqPairS.l0.eq_2 _ _ _ k) ?_
    exact Ev.neg (by omega) (Ev.now _)
  | succ d ih =>
    intro i hi
    refine Ev.step (fun k => laws_eqPairS.l0.eq_2 _ _ _ k) ?_
    refine Ev.pos (by omega) ?_
    refine Ev.pos (by omega) ?_
    refine Ev.pos (by omega) ?_
    refine Ev.bnow (a := true) (by unfold laws_eqPair.f; simp) ?_
    refine Ev.pos rfl ?_
    simp only [wnext (show i < l.length by omega) (by omega)]
    exact ih (i + 1) (by omega)
theorem eqPairs (l : List S49) (hl : l.length ≤ 1048576) : Ev (fun k => laws_eqPairS.f k l l) true := by
  unfold laws_eqPairS.f
  exact Ev.pos rfl (eqPair_l l hl l.length 0 (by omega))
theorem szPairs (l : List S59) (hl : l.length ≤ maxLen) : ∃ t, laws_szPairS.f l 1048576 = some t ∧ (t < 0 ∨ l.length ≤ 1048576) := by
  unfold maxLen at hl
  unfold laws_szPairS.f
  rw [wr (x := 1048576 - (l.length : Int)) (by omega) (by omega)]
  split
  · exact ⟨-1, rfl, .inl (by omega)⟩
  · exact ⟨_, rfl, .inr (by omega)⟩

theorem wnx {i n : Nat} (h : i < n) (hn : n ≤ 9223372036854775807) : wrap64 ((i : Int) + 1) = ((i + 1 : Nat) : Int) := by rw [wr (by omega) (by omega)]; rfl
theorem rd_get (l : List Int) (i : Nat) (h : i < l.length) : rd l (i : Int) = l[i] := by simp [rd, List.getD, h]

def inB (a b x : Int) : Bool := decide (a ≤ x ∧ x ≤ b)
def okV (l : List Int) : Bool := l.all (inB 0 100000) && decide (l.length ≤ 12)

/-- The reference's way: one number is laid into a sorted list. -/
def insI (x : Int) (s : List Int) : List Int := s.takeWhile (fun y => decide (y ≤ x)) ++ x :: s.dropWhile (fun y => decide (y ≤ x))
theorem insI_perm (x : Int) (s : List Int) : (insI x s).Perm (x :: s) := by
  unfold insI
  refine (List.perm_middle).trans ?_
  rw [List.takeWhile_append_dropWhile]
theorem srt_perm (l : List Int) : (srt l).Perm l := List.mergeSort_perm _ _
theorem srt_sorted (l : List Int) : (srt l).Pairwise (· ≤ ·) := by
  have h := List.pairwise_mergeSort (le := fun x y : Int => decide (x ≤ y)) (by intro a b c; simp; omega) (by intro a b; simp; omega) l
  unfold srt
  exact h.imp (by intro a b h; simpa using h)
theorem insI_sorted (x : Int) : ∀ s : List Int, s.Pairwise (· ≤ ·) → (insI x s).Pairwise (· ≤ ·)
  | [], _ => by simp [insI]
  | y :: s, h => by
    rw [List.pairwise_cons] at h
    unfold insI
    by_cases hy : y ≤ x
    · rw [List.takeWhile_cons_of_pos (by simpa using hy), List.dropWhile_cons_of_pos (by simpa using hy), List.cons_append, List.pairwise_cons]
      refine ⟨?_, insI_sorted x s h.2⟩
      intro a ha
      have := (insI_perm x s).mem_iff.1 ha
      rcases List.mem_cons.1 this with rfl | h1
      · exact hy
      · exact h.1 a h1
    · rw [List.takeWhile_cons_of_neg (by simpa using hy), List.dropWhile_cons_of_neg (by simpa using hy), List.nil_append, List.pairwise_cons, List.pairwise_cons]
      refine ⟨?_, h.1, h.2⟩
      intro a ha
      rcases List.mem_cons.1 ha with rfl | h1
      · omega
      · have := h.1 a h1; omega
def insAll (l : List Int) : List Int := l.foldl (fun s x => insI x s) []
theorem insAll_gen (l : List Int) : ∀ s : List Int, s.Pairwise (· ≤ ·) → (l.foldl (fun s x => insI x s) s).Pairwise (· ≤ ·) ∧ (l.foldl (fun s x => insI x s) s).Perm (l ++ s) := by
  induction l with
  | nil => intro s h; exact ⟨h, List.Perm.refl _⟩
  | cons x l ih =>
    intro s h
    have := ih (insI x s) (insI_sorted x s h)
    refine ⟨this.1, this.2.trans ?_⟩
    exact (List.Perm.append_left l (insI_perm x s)).trans List.perm_middle
theorem insAll_srt (l : List Int) : insAll l = srt l := by
  have h := insAll_gen l [] List.Pairwise.nil
  rw [List.append_nil] at h
  exact List.Perm.eq_of_pairwise (le := (· ≤ ·)) (by intro a b _ _ h1 h2; omega) h.1 (srt_sorted l) (h.2.trans (srt_perm l).symm)
/-! the middle one -/
def med (l : List Int) : Int := if l.length = 0 then 0 else (srt l).getD (l.length / 2) 0
theorem med_below (l : List Int) : 2 * l.countP (fun x => decide (x < med l)) ≤ l.length := by
  unfold med
  split
  · rename_i h; have := List.eq_nil_of_length_eq_zero h; subst this; simp
  · rename_i h
    have hl := srt_length l
    have hlt : l.length / 2 < (srt l).length := by omega
    generalize hm : (srt l).getD (l.length / 2) 0 = m
    rw [← (srt_perm l).countP_eq]
    have hm' : (srt l)[l.length / 2] = m := by rw [← hm]; simp [List.getD, hlt]
    have hs := srt_sorted l
    rw [List.pairwise_iff_getElem] at hs
    have e : (srt l).countP (fun x => decide (x < m)) = ((srt l).take (l.length / 2)).countP (fun x => decide (x < m)) + ((srt l).drop (l.length / 2)).countP (fun x => decide (x < m)) := by
      rw [← List.countP_append, List.take_append_drop]
    have z : ((srt l).drop (l.length / 2)).countP (fun x => decide (x < m)) = 0 := by
      rw [List.countP_eq_zero]
      intro a ha
      obtain ⟨j, hj, rfl⟩ := List.mem_iff_getElem.1 ha
      rw [List.getElem_drop]
      rw [List.length_drop] at hj
      by_cases hj0 : j = 0
      · subst hj0; simp [hm']
      · have := hs (l.length / 2) (l.length / 2 + j) hlt (by omega) (by omega)
        rw [hm'] at this
        simp; omega
    have t : ((srt l).take (l.length / 2)).countP (fun x => decide (x < m)) ≤ l.length / 2 := by
      refine Nat.le_trans List.countP_le_length ?_
      rw [List.length_take]; omega
    omega
theorem med_above (l : List Int) : 2 * l.countP (fun x => decide (med l < x)) ≤ l.length := by
  unfold med
  split
  · rename_i h; have := List.eq_nil_of_length_eq_zero h; subst this; simp
  · rename_i h
    have hl := srt_length l
    have hlt : l.length / 2 < (srt l).length := by omega
    generalize hm : (srt l).getD (l.length / 2) 0 = m
    rw [← (srt_perm l).countP_eq]
    have hm' : (srt l)[l.length / 2] = m := by rw [← hm]; simp [List.getD, hlt]
    have hs := srt_sorted l
    rw [List.pairwise_iff_getElem] at hs
    have e : (srt l).countP (fun x => decide (m < x)) = ((srt l).take (l.length / 2 + 1)).countP (fun x => decide (m < x)) + ((srt l).drop (l.length / 2 + 1)).countP (fun x => decide (m < x)) := by
      rw [← List.countP_append, List.take_append_drop]
    have z : ((srt l).take (l.length / 2 + 1)).countP (fun x => decide (m < x)) = 0 := by
      rw [List.countP_eq_zero]
      intro a ha
      obtain ⟨j, hj, rfl⟩ := List.mem_iff_getElem.1 ha
      rw [List.getElem_take]
      rw [List.length_take] at hj
      by_cases hj0 : j = l.length / 2
      · subst hj0; simp [hm']
      · have := hs j (l.length / 2) (by omega) hlt (by omega)
        rw [hm'] at this
        simp; omega
    have t : ((srt l).drop (l.length / 2 + 1)).countP (fun x => decide (m < x)) ≤ (srt l).length - (l.length / 2 + 1) := by
      refine Nat.le_trans List.countP_le_length ?_
      rw [List.length_drop]; omega
    omega
/-- Distances from m, summed. -/
def far (m : Int) : List Int → Int
  | [] => 0
  | x :: l => (if x ≤ m then m - x else x - m) + far m l
theorem far_up (m c : Int) (h : m ≤ c) : ∀ l : List Int, far m l + (c - m) * (l.length - 2 * (l.countP (fun x => decide (m < x)) : Int)) ≤ far c l
  | [] => by simp [far]
  | x :: l => by
    have ih := far_up m c h l
    simp only [far, List.length_cons, List.countP_cons]
    generalize (l.countP (fun x => decide (m < x)) : Nat) = q at ih ⊢
    by_cases hx : m < x
    · simp only [hx, decide_true, if_true]
      have e : (c - m) * (((l.length + 1 : Nat) : Int) - 2 * ((q + 1 : Nat) : Int)) = (c - m) * ((l.length : Int) - 2 * (q : Int)) - (c - m) := by
        have : (((l.length + 1 : Nat) : Int) - 2 * ((q + 1 : Nat) : Int)) = ((l.length : Int) - 2 * (q : Int)) - 1 := by omega
        rw [this, Int.mul_sub, Int.mul_one]
      rw [e]
      generalize (c - m) * ((l.length : Int) - 2 * (q : Int)) = z at ih ⊢
      split <;> split <;> omega
    · simp only [hx, decide_false, Bool.false_eq_true, if_false]
      have e : (c - m) * (((l.length + 1 : Nat) : Int) - 2 * ((q + 0 : Nat) : Int)) = (c - m) * ((l.length : Int) - 2 * (q : Int)) + (c - m) := by
        have : (((l.length + 1 : Nat) : Int) - 2 * ((q + 0 : Nat) : Int)) = ((l.length : Int) - 2 * (q : Int)) + 1 := by omega
        rw [this, Int.mul_add, Int.mul_one]
      rw [e]
      generalize (c - m) * ((l.length : Int) - 2 * (q : Int)) = z at ih ⊢
      split <;> split <;> omega
theorem far_down (m c : Int) (h : c ≤ m) : ∀ l : List Int, far m l + (m - c) * (l.length - 2 * (l.countP (fun x => decide (x < m)) : Int)) ≤ far c l
  | [] => by simp [far]
  | x :: l => by
    have ih := far_down m c h l
    simp only [far, List.length_cons, List.countP_cons]
    generalize (l.countP (fun x => decide (x < m)) : Nat) = q at ih ⊢
    by_cases hx : x < m
    · simp only [hx, decide_true, if_true]
      have e : (m - c) * (((l.length + 1 : Nat) : Int) - 2 * ((q + 1 : Nat) : Int)) = (m - c) * ((l.length : Int) - 2 * (q : Int)) - (m - c) := by
        have : (((l.length + 1 : Nat) : Int) - 2 * ((q + 1 : Nat) : Int)) = ((l.length : Int) - 2 * (q : Int)) - 1 := by omega
        rw [this, Int.mul_sub, Int.mul_one]
      rw [e]
      generalize (m - c) * ((l.length : Int) - 2 * (q : Int)) = z at ih ⊢
      split <;> split <;> omega
    · simp only [hx, decide_false, Bool.false_eq_true, if_false]
      have e : (m - c) * (((l.length + 1 : Nat) : Int) - 2 * ((q + 0 : Nat) : Int)) = (m - c) * ((l.length : Int) - 2 * (q : Int)) + (m - c) := by
        have : (((l.length + 1 : Nat) : Int) - 2 * ((q + 0 : Nat) : Int)) = ((l.length : Int) - 2 * (q : Int)) + 1 := by omega
        rw [this, Int.mul_add, Int.mul_one]
      rw [e]
      generalize (m - c) * ((l.length : Int) - 2 * (q : Int)) = z at ih ⊢
      split <;> split <;> omega
/-- No place is nearer to all than the middle one. -/
theorem far_med (l : List Int) (c : Int) : far (med l) l ≤ far c l := by
  rcases Int.le_total (med l) c with h | h
  · have h1 := far_up (med l) c h l
    have h2 := med_above l
    have h3 : 0 ≤ (c - med l) * ((l.length : Int) - 2 * (l.countP (fun x => decide (med l < x)) : Int)) := Int.mul_nonneg (by omega) (by omega)
    omega
  · have h1 := far_down (med l) c h l
    have h2 := med_below l
    have h3 : 0 ≤ (med l - c) * ((l.length : Int) - 2 * (l.countP (fun x => decide (x < med l)) : Int)) := Int.mul_nonneg (by omega) (by omega)
    omega
theorem far_append (m : Int) (a b : List Int) : far m (a ++ b) = far m a + far m b := by
  induction a with
  | nil => simp [far]
  | cons x a ih => simp only [List.cons_append, far, ih]; omega

theorem insI_length (x : Int) (s : List Int) : (insI x s).length = s.length + 1 := by
  have := (insI_perm x s).length_eq
  simpa using this
theorem insI_at (x : Int) : ∀ (s : List Int) (j : Nat), j ≤ s.length → (∀ y ∈ s.take j, y ≤ x) → (∀ h : j < s.length, ¬ s[j] ≤ x) → ([] ++ s.take j) ++ [x] ++ s.drop j = insI x s
  | s, 0, _, _, h2 => by
    cases s with
    | nil => rfl
    | cons y s =>
      have : ¬ y ≤ x := h2 (by simp)
      unfold insI
      rw [List.takeWhile_cons_of_neg (by simpa using this), List.dropWhile_cons_of_neg (by simpa using this)]
      rfl
  | [], j + 1, h0, _, _ => by simp at h0
  | y :: s, j + 1, h0, h1, h2 => by
    have hy : y ≤ x := h1 y (by simp)
    have ih := insI_at x s j (by simpa using h0) (fun z hz => h1 z (by simp [hz])) (fun h => h2 (by simpa using h))
    unfold insI at ih ⊢
    rw [List.takeWhile_cons_of_pos (by simpa using hy), List.dropWhile_cons_of_pos (by simpa using hy), List.cons_append, ← ih]
    simp
theorem med_rd (l : List Int) : med l = if l.length = 0 then 0 else rd (srt l) ((l.length / 2 : Nat) : Int) := by
  unfold med rd
  rw [Int.toNat_natCast]
theorem implMed (l : List Int) (hl : l.length ≤ 1048576) : impl_MedianOf.f l = some (med l) := by
  rw [med_rd]
  unfold impl_MedianOf.f
  by_cases h : l.length = 0
  · rw [if_pos h, if_pos h]
  · rw [if_neg h, if_neg h, if_pos (by omega)]

def okP (p : S49) : Bool := inB 0 100000 p.f0 && inB 0 100000 p.f1
def gapW (p : S49) : Int := wrap64 (p.f1 - p.f0)
def mg (l : List S49) : Int := if l.all okP = true then med (l.map gapW) else 0
theorem rd_pair (l : List S49) (i : Nat) (h : i < l.length) : rd_T49 l (i : Int) = l[i] := by simp [rd_T49, h, List.getD]

theorem implIn (a l h : Int) : impl_InRange.f a l h = some (decide (l ≤ a ∧ a ≤ h)) := by
  unfold impl_InRange.f
  by_cases h1 : l ≤ a <;> simp [h1]

theorem implGap_l (l : List S49) (hl : l.length ≤ 1048576) : ∀ (d i : Nat) (acc : List Int), i + d = l.length → acc.length = i → Ev (fun k => impl_MedianGap.l0 k acc l l.length i) (if (l.drop i).all okP = true then med (acc ++ (l.drop i).map gapW) else 0) := by
  intro d
  induction d with
  | zero =>
    intro i acc hi ha
    refine Ev.step (fun k => impl_MedianGap.l0.eq_2 _ _ _ _ k) ?_
    refine Ev.neg (by omega) ?_
    rw [List.drop_eq_nil_of_le (by omega)]
    refine Ev.bnow (implMed acc (by omega)) (Ev.some_ ?_)
    simp
  | succ d ih =>
    intro i acc hi ha
    have hlt : i < l.length := by omega
    refine Ev.step (fun k => impl_MedianGap.l0.eq_2 _ _ _ _ k) ?_
    refine Ev.pos (by omega) ?_
    refine Ev.pos (by omega) ?_
    refine Ev.pos (by omega) ?_
    rw [rd_pair l i hlt, List.drop_eq_getElem_cons hlt, List.all_cons, List.map_cons]
    refine Ev.bnow (a := inB 0 100000 l[i].f0) (by rw [implIn]; rfl) ?_
    unfold okP
    cases h0 : inB 0 100000 l[i].f0 with
    | false =>
      refine Ev.neg (by simp) (Ev.some_ ?_)
      rw [if_neg (by simp)]
    | true =>
      refine Ev.pos rfl ?_
      refine Ev.bnow (a := inB 0 100000 l[i].f1) (by rw [implIn]; rfl) ?_
      cases h1 : inB 0 100000 l[i].f1 with
      | false =>
        refine Ev.neg (by simp) (Ev.some_ ?_)
        rw [if_neg (by simp)]
      | true =>
        refine Ev.pos rfl ?_
        refine Ev.pos (by omega) ?_
        simp only [wnx hlt (by omega)]
        have e := ih (i + 1) (acc ++ [gapW l[i]]) (by omega) (by simp; omega)
        rw [List.append_assoc] at e
        exact e
theorem implGap (l : List S49) (hl : l.length ≤ 1048576) : Ev (fun k => impl_MedianGap.f k l) (mg l) := by
  unfold impl_MedianGap.f mg
  exact implGap_l l hl l.length 0 [] (by omega) rfl

theorem specIn (a l h : Int) : spec_l1In.f a l h = some (decide (l ≤ a ∧ a ≤ h)) := by
  unfold spec_l1In.f
  by_cases h1 : l ≤ a <;> simp [h1]

def mid (s : List Int) : Int := if s.length = 0 then 0 else rd s ((s.length / 2 : Nat) : Int)
theorem specGap_1 (l : List S49) (hl : l.length ≤ 1048576) (i : Nat) (hi : i < l.length) (x : Int) (s : List Int) (hs : s.length ≤ 1048576) (r : Int) (e : Ev (fun k => spec_MedianGap.l0 k l (insI x s) ((i + 1 : Nat) : Int)) r) :
    ∀ (d j : Nat), j + d = s.length → (∀ y ∈ s.take j, y ≤ x) → Ev (fun k => spec_MedianGap.l1 k l s i x j) r := by
  have hw := wnx hi (by omega)
  intro d
  induction d with
  | zero =>
    intro j hj ha
    have hat := insI_at x s j (by omega) ha (fun h => by omega)
    refine Ev.step (fun k => spec_MedianGap.l1.eq_2 _ _ _ _ _ k) ?_
    refine Ev.neg (by omega) ?_
    refine Ev.bnow rfl ?_
    refine Ev.pos (by omega) ?_
    refine Ev.pos (by omega) ?_
    refine Ev.bnow rfl ?_
    refine Ev.pos (by simp; omega) ?_
    refine Ev.bnow rfl ?_
    refine Ev.bnow rfl ?_
    refine Ev.pos (by simp; omega) ?_
    refine Ev.bnow rfl ?_
    refine Ev.bnow rfl ?_
    refine Ev.pos (by simp; omega) ?_
    rw [hw, Int.toNat_natCast, hat]
    exact e
  | succ d ih =>
    intro j hj ha
    have hjl : j < s.length := by omega
    have hsj := rd_get s j hjl
    refine Ev.step (fun k => spec_MedianGap.l1.eq_2 _ _ _ _ _ k) ?_
    refine Ev.pos (by omega) ?_
    refine Ev.pos (by omega) ?_
    by_cases h : s[j] ≤ x
    · refine Ev.pos (by rw [hsj]; exact h) ?_
      simp only [wnx hjl (by omega)]
      refine ih (j + 1) (by omega) ?_
      intro y hy
      rw [List.take_succ_eq_append_getElem hjl] at hy
      rcases List.mem_append.1 hy with hy | hy
      · exact ha y hy
      · rw [List.mem_singleton.1 hy]; exact h
    · have hat := insI_at x s j (by omega) ha (fun _ => h)
      refine Ev.neg (by rw [hsj]; exact h) ?_
      refine Ev.bnow rfl ?_
      refine Ev.pos (by omega) ?_
      refine Ev.bnow rfl ?_
      refine Ev.pos (by simp; omega) ?_
      refine Ev.bnow rfl ?_
      refine Ev.bnow rfl ?_
      refine Ev.pos (by simp; omega) ?_
      refine Ev.bnow rfl ?_
      refine Ev.bnow rfl ?_
      refine Ev.pos (by simp; omega) ?_
      rw [hw, Int.toNat_natCast, hat]
      exact e
theorem specStamp (x : Int) : spec_l9Stamp.f x = some (inB 0 100000 x) := by unfold spec_l9Stamp.f; rw [specIn]; rfl
theorem specGap_l (l : List S49) (hl : l.length ≤ 1048576) : ∀ (d i : Nat) (s : List Int), i + d = l.length → s.length = i → Ev (fun k => spec_MedianGap.l0 k l s i) (if (l.drop i).all okP = true then mid (((l.drop i).map gapW).foldl (fun s x => insI x s) s) else 0) := by
  intro d
  induction d with
  | zero =>
    intro i s hi hs
    refine Ev.step (fun k => spec_MedianGap.l0.eq_2 _ _ _ k) ?_
    refine Ev.neg (by omega) ?_
    rw [List.drop_eq_nil_of_le (by omega)]
    simp only [List.all_nil, List.map_nil, List.foldl_nil, if_true]
    unfold mid
    by_cases h : s.length = 0
    · rw [if_pos h]
      exact Ev.pos (by omega) (Ev.now _)
    · rw [if_neg h]
      refine Ev.neg (by omega) ?_
      have hw : wrap64 ((s.length : Int) / 2) = ((s.length / 2 : Nat) : Int) := by rw [wr (by omega) (by omega)]; omega
      rw [hw]
      refine Ev.pos (by omega) ?_
      exact Ev.pos (by omega) (Ev.now _)
  | succ d ih =>
    intro i s hi hs
    have hlt : i < l.length := by omega
    have hstop : ∀ r, r = 0 → Ev (fun k => spec_MedianGap.j1 k l s i true) r := by
      intro r hr
      subst hr
      refine Ev.step (fun k => spec_MedianGap.j1.eq_2 _ _ _ _ k) ?_
      exact Ev.pos rfl (Ev.now _)
    refine Ev.step (fun k => spec_MedianGap.l0.eq_2 _ _ _ k) ?_
    refine Ev.pos (by omega) ?_
    refine Ev.pos (by omega) ?_
    have hrd := rd_pair l i hlt
    have ih' := ih (i + 1) (insI (gapW l[i]) s) (by omega) (by rw [insI_length]; omega)
    rw [hrd, List.drop_eq_getElem_cons hlt, List.all_cons, List.map_cons, List.foldl_cons]
    refine Ev.bnow (specStamp _) ?_
    have hok : okP l[i] = (inB 0 100000 l[i].f0 && inB 0 100000 l[i].f1) := rfl
    rw [hok]
    cases h0 : inB 0 100000 l[i].f0 with
    | false =>
      refine Ev.neg (by simp) (hstop _ ?_)
      rw [if_neg (by simp)]
    | true =>
      refine Ev.pos rfl ?_
      refine Ev.bnow (specStamp _) ?_
      cases h1 : inB 0 100000 l[i].f1 with
      | false =>
        refine hstop _ ?_
        rw [if_neg (by simp)]
      | true =>
        refine Ev.step (fun k => spec_MedianGap.j1.eq_2 _ _ _ _ k) ?_
        refine Ev.neg (by simp) ?_
        refine Ev.pos (by omega) ?_
        refine Ev.pos (by omega) ?_
        rw [hrd]
        exact specGap_1 l hl i hlt (gapW l[i]) s (by omega) _ ih' s.length 0 (by omega) (by simp)
theorem specGap (l : List S49) (hl : l.length ≤ 1048576) : Ev (fun k => spec_MedianGap.f k l) (mg l) := by
  have e := specGap_l l hl l.length 0 [] (by omega) rfl
  have h : mid ((l.map gapW).foldl (fun s x => insI x s) []) = med (l.map gapW) := by
    have := insAll_srt (l.map gapW)
    unfold insAll at this
    rw [this, med_rd]
    unfold mid
    rw [srt_length]
  rw [List.drop_zero, h] at e
  exact e

theorem FnExactMedianGap : ∀ (l0 : List S59), (l0.length ≤ maxLen ∧ ∀ x_ ∈ l0, ((Lit.int .i64 x_.f0).wf = true ∧ (Lit.int .i64 x_.f1).wf = true)) → ∃ k, laws_FnExactMedianGap.f k l0 = some true := by
  intro l ⟨hl, _⟩
  refine Ev.rounds (g := fun j => laws_FnExactMedianGap.f j l) ?_
  unfold laws_FnExactMedianGap.f
  obtain ⟨t, ht, h⟩ := szPairs l hl
  refine Ev.bnow ht ?_
  by_cases h0 : t < 0
  · exact Ev.pos h0 (Ev.now _)
  · have hl2 : l.length ≤ 1048576 := by omega
    have hl3 : (l.map cv).length ≤ 1048576 := by simpa using hl2
    refine Ev.neg h0 ?_
    refine Ev.bind (toPairs l hl2) ?_
    refine Ev.bind (specGap _ hl3) ?_
    refine Ev.bind (toPairs l hl2) ?_
    refine Ev.bind (implGap _ hl3) ?_
    refine Ev.pos rfl ?_
    refine Ev.bind (toPairs l hl2) ?_
    refine Ev.bind (eqPairs _ hl3) ?_
    exact Ev.pos rfl (Ev.now _)

end Go.Proofs.Ytmlddlnmplnlaaa.Pure
