/- The law FnExactHasChanged returns true at every list: the program's HasChanged answers as the reference's. No condition. -/
import Derived.Test.YtmlddlnmplnlaaaHFnExactHasChangedx5
namespace Go.Proofs.Ytmlddlnmplnlaaa.Pure
open Go.RowKit Go.Proofs.Ytmlddlnmplnlaaa.PFnExactHasChanged Go.Proofs.YtmlddlnmplnlaaaW.PrintWords Go.Proofs.YtmlddlnmplnlaaaW.PrintLast
set_option linter.unusedSimpArgs false
set_option linter.unusedVariables false

theorem wr {x : Int} (h1 : -9223372036854775808 ≤ x) (h2 : x ≤ 9223372036854775807) : wrap64 x = x := by unfold wrap64; omega
theorem Ev.pos {α : Type} {c : Prop} [Decidable c] {g f : Nat → Option α} {r : α} (h : c) (e : Ev g r) : Ev (fun k => if c then g k else f k) r := by
  simp only [if_pos h]; exact e
theorem Ev.neg {α : Type} {c : Prop} [Decidable c] {g f : Nat → Option α} {r : α} (h : ¬ c) (e : Ev f r) : Ev (fun k => if c then g k else f k) r := by
  simp only [if_neg h]; exact e
theorem Ev.some_ {α : Type} {r r' : α} (h : r = r') : Ev (fun _ => some r) r' := h ▸ Ev.now r
theorem Ev.bnow {α β : Type} {g : Option α} {f : Nat → α → Option β} {a : α} {r : β} (h : g = some a) (k : Ev (fun n => f n a) r) : Ev (fun n => g.bind (f n)) r := by
  subst h; exact k

theorem wnx {i n : Nat} (h : i < n) (hn : n ≤ 9223372036854775807) : wrap64 ((i : Int) + 1) = ((i + 1 : Nat) : Int) := by rw [wr (by omega) (by omega)]; rfl
theorem rd_get (l : List Int) (i : Nat) (h : i < l.length) : rd l (i : Int) = l[i] := by simp [rd, List.getD, h]

theorem toInt_l (l : List Int) (hl : l.length ≤ 1048576) : ∀ (d i : Nat) (acc : List Int), i + d = l.length → acc.length = l.length → (∀ j, j < i → acc[j]? = l[j]?) → Ev (fun k => laws_toIntS.l0 k l acc i) l := by
  intro d
  induction d with
  | zero =>
    intro i acc hi ha hj
    refine Ev.step (fun k => laws_toIntS.l0.eq_2 _ _ _ k) ?_
    refine Ev.neg (by omega) (Ev.some_ ?_)
    apply List.ext_getElem?
    intro j
    by_cases h : j < i
    · exact hj j h
    · rw [List.getElem?_eq_none (by omega), List.getElem?_eq_none (by omega)]
  | succ d ih =>
    intro i acc hi ha hj
    refine Ev.step (fun k => laws_toIntS.l0.eq_2 _ _ _ k) ?_
    refine Ev.pos (by omega) ?_
    refine Ev.pos (by omega) ?_
    refine Ev.pos (by omega) ?_
    simp only [wnx (show i < l.length by omega) (by omega), Int.toNat_natCast]
    refine ih (i + 1) _ (by omega) (by simp; omega) ?_
    intro j hj2
    by_cases h : j = i
    · subst h
      have hlt : j < l.length := by omega
      rw [List.getElem?_set_self (by omega), rd_get l j hlt, List.getElem?_eq_getElem hlt]
    · rw [List.getElem?_set_ne (by omega)]
      exact hj j (by omega)
theorem toInts (l : List Int) (hl : l.length ≤ 1048576) : Ev (fun k => laws_toIntS.f k l) l := by
  unfold laws_toIntS.f
  refine Ev.pos (by omega) ?_
  refine Ev.pos (by omega) ?_
  exact toInt_l l hl l.length 0 _ (by omega) (by simp) (by intro j hj; omega)

theorem eqInt_l (l : List Int) (hl : l.length ≤ 1048576) : ∀ (d i : Nat), i + d = l.length → Ev (fun k => laws_eqIntS.l0 k l l i) true := by
  intro d
  induction d with
  | zero =>
    intro i hi
    refine Ev.step (fun k => laws_eqIntS.l0.eq_2 _ _ _ k) ?_
    exact Ev.neg (by omega) (Ev.now _)
  | succ d ih =>
    intro i hi
    refine Ev.step (fun k => laws_eqIntS.l0.eq_2 _ _ _ k) ?_
    refine Ev.pos (by omega) ?_
    refine Ev.pos (by omega) ?_
    refine Ev.pos (by omega) ?_
    refine Ev.pos rfl ?_
    simp only [wnx (show i < l.length by omega) (by omega)]
    exact ih (i + 1) (by omega)
theorem eqInts (l : List Int) (hl : l.length ≤ 1048576) : Ev (fun k => laws_eqIntS.f k l l) true := by
  unfold laws_eqIntS.f
  exact Ev.pos rfl (eqInt_l l hl l.length 0 (by omega))

def inB (a b x : Int) : Bool := decide (a ≤ x ∧ x ≤ b)
def okV (l : List Int) : Bool := l.all (inB 0 100000) && decide (l.length ≤ 12)

/-- The reference's way: one number is laid into a sorted list. -/
def insI (x : Int) (s : List Int) : List Int := s.takeWhile (fun y => decide (y ≤ x)) ++ x :: s.dropWhile (fun y => decide (y ≤ x))
theorem insI_perm (x : Int) (s : List Int) : (insI x s).Perm (x :: s) := by
  unfold insI
  refine (List.perm_middle).trans ?_
  rw [List.takeWhile_append_dropWhile]
theorem srt_perm (l : List Int) : (srt l).Perm l := List.mergeSort_perm _ _
theorem srt_sorted (l : List Int) : (srt l).Pairwise (· ≤ ·) := by
  have h := List.pairwise_mergeSort (le := fun x y : Int => decide (x ≤ y)) (by intro a b c; simp; omega) (by intro a b; simp; omega) l
  unfold srt
  exact h.imp (by intro a b h; simpa using h)
theorem insI_sorted (x : Int) : ∀ s : List Int, s.Pairwise (· ≤ ·) → (insI x s).Pairwise (· ≤ ·)
  | [], _ => by simp [insI]
  | y :: s, h => by
    rw [List.pairwise_cons] at h
    unfold insI
    by_cases hy : y ≤ x
    · rw [List.takeWhile_cons_of_pos (by simpa using hy), List.dropWhile_cons_of_pos (by simpa using hy), List.cons_append, List.pairwise_cons]
      refine ⟨?_, insI_sorted x s h.2⟩
      intro a ha
      have := (insI_perm x s).mem_iff.1 ha
      rcases List.mem_cons.1 this with rfl | h1
      · exact hy
      · exact h.1 a h1
    · rw [List.takeWhile_cons_of_neg (by simpa using hy), List.dropWhile_cons_of_neg (by simpa using hy), List.nil_append, List.pairwise_cons, List.pairwise_cons]
      refine ⟨?_, h.1, h.2⟩
      intro a ha
      rcases List.mem_cons.1 ha with rfl | h1
      · omega
      · have := h.1 a h1; omega
def insAll (l : List Int) : List Int := l.foldl (fun s x => insI x s) []
theorem insAll_gen (l : List Int) : ∀ s : List Int, s.Pairwise (· ≤ ·) → (l.foldl (fun s x => insI x s) s).Pairwise (· ≤ ·) ∧ (l.foldl (fun s x => insI x s) s).Perm (l ++ s) := by
  induction l with
  | nil => intro s h; exact ⟨h, List.Perm.refl _⟩
  | cons x l ih =>
    intro s h
    have := ih (insI x s) (insI_sorted x s h)
    refine ⟨this.1, this.2.trans ?_⟩
    exact (List.Perm.append_left l (insI_perm x s)).trans List.perm_middle
theorem insAll_srt (l : List Int) : insAll l = srt l := by
  have h := insAll_gen l [] List.Pairwise.nil
  rw [List.append_nil] at h
  exact List.Perm.eq_of_pairwise (le := (· ≤ ·)) (by intro a b _ _ h1 h2; omega) h.1 (srt_sorted l) (h.2.trans (srt_perm l).symm)
/-! the middle one -/
def med (l : List Int) : Int := if l.length = 0 then 0 else (srt l).getD (l.length / 2) 0
theorem med_below (l : List Int) : 2 * l.countP (fun x => decide (x < med l)) ≤ l.length := by
  unfold med
  split
  · rename_i h; have := List.eq_nil_of_length_eq_zero h; subst this; simp
  · rename_i h
    have hl := srt_length l
    have hlt : l.length / 2 < (srt l).length := by omega
    generalize hm : (srt l).getD (l.length / 2) 0 = m
    rw [← (srt_perm l).countP_eq]
    have hm' : (srt l)[l.length / 2] = m := by rw [← hm]; simp [List.getD, hlt]
    have hs := srt_sorted l
    rw [List.pairwise_iff_getElem] at hs
    have e : (srt l).countP (fun x => decide (x < m)) = ((srt l).take (l.length / 2)).countP (fun x => decide (x < m)) + ((srt l).drop (l.length / 2)).countP (fun x => decide (x < m)) := by
      rw [← List.countP_append, List.take_append_drop]
    have z : ((srt l).drop (l.length / 2)).countP (fun x => decide (x < m)) = 0 := by
      rw [List.countP_eq_zero]
      intro a ha
      obtain ⟨j, hj, rfl⟩ := List.mem_iff_getElem.1 ha
      rw [List.getElem_drop]
      rw [List.length_drop] at hj
      by_cases hj0 : j = 0
      · subst hj0; simp [hm']
      · have := hs (l.length / 2) (l.length / 2 + j) hlt (by omega) (by omega)
        rw [hm'] at this
        simp; omega
    have t : ((srt l).take (l.length / 2)).countP (fun x => decide (x < m)) ≤ l.length / 2 := by
      refine Nat.le_trans List.countP_le_length ?_
      rw [List.length_take]; omega
    omega
theorem med_above (l : List Int) : 2 * l.countP (fun x => decide (med l < x)) ≤ l.length := by
  unfold med
  split
  · rename_i h; have := List.eq_nil_of_length_eq_zero h; subst this; simp
  · rename_i h
    have hl := srt_length l
    have hlt : l.length / 2 < (srt l).length := by omega
    generalize hm : (srt l).getD (l.length / 2) 0 = m
    rw [← (srt_perm l).countP_eq]
    have hm' : (srt l)[l.length / 2] = m := by rw [← hm]; simp [List.getD, hlt]
    have hs := srt_sorted l
    rw [List.pairwise_iff_getElem] at hs
    have e : (srt l).countP (fun x => decide (m < x)) = ((srt l).take (l.length / 2 + 1)).countP (fun x => decide (m < x)) + ((srt l).drop (l.length / 2 + 1)).countP (fun x => decide (m < x)) := by
      rw [← List.countP_append, List.take_append_drop]
    have z : ((srt l).take (l.length / 2 + 1)).countP (fun x => decide (m < x)) = 0 := by
      rw [List.countP_eq_zero]
      intro a ha
      obtain ⟨j, hj, rfl⟩ := List.mem_iff_getElem.1 ha
      rw [List.getElem_take]
      rw [List.length_take] at hj
      by_cases hj0 : j = l.length / 2
      · subst hj0; simp [hm']
      · have := hs j (l.length / 2) (by omega) hlt (by omega)
        rw [hm'] at this
        simp; omega
    have t : ((srt l).drop (l.length / 2 + 1)).countP (fun x => decide (m < x)) ≤ (srt l).length - (l.length / 2 + 1) := by
      refine Nat.le_trans List.countP_le_length ?_
      rw [List.length_drop]; omega
    omega
/-- Distances from m, summed. -/
def far (m : Int) : List Int → Int
  | [] => 0
  | x :: l => (if x ≤ m then m - x else x - m) + far m l
theorem far_up (m c : Int) (h : m ≤ c) : ∀ l : List Int, far m l + (c - m) * (l.length - 2 * (l.countP (fun x => decide (m < x)) : Int)) ≤ far c l
  | [] => by simp [far]
  | x :: l => by
    have ih := far_up m c h l
    simp only [far, List.length_cons, List.countP_cons]
    generalize (l.countP (fun x => decide (m < x)) : Nat) = q at ih ⊢
    by_cases hx : m < x
    · simp only [hx, decide_true, if_true]
      have e : (c - m) * (((l.length + 1 : Nat) : Int) - 2 * ((q + 1 : Nat) : Int)) = (c - m) * ((l.length : Int) - 2 * (q : Int)) - (c - m) := by
        have : (((l.length + 1 : Nat) : Int) - 2 * ((q + 1 : Nat) : Int)) = ((l.length : Int) - 2 * (q : Int)) - 1 := by omega
        rw [this, Int.mul_sub, Int.mul_one]
      rw [e]
      generalize (c - m) * ((l.length : Int) - 2 * (q : Int)) = z at ih ⊢
      split <;> split <;> omega
    · simp only [hx, decide_false, Bool.false_eq_true, if_false]
      have e : (c - m) * (((l.length + 1 : Nat) : Int) - 2 * ((q + 0 : Nat) : Int)) = (c - m) * ((l.length : Int) - 2 * (q : Int)) + (c - m) := by
        have : (((l.length + 1 : Nat) : Int) - 2 * ((q + 0 : Nat) : Int)) = ((l.length : Int) - 2 * (q : Int)) + 1 := by omega
        rw [this, Int.mul_add, Int.mul_one]
      rw [e]
      generalize (c - m) * ((l.length : Int) - 2 * (q : Int)) = z at ih ⊢
      split <;> split <;> omega
theorem far_down (m c : Int) (h : c ≤ m) : ∀ l : List Int, far m l + (m - c) * (l.length - 2 * (l.countP (fun x => decide (x < m)) : Int)) ≤ far c l
  | [] => by simp [far]
  | x :: l => by
    have ih := far_down m c h l
    simp only [far, List.length_cons, List.countP_cons]
    generalize (l.countP (fun x => decide (x < m)) : Nat) = q at ih ⊢
    by_cases hx : x < m
    · simp only [hx, decide_true, if_true]
      have e : (m - c) * (((l.length + 1 : Nat) : Int) - 2 * ((q + 1 : Nat) : Int)) = (m - c) * ((l.length : Int) - 2 * (q : Int)) - (m - c) := by
        have : (((l.length + 1 : Nat) : Int) - 2 * ((q + 1 : Nat) : Int)) = ((l.length : Int) - 2 * (q : Int)) - 1 := by omega
        rw [this, Int.mul_sub, Int.mul_one]
      rw [e]
      generalize (m - c) * ((l.length : Int) - 2 * (q : Int)) = z at ih ⊢
      split <;> split <;> omega
    · simp only [hx, decide_false, Bool.false_eq_true, if_false]
      have e : (m - c) * (((l.length + 1 : Nat) : Int) - 2 * ((q + 0 : Nat) : Int)) = (m - c) * ((l.length : Int) - 2 * (q : Int)) + (m - c) := by
        have : (((l.length + 1 : Nat) : Int) - 2 * ((q + 0 : Nat) : Int)) = ((l.length : Int) - 2 * (q : Int)) + 1 := by omega
        rw [this, Int.mul_add, Int.mul_one]
      rw [e]
      generalize (m - c) * ((l.length : Int) - 2 * (q : Int)) = z at ih ⊢
      split <;> split <;> omega
/-- No place is nearer to all than the middle one. -/
theorem far_med (l : List Int) (c : Int) : far (med l) l ≤ far c l := by
  rcases Int.le_total (med l) c with h | h
  · have h1 := far_up (med l) c h l
    have h2 := med_above l
    have h3 : 0 ≤ (c - med l) * ((l.length : Int) - 2 * (l.countP (fun x => decide (med l < x)) : Int)) := Int.mul_nonneg (by omega) (by omega)
    omega
  · have h1 := far_down (med l) c h l
    have h2 := med_below l
    have h3 : 0 ≤ (med l - c) * ((l.length : Int) - 2 * (l.countP (fun x => decide (x < med l)) : Int)) := Int.mul_nonneg (by omega) (by omega)
    omega
theorem far_append (m : Int) (a b : List Int) : far m (a ++ b) = far m a + far m b := by
  induction a with
  | nil => simp [far]
  | cons x a ih => simp only [List.cons_append, far, ih]; omega

theorem insI_length (x : Int) (s : List Int) : (insI x s).length = s.length + 1 := by
  have := (insI_perm x s).length_eq
  simpa using this
theorem insI_at (x : Int) : ∀ (s : List Int) (j : Nat), j ≤ s.length → (∀ y ∈ s.take j, y ≤ x) → (∀ h : j < s.length, ¬ s[j] ≤ x) → ([] ++ s.take j) ++ [x] ++ s.drop j = insI x s
  | s, 0, _, _, h2 => by
    cases s with
    | nil => rfl
    | cons y s =>
      have : ¬ y ≤ x := h2 (by simp)
      unfold insI
      rw [List.takeWhile_cons_of_neg (by simpa using this), List.dropWhile_cons_of_neg (by simpa using this)]
      rfl
  | [], j + 1, h0, _, _ => by simp at h0
  | y :: s, j + 1, h0, h1, h2 => by
    have hy : y ≤ x := h1 y (by simp)
    have ih := insI_at x s j (by simpa using h0) (fun z hz => h1 z (by simp [hz])) (fun h => h2 (by simpa using h))
    unfold insI at ih ⊢
    rw [List.takeWhile_cons_of_pos (by simpa using hy), List.dropWhile_cons_of_pos (by simpa using hy), List.cons_append, ← ih]
    simp
theorem specIns_l (l : List Int) (hl : l.length ≤ 1048576) (i : Nat) (hi : i < l.length) (s : List Int) (hs : s.length ≤ 1048576) (r : List Int) (e : Ev (fun k => spec_l21Sorted.l0 k l (insI l[i] s) ((i + 1 : Nat) : Int)) r) :
    ∀ (d j : Nat), j + d = s.length → (∀ y ∈ s.take j, y ≤ l[i]) → Ev (fun k => spec_l21Sorted.l1 k l s i j) r := by
  have hx := rd_get l i hi
  have hw := wnx hi (by omega)
  intro d
  induction d with
  | zero =>
    intro j hj ha
    have hat := insI_at l[i] s j (by omega) ha (fun h => by omega)
    refine Ev.step (fun k => spec_l21Sorted.l1.eq_2 _ _ _ _ k) ?_
    refine Ev.neg (by omega) ?_
    refine Ev.bnow rfl ?_
    refine Ev.pos (by omega) ?_
    refine Ev.pos (by omega) ?_
    refine Ev.bnow rfl ?_
    refine Ev.pos (by simp; omega) ?_
    refine Ev.bnow rfl ?_
    refine Ev.pos (by omega) ?_
    refine Ev.pos (by omega) ?_
    refine Ev.bnow rfl ?_
    refine Ev.pos (by simp; omega) ?_
    refine Ev.bnow rfl ?_
    refine Ev.bnow rfl ?_
    refine Ev.pos (by simp; omega) ?_
    rw [hx, hw, Int.toNat_natCast, hat]
    exact e
  | succ d ih =>
    intro j hj ha
    have hjl : j < s.length := by omega
    have hsj := rd_get s j hjl
    refine Ev.step (fun k => spec_l21Sorted.l1.eq_2 _ _ _ _ k) ?_
    refine Ev.pos (by omega) ?_
    refine Ev.pos (by omega) ?_
    refine Ev.pos (by omega) ?_
    refine Ev.pos (by omega) ?_
    by_cases h : s[j] ≤ l[i]
    · refine Ev.pos (by rw [hsj, hx]; exact h) ?_
      simp only [wnx hjl (by omega)]
      refine ih (j + 1) (by omega) ?_
      intro y hy
      rw [List.take_succ_eq_append_getElem hjl] at hy
      rcases List.mem_append.1 hy with hy | hy
      · exact ha y hy
      · rw [List.mem_singleton.1 hy]; exact h
    · have hat := insI_at l[i] s j (by omega) ha (fun _ => h)
      refine Ev.neg (by rw [hsj, hx]; exact h) ?_
      refine Ev.bnow rfl ?_
      refine Ev.pos (by omega) ?_
      refine Ev.bnow rfl ?_
      refine Ev.pos (by simp; omega) ?_
      refine Ev.bnow rfl ?_
      refine Ev.bnow rfl ?_
      refine Ev.pos (by simp; omega) ?_
      refine Ev.bnow rfl ?_
      refine Ev.bnow rfl ?_
      refine Ev.pos (by simp; omega) ?_
      rw [hx, hw, Int.toNat_natCast, hat]
      exact e
theorem specSort_l (l : List Int) (hl : l.length ≤ 1048576) : ∀ (d i : Nat) (s : List Int), i + d = l.length → s.length = i → Ev (fun k => spec_l21Sorted.l0 k l s i) ((l.drop i).foldl (fun s x => insI x s) s) := by
  intro d
  induction d with
  | zero =>
    intro i s hi hs
    refine Ev.step (fun k => spec_l21Sorted.l0.eq_2 _ _ _ k) ?_
    refine Ev.neg (by omega) (Ev.some_ ?_)
    rw [List.drop_eq_nil_of_le (by omega)]; rfl
  | succ d ih =>
    intro i s hi hs
    have hlt : i < l.length := by omega
    refine Ev.step (fun k => spec_l21Sorted.l0.eq_2 _ _ _ k) ?_
    refine Ev.pos (by omega) ?_
    rw [List.drop_eq_getElem_cons hlt, List.foldl_cons]
    exact specIns_l l hl i hlt s (by omega) _ (ih (i + 1) _ (by omega) (by rw [insI_length]; omega)) s.length 0 (by omega) (by simp)
theorem specSort (l : List Int) (hl : l.length ≤ 1048576) : Ev (fun k => spec_l21Sorted.f k l) (srt l) := by
  rw [← insAll_srt]
  unfold spec_l21Sorted.f insAll
  exact specSort_l l hl l.length 0 [] (by omega) rfl
theorem med_rd (l : List Int) : med l = if l.length = 0 then 0 else rd (srt l) ((l.length / 2 : Nat) : Int) := by
  unfold med rd
  rw [Int.toNat_natCast]
theorem specMed (l : List Int) (hl : l.length ≤ 1048576) : Ev (fun k => spec_MedianOf.f k l) (med l) := by
  rw [med_rd]
  unfold spec_MedianOf.f
  by_cases h : l.length = 0
  · rw [if_pos h]
    exact Ev.pos (by omega) (Ev.now _)
  · rw [if_neg h]
    refine Ev.neg (by omega) ?_
    refine Ev.bind (specSort l hl) ?_
    have hs := srt_length l
    have hw : wrap64 ((l.length : Int) / 2) = ((l.length / 2 : Nat) : Int) := by rw [wr (by omega) (by omega)]; omega
    rw [hw]
    refine Ev.pos (by omega) ?_
    exact Ev.pos (by omega) (Ev.now _)
theorem implMed (l : List Int) (hl : l.length ≤ 1048576) : impl_MedianOf.f l = some (med l) := by
  rw [med_rd]
  unfold impl_MedianOf.f
  by_cases h : l.length = 0
  · rw [if_pos h, if_pos h]
  · rw [if_neg h, if_neg h, if_pos (by omega)]

def ser (l : List Int) : Bool := l.all (inB 0 100000) && decide (l.length ≤ 16)
def spr (l : List Int) : Int := if ser l = true then far (med l) l else 0
def spc (l : List Int) (a : Int) : Int := if 1 ≤ a ∧ a ≤ (l.length : Int) - 1 then spr (l.take a.toNat) + spr (l.drop a.toNat) else spr l
/-- The best place among the next d, from i on, b the best so far. -/
def bstL (l : List Int) : Nat → Nat → Nat → Nat
  | 0, _, b => b
  | d + 1, i, b => bstL l d (i + 1) (if spc l i < spc l b then i else b)
def bst (l : List Int) : Nat := if ser l = true ∧ 2 ≤ l.length then bstL l (l.length - 2) 2 1 else 0
def hch (l : List Int) (g : Int) : Bool := decide (1 ≤ bst l ∧ 1 ≤ g ∧ g ≤ spr l - spc l (bst l))
def lat (l : List Int) (g : Int) : List Int := if hch l g = true then l.drop (bst l) else l
theorem ser_all {l : List Int} (h : ser l = true) : (∀ x ∈ l, 0 ≤ x ∧ x ≤ 100000) ∧ l.length ≤ 16 := by
  unfold ser at h
  rw [Bool.and_eq_true, List.all_eq_true] at h
  refine ⟨fun x hx => ?_, by simpa using h.2⟩
  have := h.1 x hx
  unfold inB at this
  simpa using this
theorem med_mem (l : List Int) (h : 0 < l.length) : med l ∈ l := by
  unfold med
  rw [if_neg (by omega)]
  have hl := srt_length l
  rw [← (srt_perm l).mem_iff]
  have hlt : l.length / 2 < (srt l).length := by omega
  rw [List.getD_eq_getElem?_getD, List.getElem?_eq_getElem hlt, Option.getD_some]
  exact List.getElem_mem hlt
theorem med_in {l : List Int} (h : ser l = true) : 0 ≤ med l ∧ med l ≤ 100000 := by
  rcases Nat.eq_zero_or_pos l.length with h0 | h0
  · have : med l = 0 := by unfold med; rw [if_pos h0]
    omega
  · exact (ser_all h).1 _ (med_mem l h0)
theorem far_le (m : Int) (hm : 0 ≤ m ∧ m ≤ 100000) : ∀ l : List Int, (∀ x ∈ l, 0 ≤ x ∧ x ≤ 100000) → 0 ≤ far m l ∧ far m l ≤ 100000 * l.length
  | [], _ => by simp [far]
  | x :: l, h => by
    have ih := far_le m hm l (fun y hy => h y (by simp [hy]))
    have hx := h x (by simp)
    simp only [far, List.length_cons]
    split <;> omega
theorem spr_le (l : List Int) : 0 ≤ spr l ∧ spr l ≤ 1600000 := by
  unfold spr
  by_cases h : ser l = true
  · rw [if_pos h]
    have a := ser_all h
    have b := far_le (med l) (med_in h) l a.1
    have := a.2
    omega
  · rw [if_neg h]; omega
theorem spc_le (l : List Int) (a : Int) : 0 ≤ spc l a ∧ spc l a ≤ 3200000 := by
  unfold spc
  have h1 := spr_le (l.take a.toNat)
  have h2 := spr_le (l.drop a.toNat)
  have h3 := spr_le l
  split <;> omega
theorem mx_far (x m : Int) (hx : 0 ≤ x ∧ x ≤ 100000) (hm : 0 ≤ m ∧ m ≤ 100000) : mx (wrap64 (x - m)) (wrap64 (m - x)) = if x ≤ m then m - x else x - m := by
  rw [wr (by omega) (by omega), wr (by omega) (by omega)]
  unfold mx
  split <;> split <;> omega
theorem bstL_lt (l : List Int) : ∀ (d i b : Nat), b < i → i + d = l.length → (bstL l d i b < l.length ∨ d = 0) ∧ b ≤ bstL l d i b ∧ (d = 0 → bstL l d i b = b)
  | 0, i, b, _, _ => ⟨.inr rfl, Nat.le_refl _, fun _ => rfl⟩
  | d + 1, i, b, h, hi => by
    unfold bstL
    have hb : (if spc l i < spc l b then i else b) < i + 1 := by split <;> omega
    have hb2 : b ≤ (if spc l i < spc l b then i else b) := by split <;> omega
    generalize hq : (if spc l i < spc l b then i else b) = q at hb hb2
    have ih := bstL_lt l d (i + 1) q hb (by omega)
    refine ⟨.inl ?_, by omega, fun h => by omega⟩
    rcases ih.1 with h1 | h1
    · exact h1
    · rw [ih.2.2 h1]; omega
theorem bst_lt (l : List Int) : bst l = 0 ∨ (1 ≤ bst l ∧ bst l < l.length ∧ ser l = true) := by
  unfold bst
  by_cases h : ser l = true ∧ 2 ≤ l.length
  · rw [if_pos h]
    have := bstL_lt l (l.length - 2) 2 1 (by omega) (by omega)
    refine .inr ⟨this.2.1, ?_, h.1⟩
    rcases this.1 with h1 | h1
    · exact h1
    · rw [this.2.2 h1]; omega
  · rw [if_neg h]; exact .inl rfl

theorem specIn (a l h : Int) : spec_l1In.f a l h = some (decide (l ≤ a ∧ a ≤ h)) := by
  unfold spec_l1In.f
  by_cases h1 : l ≤ a <;> simp [h1]

theorem specMax (a b : Int) : spec_Max.f a b = some (mx a b) := by
  unfold spec_Max.f mx
  repeat' split
  all_goals first | rfl | (congr 1; omega)

theorem specSer_l (l : List Int) (hl : l.length ≤ 1048577) : ∀ (d i : Nat), i + d = l.length → Ev (fun k => spec_l21Ok.l0 k l i) ((l.drop i).all (inB 0 100000) && decide (l.length ≤ 16)) := by
  intro d
  induction d with
  | zero =>
    intro i hi
    refine Ev.step (fun k => spec_l21Ok.l0.eq_2 _ _ k) ?_
    refine Ev.neg (by omega) (Ev.some_ ?_)
    rw [List.drop_eq_nil_of_le (by omega)]
    simp only [List.all_nil, Bool.true_and]
    apply decide_eq_decide.mpr; omega
  | succ d ih =>
    intro i hi
    have hlt : i < l.length := by omega
    refine Ev.step (fun k => spec_l21Ok.l0.eq_2 _ _ k) ?_
    refine Ev.pos (by omega) ?_
    refine Ev.pos (by omega) ?_
    rw [rd_get l i hlt, List.drop_eq_getElem_cons hlt, List.all_cons]
    refine Ev.bnow (a := inB 0 100000 l[i]) (by unfold spec_l9Stamp.f; rw [specIn]; rfl) ?_
    cases h : inB 0 100000 l[i] with
    | true =>
      refine Ev.pos rfl ?_
      simp only [wnx hlt (by omega)]
      exact ih (i + 1) (by omega)
    | false => exact Ev.neg (by simp) (Ev.now _)
theorem specSer (l : List Int) (hl : l.length ≤ 1048577) : Ev (fun k => spec_l21Ok.f k l) (ser l) := by
  unfold spec_l21Ok.f
  exact specSer_l l hl l.length 0 (by omega)
theorem specSpr_l (l : List Int) (m : Int) (hm : 0 ≤ m ∧ m ≤ 100000) (hx : ∀ x ∈ l, 0 ≤ x ∧ x ≤ 100000) (hl : l.length ≤ 16) : ∀ (d i : Nat) (s : Int), i + d = l.length → 0 ≤ s → s ≤ 100000 * i → Ev (fun k => spec_SpreadOf.l0 k l s m i) (s + far m (l.drop i)) := by
  intro d
  induction d with
  | zero =>
    intro i s hi _ _
    refine Ev.step (fun k => spec_SpreadOf.l0.eq_2 _ _ _ _ k) ?_
    refine Ev.neg (by omega) (Ev.some_ ?_)
    rw [List.drop_eq_nil_of_le (by omega)]; simp [far]
  | succ d ih =>
    intro i s hi h0 h1
    have hlt : i < l.length := by omega
    have hb := hx l[i] (List.getElem_mem hlt)
    refine Ev.step (fun k => spec_SpreadOf.l0.eq_2 _ _ _ _ k) ?_
    refine Ev.pos (by omega) ?_
    refine Ev.pos (by omega) ?_
    rw [rd_get l i hlt, List.drop_eq_getElem_cons hlt]
    refine Ev.bnow (specMax _ _) ?_
    rw [mx_far _ _ hb hm]
    have hq : 0 ≤ (if l[i] ≤ m then m - l[i] else l[i] - m) ∧ (if l[i] ≤ m then m - l[i] else l[i] - m) ≤ 100000 := by split <;> omega
    simp only [far]
    generalize (if l[i] ≤ m then m - l[i] else l[i] - m) = q at hq
    rw [wr (x := s + q) (by omega) (by omega)]
    simp only [wnx hlt (by omega)]
    rw [← Int.add_assoc]
    exact ih (i + 1) (s + q) (by omega) (by omega) (by omega)
theorem specSpr (l : List Int) (hl : l.length ≤ 1048576) : Ev (fun k => spec_SpreadOf.f k l) (spr l) := by
  unfold spec_SpreadOf.f spr
  refine Ev.bind (specSer l (by omega)) ?_
  by_cases h : ser l = true
  · rw [if_pos h]
    refine Ev.pos h ?_
    refine Ev.bind (specMed l hl) ?_
    have e := specSpr_l l (med l) (med_in h) (ser_all h).1 (ser_all h).2 l.length 0 0 (by omega) (by omega) (by omega)
    simpa using e
  · rw [if_neg h]
    exact Ev.neg h (Ev.now _)

theorem specSpc (l : List Int) (a : Int) (hl : l.length ≤ 1048576) : Ev (fun k => spec_SplitCost.f k l a) (spc l a) := by
  unfold spec_SplitCost.f spc
  rw [wr (x := (l.length : Int) - 1) (by omega) (by omega)]
  refine Ev.bnow (specIn _ _ _) ?_
  by_cases h : 1 ≤ a ∧ a ≤ (l.length : Int) - 1
  · rw [if_pos h]
    refine Ev.pos (by simpa using h) ?_
    refine Ev.pos (by omega) ?_
    refine Ev.pos (by omega) ?_
    refine Ev.bind (specSpr _ (by simp; omega)) ?_
    refine Ev.bind (specSpr _ (by simp; omega)) ?_
    have h1 := spr_le (l.take a.toNat)
    have h2 := spr_le (l.drop a.toNat)
    exact Ev.some_ (wr (by omega) (by omega))
  · rw [if_neg h]
    refine Ev.neg (by simpa using h) ?_
    exact Ev.bind (specSpr l hl) (Ev.now _)

theorem specBst_l (l : List Int) (hl : l.length ≤ 1048576) : ∀ (d i b : Nat), i + d = l.length → 1 ≤ b → 1 ≤ i → Ev (fun k => spec_BestSplit.l0 k l b i) (bstL l d i b) := by
  intro d
  induction d with
  | zero =>
    intro i b hi _ _
    refine Ev.step (fun k => spec_BestSplit.l0.eq_2 _ _ _ k) ?_
    exact Ev.neg (by omega) (Ev.now _)
  | succ d ih =>
    intro i b hi hb hi1
    refine Ev.step (fun k => spec_BestSplit.l0.eq_2 _ _ _ k) ?_
    refine Ev.pos (by omega) ?_
    refine Ev.neg (by omega) ?_
    refine Ev.bind (specSpc l i hl) ?_
    refine Ev.bind (specSpc l b hl) ?_
    simp only [wnx (show i < l.length by omega) (by omega)]
    unfold bstL
    by_cases h : spc l i < spc l b
    · rw [if_pos h]
      exact Ev.pos h (ih (i + 1) i (by omega) (by omega) (by omega))
    · rw [if_neg h]
      exact Ev.neg h (ih (i + 1) b (by omega) hb (by omega))
theorem specBst (l : List Int) (hl : l.length ≤ 1048576) : Ev (fun k => spec_BestSplit.f k l) (bst l) := by
  unfold spec_BestSplit.f bst
  refine Ev.bind (specSer l (by omega)) ?_
  by_cases h : ser l = true
  · refine Ev.pos h ?_
    refine Ev.step (fun k => spec_BestSplit.l0.eq_2 _ _ _ k) ?_
    by_cases h2 : 2 ≤ l.length
    · rw [if_pos ⟨h, h2⟩]
      refine Ev.pos (by omega) ?_
      refine Ev.pos rfl ?_
      rw [show wrap64 ((1 : Int) + 1) = ((2 : Nat) : Int) from by rw [wr (by omega) (by omega)]; rfl]
      exact specBst_l l hl (l.length - 2) 2 1 (by omega) (by omega) (by omega)
    · rw [if_neg (by omega)]
      by_cases h3 : 1 < l.length
      · omega
      · exact Ev.neg (by omega) (Ev.now _)
  · rw [if_neg (fun x => h x.1)]
    exact Ev.neg h (Ev.now _)

theorem specHch (l : List Int) (g : Int) (hl : l.length ≤ 1048576) : Ev (fun k => spec_HasChanged.f k l g) (hch l g) := by
  unfold spec_HasChanged.f hch
  refine Ev.bind (specBst l hl) ?_
  by_cases h1 : 1 ≤ bst l
  · refine Ev.pos (by omega) ?_
    by_cases h2 : 1 ≤ g
    · refine Ev.pos h2 ?_
      refine Ev.bind (specSpr l hl) ?_
      refine Ev.bind (specSpc l (bst l) hl) ?_
      have a := spr_le l
      have b := spc_le l (bst l)
      rw [wr (by omega) (by omega)]
      refine Ev.some_ ?_
      apply decide_eq_decide.mpr
      omega
    · refine Ev.neg h2 (Ev.some_ ?_)
      symm; apply decide_eq_false; omega
  · refine Ev.neg (by omega) (Ev.some_ ?_)
    symm; apply decide_eq_false; omega

theorem implIn (a l h : Int) : impl_InRange.f a l h = some (decide (l ≤ a ∧ a ≤ h)) := by
  unfold impl_InRange.f
  by_cases h1 : l ≤ a <;> simp [h1]

theorem allIn_l (l : List Int) (a b : Int) (hl : l.length ≤ 1048577) : ∀ (d i : Nat), i + d = l.length → Ev (fun k => impl_allIn.l0 k a b l l.length i) ((l.drop i).all (inB a b)) := by
  intro d
  induction d with
  | zero =>
    intro i hi
    refine Ev.step (fun k => impl_allIn.l0.eq_2 _ _ _ _ _ k) ?_
    refine Ev.neg (by omega) (Ev.some_ ?_)
    rw [List.drop_eq_nil_of_le (by omega)]; rfl
  | succ d ih =>
    intro i hi
    have hlt : i < l.length := by omega
    refine Ev.step (fun k => impl_allIn.l0.eq_2 _ _ _ _ _ k) ?_
    refine Ev.pos (by omega) ?_
    refine Ev.pos (by omega) ?_
    refine Ev.pos (by omega) ?_
    rw [rd_get l i hlt, List.drop_eq_getElem_cons hlt, List.all_cons]
    refine Ev.bnow (a := inB a b l[i]) (by rw [implIn]; rfl) ?_
    cases h : inB a b l[i] with
    | true =>
      refine Ev.pos rfl ?_
      simp only [wnx hlt (by omega)]
      exact ih (i + 1) (by omega)
    | false => exact Ev.neg (by simp) (Ev.now _)
theorem allIn (l : List Int) (a b : Int) (hl : l.length ≤ 1048577) : Ev (fun k => impl_allIn.f k l a b) (l.all (inB a b)) := by
  unfold impl_allIn.f
  exact allIn_l l a b hl l.length 0 (by omega)

theorem implSer (l : List Int) (hl : l.length ≤ 1048577) : Ev (fun k => impl_isSeries.f k l) (ser l) := by
  unfold impl_isSeries.f ser
  by_cases h : (l.length : Int) ≤ 16
  · refine Ev.pos h ?_
    refine Ev.bind (allIn l 0 100000 hl) (Ev.some_ ?_)
    have : l.length ≤ 16 := by omega
    simp [this]
  · refine Ev.neg h (Ev.some_ ?_)
    have : ¬ l.length ≤ 16 := by omega
    simp [this]
theorem implSpr_l (l : List Int) (m : Int) (hm : 0 ≤ m ∧ m ≤ 100000) (hx : ∀ x ∈ l, 0 ≤ x ∧ x ≤ 100000) (hl : l.length ≤ 16) : ∀ (d i : Nat) (s : Int), i + d = l.length → 0 ≤ s → s ≤ 100000 * i → Ev (fun k => impl_SpreadOf.l0 k s m l l.length i) (s + far m (l.drop i)) := by
  intro d
  induction d with
  | zero =>
    intro i s hi _ _
    refine Ev.step (fun k => impl_SpreadOf.l0.eq_2 _ _ _ _ _ k) ?_
    refine Ev.neg (by omega) (Ev.some_ ?_)
    rw [List.drop_eq_nil_of_le (by omega)]; simp [far]
  | succ d ih =>
    intro i s hi h0 h1
    have hlt : i < l.length := by omega
    have hb := hx l[i] (List.getElem_mem hlt)
    refine Ev.step (fun k => impl_SpreadOf.l0.eq_2 _ _ _ _ _ k) ?_
    refine Ev.pos (by omega) ?_
    refine Ev.pos (by omega) ?_
    refine Ev.pos (by omega) ?_
    rw [rd_get l i hlt, List.drop_eq_getElem_cons hlt, mx_far _ _ hb hm]
    have hq : 0 ≤ (if l[i] ≤ m then m - l[i] else l[i] - m) ∧ (if l[i] ≤ m then m - l[i] else l[i] - m) ≤ 100000 := by split <;> omega
    simp only [far]
    generalize (if l[i] ≤ m then m - l[i] else l[i] - m) = q at hq
    rw [wr (x := s + q) (by omega) (by omega)]
    simp only [wnx hlt (by omega)]
    rw [← Int.add_assoc]
    exact ih (i + 1) (s + q) (by omega) (by omega) (by omega)
theorem implSpr (l : List Int) (hl : l.length ≤ 1048576) : Ev (fun k => impl_SpreadOf.f k l) (spr l) := by
  unfold impl_SpreadOf.f spr
  refine Ev.bind (implSer l (by omega)) ?_
  by_cases h : ser l = true
  · rw [if_pos h]
    refine Ev.pos h ?_
    refine Ev.bnow (implMed l hl) ?_
    have e := implSpr_l l (med l) (med_in h) (ser_all h).1 (ser_all h).2 l.length 0 0 (by omega) (by omega) (by omega)
    simpa using e
  · rw [if_neg h]
    exact Ev.neg h (Ev.now _)

theorem implSpc (l : List Int) (a : Int) (hl : l.length ≤ 1048576) : Ev (fun k => impl_SplitCost.f k l a) (spc l a) := by
  unfold impl_SplitCost.f spc
  rw [wr (x := (l.length : Int) - 1) (by omega) (by omega)]
  refine Ev.bnow (implIn _ _ _) ?_
  by_cases h : 1 ≤ a ∧ a ≤ (l.length : Int) - 1
  · rw [if_pos h]
    refine Ev.pos (by simpa using h) ?_
    refine Ev.pos (by omega) ?_
    refine Ev.pos (by omega) ?_
    refine Ev.bind (implSpr _ (by simp; omega)) ?_
    refine Ev.bind (implSpr _ (by simp; omega)) ?_
    have h1 := spr_le (l.take a.toNat)
    have h2 := spr_le (l.drop a.toNat)
    exact Ev.some_ (wr (by omega) (by omega))
  · rw [if_neg h]
    refine Ev.neg (by simpa using h) ?_
    exact Ev.bind (implSpr l hl) (Ev.now _)

theorem implBst_l (l : List Int) (hl : l.length ≤ 1048576) : ∀ (d i b : Nat), i + d = l.length → Ev (fun k => impl_BestSplit.l0 k l b i) (bstL l d i b) := by
  intro d
  induction d with
  | zero =>
    intro i b hi
    refine Ev.step (fun k => impl_BestSplit.l0.eq_2 _ _ _ k) ?_
    exact Ev.neg (by omega) (Ev.now _)
  | succ d ih =>
    intro i b hi
    refine Ev.step (fun k => impl_BestSplit.l0.eq_2 _ _ _ k) ?_
    refine Ev.pos (by omega) ?_
    refine Ev.bind (implSpc l i hl) ?_
    refine Ev.bind (implSpc l b hl) ?_
    simp only [wnx (show i < l.length by omega) (by omega)]
    unfold bstL
    by_cases h : spc l i < spc l b
    · rw [if_pos h]
      exact Ev.pos h (ih (i + 1) i (by omega))
    · rw [if_neg h]
      exact Ev.neg h (ih (i + 1) b (by omega))
theorem implBst (l : List Int) (hl : l.length ≤ 1048576) : Ev (fun k => impl_BestSplit.f k l) (bst l) := by
  unfold impl_BestSplit.f bst
  by_cases h2 : 2 ≤ l.length
  · refine Ev.neg (by omega) ?_
    refine Ev.bind (implSer l (by omega)) ?_
    refine Ev.step (fun k => impl_BestSplit.j0.eq_2 _ _ k) ?_
    by_cases h : ser l = true
    · rw [if_pos ⟨h, h2⟩]
      refine Ev.neg (by simp [h]) ?_
      exact implBst_l l hl (l.length - 2) 2 1 (by omega)
    · rw [if_neg (fun x => h x.1)]
      exact Ev.pos (by simpa using h) (Ev.now _)
  · rw [if_neg (fun x => h2 x.2)]
    refine Ev.pos (by omega) ?_
    refine Ev.step (fun k => impl_BestSplit.j0.eq_2 _ _ k) ?_
    exact Ev.pos rfl (Ev.now _)

theorem implHch (l : List Int) (g : Int) (hl : l.length ≤ 1048576) (hg : g ≤ 9223372036854775807) : Ev (fun k => impl_HasChanged.f k l g) (hch l g) := by
  unfold impl_HasChanged.f hch
  refine Ev.bind (implBst l hl) ?_
  by_cases h1 : 1 ≤ bst l
  · refine Ev.pos (by omega) ?_
    by_cases h2 : 1 ≤ g
    · refine Ev.pos h2 ?_
      refine Ev.bind (implSpc l (bst l) hl) ?_
      refine Ev.bind (implSpr l hl) ?_
      have a := spr_le l
      have b := spc_le l (bst l)
      rw [wr (by omega) (by omega)]
      refine Ev.some_ ?_
      apply decide_eq_decide.mpr
      omega
    · refine Ev.neg h2 (Ev.some_ ?_)
      symm; apply decide_eq_false; omega
  · refine Ev.neg (by omega) (Ev.some_ ?_)
    symm; apply decide_eq_false; omega

theorem FnExactHasChanged : laws_FnExactHasChanged.Pure := by
  intro l a _ _ _ ha
  have hg : a ≤ 9223372036854775807 := by
    simp [Lit.wf, IntKind.min, IntKind.max, IntKind.bits, IntKind.signed] at ha
    omega
  refine Ev.rounds (g := fun j => laws_FnExactHasChanged.f j l a) ?_
  unfold laws_FnExactHasChanged.f
  by_cases h : (l.length : Int) > 1048576
  · exact Ev.pos h (Ev.now _)
  · refine Ev.neg h ?_
    have hl : l.length ≤ 1048576 := by omega
    refine Ev.bind (toInts l hl) ?_
    refine Ev.bind (specHch l a hl) ?_
    refine Ev.bind (toInts l hl) ?_
    refine Ev.bind (implHch l a hl hg) ?_
    refine Ev.neg (by simp) ?_
    refine Ev.bind (toInts l hl) ?_
    refine Ev.bind (eqInts l hl) ?_
    exact Ev.pos rfl (Ev.now _)

end Go.Proofs.Ytmlddlnmplnlaaa.Pure
