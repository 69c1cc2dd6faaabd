/- The law FnExactUnseen returns true at every list of rows and count of columns: the program's Unseen answers as the reference's. No condition. -/
import Derived.Test.YtoniljblfenpeaaHFnExactUnseenx4
namespace Go.Proofs.Ytoniljblfenpeaa.Pure
open Go.RowKit Go.Proofs.Ytoniljblfenpeaa.PFnExactUnseen Go.Proofs.YtoniljblfenpeaaW.PrintWords Go.Proofs.YtoniljblfenpeaaW.PrintLast
set_option linter.unusedSimpArgs false
set_option linter.unusedVariables false

theorem wr {x : Int} (h1 : -9223372036854775808 ≤ x) (h2 : x ≤ 9223372036854775807) : wrap64 x = x := by unfold wrap64; omega
theorem Ev.pos {α : Type} {c : Prop} [Decidable c] {g f : Nat → Option α} {r : α} (h : c) (e : Ev g r) : Ev (fun k => if c then g k else f k) r := by
  simp only [if_pos h]; exact e
theorem Ev.neg {α : Type} {c : Prop} [Decidable c] {g f : Nat → Option α} {r : α} (h : ¬ c) (e : Ev f r) : Ev (fun k => if c then g k else f k) r := by
  simp only [if_neg h]; exact e
theorem Ev.some_ {α : Type} {r r' : α} (h : r = r') : Ev (fun _ => some r) r' := h ▸ Ev.now r
theorem Ev.bnow {α β : Type} {g : Option α} {f : Nat → α → Option β} {a : α} {r : β} (h : g = some a) (k : Ev (fun n => f n a) r) : Ev (fun n => g.bind (f n)) r := by
  subst h; exact k

theorem wnx {i n : Nat} (h : i < n) (hn : n ≤ 9223372036854775807) : wrap64 ((i : Int) + 1) = ((i + 1 : Nat) : Int) := by rw [wr (by omega) (by omega)]; rfl
theorem rd_get (l : List Int) (i : Nat) (h : i < l.length) : rd l (i : Int) = l[i] := by simp [rd, List.getD, h]

def inB (a b x : Int) : Bool := decide (a ≤ x ∧ x ≤ b)
def okV (l : List Int) : Bool := l.all (inB 0 100000) && decide (l.length ≤ 12)

/-- a matrix of so many columns. -/
def im (l : List (List Int)) (cols : Int) : Bool := decide (1 ≤ cols ∧ cols ≤ 6) && (decide (l.length ≤ 12) && l.all (fun row => decide ((row.length : Int) = cols) && row.all (inB (-2) 2)))
/-- nothing but zeros and ones. -/
def bt (l : List (List Int)) : Bool := l.all (fun row => row.all (inB 0 1))

/-- of the first n columns those that P takes. -/
def colsL (P : Nat → Bool) (n : Nat) : List Int := ((List.range n).filter P).map (fun c : Nat => (c : Int))
theorem colsL_succ (P : Nat → Bool) (n : Nat) : colsL P (n + 1) = colsL P n ++ (if P n = true then [(n : Int)] else []) := by
  unfold colsL
  rw [List.range_succ, List.filter_append, List.map_append]
  congr 1
  cases h : P n <;> simp [List.filter_cons, h]
theorem colsL_len (P : Nat → Bool) (n : Nat) : (colsL P n).length ≤ n := by
  unfold colsL
  rw [List.length_map]
  refine Nat.le_trans (List.length_filter_le _ _) ?_
  rw [List.length_range]
  exact Nat.le_refl _
theorem im_is {l : List (List Int)} {cols : Int} (h : im l cols = true) : 1 ≤ cols ∧ cols ≤ 6 ∧ l.length ≤ 12 ∧ ∀ row ∈ l, (row.length : Int) = cols := by
  unfold im at h
  rw [Bool.and_eq_true, Bool.and_eq_true, List.all_eq_true] at h
  obtain ⟨h1, h2, h3⟩ := h
  have h1 := of_decide_eq_true h1
  have h2 := of_decide_eq_true h2
  refine ⟨h1.1, h1.2, h2, fun row hr => ?_⟩
  have := h3 row hr
  rw [Bool.and_eq_true] at this
  exact of_decide_eq_true this.1

theorem specIn (a l h : Int) : spec_l1In.f a l h = some (decide (l ≤ a ∧ a ≤ h)) := by
  unfold spec_l1In.f
  by_cases h1 : l ≤ a <;> simp [h1]

theorem toInt_l (l : List Int) (hl : l.length ≤ 1048576) : ∀ (d i : Nat) (acc : List Int), i + d = l.length → acc.length = l.length → (∀ j, j < i → acc[j]? = l[j]?) → Ev (fun k => laws_toIntS.l0 k l acc i) l := by
  intro d
  induction d with
  | zero =>
    intro i acc hi ha hj
    refine Ev.step (fun k => laws_toIntS.l0.eq_2 _ _ _ k) ?_
    refine Ev.neg (by omega) (Ev.some_ ?_)
    apply List.ext_getElem?
    intro j
    by_cases h : j < i
    · exact hj j h
    · rw [List.getElem?_eq_none (by omega), List.getElem?_eq_none (by omega)]
  | succ d ih =>
    intro i acc hi ha hj
    refine Ev.step (fun k => laws_toIntS.l0.eq_2 _ _ _ k) ?_
    refine Ev.pos (by omega) ?_
    refine Ev.pos (by omega) ?_
    refine Ev.pos (by omega) ?_
    simp only [wnx (show i < l.length by omega) (by omega), Int.toNat_natCast]
    refine ih (i + 1) _ (by omega) (by simp; omega) ?_
    intro j hj2
    by_cases h : j = i
    · subst h
      have hlt : j < l.length := by omega
      rw [List.getElem?_set_self (by omega), rd_get l j hlt, List.getElem?_eq_getElem hlt]
    · rw [List.getElem?_set_ne (by omega)]
      exact hj j (by omega)
theorem toInts (l : List Int) (hl : l.length ≤ 1048576) : Ev (fun k => laws_toIntS.f k l) l := by
  unfold laws_toIntS.f
  refine Ev.pos (by omega) ?_
  refine Ev.pos (by omega) ?_
  exact toInt_l l hl l.length 0 _ (by omega) (by simp) (by intro j hj; omega)

theorem eqInt_l (l : List Int) (hl : l.length ≤ 1048576) : ∀ (d i : Nat), i + d = l.length → Ev (fun k => laws_eqIntS.l0 k l l i) true := by
  intro d
  induction d with
  | zero =>
    intro i hi
    refine Ev.step (fun k => laws_eqIntS.l0.eq_2 _ _ _ k) ?_
    exact Ev.neg (by omega) (Ev.now _)
  | succ d ih =>
    intro i hi
    refine Ev.step (fun k => laws_eqIntS.l0.eq_2 _ _ _ k) ?_
    refine Ev.pos (by omega) ?_
    refine Ev.pos (by omega) ?_
    refine Ev.pos (by omega) ?_
    refine Ev.pos rfl ?_
    simp only [wnx (show i < l.length by omega) (by omega)]
    exact ih (i + 1) (by omega)
theorem eqInts (l : List Int) (hl : l.length ≤ 1048576) : Ev (fun k => laws_eqIntS.f k l l) true := by
  unfold laws_eqIntS.f
  exact Ev.pos rfl (eqInt_l l hl l.length 0 (by omega))

def tot (l : List (List Int)) : Nat := (l.map List.length).sum
theorem rd1 (l : List (List Int)) (i : Nat) (h : i < l.length) : rd_L1 l (i : Int) = l[i] := by simp [rd_L1, List.getD, h]
theorem tot_mem : ∀ (l : List (List Int)) (x : List Int), x ∈ l → x.length ≤ tot l := by
  intro l
  induction l with
  | nil => intro x h; cases h
  | cons y l ih =>
    intro x h
    simp only [tot, List.map_cons, List.sum_cons]
    rcases List.mem_cons.1 h with rfl | h
    · omega
    · have := ih x h; unfold tot at this; omega
theorem szSS_l (l : List (List Int)) (hl : l.length ≤ 1048576) (hm : ∀ x ∈ l, x.length ≤ maxLen) : ∀ (d i : Nat) (q : Int), i + d = l.length → 0 ≤ q → q ≤ 1048576 → ∃ t, Ev (fun k => laws_szIntSS.l0 k l q i) t ∧ (t < 0 ∨ (t = q - tot (l.drop i) ∧ 0 ≤ t)) := by
  intro d
  induction d with
  | zero =>
    intro i q hi h0 h1
    refine ⟨q, Ev.step (fun k => laws_szIntSS.l0.eq_2 _ _ _ k) (Ev.neg (by omega) (Ev.now _)), .inr ?_⟩
    rw [List.drop_eq_nil_of_le (by omega)]
    simp [tot]; omega
  | succ d ih =>
    intro i q hi h0 h1
    have hlt : i < l.length := by omega
    have hx := hm l[i] (List.getElem_mem hlt)
    unfold maxLen at hx
    have e0 : laws_szIntS.f l[i] q = some (if q - (l[i].length : Int) < 0 then -1 else q - (l[i].length : Int)) := by
      unfold laws_szIntS.f
      rw [wr (x := q - (l[i].length : Int)) (by omega) (by omega)]
      split <;> rfl
    by_cases h : q - (l[i].length : Int) < 0
    · rw [if_pos h] at e0
      refine ⟨-1, Ev.step (fun k => laws_szIntSS.l0.eq_2 _ _ _ k) (Ev.pos (by omega) (Ev.pos (by omega) ?_)), .inl (by omega)⟩
      rw [rd1 l i hlt]
      exact Ev.bnow e0 (Ev.pos (by omega) (Ev.now _))
    · rw [if_neg h] at e0
      obtain ⟨t, et, ht⟩ := ih (i + 1) (q - (l[i].length : Int)) (by omega) (by omega) (by omega)
      refine ⟨t, Ev.step (fun k => laws_szIntSS.l0.eq_2 _ _ _ k) (Ev.pos (by omega) (Ev.pos (by omega) ?_)), ?_⟩
      · rw [rd1 l i hlt]
        refine Ev.bnow e0 (Ev.neg h ?_)
        simp only [wnx hlt (by omega)]
        exact et
      · rcases ht with ht | ⟨ht, h2⟩
        · exact .inl ht
        · refine .inr ⟨?_, h2⟩
          have : tot (l.drop i) = l[i].length + tot (l.drop (i + 1)) := by
            rw [List.drop_eq_getElem_cons hlt]; simp only [tot, List.map_cons, List.sum_cons]
          omega
theorem szSS (l : List (List Int)) (q : Int) (h0 : 0 ≤ q) (h1 : q ≤ 1048576) (hl : l.length ≤ maxLen) (hm : ∀ x ∈ l, x.length ≤ maxLen) : ∃ t, Ev (fun k => laws_szIntSS.f k l q) t ∧ (t < 0 ∨ (t = q - l.length - tot l ∧ 0 ≤ t)) := by
  unfold maxLen at hl
  unfold laws_szIntSS.f
  rw [wr (x := q - (l.length : Int)) (by omega) (by omega)]
  by_cases h : q - (l.length : Int) < 0
  · exact ⟨-1, Ev.pos h (Ev.now _), .inl (by omega)⟩
  · obtain ⟨t, et, ht⟩ := szSS_l l (by omega) hm l.length 0 (q - (l.length : Int)) (by omega) (by omega) (by omega)
    exact ⟨t, Ev.neg h et, ht⟩
theorem toSS_l (l : List (List Int)) (hl : l.length ≤ 1048576) (hm : ∀ x ∈ l, x.length ≤ 1048576) : ∀ (d i : Nat) (acc : List (List Int)), i + d = l.length → acc.length = l.length → (∀ j, j < i → acc[j]? = l[j]?) → Ev (fun k => laws_toIntSS.l0 k l acc i) l := by
  intro d
  induction d with
  | zero =>
    intro i acc hi ha hj
    refine Ev.step (fun k => laws_toIntSS.l0.eq_2 _ _ _ k) ?_
    refine Ev.neg (by omega) (Ev.some_ ?_)
    apply List.ext_getElem?
    intro j
    by_cases h : j < i
    · exact hj j h
    · rw [List.getElem?_eq_none (by omega), List.getElem?_eq_none (by omega)]
  | succ d ih =>
    intro i acc hi ha hj
    have hlt : i < l.length := by omega
    refine Ev.step (fun k => laws_toIntSS.l0.eq_2 _ _ _ k) ?_
    refine Ev.pos (by omega) ?_
    refine Ev.pos (by omega) ?_
    rw [rd1 l i hlt]
    refine Ev.bind (toInts l[i] (hm _ (List.getElem_mem hlt))) ?_
    refine Ev.pos (by omega) ?_
    simp only [wnx (show i < l.length by omega) (by omega), Int.toNat_natCast]
    refine ih (i + 1) _ (by omega) (by simp; omega) ?_
    intro j hj2
    by_cases h : j = i
    · subst h
      rw [List.getElem?_set_self (by omega), List.getElem?_eq_getElem hlt]
    · rw [List.getElem?_set_ne (by omega)]
      exact hj j (by omega)
theorem toSS (l : List (List Int)) (hl : l.length ≤ 1048576) (hm : ∀ x ∈ l, x.length ≤ 1048576) : Ev (fun k => laws_toIntSS.f k l) l := by
  unfold laws_toIntSS.f
  refine Ev.pos (by omega) ?_
  refine Ev.pos (by omega) ?_
  exact toSS_l l hl hm l.length 0 _ (by omega) (by simp) (by intro j hj; omega)
theorem eqSS_l (l : List (List Int)) (hl : l.length ≤ 1048576) (hm : ∀ x ∈ l, x.length ≤ 1048576) : ∀ (d i : Nat), i + d = l.length → Ev (fun k => laws_eqIntSS.l0 k l l i) true := by
  intro d
  induction d with
  | zero =>
    intro i hi
    refine Ev.step (fun k => laws_eqIntSS.l0.eq_2 _ _ _ k) ?_
    exact Ev.neg (by omega) (Ev.now _)
  | succ d ih =>
    intro i hi
    have hlt : i < l.length := by omega
    refine Ev.step (fun k => laws_eqIntSS.l0.eq_2 _ _ _ k) ?_
    refine Ev.pos (by omega) ?_
    refine Ev.pos (by omega) ?_
    refine Ev.pos (by omega) ?_
    rw [rd1 l i hlt]
    refine Ev.bind (eqInts l[i] (hm _ (List.getElem_mem hlt))) ?_
    refine Ev.pos rfl ?_
    simp only [wnx (show i < l.length by omega) (by omega)]
    exact ih (i + 1) (by omega)
theorem eqSS (l : List (List Int)) (hl : l.length ≤ 1048576) (hm : ∀ x ∈ l, x.length ≤ 1048576) : Ev (fun k => laws_eqIntSS.f k l l) true := by
  unfold laws_eqIntSS.f
  exact Ev.pos rfl (eqSS_l l hl hm l.length 0 (by omega))

theorem sim_r (l : List (List Int)) (cols : Int) (i : Nat) (hlt : i < l.length) (hl : l.length ≤ 1048576) (hx : l[i].length ≤ 1048576) (hc : (l[i].length : Int) = cols) {r : Bool} (nx : Ev (fun k => spec_IsMatrix.l0 k l cols ((i + 1 : Nat) : Int)) r) :
    ∀ (d j : Nat), j + d = l[i].length → Ev (fun k => spec_IsMatrix.l1 k l cols i j) (((l[i].drop j).all (inB (-2) 2)) && r) := by
  intro d
  induction d with
  | zero =>
    intro j hj
    refine Ev.step (fun k => spec_IsMatrix.l1.eq_2 _ _ _ _ k) ?_
    refine Ev.neg (by omega) ?_
    rw [List.drop_eq_nil_of_le (by omega)]
    simp only [wnx hlt (by omega), List.all_nil, Bool.true_and]
    exact nx
  | succ d ih =>
    intro j hj
    have hlt2 : j < l[i].length := by omega
    refine Ev.step (fun k => spec_IsMatrix.l1.eq_2 _ _ _ _ k) ?_
    refine Ev.pos (by omega) ?_
    refine Ev.pos (by omega) ?_
    refine Ev.pos (by omega) ?_
    refine Ev.pos (by omega) ?_
    rw [rd1 l i hlt]
    refine Ev.pos (by omega) ?_
    rw [rd_get l[i] j hlt2, List.drop_eq_getElem_cons hlt2, List.all_cons]
    refine Ev.bnow (a := inB (-2) 2 l[i][j]) (by rw [specIn]; rfl) ?_
    cases h : inB (-2) 2 l[i][j] with
    | true =>
      refine Ev.pos rfl ?_
      simp only [wnx hlt2 (by omega), Bool.true_and]
      exact ih (j + 1) (by omega)
    | false => exact Ev.neg (by simp) (Ev.now _)
theorem sim_l (l : List (List Int)) (cols : Int) (hl : l.length ≤ 1048576) (hm : ∀ x ∈ l, x.length ≤ 1048576) : ∀ (d i : Nat), i + d = l.length → Ev (fun k => spec_IsMatrix.l0 k l cols i) ((l.drop i).all (fun row => decide ((row.length : Int) = cols) && row.all (inB (-2) 2))) := by
  intro d
  induction d with
  | zero =>
    intro i hi
    refine Ev.step (fun k => spec_IsMatrix.l0.eq_2 _ _ _ k) ?_
    refine Ev.neg (by omega) (Ev.some_ ?_)
    rw [List.drop_eq_nil_of_le (by omega)]; rfl
  | succ d ih =>
    intro i hi
    have hlt : i < l.length := by omega
    have hx := hm l[i] (List.getElem_mem hlt)
    refine Ev.step (fun k => spec_IsMatrix.l0.eq_2 _ _ _ k) ?_
    refine Ev.pos (by omega) ?_
    refine Ev.pos (by omega) ?_
    rw [rd1 l i hlt, List.drop_eq_getElem_cons hlt, List.all_cons]
    by_cases h : (l[i].length : Int) = cols
    · refine Ev.pos h ?_
      rw [decide_eq_true h, Bool.true_and]
      exact sim_r l cols i hlt hl hx h (ih (i + 1) (by omega)) l[i].length 0 (by omega)
    · refine Ev.neg h (Ev.some_ ?_)
      rw [decide_eq_false h]; rfl
theorem sim (l : List (List Int)) (cols : Int) (hl : l.length ≤ 1048576) (hm : ∀ x ∈ l, x.length ≤ 1048576) : Ev (fun k => spec_IsMatrix.f k l cols) (im l cols) := by
  unfold spec_IsMatrix.f
  refine Ev.bnow (specIn _ _ _) ?_
  have e := sim_l l cols hl hm l.length 0 (by omega)
  unfold im
  by_cases h : 1 ≤ cols ∧ cols ≤ 6
  · refine Ev.pos (decide_eq_true h) ?_
    rw [decide_eq_true h, Bool.true_and]
    by_cases h2 : (l.length : Int) > 12
    · rw [decide_eq_true h2, decide_eq_false (show ¬ l.length ≤ 12 by omega)]
      exact Ev.step (fun k => spec_IsMatrix.j0.eq_2 _ _ _ k) (Ev.pos rfl (Ev.now _))
    · rw [decide_eq_false h2, decide_eq_true (show l.length ≤ 12 by omega)]
      exact Ev.step (fun k => spec_IsMatrix.j0.eq_2 _ _ _ k) (Ev.neg (by simp) e)
  · refine Ev.neg (by rw [decide_eq_false h]; simp) ?_
    rw [decide_eq_false h]
    exact Ev.step (fun k => spec_IsMatrix.j0.eq_2 _ _ _ k) (Ev.pos rfl (Ev.now _))

theorem implIn (a l h : Int) : impl_InRange.f a l h = some (decide (l ≤ a ∧ a ≤ h)) := by
  unfold impl_InRange.f
  by_cases h1 : l ≤ a <;> simp [h1]

theorem allIn_l (l : List Int) (a b : Int) (hl : l.length ≤ 1048577) : ∀ (d i : Nat), i + d = l.length → Ev (fun k => impl_allIn.l0 k a b l l.length i) ((l.drop i).all (inB a b)) := by
  intro d
  induction d with
  | zero =>
    intro i hi
    refine Ev.step (fun k => impl_allIn.l0.eq_2 _ _ _ _ _ k) ?_
    refine Ev.neg (by omega) (Ev.some_ ?_)
    rw [List.drop_eq_nil_of_le (by omega)]; rfl
  | succ d ih =>
    intro i hi
    have hlt : i < l.length := by omega
    refine Ev.step (fun k => impl_allIn.l0.eq_2 _ _ _ _ _ k) ?_
    refine Ev.pos (by omega) ?_
    refine Ev.pos (by omega) ?_
    refine Ev.pos (by omega) ?_
    rw [rd_get l i hlt, List.drop_eq_getElem_cons hlt, List.all_cons]
    refine Ev.bnow (a := inB a b l[i]) (by rw [implIn]; rfl) ?_
    cases h : inB a b l[i] with
    | true =>
      refine Ev.pos rfl ?_
      simp only [wnx hlt (by omega)]
      exact ih (i + 1) (by omega)
    | false => exact Ev.neg (by simp) (Ev.now _)
theorem allIn (l : List Int) (a b : Int) (hl : l.length ≤ 1048577) : Ev (fun k => impl_allIn.f k l a b) (l.all (inB a b)) := by
  unfold impl_allIn.f
  exact allIn_l l a b hl l.length 0 (by omega)

theorem iim_l (l : List (List Int)) (cols : Int) (hl : l.length ≤ 1048576) (hm : ∀ x ∈ l, x.length ≤ 1048576) : ∀ (d i : Nat), i + d = l.length → Ev (fun k => impl_IsMatrix.l0 k cols l l.length i) ((l.drop i).all (fun row => decide ((row.length : Int) = cols) && row.all (inB (-2) 2))) := by
  intro d
  induction d with
  | zero =>
    intro i hi
    refine Ev.step (fun k => impl_IsMatrix.l0.eq_2 _ _ _ _ k) ?_
    refine Ev.neg (by omega) (Ev.some_ ?_)
    rw [List.drop_eq_nil_of_le (by omega)]; rfl
  | succ d ih =>
    intro i hi
    have hlt : i < l.length := by omega
    have hx := hm l[i] (List.getElem_mem hlt)
    refine Ev.step (fun k => impl_IsMatrix.l0.eq_2 _ _ _ _ k) ?_
    refine Ev.pos (by omega) ?_
    refine Ev.pos (by omega) ?_
    refine Ev.pos (by omega) ?_
    rw [rd1 l i hlt, List.drop_eq_getElem_cons hlt, List.all_cons]
    by_cases h : (l[i].length : Int) = cols
    · refine Ev.pos h ?_
      refine Ev.bind (allIn l[i] (-2) 2 (by omega)) ?_
      rw [decide_eq_true h, Bool.true_and]
      cases h2 : l[i].all (inB (-2) 2) with
      | true =>
        refine Ev.pos rfl ?_
        simp only [wnx hlt (by omega)]
        exact ih (i + 1) (by omega)
      | false => exact Ev.neg (by simp) (Ev.now _)
    · refine Ev.neg h (Ev.some_ ?_)
      rw [decide_eq_false h]; rfl
theorem iim (l : List (List Int)) (cols : Int) (hl : l.length ≤ 1048576) (hm : ∀ x ∈ l, x.length ≤ 1048576) : Ev (fun k => impl_IsMatrix.f k l cols) (im l cols) := by
  unfold impl_IsMatrix.f
  refine Ev.bnow (implIn _ _ _) ?_
  have e := iim_l l cols hl hm l.length 0 (by omega)
  unfold im
  by_cases h : 1 ≤ cols ∧ cols ≤ 6
  · refine Ev.pos (decide_eq_true h) ?_
    rw [decide_eq_true h, Bool.true_and]
    by_cases h2 : (l.length : Int) > 12
    · rw [decide_eq_true h2, decide_eq_false (show ¬ l.length ≤ 12 by omega)]
      exact Ev.step (fun k => impl_IsMatrix.j0.eq_2 _ _ _ k) (Ev.pos rfl (Ev.now _))
    · rw [decide_eq_false h2, decide_eq_true (show l.length ≤ 12 by omega)]
      exact Ev.step (fun k => impl_IsMatrix.j0.eq_2 _ _ _ k) (Ev.neg (by simp) e)
  · refine Ev.neg (by rw [decide_eq_false h]; simp) ?_
    rw [decide_eq_false h]
    exact Ev.step (fun k => impl_IsMatrix.j0.eq_2 _ _ _ k) (Ev.pos rfl (Ev.now _))

def unsV (l : List (List Int)) (cols : Int) : List Int := if im l cols = true then colsL (fun c => !(l.any (nzB c))) cols.toNat else []
theorem unsV_len (l : List (List Int)) (cols : Int) : (unsV l cols).length ≤ 6 := by
  unfold unsV
  by_cases h : im l cols = true
  · rw [if_pos h]
    have := im_is h
    exact Nat.le_trans (colsL_len _ _) (by omega)
  · rw [if_neg h]; simp
theorem iun (l : List (List Int)) (cols : Int) (hl : l.length ≤ 1048576) (hm : ∀ x ∈ l, x.length ≤ 1048576) : Ev (fun k => impl_Unseen.f k l cols) (unsV l cols) := by
  unfold impl_Unseen.f unsV
  refine Ev.bind (iim l cols hl hm) ?_
  by_cases h : im l cols = true
  · have hi := im_is h
    refine Ev.pos h ?_
    rw [if_pos h]
    exact Ev.pos ⟨by omega, by omega, hi.2.2.2⟩ (Ev.now _)
  · refine Ev.neg h ?_
    rw [if_neg h]
    exact Ev.now _
theorem sun_1 (l : List (List Int)) (n : Nat) (hl : l.length ≤ 12) (hr : ∀ row ∈ l, (row.length : Int) = (n : Int)) (acc : List Int) (hacc : acc.length ≤ 6) (c : Nat) (hc : c < n) (hn : n ≤ 6) (r : List Int) : ∀ (d i : Nat) (q : Bool), i + d = l.length →
    ((q || (l.drop i).any (nzB c)) = true → Ev (fun k => spec_Unseen.l0 k l n acc ((c + 1 : Nat) : Int)) r) → ((q || (l.drop i).any (nzB c)) = false → Ev (fun k => spec_Unseen.l0 k l n (acc ++ [(c : Int)]) ((c + 1 : Nat) : Int)) r) →
    Ev (fun k => spec_Unseen.l1 k l n acc c q i) r := by
  have hcw := wnx hc (by omega)
  intro d
  induction d with
  | zero =>
    intro i q hi e1 e2
    refine Ev.step (fun k => spec_Unseen.l1.eq_2 _ _ _ _ _ _ k) ?_
    refine Ev.neg (by omega) ?_
    rw [List.drop_eq_nil_of_le (by omega)] at e1 e2
    rw [hcw]
    cases q with
    | true => exact Ev.pos rfl (e1 rfl)
    | false => exact Ev.neg (by simp) (Ev.pos (by omega) (e2 rfl))
  | succ d ih =>
    intro i q hi e1 e2
    have hlt : i < l.length := by omega
    have hrow := hr l[i] (List.getElem_mem hlt)
    have hiw := wnx hlt (by omega)
    rw [List.drop_eq_getElem_cons hlt, List.any_cons] at e1 e2
    refine Ev.step (fun k => spec_Unseen.l1.eq_2 _ _ _ _ _ _ k) ?_
    refine Ev.pos (by omega) ?_
    rw [hiw]
    cases q with
    | true => exact Ev.pos rfl (ih (i + 1) true (by omega) (fun _ => e1 (by simp)) (fun h => by simp at h))
    | false =>
      refine Ev.neg (by simp) ?_
      refine Ev.pos (by omega) ?_
      refine Ev.pos (by omega) ?_
      rw [rd1 l i hlt]
      refine Ev.pos (by omega) ?_
      refine ih (i + 1) (nzB c l[i]) (by omega) (fun h => e1 ?_) (fun h => e2 ?_)
      · rw [Bool.false_or]; exact h
      · rw [Bool.false_or]; exact h
theorem sun_0 (l : List (List Int)) (n : Nat) (hl : l.length ≤ 12) (hm : ∀ x ∈ l, x.length ≤ 1048576) (him : im l n = true) (hr : ∀ row ∈ l, (row.length : Int) = (n : Int)) (hn : n ≤ 6) : ∀ (d c : Nat), c + d = n → Ev (fun k => spec_Unseen.l0 k l n (colsL (fun c => !(l.any (nzB c))) c) c) (colsL (fun c => !(l.any (nzB c))) n) := by
  intro d
  induction d with
  | zero =>
    intro c hc
    refine Ev.step (fun k => spec_Unseen.l0.eq_2 _ _ _ _ k) ?_
    refine Ev.neg (by omega) ?_
    refine Ev.step (fun k => spec_Unseen.j1.eq_2 _ _ _ _ _ k) ?_
    refine Ev.neg (by simp) (Ev.some_ ?_)
    rw [show c = n by omega]
  | succ d ih =>
    intro c hc
    have hs := colsL_succ (fun c => !(l.any (nzB c))) c
    have e := ih (c + 1) (by omega)
    rw [hs] at e
    refine Ev.step (fun k => spec_Unseen.l0.eq_2 _ _ _ _ k) ?_
    refine Ev.pos (by omega) ?_
    refine Ev.bind (sim l n (by omega) hm) ?_
    refine Ev.step (fun k => spec_Unseen.j1.eq_2 _ _ _ _ _ k) ?_
    refine Ev.pos him ?_
    refine sun_1 l n hl hr _ (Nat.le_trans (colsL_len _ _) (by omega)) c (by omega) hn _ l.length 0 false (by omega) (fun h => ?_) (fun h => ?_)
    · rw [Bool.false_or, List.drop_zero] at h
      rw [h] at e
      simpa using e
    · rw [Bool.false_or, List.drop_zero] at h
      rw [h] at e
      simpa using e
theorem sun (l : List (List Int)) (cols : Int) (hl : l.length ≤ 1048576) (hm : ∀ x ∈ l, x.length ≤ 1048576) : Ev (fun k => spec_Unseen.f k l cols) (unsV l cols) := by
  unfold spec_Unseen.f unsV
  by_cases h : im l cols = true
  · rw [if_pos h]
    have hi := im_is h
    obtain ⟨n, rfl⟩ := Int.eq_ofNat_of_zero_le (show 0 ≤ cols by omega)
    exact sun_0 l n hi.2.2.1 hm h hi.2.2.2 (by omega) n 0 (by omega)
  · rw [if_neg h]
    have hf : Ev (fun k => spec_Unseen.j1 k l cols [] 0 false) [] := by
      refine Ev.step (fun k => spec_Unseen.j1.eq_2 _ _ _ _ _ k) ?_
      exact Ev.neg (by simp) (Ev.now _)
    refine Ev.step (fun k => spec_Unseen.l0.eq_2 _ _ _ _ k) ?_
    by_cases h0 : 0 < cols
    · refine Ev.pos h0 ?_
      refine Ev.bind (sim l cols hl hm) ?_
      rw [show im l cols = false by simpa using h]
      exact hf
    · exact Ev.neg h0 hf

/-- Numbers from a on. -/
def mkI : Nat → Int → List Int
  | 0, _ => []
  | n + 1, a => a :: mkI n (a + 1)
theorem mkI_len : ∀ (n : Nat) (a : Int), (mkI n a).length = n := by
  intro n
  induction n with
  | zero => intro a; rfl
  | succ n ih => intro a; simp [mkI, ih]
theorem rdI (pre rest : List Int) (x : Int) : rd (pre ++ x :: rest) (pre.length : Int) = x := by
  simp [rd, List.getD]
theorem setI (pre rest : List Int) (x y : Int) : (pre ++ x :: rest).set pre.length y = pre ++ y :: rest := by simp
theorem markI_l : ∀ (rest pre : List Int) (a : Int), 0 ≤ a → a + rest.length ≤ 1000000000000 → pre.length + rest.length ≤ 1048576 → Ev (fun k => laws_markIntS.l0 k (pre ++ rest) a pre.length) (a + rest.length, pre ++ mkI rest.length a) := by
  intro rest
  induction rest with
  | nil =>
    intro pre a h0 h1 h2
    refine Ev.step (fun k => laws_markIntS.l0.eq_2 _ _ _ k) ?_
    refine Ev.neg (by simp) (Ev.some_ ?_)
    simp [mkI]
  | cons x rest ih =>
    intro pre a h0 h1 h2
    rw [List.length_cons] at h1 h2
    refine Ev.step (fun k => laws_markIntS.l0.eq_2 _ _ _ k) ?_
    refine Ev.pos (by simp; omega) ?_
    refine Ev.pos (by omega) ?_
    simp only [Int.toNat_natCast, setI, wnx (show pre.length < 1048577 by omega) (by omega), wr (x := a + 1) (by omega) (by omega)]
    have e := ih (pre ++ [a]) (a + 1) (by omega) (by omega) (by simp; omega)
    rw [List.append_assoc, List.append_assoc, List.length_append] at e
    simp only [List.length_cons, List.length_nil, List.cons_append, List.nil_append] at e
    simp only [List.length_cons, mkI]
    rw [show a + ((rest.length + 1 : Nat) : Int) = a + 1 + (rest.length : Int) by omega]
    exact e
theorem markI (l : List Int) (a : Int) (hl : l.length ≤ 1048576) (h0 : 0 ≤ a) (h1 : a ≤ 100000000000) : Ev (fun k => laws_markIntS.f k l a) (a + l.length, mkI l.length a) := by
  unfold laws_markIntS.f
  have e := markI_l l [] a h0 (by omega) (by simp; omega)
  simpa using e
theorem heldI_l : ∀ (n : Nat) (pre : List Int) (a : Int), 0 ≤ a → a + n ≤ 1000000000000 → pre.length + n ≤ 1048576 → Ev (fun k => laws_heldIntS.l0 k (pre ++ mkI n a) a pre.length) (a + n) := by
  intro n
  induction n with
  | zero =>
    intro pre a h0 h1 h2
    refine Ev.step (fun k => laws_heldIntS.l0.eq_2 _ _ _ k) ?_
    refine Ev.neg (by simp [mkI]) (Ev.some_ (by simp))
  | succ n ih =>
    intro pre a h0 h1 h2
    refine Ev.step (fun k => laws_heldIntS.l0.eq_2 _ _ _ k) ?_
    refine Ev.pos (by simp [mkI]; omega) ?_
    refine Ev.pos (by omega) ?_
    simp only [mkI, rdI]
    refine Ev.pos trivial ?_
    simp only [wnx (show pre.length < 1048577 by omega) (by omega), wr (x := a + 1) (by omega) (by omega)]
    have e := ih (pre ++ [a]) (a + 1) (by omega) (by omega) (by simp; omega)
    rw [List.append_assoc, List.length_append] at e
    simp only [List.length_cons, List.length_nil, List.cons_append, List.nil_append] at e
    rw [show a + ((n + 1 : Nat) : Int) = a + 1 + (n : Int) by omega]
    exact e
theorem heldI (n : Nat) (hn : n ≤ 1048576) : Ev (fun k => laws_heldIntS.f k (mkI n 1) 1) (1 + n) := by
  unfold laws_heldIntS.f
  have e := heldI_l n [] 1 (by omega) (by omega) (by simp; omega)
  simpa using e

/-- Numbers from a on, in rows as long as these. -/
def mkSS : List (List Int) → Int → List (List Int)
  | [], _ => []
  | r :: l, a => mkI r.length a :: mkSS l (a + r.length)
theorem tot_cons (r : List Int) (l : List (List Int)) : tot (r :: l) = r.length + tot l := by simp [tot]
theorem markSS : ∀ (l : List (List Int)) (a : Int), 0 ≤ a → a + tot l ≤ 100000000000 → (∀ x ∈ l, x.length ≤ 1048576) → Ev (fun k => laws_markIntSS.f k l a) (a + tot l, mkSS l a) := by
  intro l
  induction l with
  | nil =>
    intro a _ _ _
    simp only [laws_markIntSS.f]
    exact Ev.some_ (by simp [tot, mkSS])
  | cons r l ih =>
    intro a h0 h1 hm
    have hr := hm r (by simp)
    have ht := tot_cons r l
    simp only [laws_markIntSS.f]
    refine Ev.bind (markI r a hr h0 (by omega)) ?_
    refine Ev.bind (ih (a + r.length) (by omega) (by omega) (fun x hx => hm x (by simp [hx]))) (Ev.some_ ?_)
    simp only [mkSS, ht]
    congr 1
    omega

theorem FnExactUnseen : ∀ (l0 : List (List Int)) (a1 : Int), (l0.length ≤ maxLen ∧ ∀ x_ ∈ l0, (x_.length ≤ maxLen ∧ ∀ y_ ∈ x_, (Lit.int .i64 y_).wf = true)) → (Lit.int .i64 a1).wf = true → ∃ k, laws_FnExactUnseen.f k l0 a1 = some true := by
  intro l cols ⟨h1, h2⟩ _
  refine Ev.rounds (g := fun j => laws_FnExactUnseen.f j l cols) ?_
  unfold laws_FnExactUnseen.f
  obtain ⟨q, eq, hq⟩ := szSS l 1048576 (by omega) (by omega) h1 (fun x hx => (h2 x hx).1)
  refine Ev.bind eq ?_
  by_cases h0 : q < 0
  · exact Ev.pos h0 (Ev.now _)
  refine Ev.neg h0 ?_
  have hl : l.length ≤ 1048576 := by omega
  have ht : tot l ≤ 1048576 := by omega
  have hm : ∀ x ∈ l, x.length ≤ 1048576 := fun x hx => by have := tot_mem l x hx; omega
  have hL : (unsV l cols).length ≤ 1048576 := Nat.le_trans (unsV_len l cols) (by omega)
  clear hq h1 h2
  refine Ev.bind (toSS l hl hm) ?_
  refine Ev.bind (sun l cols hl hm) ?_
  refine Ev.bind (toSS l hl hm) ?_
  refine Ev.bind (iun l cols hl hm) ?_
  refine Ev.bind (eqInts _ hL) ?_
  refine Ev.pos rfl ?_
  refine Ev.bind (toSS l hl hm) ?_
  refine Ev.bind (eqSS l hl hm) ?_
  refine Ev.pos rfl ?_
  refine Ev.bind (markSS l 1 (by omega) (by omega) hm) ?_
  refine Ev.neg (by simp only []; omega) ?_
  refine Ev.bind (eqInts _ hL) ?_
  refine Ev.pos rfl ?_
  refine Ev.bind (markI _ 1 hL (by omega) (by omega)) ?_
  have hh := heldI (unsV l cols).length hL
  refine Ev.bind hh ?_
  refine Ev.neg (by omega) ?_
  refine Ev.pos rfl ?_
  refine Ev.bind (toSS l hl hm) ?_
  refine Ev.bind (iun l cols hl hm) ?_
  refine Ev.bind (eqInts _ hL) ?_
  refine Ev.pos rfl ?_
  refine Ev.bind hh ?_
  refine Ev.neg (by omega) ?_
  exact Ev.pos rfl (Ev.now _)

end Go.Proofs.Ytoniljblfenpeaa.Pure
