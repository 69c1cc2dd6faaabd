/- The law FnExactAreVerdicts returns true at every list of rows, list of verdicts and count of columns: the program's AreVerdicts answers as the reference's. No condition. -/
import Derived.Test.YtoniljblfenpeaaHFnExactAreVerdictsx4
namespace Go.Proofs.Ytoniljblfenpeaa.Pure
open Go.RowKit Go.Proofs.Ytoniljblfenpeaa.PFnExactAreVerdicts Go.Proofs.YtoniljblfenpeaaW.PrintWords Go.Proofs.YtoniljblfenpeaaW.PrintLast
set_option linter.unusedSimpArgs false
set_option linter.unusedVariables false

theorem wr {x : Int} (h1 : -9223372036854775808 ≤ x) (h2 : x ≤ 9223372036854775807) : wrap64 x = x := by unfold wrap64; omega
theorem Ev.pos {α : Type} {c : Prop} [Decidable c] {g f : Nat → Option α} {r : α} (h : c) (e : Ev g r) : Ev (fun k => if c then g k else f k) r := by
  simp only [if_pos h]; exact e
theorem Ev.neg {α : Type} {c : Prop} [Decidable c] {g f : Nat → Option α} {r : α} (h : ¬ c) (e : Ev f r) : Ev (fun k => if c then g k else f k) r := by
  simp only [if_neg h]; exact e
theorem Ev.some_ {α : Type} {r r' : α} (h : r = r') : Ev (fun _ => some r) r' := h ▸ Ev.now r
theorem Ev.bnow {α β : Type} {g : Option α} {f : Nat → α → Option β} {a : α} {r : β} (h : g = some a) (k : Ev (fun n => f n a) r) : Ev (fun n => g.bind (f n)) r := by
  subst h; exact k

theorem wnx {i n : Nat} (h : i < n) (hn : n ≤ 9223372036854775807) : wrap64 ((i : Int) + 1) = ((i + 1 : Nat) : Int) := by rw [wr (by omega) (by omega)]; rfl
theorem rd_get (l : List Int) (i : Nat) (h : i < l.length) : rd l (i : Int) = l[i] := by simp [rd, List.getD, h]

def inB (a b x : Int) : Bool := decide (a ≤ x ∧ x ≤ b)
def okV (l : List Int) : Bool := l.all (inB 0 100000) && decide (l.length ≤ 12)

/-- a matrix of so many columns. -/
def im (l : List (List Int)) (cols : Int) : Bool := decide (1 ≤ cols ∧ cols ≤ 6) && (decide (l.length ≤ 12) && l.all (fun row => decide ((row.length : Int) = cols) && row.all (inB (-2) 2)))
/-- nothing but zeros and ones. -/
def bt (l : List (List Int)) : Bool := l.all (fun row => row.all (inB 0 1))

theorem implIn (a l h : Int) : impl_InRange.f a l h = some (decide (l ≤ a ∧ a ≤ h)) := by
  unfold impl_InRange.f
  by_cases h1 : l ≤ a <;> simp [h1]

theorem allIn_l (l : List Int) (a b : Int) (hl : l.length ≤ 1048577) : ∀ (d i : Nat), i + d = l.length → Ev (fun k => impl_allIn.l0 k a b l l.length i) ((l.drop i).all (inB a b)) := by
  intro d
  induction d with
  | zero =>
    intro i hi
    refine Ev.step (fun k => impl_allIn.l0.eq_2 _ _ _ _ _ k) ?_
    refine Ev.neg (by omega) (Ev.some_ ?_)
    rw [List.drop_eq_nil_of_le (by omega)]; rfl
  | succ d ih =>
    intro i hi
    have hlt : i < l.length := by omega
    refine Ev.step (fun k => impl_allIn.l0.eq_2 _ _ _ _ _ k) ?_
    refine Ev.pos (by omega) ?_
    refine Ev.pos (by omega) ?_
    refine Ev.pos (by omega) ?_
    rw [rd_get l i hlt, List.drop_eq_getElem_cons hlt, List.all_cons]
    refine Ev.bnow (a := inB a b l[i]) (by rw [implIn]; rfl) ?_
    cases h : inB a b l[i] with
    | true =>
      refine Ev.pos rfl ?_
      simp only [wnx hlt (by omega)]
      exact ih (i + 1) (by omega)
    | false => exact Ev.neg (by simp) (Ev.now _)
theorem allIn (l : List Int) (a b : Int) (hl : l.length ≤ 1048577) : Ev (fun k => impl_allIn.f k l a b) (l.all (inB a b)) := by
  unfold impl_allIn.f
  exact allIn_l l a b hl l.length 0 (by omega)

theorem toInt_l (l : List Int) (hl : l.length ≤ 1048576) : ∀ (d i : Nat) (acc : List Int), i + d = l.length → acc.length = l.length → (∀ j, j < i → acc[j]? = l[j]?) → Ev (fun k => laws_toIntS.l0 k l acc i) l := by
  intro d
  induction d with
  | zero =>
    intro i acc hi ha hj
    refine Ev.step (fun k => laws_toIntS.l0.eq_2 _ _ _ k) ?_
    refine Ev.neg (by omega) (Ev.some_ ?_)
    apply List.ext_getElem?
    intro j
    by_cases h : j < i
    · exact hj j h
    · rw [List.getElem?_eq_none (by omega), List.getElem?_eq_none (by omega)]
  | succ d ih =>
    intro i acc hi ha hj
    refine Ev.step (fun k => laws_toIntS.l0.eq_2 _ _ _ k) ?_
    refine Ev.pos (by omega) ?_
    refine Ev.pos (by omega) ?_
    refine Ev.pos (by omega) ?_
    simp only [wnx (show i < l.length by omega) (by omega), Int.toNat_natCast]
    refine ih (i + 1) _ (by omega) (by simp; omega) ?_
    intro j hj2
    by_cases h : j = i
    · subst h
      have hlt : j < l.length := by omega
      rw [List.getElem?_set_self (by omega), rd_get l j hlt, List.getElem?_eq_getElem hlt]
    · rw [List.getElem?_set_ne (by omega)]
      exact hj j (by omega)
theorem toInts (l : List Int) (hl : l.length ≤ 1048576) : Ev (fun k => laws_toIntS.f k l) l := by
  unfold laws_toIntS.f
  refine Ev.pos (by omega) ?_
  refine Ev.pos (by omega) ?_
  exact toInt_l l hl l.length 0 _ (by omega) (by simp) (by intro j hj; omega)

theorem eqInt_l (l : List Int) (hl : l.length ≤ 1048576) : ∀ (d i : Nat), i + d = l.length → Ev (fun k => laws_eqIntS.l0 k l l i) true := by
  intro d
  induction d with
  | zero =>
    intro i hi
    refine Ev.step (fun k => laws_eqIntS.l0.eq_2 _ _ _ k) ?_
    exact Ev.neg (by omega) (Ev.now _)
  | succ d ih =>
    intro i hi
    refine Ev.step (fun k => laws_eqIntS.l0.eq_2 _ _ _ k) ?_
    refine Ev.pos (by omega) ?_
    refine Ev.pos (by omega) ?_
    refine Ev.pos (by omega) ?_
    refine Ev.pos rfl ?_
    simp only [wnx (show i < l.length by omega) (by omega)]
    exact ih (i + 1) (by omega)
theorem eqInts (l : List Int) (hl : l.length ≤ 1048576) : Ev (fun k => laws_eqIntS.f k l l) true := by
  unfold laws_eqIntS.f
  exact Ev.pos rfl (eqInt_l l hl l.length 0 (by omega))

def tot (l : List (List Int)) : Nat := (l.map List.length).sum
theorem rd1 (l : List (List Int)) (i : Nat) (h : i < l.length) : rd_L1 l (i : Int) = l[i] := by simp [rd_L1, List.getD, h]
theorem tot_mem : ∀ (l : List (List Int)) (x : List Int), x ∈ l → x.length ≤ tot l := by
  intro l
  induction l with
  | nil => intro x h; cases h
  | cons y l ih =>
    intro x h
    simp only [tot, List.map_cons, List.sum_cons]
    rcases List.mem_cons.1 h with rfl | h
    · omega
    · have := ih x h; unfold tot at this; omega
theorem szSS_l (l : List (List Int)) (hl : l.length ≤ 1048576) (hm : ∀ x ∈ l, x.length ≤ maxLen) : ∀ (d i : Nat) (q : Int), i + d = l.length → 0 ≤ q → q ≤ 1048576 → ∃ t, Ev (fun k => laws_szIntSS.l0 k l q i) t ∧ (t < 0 ∨ (t = q - tot (l.drop i) ∧ 0 ≤ t)) := by
  intro d
  induction d with
  | zero =>
    intro i q hi h0 h1
    refine ⟨q, Ev.step (fun k => laws_szIntSS.l0.eq_2 _ _ _ k) (Ev.neg (by omega) (Ev.now _)), .inr ?_⟩
    rw [List.drop_eq_nil_of_le (by omega)]
    simp [tot]; omega
  | succ d ih =>
    intro i q hi h0 h1
    have hlt : i < l.length := by omega
    have hx := hm l[i] (List.getElem_mem hlt)
    unfold maxLen at hx
    have e0 : laws_szIntS.f l[i] q = some (if q - (l[i].length : Int) < 0 then -1 else q - (l[i].length : Int)) := by
      unfold laws_szIntS.f
      rw [wr (x := q - (l[i].length : Int)) (by omega) (by omega)]
      split <;> rfl
    by_cases h : q - (l[i].length : Int) < 0
    · rw [if_pos h] at e0
      refine ⟨-1, Ev.step (fun k => laws_szIntSS.l0.eq_2 _ _ _ k) (Ev.pos (by omega) (Ev.pos (by omega) ?_)), .inl (by omega)⟩
      rw [rd1 l i hlt]
      exact Ev.bnow e0 (Ev.pos (by omega) (Ev.now _))
    · rw [if_neg h] at e0
      obtain ⟨t, et, ht⟩ := ih (i + 1) (q - (l[i].length : Int)) (by omega) (by omega) (by omega)
      refine ⟨t, Ev.step (fun k => laws_szIntSS.l0.eq_2 _ _ _ k) (Ev.pos (by omega) (Ev.pos (by omega) ?_)), ?_⟩
      · rw [rd1 l i hlt]
        refine Ev.bnow e0 (Ev.neg h ?_)
        simp only [wnx hlt (by omega)]
        exact et
      · rcases ht with ht | ⟨ht, h2⟩
        · exact .inl ht
        · refine .inr ⟨?_, h2⟩
          have : tot (l.drop i) = l[i].length + tot (l.drop (i + 1)) := by
            rw [List.drop_eq_getElem_cons hlt]; simp only [tot, List.map_cons, List.sum_cons]
          omega
theorem szSS (l : List (List Int)) (q : Int) (h0 : 0 ≤ q) (h1 : q ≤ 1048576) (hl : l.length ≤ maxLen) (hm : ∀ x ∈ l, x.length ≤ maxLen) : ∃ t, Ev (fun k => laws_szIntSS.f k l q) t ∧ (t < 0 ∨ (t = q - l.length - tot l ∧ 0 ≤ t)) := by
  unfold maxLen at hl
  unfold laws_szIntSS.f
  rw [wr (x := q - (l.length : Int)) (by omega) (by omega)]
  by_cases h : q - (l.length : Int) < 0
  · exact ⟨-1, Ev.pos h (Ev.now _), .inl (by omega)⟩
  · obtain ⟨t, et, ht⟩ := szSS_l l (by omega) hm l.length 0 (q - (l.length : Int)) (by omega) (by omega) (by omega)
    exact ⟨t, Ev.neg h et, ht⟩
theorem toSS_l (l : List (List Int)) (hl : l.length ≤ 1048576) (hm : ∀ x ∈ l, x.length ≤ 1048576) : ∀ (d i : Nat) (acc : List (List Int)), i + d = l.length → acc.length = l.length → (∀ j, j < i → acc[j]? = l[j]?) → Ev (fun k => laws_toIntSS.l0 k l acc i) l := by
  intro d
  induction d with
  | zero =>
    intro i acc hi ha hj
    refine Ev.step (fun k => laws_toIntSS.l0.eq_2 _ _ _ k) ?_
    refine Ev.neg (by omega) (Ev.some_ ?_)
    apply List.ext_getElem?
    intro j
    by_cases h : j < i
    · exact hj j h
    · rw [List.getElem?_eq_none (by omega), List.getElem?_eq_none (by omega)]
  | succ d ih =>
    intro i acc hi ha hj
    have hlt : i < l.length := by omega
    refine Ev.step (fun k => laws_toIntSS.l0.eq_2 _ _ _ k) ?_
    refine Ev.pos (by omega) ?_
    refine Ev.pos (by omega) ?_
    rw [rd1 l i hlt]
    refine Ev.bind (toInts l[i] (hm _ (List.getElem_mem hlt))) ?_
    refine Ev.pos (by omega) ?_
    simp only [wnx (show i < l.length by omega) (by omega), Int.toNat_natCast]
    refine ih (i + 1) _ (by omega) (by simp; omega) ?_
    intro j hj2
    by_cases h : j = i
    · subst h
      rw [List.getElem?_set_self (by omega), List.getElem?_eq_getElem hlt]
    · rw [List.getElem?_set_ne (by omega)]
      exact hj j (by omega)
theorem toSS (l : List (List Int)) (hl : l.length ≤ 1048576) (hm : ∀ x ∈ l, x.length ≤ 1048576) : Ev (fun k => laws_toIntSS.f k l) l := by
  unfold laws_toIntSS.f
  refine Ev.pos (by omega) ?_
  refine Ev.pos (by omega) ?_
  exact toSS_l l hl hm l.length 0 _ (by omega) (by simp) (by intro j hj; omega)
theorem eqSS_l (l : List (List Int)) (hl : l.length ≤ 1048576) (hm : ∀ x ∈ l, x.length ≤ 1048576) : ∀ (d i : Nat), i + d = l.length → Ev (fun k => laws_eqIntSS.l0 k l l i) true := by
  intro d
  induction d with
  | zero =>
    intro i hi
    refine Ev.step (fun k => laws_eqIntSS.l0.eq_2 _ _ _ k) ?_
    exact Ev.neg (by omega) (Ev.now _)
  | succ d ih =>
    intro i hi
    have hlt : i < l.length := by omega
    refine Ev.step (fun k => laws_eqIntSS.l0.eq_2 _ _ _ k) ?_
    refine Ev.pos (by omega) ?_
    refine Ev.pos (by omega) ?_
    refine Ev.pos (by omega) ?_
    rw [rd1 l i hlt]
    refine Ev.bind (eqInts l[i] (hm _ (List.getElem_mem hlt))) ?_
    refine Ev.pos rfl ?_
    simp only [wnx (show i < l.length by omega) (by omega)]
    exact ih (i + 1) (by omega)
theorem eqSS (l : List (List Int)) (hl : l.length ≤ 1048576) (hm : ∀ x ∈ l, x.length ≤ 1048576) : Ev (fun k => laws_eqIntSS.f k l l) true := by
  unfold laws_eqIntSS.f
  exact Ev.pos rfl (eqSS_l l hl hm l.length 0 (by omega))

theorem iim_l (l : List (List Int)) (cols : Int) (hl : l.length ≤ 1048576) (hm : ∀ x ∈ l, x.length ≤ 1048576) : ∀ (d i : Nat), i + d = l.length → Ev (fun k => impl_IsMatrix.l0 k cols l l.length i) ((l.drop i).all (fun row => decide ((row.length : Int) = cols) && row.all (inB (-2) 2))) := by
  intro d
  induction d with
  | zero =>
    intro i hi
    refine Ev.step (fun k => impl_IsMatrix.l0.eq_2 _ _ _ _ k) ?_
    refine Ev.neg (by omega) (Ev.some_ ?_)
    rw [List.drop_eq_nil_of_le (by omega)]; rfl
  | succ d ih =>
    intro i hi
    have hlt : i < l.length := by omega
    have hx := hm l[i] (List.getElem_mem hlt)
    refine Ev.step (fun k => impl_IsMatrix.l0.eq_2 _ _ _ _ k) ?_
    refine Ev.pos (by omega) ?_
    refine Ev.pos (by omega) ?_
    refine Ev.pos (by omega) ?_
    rw [rd1 l i hlt, List.drop_eq_getElem_cons hlt, List.all_cons]
    by_cases h : (l[i].length : Int) = cols
    · refine Ev.pos h ?_
      refine Ev.bind (allIn l[i] (-2) 2 (by omega)) ?_
      rw [decide_eq_true h, Bool.true_and]
      cases h2 : l[i].all (inB (-2) 2) with
      | true =>
        refine Ev.pos rfl ?_
        simp only [wnx hlt (by omega)]
        exact ih (i + 1) (by omega)
      | false => exact Ev.neg (by simp) (Ev.now _)
    · refine Ev.neg h (Ev.some_ ?_)
      rw [decide_eq_false h]; rfl
theorem iim (l : List (List Int)) (cols : Int) (hl : l.length ≤ 1048576) (hm : ∀ x ∈ l, x.length ≤ 1048576) : Ev (fun k => impl_IsMatrix.f k l cols) (im l cols) := by
  unfold impl_IsMatrix.f
  refine Ev.bnow (implIn _ _ _) ?_
  have e := iim_l l cols hl hm l.length 0 (by omega)
  unfold im
  by_cases h : 1 ≤ cols ∧ cols ≤ 6
  · refine Ev.pos (decide_eq_true h) ?_
    rw [decide_eq_true h, Bool.true_and]
    by_cases h2 : (l.length : Int) > 12
    · rw [decide_eq_true h2, decide_eq_false (show ¬ l.length ≤ 12 by omega)]
      exact Ev.step (fun k => impl_IsMatrix.j0.eq_2 _ _ _ k) (Ev.pos rfl (Ev.now _))
    · rw [decide_eq_false h2, decide_eq_true (show l.length ≤ 12 by omega)]
      exact Ev.step (fun k => impl_IsMatrix.j0.eq_2 _ _ _ k) (Ev.neg (by simp) e)
  · refine Ev.neg (by rw [decide_eq_false h]; simp) ?_
    rw [decide_eq_false h]
    exact Ev.step (fun k => impl_IsMatrix.j0.eq_2 _ _ _ k) (Ev.pos rfl (Ev.now _))

theorem nobit (row : List Int) (h : row.length ≤ 1048576) : Ev (fun k => noBit k row) (!(row.all (inB 0 1))) := by
  unfold noBit
  exact Ev.bind (allIn row 0 1 (by omega)) (Ev.now _)
theorem allO_ev : ∀ (l : List (List Int)), (∀ x ∈ l, x.length ≤ 1048576) → Ev (fun k => allO (noBit k) l) (!(bt l))
  | [], _ => Ev.now _
  | x :: l, h => by
    show Ev (fun k => (noBit k x).bind fun b => (allO (noBit k) l).bind fun c => some (b || c)) _
    refine Ev.bind (nobit x (h x List.mem_cons_self)) ?_
    refine Ev.bind (allO_ev l (fun y hy => h y (List.mem_cons_of_mem _ hy))) (Ev.some_ ?_)
    unfold bt
    rw [List.all_cons, Bool.not_and]
theorem ibits (l : List (List Int)) (cols : Int) (hl : l.length ≤ 1048576) (hm : ∀ x ∈ l, x.length ≤ 1048576) : Ev (fun k => impl_isBits.f k l cols) (im l cols && bt l) := by
  unfold impl_isBits.f
  refine Ev.bind (iim l cols hl hm) ?_
  cases im l cols with
  | true =>
    refine Ev.pos rfl ?_
    refine Ev.bind (allO_ev l hm) (Ev.some_ ?_)
    simp
  | false => exact Ev.neg (by simp) (Ev.now _)

theorem specIn (a l h : Int) : spec_l1In.f a l h = some (decide (l ≤ a ∧ a ≤ h)) := by
  unfold spec_l1In.f
  by_cases h1 : l ≤ a <;> simp [h1]

theorem sim_r (l : List (List Int)) (cols : Int) (i : Nat) (hlt : i < l.length) (hl : l.length ≤ 1048576) (hx : l[i].length ≤ 1048576) (hc : (l[i].length : Int) = cols) {r : Bool} (nx : Ev (fun k => spec_IsMatrix.l0 k l cols ((i + 1 : Nat) : Int)) r) :
    ∀ (d j : Nat), j + d = l[i].length → Ev (fun k => spec_IsMatrix.l1 k l cols i j) (((l[i].drop j).all (inB (-2) 2)) && r) := by
  intro d
  induction d with
  | zero =>
    intro j hj
    refine Ev.step (fun k => spec_IsMatrix.l1.eq_2 _ _ _ _ k) ?_
    refine Ev.neg (by omega) ?_
    rw [List.drop_eq_nil_of_le (by omega)]
    simp only [wnx hlt (by omega), List.all_nil, Bool.true_and]
    exact nx
  | succ d ih =>
    intro j hj
    have hlt2 : j < l[i].length := by omega
    refine Ev.step (fun k => spec_IsMatrix.l1.eq_2 _ _ _ _ k) ?_
    refine Ev.pos (by omega) ?_
    refine Ev.pos (by omega) ?_
    refine Ev.pos (by omega) ?_
    refine Ev.pos (by omega) ?_
    rw [rd1 l i hlt]
    refine Ev.pos (by omega) ?_
    rw [rd_get l[i] j hlt2, List.drop_eq_getElem_cons hlt2, List.all_cons]
    refine Ev.bnow (a := inB (-2) 2 l[i][j]) (by rw [specIn]; rfl) ?_
    cases h : inB (-2) 2 l[i][j] with
    | true =>
      refine Ev.pos rfl ?_
      simp only [wnx hlt2 (by omega), Bool.true_and]
      exact ih (j + 1) (by omega)
    | false => exact Ev.neg (by simp) (Ev.now _)
theorem sim_l (l : List (List Int)) (cols : Int) (hl : l.length ≤ 1048576) (hm : ∀ x ∈ l, x.length ≤ 1048576) : ∀ (d i : Nat), i + d = l.length → Ev (fun k => spec_IsMatrix.l0 k l cols i) ((l.drop i).all (fun row => decide ((row.length : Int) = cols) && row.all (inB (-2) 2))) := by
  intro d
  induction d with
  | zero =>
    intro i hi
    refine Ev.step (fun k => spec_IsMatrix.l0.eq_2 _ _ _ k) ?_
    refine Ev.neg (by omega) (Ev.some_ ?_)
    rw [List.drop_eq_nil_of_le (by omega)]; rfl
  | succ d ih =>
    intro i hi
    have hlt : i < l.length := by omega
    have hx := hm l[i] (List.getElem_mem hlt)
    refine Ev.step (fun k => spec_IsMatrix.l0.eq_2 _ _ _ k) ?_
    refine Ev.pos (by omega) ?_
    refine Ev.pos (by omega) ?_
    rw [rd1 l i hlt, List.drop_eq_getElem_cons hlt, List.all_cons]
    by_cases h : (l[i].length : Int) = cols
    · refine Ev.pos h ?_
      rw [decide_eq_true h, Bool.true_and]
      exact sim_r l cols i hlt hl hx h (ih (i + 1) (by omega)) l[i].length 0 (by omega)
    · refine Ev.neg h (Ev.some_ ?_)
      rw [decide_eq_false h]; rfl
theorem sim (l : List (List Int)) (cols : Int) (hl : l.length ≤ 1048576) (hm : ∀ x ∈ l, x.length ≤ 1048576) : Ev (fun k => spec_IsMatrix.f k l cols) (im l cols) := by
  unfold spec_IsMatrix.f
  refine Ev.bnow (specIn _ _ _) ?_
  have e := sim_l l cols hl hm l.length 0 (by omega)
  unfold im
  by_cases h : 1 ≤ cols ∧ cols ≤ 6
  · refine Ev.pos (decide_eq_true h) ?_
    rw [decide_eq_true h, Bool.true_and]
    by_cases h2 : (l.length : Int) > 12
    · rw [decide_eq_true h2, decide_eq_false (show ¬ l.length ≤ 12 by omega)]
      exact Ev.step (fun k => spec_IsMatrix.j0.eq_2 _ _ _ k) (Ev.pos rfl (Ev.now _))
    · rw [decide_eq_false h2, decide_eq_true (show l.length ≤ 12 by omega)]
      exact Ev.step (fun k => spec_IsMatrix.j0.eq_2 _ _ _ k) (Ev.neg (by simp) e)
  · refine Ev.neg (by rw [decide_eq_false h]; simp) ?_
    rw [decide_eq_false h]
    exact Ev.step (fun k => spec_IsMatrix.j0.eq_2 _ _ _ k) (Ev.pos rfl (Ev.now _))

theorem sbt_r (l : List (List Int)) (i : Nat) (hlt : i < l.length) (hl : l.length ≤ 1048576) (hx : l[i].length ≤ 1048576) {r : Bool} (nx : Ev (fun k => spec_l15Bits.l0 k l ((i + 1 : Nat) : Int)) r) :
    ∀ (d j : Nat), j + d = l[i].length → Ev (fun k => spec_l15Bits.l1 k l i j) (((l[i].drop j).all (inB 0 1)) && r) := by
  intro d
  induction d with
  | zero =>
    intro j hj
    refine Ev.step (fun k => spec_l15Bits.l1.eq_2 _ _ _ k) ?_
    refine Ev.pos (by omega) ?_
    refine Ev.pos (by omega) ?_
    rw [rd1 l i hlt]
    refine Ev.neg (by omega) ?_
    rw [List.drop_eq_nil_of_le (by omega)]
    simp only [wnx hlt (by omega), List.all_nil, Bool.true_and]
    exact nx
  | succ d ih =>
    intro j hj
    have hlt2 : j < l[i].length := by omega
    refine Ev.step (fun k => spec_l15Bits.l1.eq_2 _ _ _ k) ?_
    refine Ev.pos (by omega) ?_
    refine Ev.pos (by omega) ?_
    rw [rd1 l i hlt]
    refine Ev.pos (by omega) ?_
    refine Ev.pos (by omega) ?_
    rw [rd_get l[i] j hlt2, List.drop_eq_getElem_cons hlt2, List.all_cons]
    refine Ev.bnow (a := inB 0 1 l[i][j]) (by rw [specIn]; rfl) ?_
    cases h : inB 0 1 l[i][j] with
    | true =>
      refine Ev.pos rfl ?_
      simp only [wnx hlt2 (by omega), Bool.true_and]
      exact ih (j + 1) (by omega)
    | false => exact Ev.neg (by simp) (Ev.now _)
theorem sbt_l (l : List (List Int)) (hl : l.length ≤ 1048576) (hm : ∀ x ∈ l, x.length ≤ 1048576) : ∀ (d i : Nat), i + d = l.length → Ev (fun k => spec_l15Bits.l0 k l i) (bt (l.drop i)) := by
  intro d
  induction d with
  | zero =>
    intro i hi
    refine Ev.step (fun k => spec_l15Bits.l0.eq_2 _ _ k) ?_
    refine Ev.neg (by omega) (Ev.some_ ?_)
    rw [List.drop_eq_nil_of_le (by omega)]; rfl
  | succ d ih =>
    intro i hi
    have hlt : i < l.length := by omega
    have hx := hm l[i] (List.getElem_mem hlt)
    refine Ev.step (fun k => spec_l15Bits.l0.eq_2 _ _ k) ?_
    refine Ev.pos (by omega) ?_
    rw [List.drop_eq_getElem_cons hlt]
    exact sbt_r l i hlt hl hx (ih (i + 1) (by omega)) l[i].length 0 (by omega)
theorem sbt (l : List (List Int)) (hl : l.length ≤ 1048576) (hm : ∀ x ∈ l, x.length ≤ 1048576) : Ev (fun k => spec_l15Bits.f k l) (bt l) := by
  unfold spec_l15Bits.f
  exact sbt_l l hl hm l.length 0 (by omega)

theorem rdof_get (l : List Bool) (i : Nat) (h : i < l.length) : rdOf false l (i : Int) = l[i] := by simp [rdOf, List.getD, h]

theorem toBool_l (l : List Bool) (hl : l.length ≤ 1048576) : ∀ (d i : Nat) (acc : List Bool), i + d = l.length → acc.length = l.length → (∀ j, j < i → acc[j]? = l[j]?) → Ev (fun k => laws_toBoolS.l0 k l acc i) l := by
  intro d
  induction d with
  | zero =>
    intro i acc hi ha hj
    refine Ev.step (fun k => laws_toBoolS.l0.eq_2 _ _ _ k) ?_
    refine Ev.neg (by omega) (Ev.some_ ?_)
    apply List.ext_getElem?
    intro j
    by_cases h : j < i
    · exact hj j h
    · rw [List.getElem?_eq_none (by omega), List.getElem?_eq_none (by omega)]
  | succ d ih =>
    intro i acc hi ha hj
    refine Ev.step (fun k => laws_toBoolS.l0.eq_2 _ _ _ k) ?_
    refine Ev.pos (by omega) ?_
    refine Ev.pos (by omega) ?_
    refine Ev.pos (by omega) ?_
    simp only [wnx (show i < l.length by omega) (by omega), Int.toNat_natCast]
    refine ih (i + 1) _ (by omega) (by simp; omega) ?_
    intro j hj2
    by_cases h : j = i
    · subst h
      have hlt : j < l.length := by omega
      rw [List.getElem?_set_self (by omega), rdof_get l j hlt, List.getElem?_eq_getElem hlt]
    · rw [List.getElem?_set_ne (by omega)]
      exact hj j (by omega)
theorem toBools (l : List Bool) (hl : l.length ≤ 1048576) : Ev (fun k => laws_toBoolS.f k l) l := by
  unfold laws_toBoolS.f
  refine Ev.pos (by omega) ?_
  refine Ev.pos (by omega) ?_
  exact toBool_l l hl l.length 0 _ (by omega) (by simp) (by intro j hj; omega)

theorem eqBool_l (l : List Bool) (hl : l.length ≤ 1048576) : ∀ (d i : Nat), i + d = l.length → Ev (fun k => laws_eqBoolS.l0 k l l i) true := by
  intro d
  induction d with
  | zero =>
    intro i hi
    refine Ev.step (fun k => laws_eqBoolS.l0.eq_2 _ _ _ k) ?_
    exact Ev.neg (by omega) (Ev.now _)
  | succ d ih =>
    intro i hi
    refine Ev.step (fun k => laws_eqBoolS.l0.eq_2 _ _ _ k) ?_
    refine Ev.pos (by omega) ?_
    refine Ev.pos (by omega) ?_
    refine Ev.pos (by omega) ?_
    refine Ev.neg (by simp) ?_
    simp only [wnx (show i < l.length by omega) (by omega)]
    exact ih (i + 1) (by omega)
theorem eqBools (l : List Bool) (hl : l.length ≤ 1048576) : Ev (fun k => laws_eqBoolS.f k l l) true := by
  unfold laws_eqBoolS.f
  exact Ev.pos rfl (eqBool_l l hl l.length 0 (by omega))

theorem FnExactAreVerdicts : ∀ (l0 : List (List Int)) (l1 : List Bool) (a2 : Int), (l0.length ≤ maxLen ∧ ∀ x_ ∈ l0, (x_.length ≤ maxLen ∧ ∀ y_ ∈ x_, (Lit.int .i64 y_).wf = true)) → (l1.length ≤ maxLen ∧ ∀ x_ ∈ l1, True) → (Lit.int .i64 a2).wf = true → ∃ k, laws_FnExactAreVerdicts.f k l0 l1 a2 = some true := by
  intro l b cols ⟨h1, h2⟩ _ _
  refine Ev.rounds (g := fun j => laws_FnExactAreVerdicts.f j l b cols) ?_
  unfold laws_FnExactAreVerdicts.f
  by_cases gb : (b.length : Int) > 1048576
  · exact Ev.pos gb (Ev.now _)
  refine Ev.neg gb ?_
  obtain ⟨q, eq, hq⟩ := szSS l 1048576 (by omega) (by omega) h1 (fun x hx => (h2 x hx).1)
  refine Ev.bind eq ?_
  by_cases h0 : q < 0
  · exact Ev.pos h0 (Ev.now _)
  refine Ev.neg h0 ?_
  have hb : b.length ≤ 1048576 := by omega
  have hl : l.length ≤ 1048576 := by omega
  have hm : ∀ x ∈ l, x.length ≤ 1048576 := fun x hx => by have := tot_mem l x hx; omega
  have es : Ev (fun k => spec_AreVerdicts.f k l b cols) ((im l cols && bt l) && ((b.length : Int) == (l.length : Int))) := by
    unfold spec_AreVerdicts.f
    refine Ev.bind (sim l cols hl hm) ?_
    cases im l cols with
    | true =>
      refine Ev.pos rfl ?_
      refine Ev.bind (sbt l hl hm) ?_
      cases bt l with
      | true => exact Ev.pos rfl (Ev.now _)
      | false => exact Ev.neg (by simp) (Ev.now _)
    | false => exact Ev.neg (by simp) (Ev.now _)
  have ei : Ev (fun k => impl_AreVerdicts.f k l b cols) ((im l cols && bt l) && ((b.length : Int) == (l.length : Int))) := by
    unfold impl_AreVerdicts.f
    refine Ev.bind (ibits l cols hl hm) ?_
    cases im l cols && bt l with
    | true => exact Ev.pos rfl (Ev.now _)
    | false => exact Ev.neg (by simp) (Ev.now _)
  refine Ev.bind (toSS l hl hm) ?_
  refine Ev.bind (toBools b hb) ?_
  refine Ev.bind es ?_
  refine Ev.bind (toSS l hl hm) ?_
  refine Ev.bind (toBools b hb) ?_
  refine Ev.bind ei ?_
  refine Ev.neg (by simp) ?_
  refine Ev.bind (toSS l hl hm) ?_
  refine Ev.bind (eqSS l hl hm) ?_
  refine Ev.pos rfl ?_
  refine Ev.bind (toBools b hb) ?_
  refine Ev.bind (eqBools b hb) ?_
  exact Ev.pos rfl (Ev.now _)

end Go.Proofs.Ytoniljblfenpeaa.Pure
