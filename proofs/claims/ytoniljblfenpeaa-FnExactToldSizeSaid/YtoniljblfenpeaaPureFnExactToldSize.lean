/- The law FnExactToldSize returns true at every list of rows and count of columns: the program's ToldSize answers as the reference's. No condition. -/
import Derived.Test.YtoniljblfenpeaaHFnExactToldSizex6
namespace Go.Proofs.Ytoniljblfenpeaa.Pure
open Go.RowKit Go.Proofs.Ytoniljblfenpeaa.PFnExactToldSize Go.Proofs.YtoniljblfenpeaaW.PrintWords Go.Proofs.YtoniljblfenpeaaW.PrintLast
set_option linter.unusedSimpArgs false
set_option linter.unusedVariables false

def fwB (row : List Int) (k : Int) : Bool := decide (0 ≤ k ∧ k < row.length ∧ rd row k = 1)
/-- whether a row fails with these links. -/
def fw (row g : List Int) : Bool := g.any (fwB row)

/-- whether every row fails with both sets alike. -/
def sv (m : List (List Int)) (a b : List Int) : Bool := !(m.any (fun row => fw row a != fw row b))

theorem wr {x : Int} (h1 : -9223372036854775808 ≤ x) (h2 : x ≤ 9223372036854775807) : wrap64 x = x := by unfold wrap64; omega
theorem Ev.pos {α : Type} {c : Prop} [Decidable c] {g f : Nat → Option α} {r : α} (h : c) (e : Ev g r) : Ev (fun k => if c then g k else f k) r := by
  simp only [if_pos h]; exact e
theorem Ev.neg {α : Type} {c : Prop} [Decidable c] {g f : Nat → Option α} {r : α} (h : ¬ c) (e : Ev f r) : Ev (fun k => if c then g k else f k) r := by
  simp only [if_neg h]; exact e
theorem Ev.some_ {α : Type} {r r' : α} (h : r = r') : Ev (fun _ => some r) r' := h ▸ Ev.now r
theorem Ev.bnow {α β : Type} {g : Option α} {f : Nat → α → Option β} {a : α} {r : β} (h : g = some a) (k : Ev (fun n => f n a) r) : Ev (fun n => g.bind (f n)) r := by
  subst h; exact k

theorem wnx {i n : Nat} (h : i < n) (hn : n ≤ 9223372036854775807) : wrap64 ((i : Int) + 1) = ((i + 1 : Nat) : Int) := by rw [wr (by omega) (by omega)]; rfl
theorem rd_get (l : List Int) (i : Nat) (h : i < l.length) : rd l (i : Int) = l[i] := by simp [rd, List.getD, h]

theorem specIn (a l h : Int) : spec_l1In.f a l h = some (decide (l ≤ a ∧ a ≤ h)) := by
  unfold spec_l1In.f
  by_cases h1 : l ≤ a <;> simp [h1]

theorem sfw_l (row g : List Int) (hr : row.length ≤ 1048576) (hg : g.length ≤ 1048576) : ∀ (d i : Nat), i + d = g.length → Ev (fun k => spec_FailsWith.l0 k row g i) ((g.drop i).any (fwB row)) := by
  intro d
  induction d with
  | zero =>
    intro i hi
    refine Ev.step (fun k => spec_FailsWith.l0.eq_2 _ _ _ k) ?_
    refine Ev.neg (by omega) (Ev.some_ ?_)
    rw [List.drop_eq_nil_of_le (by omega)]; rfl
  | succ d ih =>
    intro i hi
    have hlt : i < g.length := by omega
    refine Ev.step (fun k => spec_FailsWith.l0.eq_2 _ _ _ k) ?_
    refine Ev.pos (by omega) ?_
    refine Ev.pos (by omega) ?_
    rw [rd_get g i hlt, List.drop_eq_getElem_cons hlt, List.any_cons, wr (x := (row.length : Int) - 1) (by omega) (by omega)]
    refine Ev.bnow (specIn _ _ _) ?_
    by_cases h : 0 ≤ g[i] ∧ g[i] ≤ (row.length : Int) - 1
    · refine Ev.pos (decide_eq_true h) ?_
      refine Ev.pos h.1 ?_
      refine Ev.pos (by omega) ?_
      by_cases h1 : rd row g[i] = 1
      · refine Ev.pos h1 (Ev.some_ ?_)
        have : fwB row g[i] = true := decide_eq_true ⟨h.1, by omega, h1⟩
        rw [this]; rfl
      · refine Ev.neg h1 ?_
        have : fwB row g[i] = false := decide_eq_false (fun x => h1 x.2.2)
        rw [this, Bool.false_or]
        simp only [wnx hlt (by omega)]
        exact ih (i + 1) (by omega)
    · refine Ev.neg (by rw [decide_eq_false h]; simp) ?_
      have : fwB row g[i] = false := decide_eq_false (fun x => h ⟨x.1, by omega⟩)
      rw [this, Bool.false_or]
      simp only [wnx hlt (by omega)]
      exact ih (i + 1) (by omega)
theorem sfw (row g : List Int) (hr : row.length ≤ 1048576) (hg : g.length ≤ 1048576) : Ev (fun k => spec_FailsWith.f k row g) (fw row g) := by
  unfold spec_FailsWith.f
  exact sfw_l row g hr hg g.length 0 (by omega)

def tot (l : List (List Int)) : Nat := (l.map List.length).sum
theorem rd1 (l : List (List Int)) (i : Nat) (h : i < l.length) : rd_L1 l (i : Int) = l[i] := by simp [rd_L1, List.getD, h]
theorem tot_mem : ∀ (l : List (List Int)) (x : List Int), x ∈ l → x.length ≤ tot l := by
  intro l
  induction l with
  | nil => intro x h; cases h
  | cons y l ih =>
    intro x h
    simp only [tot, List.map_cons, List.sum_cons]
    rcases List.mem_cons.1 h with rfl | h
    · omega
    · have := ih x h; unfold tot at this; omega

theorem ssv_l (m : List (List Int)) (a b : List Int) (hl : m.length ≤ 1048576) (hm : ∀ x ∈ m, x.length ≤ 1048576) (ha : a.length ≤ 1048576) (hb : b.length ≤ 1048576) : ∀ (d i : Nat), i + d = m.length → Ev (fun k => spec_SameVerdicts.l0 k m a b i) (sv (m.drop i) a b) := by
  intro d
  induction d with
  | zero =>
    intro i hi
    refine Ev.step (fun k => spec_SameVerdicts.l0.eq_2 _ _ _ _ k) ?_
    refine Ev.neg (by omega) (Ev.some_ ?_)
    rw [List.drop_eq_nil_of_le (by omega)]; rfl
  | succ d ih =>
    intro i hi
    have hlt : i < m.length := by omega
    have hx := hm m[i] (List.getElem_mem hlt)
    refine Ev.step (fun k => spec_SameVerdicts.l0.eq_2 _ _ _ _ k) ?_
    refine Ev.pos (by omega) ?_
    refine Ev.pos (by omega) ?_
    rw [rd1 m i hlt, List.drop_eq_getElem_cons hlt]
    refine Ev.bind (sfw m[i] a hx ha) ?_
    refine Ev.bind (sfw m[i] b hx hb) ?_
    have e : sv (m[i] :: m.drop (i + 1)) a b = (!(fw m[i] a != fw m[i] b) && sv (m.drop (i + 1)) a b) := by
      unfold sv; rw [List.any_cons, Bool.not_or]
    rw [e]
    by_cases h : (fw m[i] a != fw m[i] b) = true
    · refine Ev.pos h (Ev.some_ ?_)
      rw [h]; rfl
    · refine Ev.neg h ?_
      rw [Bool.eq_false_iff.2 h]
      simp only [wnx hlt (by omega)]
      exact ih (i + 1) (by omega)
theorem ssv (m : List (List Int)) (a b : List Int) (hl : m.length ≤ 1048576) (hm : ∀ x ∈ m, x.length ≤ 1048576) (ha : a.length ≤ 1048576) (hb : b.length ≤ 1048576) : Ev (fun k => spec_SameVerdicts.f k m a b) (sv m a b) := by
  unfold spec_SameVerdicts.f
  exact ssv_l m a b hl hm ha hb m.length 0 (by omega)

def inB (a b x : Int) : Bool := decide (a ≤ x ∧ x ≤ b)
def okV (l : List Int) : Bool := l.all (inB 0 100000) && decide (l.length ≤ 12)

/-- a matrix of so many columns. -/
def im (l : List (List Int)) (cols : Int) : Bool := decide (1 ≤ cols ∧ cols ≤ 6) && (decide (l.length ≤ 12) && l.all (fun row => decide ((row.length : Int) = cols) && row.all (inB (-2) 2)))
/-- nothing but zeros and ones. -/
def bt (l : List (List Int)) : Bool := l.all (fun row => row.all (inB 0 1))

theorem implIn (a l h : Int) : impl_InRange.f a l h = some (decide (l ≤ a ∧ a ≤ h)) := by
  unfold impl_InRange.f
  by_cases h1 : l ≤ a <;> simp [h1]

theorem allIn_l (l : List Int) (a b : Int) (hl : l.length ≤ 1048577) : ∀ (d i : Nat), i + d = l.length → Ev (fun k => impl_allIn.l0 k a b l l.length i) ((l.drop i).all (inB a b)) := by
  intro d
  induction d with
  | zero =>
    intro i hi
    refine Ev.step (fun k => impl_allIn.l0.eq_2 _ _ _ _ _ k) ?_
    refine Ev.neg (by omega) (Ev.some_ ?_)
    rw [List.drop_eq_nil_of_le (by omega)]; rfl
  | succ d ih =>
    intro i hi
    have hlt : i < l.length := by omega
    refine Ev.step (fun k => impl_allIn.l0.eq_2 _ _ _ _ _ k) ?_
    refine Ev.pos (by omega) ?_
    refine Ev.pos (by omega) ?_
    refine Ev.pos (by omega) ?_
    rw [rd_get l i hlt, List.drop_eq_getElem_cons hlt, List.all_cons]
    refine Ev.bnow (a := inB a b l[i]) (by rw [implIn]; rfl) ?_
    cases h : inB a b l[i] with
    | true =>
      refine Ev.pos rfl ?_
      simp only [wnx hlt (by omega)]
      exact ih (i + 1) (by omega)
    | false => exact Ev.neg (by simp) (Ev.now _)
theorem allIn (l : List Int) (a b : Int) (hl : l.length ≤ 1048577) : Ev (fun k => impl_allIn.f k l a b) (l.all (inB a b)) := by
  unfold impl_allIn.f
  exact allIn_l l a b hl l.length 0 (by omega)

theorem iim_l (l : List (List Int)) (cols : Int) (hl : l.length ≤ 1048576) (hm : ∀ x ∈ l, x.length ≤ 1048576) : ∀ (d i : Nat), i + d = l.length → Ev (fun k => impl_IsMatrix.l0 k cols l l.length i) ((l.drop i).all (fun row => decide ((row.length : Int) = cols) && row.all (inB (-2) 2))) := by
  intro d
  induction d with
  | zero =>
    intro i hi
    refine Ev.step (fun k => impl_IsMatrix.l0.eq_2 _ _ _ _ k) ?_
    refine Ev.neg (by omega) (Ev.some_ ?_)
    rw [List.drop_eq_nil_of_le (by omega)]; rfl
  | succ d ih =>
    intro i hi
    have hlt : i < l.length := by omega
    have hx := hm l[i] (List.getElem_mem hlt)
    refine Ev.step (fun k => impl_IsMatrix.l0.eq_2 _ _ _ _ k) ?_
    refine Ev.pos (by omega) ?_
    refine Ev.pos (by omega) ?_
    refine Ev.pos (by omega) ?_
    rw [rd1 l i hlt, List.drop_eq_getElem_cons hlt, List.all_cons]
    by_cases h : (l[i].length : Int) = cols
    · refine Ev.pos h ?_
      refine Ev.bind (allIn l[i] (-2) 2 (by omega)) ?_
      rw [decide_eq_true h, Bool.true_and]
      cases h2 : l[i].all (inB (-2) 2) with
      | true =>
        refine Ev.pos rfl ?_
        simp only [wnx hlt (by omega)]
        exact ih (i + 1) (by omega)
      | false => exact Ev.neg (by simp) (Ev.now _)
    · refine Ev.neg h (Ev.some_ ?_)
      rw [decide_eq_false h]; rfl
theorem iim (l : List (List Int)) (cols : Int) (hl : l.length ≤ 1048576) (hm : ∀ x ∈ l, x.length ≤ 1048576) : Ev (fun k => impl_IsMatrix.f k l cols) (im l cols) := by
  unfold impl_IsMatrix.f
  refine Ev.bnow (implIn _ _ _) ?_
  have e := iim_l l cols hl hm l.length 0 (by omega)
  unfold im
  by_cases h : 1 ≤ cols ∧ cols ≤ 6
  · refine Ev.pos (decide_eq_true h) ?_
    rw [decide_eq_true h, Bool.true_and]
    by_cases h2 : (l.length : Int) > 12
    · rw [decide_eq_true h2, decide_eq_false (show ¬ l.length ≤ 12 by omega)]
      exact Ev.step (fun k => impl_IsMatrix.j0.eq_2 _ _ _ k) (Ev.pos rfl (Ev.now _))
    · rw [decide_eq_false h2, decide_eq_true (show l.length ≤ 12 by omega)]
      exact Ev.step (fun k => impl_IsMatrix.j0.eq_2 _ _ _ k) (Ev.neg (by simp) e)
  · refine Ev.neg (by rw [decide_eq_false h]; simp) ?_
    rw [decide_eq_false h]
    exact Ev.step (fun k => impl_IsMatrix.j0.eq_2 _ _ _ k) (Ev.pos rfl (Ev.now _))

theorem nobit (row : List Int) (h : row.length ≤ 1048576) : Ev (fun k => noBit k row) (!(row.all (inB 0 1))) := by
  unfold noBit
  exact Ev.bind (allIn row 0 1 (by omega)) (Ev.now _)
theorem allO_ev : ∀ (l : List (List Int)), (∀ x ∈ l, x.length ≤ 1048576) → Ev (fun k => allO (noBit k) l) (!(bt l))
  | [], _ => Ev.now _
  | x :: l, h => by
    show Ev (fun k => (noBit k x).bind fun b => (allO (noBit k) l).bind fun c => some (b || c)) _
    refine Ev.bind (nobit x (h x List.mem_cons_self)) ?_
    refine Ev.bind (allO_ev l (fun y hy => h y (List.mem_cons_of_mem _ hy))) (Ev.some_ ?_)
    unfold bt
    rw [List.all_cons, Bool.not_and]
theorem ibits (l : List (List Int)) (cols : Int) (hl : l.length ≤ 1048576) (hm : ∀ x ∈ l, x.length ≤ 1048576) : Ev (fun k => impl_isBits.f k l cols) (im l cols && bt l) := by
  unfold impl_isBits.f
  refine Ev.bind (iim l cols hl hm) ?_
  cases im l cols with
  | true =>
    refine Ev.pos rfl ?_
    refine Ev.bind (allO_ev l hm) (Ev.some_ ?_)
    simp
  | false => exact Ev.neg (by simp) (Ev.now _)

theorem sim_r (l : List (List Int)) (cols : Int) (i : Nat) (hlt : i < l.length) (hl : l.length ≤ 1048576) (hx : l[i].length ≤ 1048576) (hc : (l[i].length : Int) = cols) {r : Bool} (nx : Ev (fun k => spec_IsMatrix.l0 k l cols ((i + 1 : Nat) : Int)) r) :
    ∀ (d j : Nat), j + d = l[i].length → Ev (fun k => spec_IsMatrix.l1 k l cols i j) (((l[i].drop j).all (inB (-2) 2)) && r) := by
  intro d
  induction d with
  | zero =>
    intro j hj
    refine Ev.step (fun k => spec_IsMatrix.l1.eq_2 _ _ _ _ k) ?_
    refine Ev.neg (by omega) ?_
    rw [List.drop_eq_nil_of_le (by omega)]
    simp only [wnx hlt (by omega), List.all_nil, Bool.true_and]
    exact nx
  | succ d ih =>
    intro j hj
    have hlt2 : j < l[i].length := by omega
    refine Ev.step (fun k => spec_IsMatrix.l1.eq_2 _ _ _ _ k) ?_
    refine Ev.pos (by omega) ?_
    refine Ev.pos (by omega) ?_
    refine Ev.pos (by omega) ?_
    refine Ev.pos (by omega) ?_
    rw [rd1 l i hlt]
    refine Ev.pos (by omega) ?_
    rw [rd_get l[i] j hlt2, List.drop_eq_getElem_cons hlt2, List.all_cons]
    refine Ev.bnow (a := inB (-2) 2 l[i][j]) (by rw [specIn]; rfl) ?_
    cases h : inB (-2) 2 l[i][j] with
    | true =>
      refine Ev.pos rfl ?_
      simp only [wnx hlt2 (by omega), Bool.true_and]
      exact ih (j + 1) (by omega)
    | false => exact Ev.neg (by simp) (Ev.now _)
theorem sim_l (l : List (List Int)) (cols : Int) (hl : l.length ≤ 1048576) (hm : ∀ x ∈ l, x.length ≤ 1048576) : ∀ (d i : Nat), i + d = l.length → Ev (fun k => spec_IsMatrix.l0 k l cols i) ((l.drop i).all (fun row => decide ((row.length : Int) = cols) && row.all (inB (-2) 2))) := by
  intro d
  induction d with
  | zero =>
    intro i hi
    refine Ev.step (fun k => spec_IsMatrix.l0.eq_2 _ _ _ k) ?_
    refine Ev.neg (by omega) (Ev.some_ ?_)
    rw [List.drop_eq_nil_of_le (by omega)]; rfl
  | succ d ih =>
    intro i hi
    have hlt : i < l.length := by omega
    have hx := hm l[i] (List.getElem_mem hlt)
    refine Ev.step (fun k => spec_IsMatrix.l0.eq_2 _ _ _ k) ?_
    refine Ev.pos (by omega) ?_
    refine Ev.pos (by omega) ?_
    rw [rd1 l i hlt, List.drop_eq_getElem_cons hlt, List.all_cons]
    by_cases h : (l[i].length : Int) = cols
    · refine Ev.pos h ?_
      rw [decide_eq_true h, Bool.true_and]
      exact sim_r l cols i hlt hl hx h (ih (i + 1) (by omega)) l[i].length 0 (by omega)
    · refine Ev.neg h (Ev.some_ ?_)
      rw [decide_eq_false h]; rfl
theorem sim (l : List (List Int)) (cols : Int) (hl : l.length ≤ 1048576) (hm : ∀ x ∈ l, x.length ≤ 1048576) : Ev (fun k => spec_IsMatrix.f k l cols) (im l cols) := by
  unfold spec_IsMatrix.f
  refine Ev.bnow (specIn _ _ _) ?_
  have e := sim_l l cols hl hm l.length 0 (by omega)
  unfold im
  by_cases h : 1 ≤ cols ∧ cols ≤ 6
  · refine Ev.pos (decide_eq_true h) ?_
    rw [decide_eq_true h, Bool.true_and]
    by_cases h2 : (l.length : Int) > 12
    · rw [decide_eq_true h2, decide_eq_false (show ¬ l.length ≤ 12 by omega)]
      exact Ev.step (fun k => spec_IsMatrix.j0.eq_2 _ _ _ k) (Ev.pos rfl (Ev.now _))
    · rw [decide_eq_false h2, decide_eq_true (show l.length ≤ 12 by omega)]
      exact Ev.step (fun k => spec_IsMatrix.j0.eq_2 _ _ _ k) (Ev.neg (by simp) e)
  · refine Ev.neg (by rw [decide_eq_false h]; simp) ?_
    rw [decide_eq_false h]
    exact Ev.step (fun k => spec_IsMatrix.j0.eq_2 _ _ _ k) (Ev.pos rfl (Ev.now _))

theorem sbt_r (l : List (List Int)) (i : Nat) (hlt : i < l.length) (hl : l.length ≤ 1048576) (hx : l[i].length ≤ 1048576) {r : Bool} (nx : Ev (fun k => spec_l15Bits.l0 k l ((i + 1 : Nat) : Int)) r) :
    ∀ (d j : Nat), j + d = l[i].length → Ev (fun k => spec_l15Bits.l1 k l i j) (((l[i].drop j).all (inB 0 1)) && r) := by
  intro d
  induction d with
  | zero =>
    intro j hj
    refine Ev.step (fun k => spec_l15Bits.l1.eq_2 _ _ _ k) ?_
    refine Ev.pos (by omega) ?_
    refine Ev.pos (by omega) ?_
    rw [rd1 l i hlt]
    refine Ev.neg (by omega) ?_
    rw [List.drop_eq_nil_of_le (by omega)]
    simp only [wnx hlt (by omega), List.all_nil, Bool.true_and]
    exact nx
  | succ d ih =>
    intro j hj
    have hlt2 : j < l[i].length := by omega
    refine Ev.step (fun k => spec_l15Bits.l1.eq_2 _ _ _ k) ?_
    refine Ev.pos (by omega) ?_
    refine Ev.pos (by omega) ?_
    rw [rd1 l i hlt]
    refine Ev.pos (by omega) ?_
    refine Ev.pos (by omega) ?_
    rw [rd_get l[i] j hlt2, List.drop_eq_getElem_cons hlt2, List.all_cons]
    refine Ev.bnow (a := inB 0 1 l[i][j]) (by rw [specIn]; rfl) ?_
    cases h : inB 0 1 l[i][j] with
    | true =>
      refine Ev.pos rfl ?_
      simp only [wnx hlt2 (by omega), Bool.true_and]
      exact ih (j + 1) (by omega)
    | false => exact Ev.neg (by simp) (Ev.now _)
theorem sbt_l (l : List (List Int)) (hl : l.length ≤ 1048576) (hm : ∀ x ∈ l, x.length ≤ 1048576) : ∀ (d i : Nat), i + d = l.length → Ev (fun k => spec_l15Bits.l0 k l i) (bt (l.drop i)) := by
  intro d
  induction d with
  | zero =>
    intro i hi
    refine Ev.step (fun k => spec_l15Bits.l0.eq_2 _ _ k) ?_
    refine Ev.neg (by omega) (Ev.some_ ?_)
    rw [List.drop_eq_nil_of_le (by omega)]; rfl
  | succ d ih =>
    intro i hi
    have hlt : i < l.length := by omega
    have hx := hm l[i] (List.getElem_mem hlt)
    refine Ev.step (fun k => spec_l15Bits.l0.eq_2 _ _ k) ?_
    refine Ev.pos (by omega) ?_
    rw [List.drop_eq_getElem_cons hlt]
    exact sbt_r l i hlt hl hx (ih (i + 1) (by omega)) l[i].length 0 (by omega)
theorem sbt (l : List (List Int)) (hl : l.length ≤ 1048576) (hm : ∀ x ∈ l, x.length ≤ 1048576) : Ev (fun k => spec_l15Bits.f k l) (bt l) := by
  unfold spec_l15Bits.f
  exact sbt_l l hl hm l.length 0 (by omega)

/-- of the first n columns those that P takes. -/
def colsL (P : Nat → Bool) (n : Nat) : List Int := ((List.range n).filter P).map (fun c : Nat => (c : Int))
theorem colsL_succ (P : Nat → Bool) (n : Nat) : colsL P (n + 1) = colsL P n ++ (if P n = true then [(n : Int)] else []) := by
  unfold colsL
  rw [List.range_succ, List.filter_append, List.map_append]
  congr 1
  cases h : P n <;> simp [List.filter_cons, h]
theorem colsL_len (P : Nat → Bool) (n : Nat) : (colsL P n).length ≤ n := by
  unfold colsL
  rw [List.length_map]
  refine Nat.le_trans (List.length_filter_le _ _) ?_
  rw [List.length_range]
  exact Nat.le_refl _
theorem im_is {l : List (List Int)} {cols : Int} (h : im l cols = true) : 1 ≤ cols ∧ cols ≤ 6 ∧ l.length ≤ 12 ∧ ∀ row ∈ l, (row.length : Int) = cols := by
  unfold im at h
  rw [Bool.and_eq_true, Bool.and_eq_true, List.all_eq_true] at h
  obtain ⟨h1, h2, h3⟩ := h
  have h1 := of_decide_eq_true h1
  have h2 := of_decide_eq_true h2
  refine ⟨h1.1, h1.2, h2, fun row hr => ?_⟩
  have := h3 row hr
  rw [Bool.and_eq_true] at this
  exact of_decide_eq_true this.1

/-- the sets of s of c columns. -/
def setsN (c s : Nat) : List (List Int) := subsF s c c [] 0
def setsV (c s : Int) : List (List Int) := if 0 ≤ c ∧ c ≤ 6 ∧ 0 ≤ s ∧ s ≤ c then setsN c.toNat s.toNat else []
theorem isets (c s : Int) : impl_SetsOf.f c s = some (setsV c s) := by
  unfold impl_SetsOf.f setsV setsN
  by_cases h : 0 ≤ c ∧ c ≤ 6 ∧ 0 ≤ s ∧ s ≤ c
  · rw [if_pos h, if_pos h]
  · rw [if_neg h, if_neg h]
theorem setsA : (List.range 7).all (fun c => (List.range 7).all (fun s => decide ((setsN c s).length ≤ 64) && (setsN c s).all (fun x => decide (x.length = s) && x.all (fun k => decide (0 ≤ k ∧ k < (c : Int)))))) = true := by decide +kernel
theorem sets_is {c s : Nat} (hc : c ≤ 6) (hs : s ≤ 6) : (setsN c s).length ≤ 64 ∧ ∀ x ∈ setsN c s, x.length = s ∧ ∀ k ∈ x, 0 ≤ k ∧ k < (c : Int) := by
  have h := List.all_eq_true.1 (List.all_eq_true.1 setsA c (List.mem_range.2 (by omega))) s (List.mem_range.2 (by omega))
  rw [Bool.and_eq_true] at h
  refine ⟨of_decide_eq_true h.1, fun x hx => ?_⟩
  have h2 := List.all_eq_true.1 h.2 x hx
  rw [Bool.and_eq_true] at h2
  exact ⟨of_decide_eq_true h2.1, fun k hk => of_decide_eq_true (List.all_eq_true.1 h2.2 k hk)⟩
theorem setsV_is (c s : Int) : (setsV c s).length ≤ 64 ∧ ∀ x ∈ setsV c s, x.length ≤ 6 := by
  unfold setsV
  by_cases h : 0 ≤ c ∧ c ≤ 6 ∧ 0 ≤ s ∧ s ≤ c
  · rw [if_pos h]
    have := sets_is (c := c.toNat) (s := s.toNat) (by omega) (by omega)
    exact ⟨this.1, fun x hx => by have := (this.2 x hx).1; omega⟩
  · rw [if_neg h]; simp

/-- the sets of c columns of at most p of them, the smaller ones first. -/
def setsT (c p : Nat) : List (List Int) := flatR (setsN c) (p + 1)
theorem setsT_a : (List.range 7).all (fun c => (List.range 8).all (fun p => decide ((flatR (setsN c) p).length ≤ 64))) = true := by decide +kernel
theorem flat_le {c p : Nat} (hc : c ≤ 6) (hp : p ≤ 7) : (flatR (setsN c) p).length ≤ 64 := of_decide_eq_true (List.all_eq_true.1 (List.all_eq_true.1 setsT_a c (List.mem_range.2 (by omega))) p (List.mem_range.2 (by omega)))
theorem setsT_mem {c p : Nat} (hc : c ≤ 6) (hp : p ≤ 6) : ∀ x ∈ setsT c p, x.length ≤ 6 := by
  intro x hx
  unfold setsT flatR at hx
  rw [List.mem_flatten] at hx
  obtain ⟨l, hl, hx⟩ := hx
  obtain ⟨s, hs, rfl⟩ := List.mem_map.1 hl
  have hs := List.mem_range.1 hs
  have := ((sets_is hc (show s ≤ 6 by omega)).2 x hx).1
  omega
theorem isetsN {c s : Nat} (hc : c ≤ 6) (hs : s ≤ c) : impl_SetsOf.f c s = some (setsN c s) := by
  rw [isets]; unfold setsV
  rw [if_pos (by omega)]; rfl
theorem ito_l (c : Nat) (a : Int) (p : Nat) (hc : c ≤ 6) (hp : p ≤ c) (hm : mn (c : Int) a = (p : Int)) : ∀ (d i : Nat), i + d = p + 1 → Ev (fun k => impl_setsTo.l0 k c a (flatR (setsN c) i) i) (setsT c p) := by
  intro d
  induction d with
  | zero =>
    intro i hi
    refine Ev.step (fun k => impl_setsTo.l0.eq_2 _ _ _ _ k) ?_
    rw [hm]
    refine Ev.neg (by omega) (Ev.some_ ?_)
    rw [show i = p + 1 by omega]; rfl
  | succ d ih =>
    intro i hi
    have h1 := flat_le hc (show i ≤ 7 by omega)
    have h2 := (sets_is hc (show i ≤ 6 by omega)).1
    refine Ev.step (fun k => impl_setsTo.l0.eq_2 _ _ _ _ k) ?_
    rw [hm]
    refine Ev.pos (by omega) ?_
    refine Ev.bnow (isetsN hc (show i ≤ c by omega)) ?_
    refine Ev.pos (by omega) ?_
    rw [← flatR_succ]
    simp only [wnx (show i < 8 by omega) (by omega)]
    exact ih (i + 1) (by omega)
theorem ito {c : Nat} {a : Int} {p : Nat} (hc : c ≤ 6) (hp : p ≤ c) (hm : mn (c : Int) a = (p : Int)) : Ev (fun k => impl_setsTo.f k c a) (setsT c p) := by
  unfold impl_setsTo.f
  exact ito_l c a p hc hp hm (p + 1) 0 (by omega)

/-- a number for each way that the rows can fail. -/
def kyN (m : List (List Int)) (s : List Int) : Nat := failBits m s m.length
def keysN (m ss : List (List Int)) : List Nat := ss.map (kyN m)
/-- the different ones, each at its first place. -/
def addN (acc : List Nat) (x : Nat) : List Nat := if acc.contains x then acc else acc ++ [x]
def dN (xs : List Nat) : List Nat := xs.foldl addN []
theorem dN_snoc (xs : List Nat) (x : Nat) : dN (xs ++ [x]) = addN (dN xs) x := by simp [dN, List.foldl_append]
theorem dN_mem (xs : List Nat) (y : Nat) : y ∈ dN xs ↔ y ∈ xs := by
  suffices h : ∀ (zs acc : List Nat), y ∈ zs.foldl addN acc ↔ y ∈ acc ∨ y ∈ zs by simpa [dN] using h xs []
  intro zs
  induction zs with
  | nil => intro acc; simp
  | cons z zs ih =>
    intro acc
    rw [List.foldl_cons, ih]
    unfold addN
    by_cases h : acc.contains z
    · rw [if_pos h]
      have hz : z ∈ acc := by simpa using h
      rw [List.mem_cons]
      constructor
      · rintro (h1 | h1)
        · exact .inl h1
        · exact .inr (.inr h1)
      · rintro (h1 | rfl | h1)
        · exact .inl h1
        · exact .inl hz
        · exact .inr h1
    · rw [if_neg h, List.mem_append, List.mem_singleton, List.mem_cons]
      constructor
      · rintro ((h1 | h1) | h1)
        · exact .inl h1
        · exact .inr (.inl h1)
        · exact .inr (.inr h1)
      · rintro (h1 | h1 | h1)
        · exact .inl (.inl h1)
        · exact .inl (.inr h1)
        · exact .inr h1
theorem dN_len_snoc (xs : List Nat) (x : Nat) : (dN (xs ++ [x])).length = if x ∈ xs then (dN xs).length else (dN xs).length + 1 := by
  rw [dN_snoc]
  unfold addN
  by_cases h : x ∈ xs
  · rw [if_pos h, if_pos (by simpa using (dN_mem xs x).2 h)]
  · rw [if_neg h, if_neg (by simpa using fun e => h ((dN_mem xs x).1 e))]
    simp
theorem classes_eq (m ss : List (List Int)) : classesN m ss = (dN (keysN m ss)).length := by
  unfold classesN
  rw [Maps.size_setOf _ _ (by
    intro x hx
    unfold bitKeys at hx
    obtain ⟨s, _, rfl⟩ := List.mem_map.1 hx
    trivial)]
  have e : bitKeys m ss = (keysN m ss).map (fun n : Nat => Lit.int .i64 (n : Int)) := by
    unfold bitKeys keysN kyN
    rw [List.map_map]; rfl
  rw [e]
  unfold dN
  suffices h : ∀ (zs acc : List Nat), ((zs.map (fun n : Nat => Lit.int .i64 (n : Int))).foldl Maps.addKey (acc.map (fun n : Nat => Lit.int .i64 (n : Int)))) = (zs.foldl addN acc).map (fun n : Nat => Lit.int .i64 (n : Int)) by
    have := h (keysN m ss) []
    rw [List.map_nil] at this
    rw [this, List.length_map]
  intro zs
  induction zs with
  | nil => intro acc; rfl
  | cons z zs ih =>
    intro acc
    rw [List.map_cons, List.foldl_cons, List.foldl_cons]
    have hk : Maps.addKey (acc.map (fun n : Nat => Lit.int .i64 (n : Int))) (Lit.int .i64 (z : Int)) = (addN acc z).map (fun n : Nat => Lit.int .i64 (n : Int)) := by
      unfold Maps.addKey addN
      have hc : (acc.map (fun n : Nat => Lit.int .i64 (n : Int))).any (fun y => y.sameKey (Lit.int .i64 (z : Int))) = acc.contains z := by
        rw [List.any_map, Bool.eq_iff_iff, List.any_eq_true, List.contains_iff_mem]
        constructor
        · rintro ⟨y, hy, h⟩
          have : y = z := by
            simp [Lit.sameKey] at h
            omega
          rw [← this]; exact hy
        · intro hz
          exact ⟨z, hz, by simp [Lit.sameKey]⟩
      rw [hc]
      by_cases h : acc.contains z = true
      · rw [if_pos h, if_pos h]
      · rw [if_neg h, if_neg h, List.map_append]; rfl
    rw [hk]
    exact ih (addN acc z)
theorem bits_inj (m : List (List Int)) (a b : List Int) : ∀ i, i ≤ m.length → (failBits m a i = failBits m b i ↔ sv (m.take i) a b = true)
  | 0, _ => by simp [failBits, sv]
  | i + 1, hi => by
    have ih := bits_inj m a b i (by omega)
    have ha := failBits_lt m a i
    have hb := failBits_lt m b i
    have e : sv (m.take (i + 1)) a b = (sv (m.take i) a b && !(fw m[i] a != fw m[i] b)) := by
      unfold sv
      rw [List.take_succ_eq_append_getElem hi, List.any_append, Bool.not_or]; simp
    have hr : rd_L1 m (i : Int) = m[i] := rd1 m i hi
    have fa : a.any (failsB m[i]) = fw m[i] a := rfl
    have fb : b.any (failsB m[i]) = fw m[i] b := rfl
    have ea : failBits m a (i + 1) = failBits m a i + (if a.any (failsB (rd_L1 m (i : Int))) = true then 2 ^ i else 0) := rfl
    have eb : failBits m b (i + 1) = failBits m b i + (if b.any (failsB (rd_L1 m (i : Int))) = true then 2 ^ i else 0) := rfl
    rw [e, Bool.and_eq_true, ← ih, ea, eb, hr, fa, fb]
    clear ih e ea eb
    generalize failBits m a i = x at ha
    generalize failBits m b i = y at hb
    cases fw m[i] a <;> cases fw m[i] b <;> simp <;> omega
theorem ky_sv (m : List (List Int)) (a b : List Int) : (kyN m a = kyN m b) ↔ sv m a b = true := by
  have := bits_inj m a b m.length (Nat.le_refl _)
  rw [List.take_length] at this
  exact this
theorem ict (m : List (List Int)) (cols a : Int) (hl : m.length ≤ 1048576) (hm : ∀ x ∈ m, x.length ≤ 1048576) {p : Nat} (hb : (im m cols && bt m) = true) (hp : (p : Int) ≤ cols) (hc6 : cols ≤ 6) (ha : 0 ≤ a) (hmn : mn cols a = (p : Int)) (h12 : m.length ≤ 12) : Ev (fun k => impl_CountClasses.f k m cols a) ((dN (keysN m (setsT cols.toNat p))).length : Int) := by
  obtain ⟨c, rfl⟩ := Int.eq_ofNat_of_zero_le (show 0 ≤ cols by omega)
  have hl2 := flat_le (show c ≤ 6 by omega) (show p + 1 ≤ 7 by omega)
  unfold impl_CountClasses.f
  refine Ev.bind (ibits m c hl hm) ?_
  refine Ev.pos hb ?_
  refine Ev.neg (by omega) ?_
  refine Ev.bind (ito (show c ≤ 6 by omega) (show p ≤ c by omega) hmn) ?_
  refine Ev.pos ⟨h12, by unfold setsT; omega⟩ (Ev.some_ ?_)
  rw [classes_eq]; rfl
theorem ict_no (m : List (List Int)) (cols a : Int) (hl : m.length ≤ 1048576) (hm : ∀ x ∈ m, x.length ≤ 1048576) (hb : (im m cols && bt m) = false) : Ev (fun k => impl_CountClasses.f k m cols a) 0 := by
  unfold impl_CountClasses.f
  refine Ev.bind (ibits m cols hl hm) ?_
  rw [hb]
  exact Ev.neg (by simp) (Ev.now _)
theorem ict_neg (m : List (List Int)) (cols a : Int) (hl : m.length ≤ 1048576) (hm : ∀ x ∈ m, x.length ≤ 1048576) (hb : (im m cols && bt m) = true) (ha : a < 0) : Ev (fun k => impl_CountClasses.f k m cols a) 0 := by
  unfold impl_CountClasses.f
  refine Ev.bind (ibits m cols hl hm) ?_
  refine Ev.pos hb ?_
  exact Ev.pos ha (Ev.now _)
theorem any_keys (m L : List (List Int)) (s : List Int) : L.any (fun y => sv m s y) = decide (kyN m s ∈ keysN m L) := by
  rw [Bool.eq_iff_iff, List.any_eq_true, decide_eq_true_eq]
  unfold keysN
  rw [List.mem_map]
  constructor
  · rintro ⟨y, hy, h⟩; exact ⟨y, hy, ((ky_sv m s y).2 h).symm⟩
  · rintro ⟨y, hy, h⟩; exact ⟨y, hy, (ky_sv m s y).1 h.symm⟩
theorem dN_le (xs : List Nat) : (dN xs).length ≤ xs.length := by
  suffices h : ∀ (zs acc : List Nat), (zs.foldl addN acc).length ≤ acc.length + zs.length by simpa [dN] using h xs []
  intro zs
  induction zs with
  | nil => intro acc; simp
  | cons z zs ih =>
    intro acc
    rw [List.foldl_cons]
    have := ih (addN acc z)
    have h2 : (addN acc z).length ≤ acc.length + 1 := by unfold addN; split <;> simp
    simp only [List.length_cons]; omega
theorem b_not1 {b : Bool} (h : (!b) = true) : b = false := by cases b; rfl; cases h
theorem b_not2 {b : Bool} (h : (!b) = false) : b = true := by cases b; cases h; rfl
theorem mn_nat (c : Nat) (a : Int) (ha : 0 ≤ a) : ∃ p : Nat, p ≤ c ∧ mn (c : Int) a = (p : Int) := by
  unfold mn
  by_cases h : a < (c : Int)
  · exact ⟨a.toNat, by omega, by rw [if_pos h]; omega⟩
  · exact ⟨c, Nat.le_refl _, by rw [if_neg h]⟩

theorem ssets_a : (List.range 7).all (fun c => (List.range 7).all (fun s => if s ≤ c then spec_SetsOf.f 2000 (c : Int) (s : Int) == some (setsN c s) else true)) = true := by decide +kernel
theorem ssets {c s : Nat} (hc : c ≤ 6) (hs : s ≤ c) : Ev (fun k => spec_SetsOf.f k c s) (setsN c s) := by
  have h := List.all_eq_true.1 (List.all_eq_true.1 ssets_a c (List.mem_range.2 (by omega))) s (List.mem_range.2 (by omega))
  rw [if_pos hs] at h
  exact Ev.of (fun k => spec_SetsOf.mono _ _ k) (eq_of_beq h)

theorem s16_l (c : Nat) (a : Int) (p : Nat) (hc : c ≤ 6) (hp : p ≤ c) (hm : mn (c : Int) a = (p : Int)) : ∀ (d i : Nat), i + d = p + 1 → Ev (fun k => spec_l16Sets.l0 k c a (flatR (setsN c) i) i) (setsT c p) := by
  have hq : (p : Int) ≤ a ∧ ((p : Int) = c ∨ (p : Int) = a) := by unfold mn at hm; split at hm <;> omega
  intro d
  induction d with
  | zero =>
    intro i hi
    refine Ev.step (fun k => spec_l16Sets.l0.eq_2 _ _ _ _ k) ?_
    have e : flatR (setsN c) i = setsT c p := by rw [show i = p + 1 by omega]; rfl
    by_cases h : (i : Int) ≤ (c : Int)
    · exact Ev.pos h (Ev.neg (by omega) (Ev.some_ e))
    · exact Ev.neg h (Ev.some_ e)
  | succ d ih =>
    intro i hi
    have h1 := flat_le hc (show i ≤ 7 by omega)
    have h2 := (sets_is hc (show i ≤ 6 by omega)).1
    refine Ev.step (fun k => spec_l16Sets.l0.eq_2 _ _ _ _ k) ?_
    refine Ev.pos (by omega) ?_
    refine Ev.pos (by omega) ?_
    refine Ev.bind (ssets hc (show i ≤ c by omega)) ?_
    refine Ev.pos (by omega) ?_
    rw [← flatR_succ]
    simp only [wnx (show i < 8 by omega) (by omega)]
    exact ih (i + 1) (by omega)
theorem s16 {c : Nat} {a : Int} {p : Nat} (hc : c ≤ 6) (hp : p ≤ c) (hm : mn (c : Int) a = (p : Int)) : Ev (fun k => spec_l16Sets.f k c a) (setsT c p) := by
  unfold spec_l16Sets.f
  exact s16_l c a p hc hp hm (p + 1) 0 (by omega)
theorem s16_neg {c : Nat} {a : Int} (ha : a < 0) : Ev (fun k => spec_l16Sets.f k c a) [] := by
  unfold spec_l16Sets.f
  refine Ev.step (fun k => spec_l16Sets.l0.eq_2 _ _ _ _ k) ?_
  exact Ev.pos (by omega) (Ev.neg (by omega) (Ev.now _))

/-- whether a set fails alike with one ahead of it. -/
def bad (m L : List (List Int)) (i : Nat) : Bool := (L.take i).any (fun y => sv m (rd_L1 L (i : Int)) y)
def allgood (m L : List (List Int)) : Prop := ∀ i, i < L.length → bad m L i = false
theorem bad_app (m L S : List (List Int)) (i : Nat) (hi : i < L.length) : bad m (L ++ S) i = bad m L i := by
  have h1 : rd_L1 (L ++ S) (i : Int) = rd_L1 L (i : Int) := by
    rw [rd1 L i hi, rd1 (L ++ S) i (by rw [List.length_append]; omega), List.getElem_append_left hi]
  unfold bad
  rw [h1, List.take_append_of_le_length (by omega)]
theorem good_app {m L S : List (List Int)} (h : allgood m (L ++ S)) : allgood m L := fun i hi => by
  rw [← bad_app m L S i hi]; exact h i (by rw [List.length_append]; omega)
theorem good_down {m : List (List Int)} {c : Nat} : ∀ (d p : Nat), allgood m (setsT c (p + d)) → allgood m (setsT c p)
  | 0, p, h => h
  | d + 1, p, h => by
    refine good_down d p ?_
    have e : setsT c (p + (d + 1)) = setsT c (p + d) ++ setsN c (p + d + 1) := by
      unfold setsT
      rw [show p + (d + 1) + 1 = (p + d + 1) + 1 by omega, flatR_succ]
    rw [e] at h
    exact good_app h
theorem bad_key (m L : List (List Int)) (i : Nat) (hi : i < L.length) : bad m L i = decide (kyN m L[i] ∈ keysN m (L.take i)) := by
  unfold bad
  rw [rd1 L i hi, any_keys]
theorem dN_good_n (m L : List (List Int)) : ∀ n, n ≤ L.length → ((dN (keysN m (L.take n))).length = n ↔ ∀ i, i < n → bad m L i = false)
  | 0, _ => ⟨fun _ i hi => absurd hi (Nat.not_lt_zero _), fun _ => rfl⟩
  | n + 1, hn => by
    have ih := dN_good_n m L n (by omega)
    have hk : keysN m (L.take (n + 1)) = keysN m (L.take n) ++ [kyN m L[n]] := by
      unfold keysN
      rw [List.take_succ_eq_append_getElem hn, List.map_append]; rfl
    have hle : (dN (keysN m (L.take n))).length ≤ n := by
      refine Nat.le_trans (dN_le _) ?_
      unfold keysN
      rw [List.length_map, List.length_take]; omega
    have hb := bad_key m L n hn
    rw [hk, dN_len_snoc]
    by_cases h : kyN m L[n] ∈ keysN m (L.take n)
    · rw [if_pos h]
      rw [decide_eq_true h] at hb
      constructor
      · intro e; omega
      · intro e
        have := e n (Nat.lt_succ_self _)
        rw [hb] at this; cases this
    · rw [if_neg h]
      rw [decide_eq_false h] at hb
      constructor
      · intro e i hi
        by_cases q : i = n
        · subst q; exact hb
        · exact ih.1 (Nat.succ.inj e) i (by omega)
      · intro e
        rw [ih.2 (fun i hi => e i (by omega))]
theorem dN_good (m L : List (List Int)) : (dN (keysN m L)).length = L.length ↔ allgood m L := by
  have := dN_good_n m L L.length (Nat.le_refl _)
  rw [List.take_length] at this
  exact this
theorem sets_nil : (List.range 7).all (fun c => setsT c 0 == [[]]) = true := by decide +kernel
theorem good_0 (m : List (List Int)) {c : Nat} (hc : c ≤ 6) : allgood m (setsT c 0) := by
  have h := eq_of_beq (List.all_eq_true.1 sets_nil c (List.mem_range.2 (by omega)))
  rw [h]
  intro i hi
  have : i = 0 := by simpa using hi
  subst this; rfl
theorem st_2 (m : List (List Int)) (c : Int) (L : List (List Int)) (hm : m.length ≤ 1048576) (hx : ∀ x ∈ m, x.length ≤ 1048576) (hL : L.length ≤ 64) (hL6 : ∀ x ∈ L, x.length ≤ 6) (q : Int) (i : Nat) (hi : i < L.length) (r : Int) : ∀ (d j : Nat), j + d = i →
    (((L.take i).drop j).any (fun y => sv m L[i] y) = true → r = q) → (((L.take i).drop j).any (fun y => sv m L[i] y) = false → Ev (fun k => spec_ToldSize.l1 k m c q L ((i + 1 : Nat) : Int)) r) →
    Ev (fun k => spec_ToldSize.l2 k m c q L i j) r := by
  have hiw := wnx hi (by omega)
  have hxi := hL6 L[i] (List.getElem_mem hi)
  intro d
  induction d with
  | zero =>
    intro j hj e1 e2
    rw [List.drop_eq_nil_of_le (by rw [List.length_take]; omega)] at e1 e2
    refine Ev.step (fun k => spec_ToldSize.l2.eq_2 _ _ _ _ _ _ k) ?_
    refine Ev.neg (by omega) ?_
    simp only [hiw]
    exact e2 rfl
  | succ d ih =>
    intro j hj e1 e2
    have hlt : j < L.length := by omega
    have hlt2 : j < (L.take i).length := by rw [List.length_take]; omega
    have hjw := wnx hlt (by omega)
    have hxj := hL6 L[j] (List.getElem_mem hlt)
    rw [List.drop_eq_getElem_cons hlt2, List.any_cons, List.getElem_take] at e1 e2
    refine Ev.step (fun k => spec_ToldSize.l2.eq_2 _ _ _ _ _ _ k) ?_
    refine Ev.pos (Int.ofNat_lt.2 (by omega)) ?_
    refine Ev.pos (Int.natCast_nonneg _) ?_
    refine Ev.pos (Int.ofNat_lt.2 hi) ?_
    refine Ev.pos (Int.natCast_nonneg _) ?_
    refine Ev.pos (Int.ofNat_lt.2 hlt) ?_
    rw [rd1 L i hi, rd1 L j hlt]
    refine Ev.bind (ssv m L[i] L[j] hm hx (by omega) (by omega)) ?_
    simp only [hjw]
    cases hs : sv m L[i] L[j] with
    | true =>
      rw [hs, Bool.true_or] at e1
      exact Ev.pos rfl (Ev.some_ (e1 rfl).symm)
    | false =>
      rw [hs, Bool.false_or] at e1 e2
      exact Ev.neg (by simp) (ih (j + 1) (by omega) e1 e2)
theorem st_1 (m : List (List Int)) (c : Int) (L : List (List Int)) (hm : m.length ≤ 1048576) (hx : ∀ x ∈ m, x.length ≤ 1048576) (hL : L.length ≤ 64) (hL6 : ∀ x ∈ L, x.length ≤ 6) (q : Nat) (hq : q < 64) (r : Int) (e : allgood m L → Ev (fun k => spec_ToldSize.l0 k m c ((q + 1 : Nat) : Int)) r) (e' : ¬ allgood m L → r = (q : Int)) : ∀ (d i : Nat), i + d = L.length → (∀ i', i' < i → bad m L i' = false) → Ev (fun k => spec_ToldSize.l1 k m c q L i) r := by
  have hqw := wnx hq (by omega)
  intro d
  induction d with
  | zero =>
    intro i hi hg
    refine Ev.step (fun k => spec_ToldSize.l1.eq_2 _ _ _ _ _ k) ?_
    refine Ev.neg (by omega) ?_
    simp only [hqw]
    exact e (fun i' h => hg i' (by omega))
  | succ d ih =>
    intro i hi hg
    have hlt : i < L.length := by omega
    have hb : bad m L i = (L.take i).any (fun y => sv m L[i] y) := by unfold bad; rw [rd1 L i hlt]
    refine Ev.step (fun k => spec_ToldSize.l1.eq_2 _ _ _ _ _ k) ?_
    refine Ev.pos (Int.ofNat_lt.2 hlt) ?_
    refine st_2 m c L hm hx hL hL6 q i hlt r i 0 (Nat.zero_add _) (fun h => e' ?_) (fun h => ih (i + 1) (by omega) ?_)
    · intro ha
      have := ha i hlt
      rw [List.drop_zero] at h
      rw [hb, h] at this; cases this
    · intro i' hi'
      by_cases q : i' = i
      · subst q; rw [hb]; rw [List.drop_zero] at h; exact h
      · exact hg i' (by omega)
theorem mn_le {c p : Nat} (h : p ≤ c) : mn (c : Int) (p : Int) = (p : Int) := by
  unfold mn
  by_cases q : (p : Int) < (c : Int)
  · rw [if_pos q]
  · rw [if_neg q]; omega
/-- the size up to which all sets are told apart. -/
theorem told_ex (m : List (List Int)) (c : Nat) : ∀ (d p : Nat), p + d = c → (∀ k, k < p → allgood m (setsT c (k + 1))) → ∃ r, r ≤ c ∧ (∀ k, k < r → allgood m (setsT c (k + 1))) ∧ (r = c ∨ ¬ allgood m (setsT c (r + 1)))
  | 0, p, hp, h => ⟨p, by omega, h, .inl (by omega)⟩
  | d + 1, p, hp, h => by
    by_cases g : allgood m (setsT c (p + 1))
    · exact told_ex m c d (p + 1) (by omega) (fun k hk => by
        by_cases q : k = p
        · subst q; exact g
        · exact h k (by omega))
    · exact ⟨p, by omega, h, .inr g⟩
theorem st_0 (m : List (List Int)) (c : Nat) (hm : m.length ≤ 1048576) (hx : ∀ x ∈ m, x.length ≤ 1048576) (hc : c ≤ 6) (r : Nat) (hr : r ≤ c) (h1 : ∀ k, k < r → allgood m (setsT c (k + 1))) (h2 : r = c ∨ ¬ allgood m (setsT c (r + 1))) : ∀ (d j : Nat), j + d = r → Ev (fun k => spec_ToldSize.l0 k m c j) r := by
  intro d
  induction d with
  | zero =>
    intro j hj
    have hjr : j = r := by omega
    subst hjr
    refine Ev.step (fun k => spec_ToldSize.l0.eq_2 _ _ _ k) ?_
    by_cases h : (j : Int) < (c : Int)
    · refine Ev.pos h ?_
      simp only [wnx (show j < 7 by omega) (by omega)]
      refine Ev.bind (s16 hc (show j + 1 ≤ c by omega) (mn_le (by omega))) ?_
      refine st_1 m c _ hm hx (flat_le hc (show j + 1 + 1 ≤ 7 by omega)) (setsT_mem hc (show j + 1 ≤ 6 by omega)) j (by omega) j (fun g => ?_) (fun _ => rfl) (setsT c (j + 1)).length 0 (Nat.zero_add _) (fun i hi => absurd hi (Nat.not_lt_zero _))
      rcases h2 with h2 | h2
      · omega
      · exact absurd g h2
    · refine Ev.neg h (Ev.now _)
  | succ d ih =>
    intro j hj
    refine Ev.step (fun k => spec_ToldSize.l0.eq_2 _ _ _ k) ?_
    refine Ev.pos (by omega) ?_
    simp only [wnx (show j < 7 by omega) (by omega)]
    refine Ev.bind (s16 hc (show j + 1 ≤ c by omega) (mn_le (by omega))) ?_
    exact st_1 m c _ hm hx (flat_le hc (show j + 1 + 1 ≤ 7 by omega)) (setsT_mem hc (show j + 1 ≤ 6 by omega)) j (by omega) r (fun g => ih (j + 1) (by omega)) (fun g => absurd (h1 j (by omega)) g) (setsT c (j + 1)).length 0 (Nat.zero_add _) (fun i hi => absurd hi (Nat.not_lt_zero _))

theorem good_at {m : List (List Int)} {c r : Nat} (hc : c ≤ 6) (h1 : ∀ k, k < r → allgood m (setsT c (k + 1))) : allgood m (setsT c r) := by
  by_cases h : r = 0
  · subst h; exact good_0 m hc
  · have := h1 (r - 1) (by omega)
    rw [show r - 1 + 1 = r by omega] at this
    exact this
theorem it_0 (m : List (List Int)) (c : Nat) (hm : m.length ≤ 1048576) (hx : ∀ x ∈ m, x.length ≤ 1048576) (hb : (im m c && bt m) = true) (hc : c ≤ 6) (h12 : m.length ≤ 12) (r : Nat) (hr : r ≤ c) (h1 : ∀ k, k < r → allgood m (setsT c (k + 1))) (h2 : r = c ∨ ¬ allgood m (setsT c (r + 1))) : ∀ (d j : Nat), j = r + d → j ≤ c → Ev (fun k => impl_ToldSize.l0 k m c j) r := by
  intro d
  induction d with
  | zero =>
    intro j hj hjc
    have hjr : j = r := by omega
    subst hjr
    refine Ev.step (fun k => impl_ToldSize.l0.eq_2 _ _ _ k) ?_
    by_cases h : (j : Int) > 0
    · refine Ev.pos h ?_
      refine Ev.bind (ict m c j hm hx hb (by omega) (by omega) (by omega) (mn_le hjc) h12) ?_
      refine Ev.bind (ito hc hjc (mn_le hjc)) ?_
      rw [Int.toNat_natCast]
      refine Ev.pos ?_ (Ev.now _)
      exact congrArg _ ((dN_good m (setsT c j)).2 (good_at hc h1))
    · refine Ev.neg h (Ev.some_ ?_)
      omega
  | succ d ih =>
    intro j hj hjc
    refine Ev.step (fun k => impl_ToldSize.l0.eq_2 _ _ _ k) ?_
    refine Ev.pos (by omega) ?_
    refine Ev.bind (ict m c j hm hx hb (by omega) (by omega) (by omega) (mn_le hjc) h12) ?_
    refine Ev.bind (ito hc hjc (mn_le hjc)) ?_
    rw [Int.toNat_natCast]
    refine Ev.neg ?_ ?_
    · intro e
      have g := (dN_good m (setsT c j)).1 (by omega)
      rcases h2 with h2 | h2
      · omega
      · have hj2 : j = (r + 1) + d := by omega
        rw [hj2] at g
        exact h2 (good_down d (r + 1) g)
    · have hw : wrap64 ((j : Int) - 1) = ((j - 1 : Nat) : Int) := by rw [wr (by omega) (by omega)]; omega
      simp only [hw]
      exact ih (j - 1) (by omega) (by omega)

theorem toInt_l (l : List Int) (hl : l.length ≤ 1048576) : ∀ (d i : Nat) (acc : List Int), i + d = l.length → acc.length = l.length → (∀ j, j < i → acc[j]? = l[j]?) → Ev (fun k => laws_toIntS.l0 k l acc i) l := by
  intro d
  induction d with
  | zero =>
    intro i acc hi ha hj
    refine Ev.step (fun k => laws_toIntS.l0.eq_2 _ _ _ k) ?_
    refine Ev.neg (by omega) (Ev.some_ ?_)
    apply List.ext_getElem?
    intro j
    by_cases h : j < i
    · exact hj j h
    · rw [List.getElem?_eq_none (by omega), List.getElem?_eq_none (by omega)]
  | succ d ih =>
    intro i acc hi ha hj
    refine Ev.step (fun k => laws_toIntS.l0.eq_2 _ _ _ k) ?_
    refine Ev.pos (by omega) ?_
    refine Ev.pos (by omega) ?_
    refine Ev.pos (by omega) ?_
    simp only [wnx (show i < l.length by omega) (by omega), Int.toNat_natCast]
    refine ih (i + 1) _ (by omega) (by simp; omega) ?_
    intro j hj2
    by_cases h : j = i
    · subst h
      have hlt : j < l.length := by omega
      rw [List.getElem?_set_self (by omega), rd_get l j hlt, List.getElem?_eq_getElem hlt]
    · rw [List.getElem?_set_ne (by omega)]
      exact hj j (by omega)
theorem toInts (l : List Int) (hl : l.length ≤ 1048576) : Ev (fun k => laws_toIntS.f k l) l := by
  unfold laws_toIntS.f
  refine Ev.pos (by omega) ?_
  refine Ev.pos (by omega) ?_
  exact toInt_l l hl l.length 0 _ (by omega) (by simp) (by intro j hj; omega)

theorem eqInt_l (l : List Int) (hl : l.length ≤ 1048576) : ∀ (d i : Nat), i + d = l.length → Ev (fun k => laws_eqIntS.l0 k l l i) true := by
  intro d
  induction d with
  | zero =>
    intro i hi
    refine Ev.step (fun k => laws_eqIntS.l0.eq_2 _ _ _ k) ?_
    exact Ev.neg (by omega) (Ev.now _)
  | succ d ih =>
    intro i hi
    refine Ev.step (fun k => laws_eqIntS.l0.eq_2 _ _ _ k) ?_
    refine Ev.pos (by omega) ?_
    refine Ev.pos (by omega) ?_
    refine Ev.pos (by omega) ?_
    refine Ev.pos rfl ?_
    simp only [wnx (show i < l.length by omega) (by omega)]
    exact ih (i + 1) (by omega)
theorem eqInts (l : List Int) (hl : l.length ≤ 1048576) : Ev (fun k => laws_eqIntS.f k l l) true := by
  unfold laws_eqIntS.f
  exact Ev.pos rfl (eqInt_l l hl l.length 0 (by omega))

theorem szSS_l (l : List (List Int)) (hl : l.length ≤ 1048576) (hm : ∀ x ∈ l, x.length ≤ maxLen) : ∀ (d i : Nat) (q : Int), i + d = l.length → 0 ≤ q → q ≤ 1048576 → ∃ t, Ev (fun k => laws_szIntSS.l0 k l q i) t ∧ (t < 0 ∨ (t = q - tot (l.drop i) ∧ 0 ≤ t)) := by
  intro d
  induction d with
  | zero =>
    intro i q hi h0 h1
    refine ⟨q, Ev.step (fun k => laws_szIntSS.l0.eq_2 _ _ _ k) (Ev.neg (by omega) (Ev.now _)), .inr ?_⟩
    rw [List.drop_eq_nil_of_le (by omega)]
    simp [tot]; omega
  | succ d ih =>
    intro i q hi h0 h1
    have hlt : i < l.length := by omega
    have hx := hm l[i] (List.getElem_mem hlt)
    unfold maxLen at hx
    have e0 : laws_szIntS.f l[i] q = some (if q - (l[i].length : Int) < 0 then -1 else q - (l[i].length : Int)) := by
      unfold laws_szIntS.f
      rw [wr (x := q - (l[i].length : Int)) (by omega) (by omega)]
      split <;> rfl
    by_cases h : q - (l[i].length : Int) < 0
    · rw [if_pos h] at e0
      refine ⟨-1, Ev.step (fun k => laws_szIntSS.l0.eq_2 _ _ _ k) (Ev.pos (by omega) (Ev.pos (by omega) ?_)), .inl (by omega)⟩
      rw [rd1 l i hlt]
      exact Ev.bnow e0 (Ev.pos (by omega) (Ev.now _))
    · rw [if_neg h] at e0
      obtain ⟨t, et, ht⟩ := ih (i + 1) (q - (l[i].length : Int)) (by omega) (by omega) (by omega)
      refine ⟨t, Ev.step (fun k => laws_szIntSS.l0.eq_2 _ _ _ k) (Ev.pos (by omega) (Ev.pos (by omega) ?_)), ?_⟩
      · rw [rd1 l i hlt]
        refine Ev.bnow e0 (Ev.neg h ?_)
        simp only [wnx hlt (by omega)]
        exact et
      · rcases ht with ht | ⟨ht, h2⟩
        · exact .inl ht
        · refine .inr ⟨?_, h2⟩
          have : tot (l.drop i) = l[i].length + tot (l.drop (i + 1)) := by
            rw [List.drop_eq_getElem_cons hlt]; simp only [tot, List.map_cons, List.sum_cons]
          omega
theorem szSS (l : List (List Int)) (q : Int) (h0 : 0 ≤ q) (h1 : q ≤ 1048576) (hl : l.length ≤ maxLen) (hm : ∀ x ∈ l, x.length ≤ maxLen) : ∃ t, Ev (fun k => laws_szIntSS.f k l q) t ∧ (t < 0 ∨ (t = q - l.length - tot l ∧ 0 ≤ t)) := by
  unfold maxLen at hl
  unfold laws_szIntSS.f
  rw [wr (x := q - (l.length : Int)) (by omega) (by omega)]
  by_cases h : q - (l.length : Int) < 0
  · exact ⟨-1, Ev.pos h (Ev.now _), .inl (by omega)⟩
  · obtain ⟨t, et, ht⟩ := szSS_l l (by omega) hm l.length 0 (q - (l.length : Int)) (by omega) (by omega) (by omega)
    exact ⟨t, Ev.neg h et, ht⟩
theorem toSS_l (l : List (List Int)) (hl : l.length ≤ 1048576) (hm : ∀ x ∈ l, x.length ≤ 1048576) : ∀ (d i : Nat) (acc : List (List Int)), i + d = l.length → acc.length = l.length → (∀ j, j < i → acc[j]? = l[j]?) → Ev (fun k => laws_toIntSS.l0 k l acc i) l := by
  intro d
  induction d with
  | zero =>
    intro i acc hi ha hj
    refine Ev.step (fun k => laws_toIntSS.l0.eq_2 _ _ _ k) ?_
    refine Ev.neg (by omega) (Ev.some_ ?_)
    apply List.ext_getElem?
    intro j
    by_cases h : j < i
    · exact hj j h
    · rw [List.getElem?_eq_none (by omega), List.getElem?_eq_none (by omega)]
  | succ d ih =>
    intro i acc hi ha hj
    have hlt : i < l.length := by omega
    refine Ev.step (fun k => laws_toIntSS.l0.eq_2 _ _ _ k) ?_
    refine Ev.pos (by omega) ?_
    refine Ev.pos (by omega) ?_
    rw [rd1 l i hlt]
    refine Ev.bind (toInts l[i] (hm _ (List.getElem_mem hlt))) ?_
    refine Ev.pos (by omega) ?_
    simp only [wnx (show i < l.length by omega) (by omega), Int.toNat_natCast]
    refine ih (i + 1) _ (by omega) (by simp; omega) ?_
    intro j hj2
    by_cases h : j = i
    · subst h
      rw [List.getElem?_set_self (by omega), List.getElem?_eq_getElem hlt]
    · rw [List.getElem?_set_ne (by omega)]
      exact hj j (by omega)
theorem toSS (l : List (List Int)) (hl : l.length ≤ 1048576) (hm : ∀ x ∈ l, x.length ≤ 1048576) : Ev (fun k => laws_toIntSS.f k l) l := by
  unfold laws_toIntSS.f
  refine Ev.pos (by omega) ?_
  refine Ev.pos (by omega) ?_
  exact toSS_l l hl hm l.length 0 _ (by omega) (by simp) (by intro j hj; omega)
theorem eqSS_l (l : List (List Int)) (hl : l.length ≤ 1048576) (hm : ∀ x ∈ l, x.length ≤ 1048576) : ∀ (d i : Nat), i + d = l.length → Ev (fun k => laws_eqIntSS.l0 k l l i) true := by
  intro d
  induction d with
  | zero =>
    intro i hi
    refine Ev.step (fun k => laws_eqIntSS.l0.eq_2 _ _ _ k) ?_
    exact Ev.neg (by omega) (Ev.now _)
  | succ d ih =>
    intro i hi
    have hlt : i < l.length := by omega
    refine Ev.step (fun k => laws_eqIntSS.l0.eq_2 _ _ _ k) ?_
    refine Ev.pos (by omega) ?_
    refine Ev.pos (by omega) ?_
    refine Ev.pos (by omega) ?_
    rw [rd1 l i hlt]
    refine Ev.bind (eqInts l[i] (hm _ (List.getElem_mem hlt))) ?_
    refine Ev.pos rfl ?_
    simp only [wnx (show i < l.length by omega) (by omega)]
    exact ih (i + 1) (by omega)
theorem eqSS (l : List (List Int)) (hl : l.length ≤ 1048576) (hm : ∀ x ∈ l, x.length ≤ 1048576) : Ev (fun k => laws_eqIntSS.f k l l) true := by
  unfold laws_eqIntSS.f
  exact Ev.pos rfl (eqSS_l l hl hm l.length 0 (by omega))

theorem both_told (m : List (List Int)) (cols : Int) (hm : m.length ≤ 1048576) (hx : ∀ x ∈ m, x.length ≤ 1048576) : ∃ r : Int, Ev (fun k => impl_ToldSize.f k m cols) r ∧ Ev (fun k => spec_ToldSize.f k m cols) r := by
  have j1 : Ev (fun k => spec_ToldSize.j0 k m cols true) (-1) := by
    refine Ev.step (fun k => spec_ToldSize.j0.eq_2 _ _ _ k) ?_
    exact Ev.pos rfl (Ev.now _)
  by_cases hb : (im m cols && bt m) = true
  · have hb' := hb
    rw [Bool.and_eq_true] at hb'
    have hi := im_is hb'.1
    obtain ⟨c, rfl⟩ := Int.eq_ofNat_of_zero_le (show 0 ≤ cols by omega)
    obtain ⟨r, hr, h1, h2⟩ := told_ex m c c 0 (Nat.zero_add _) (fun k hk => absurd hk (Nat.not_lt_zero _))
    refine ⟨r, ?_, ?_⟩
    · unfold impl_ToldSize.f
      refine Ev.bind (ibits m c hm hx) ?_
      refine Ev.pos hb ?_
      exact it_0 m c hm hx hb (by omega) hi.2.2.1 r hr h1 h2 (c - r) c (by omega) (Nat.le_refl _)
    · unfold spec_ToldSize.f
      refine Ev.bind (sim m c hm hx) ?_
      refine Ev.pos hb'.1 ?_
      refine Ev.bind (sbt m hm hx) ?_
      rw [hb'.2]
      refine Ev.step (fun k => spec_ToldSize.j0.eq_2 _ _ _ k) ?_
      refine Ev.neg (by simp) ?_
      exact st_0 m c hm hx (by omega) r hr h1 h2 r 0 (Nat.zero_add _)
  · have hb0 : (im m cols && bt m) = false := by simpa using hb
    refine ⟨-1, ?_, ?_⟩
    · unfold impl_ToldSize.f
      refine Ev.bind (ibits m cols hm hx) ?_
      rw [hb0]
      exact Ev.neg (by simp) (Ev.now _)
    · unfold spec_ToldSize.f
      refine Ev.bind (sim m cols hm hx) ?_
      cases h1 : im m cols with
      | true =>
        refine Ev.pos rfl ?_
        refine Ev.bind (sbt m hm hx) ?_
        rw [h1, Bool.true_and] at hb0
        rw [hb0]
        exact j1
      | false => exact Ev.neg (by simp) j1
theorem FnExactToldSize : ∀ (l0 : List (List Int)) (a1 : Int), (l0.length ≤ maxLen ∧ ∀ x_ ∈ l0, (x_.length ≤ maxLen ∧ ∀ y_ ∈ x_, (Lit.int .i64 y_).wf = true)) → (Lit.int .i64 a1).wf = true → ∃ k, laws_FnExactToldSize.f k l0 a1 = some true := by
  intro l cols ⟨h1, h2⟩ _
  refine Ev.rounds (g := fun j => laws_FnExactToldSize.f j l cols) ?_
  unfold laws_FnExactToldSize.f
  obtain ⟨q, eq, hq⟩ := szSS l 1048576 (by omega) (by omega) h1 (fun x hx => (h2 x hx).1)
  refine Ev.bind eq ?_
  by_cases h0 : q < 0
  · exact Ev.pos h0 (Ev.now _)
  refine Ev.neg h0 ?_
  have hl : l.length ≤ 1048576 := by omega
  have hm : ∀ x ∈ l, x.length ≤ 1048576 := fun x hx => by have := tot_mem l x hx; omega
  obtain ⟨r, e1, e2⟩ := both_told l cols hl hm
  refine Ev.bind (toSS l hl hm) ?_
  refine Ev.bind e2 ?_
  refine Ev.bind (toSS l hl hm) ?_
  refine Ev.bind e1 ?_
  refine Ev.pos rfl ?_
  refine Ev.bind (toSS l hl hm) ?_
  refine Ev.bind (eqSS l hl hm) ?_
  exact Ev.pos rfl (Ev.now _)

end Go.Proofs.Ytoniljblfenpeaa.Pure
