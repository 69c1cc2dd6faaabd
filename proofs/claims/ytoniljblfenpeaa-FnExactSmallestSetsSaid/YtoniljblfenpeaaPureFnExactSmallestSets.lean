/- The law FnExactSmallestSets returns true at every list of rows, list of verdicts and count of columns: the program's SmallestSets answers as the reference's. No condition. -/
import Derived.Test.YtoniljblfenpeaaHFnExactSmallestSetsx8
namespace Go.Proofs.Ytoniljblfenpeaa.Pure
open Go.RowKit Go.Proofs.Ytoniljblfenpeaa.PFnExactSmallestSets Go.Proofs.YtoniljblfenpeaaW.PrintWords Go.Proofs.YtoniljblfenpeaaW.PrintLast
set_option linter.unusedSimpArgs false
set_option linter.unusedVariables false

def fwB (row : List Int) (k : Int) : Bool := decide (0 ≤ k ∧ k < row.length ∧ rd row k = 1)
/-- whether a row fails with these links. -/
def fw (row g : List Int) : Bool := g.any (fwB row)

theorem ifw (row g : List Int) : impl_FailsWith.f row g = some (fw row g) := rfl

theorem wr {x : Int} (h1 : -9223372036854775808 ≤ x) (h2 : x ≤ 9223372036854775807) : wrap64 x = x := by unfold wrap64; omega
theorem Ev.pos {α : Type} {c : Prop} [Decidable c] {g f : Nat → Option α} {r : α} (h : c) (e : Ev g r) : Ev (fun k => if c then g k else f k) r := by
  simp only [if_pos h]; exact e
theorem Ev.neg {α : Type} {c : Prop} [Decidable c] {g f : Nat → Option α} {r : α} (h : ¬ c) (e : Ev f r) : Ev (fun k => if c then g k else f k) r := by
  simp only [if_neg h]; exact e
theorem Ev.some_ {α : Type} {r r' : α} (h : r = r') : Ev (fun _ => some r) r' := h ▸ Ev.now r
theorem Ev.bnow {α β : Type} {g : Option α} {f : Nat → α → Option β} {a : α} {r : β} (h : g = some a) (k : Ev (fun n => f n a) r) : Ev (fun n => g.bind (f n)) r := by
  subst h; exact k

theorem wnx {i n : Nat} (h : i < n) (hn : n ≤ 9223372036854775807) : wrap64 ((i : Int) + 1) = ((i + 1 : Nat) : Int) := by rw [wr (by omega) (by omega)]; rfl
theorem rd_get (l : List Int) (i : Nat) (h : i < l.length) : rd l (i : Int) = l[i] := by simp [rd, List.getD, h]

theorem rdof_get (l : List Bool) (i : Nat) (h : i < l.length) : rdOf false l (i : Int) = l[i] := by simp [rdOf, List.getD, h]

def tot (l : List (List Int)) : Nat := (l.map List.length).sum
theorem rd1 (l : List (List Int)) (i : Nat) (h : i < l.length) : rd_L1 l (i : Int) = l[i] := by simp [rd_L1, List.getD, h]
theorem tot_mem : ∀ (l : List (List Int)) (x : List Int), x ∈ l → x.length ≤ tot l := by
  intro l
  induction l with
  | nil => intro x h; cases h
  | cons y l ih =>
    intro x h
    simp only [tot, List.map_cons, List.sum_cons]
    rcases List.mem_cons.1 h with rfl | h
    · omega
    · have := ih x h; unfold tot at this; omega

def inB (a b x : Int) : Bool := decide (a ≤ x ∧ x ≤ b)
def okV (l : List Int) : Bool := l.all (inB 0 100000) && decide (l.length ≤ 12)

/-- a matrix of so many columns. -/
def im (l : List (List Int)) (cols : Int) : Bool := decide (1 ≤ cols ∧ cols ≤ 6) && (decide (l.length ≤ 12) && l.all (fun row => decide ((row.length : Int) = cols) && row.all (inB (-2) 2)))
/-- nothing but zeros and ones. -/
def bt (l : List (List Int)) : Bool := l.all (fun row => row.all (inB 0 1))

/-- of the first n columns those that P takes. -/
def colsL (P : Nat → Bool) (n : Nat) : List Int := ((List.range n).filter P).map (fun c : Nat => (c : Int))
theorem colsL_succ (P : Nat → Bool) (n : Nat) : colsL P (n + 1) = colsL P n ++ (if P n = true then [(n : Int)] else []) := by
  unfold colsL
  rw [List.range_succ, List.filter_append, List.map_append]
  congr 1
  cases h : P n <;> simp [List.filter_cons, h]
theorem colsL_len (P : Nat → Bool) (n : Nat) : (colsL P n).length ≤ n := by
  unfold colsL
  rw [List.length_map]
  refine Nat.le_trans (List.length_filter_le _ _) ?_
  rw [List.length_range]
  exact Nat.le_refl _
theorem im_is {l : List (List Int)} {cols : Int} (h : im l cols = true) : 1 ≤ cols ∧ cols ≤ 6 ∧ l.length ≤ 12 ∧ ∀ row ∈ l, (row.length : Int) = cols := by
  unfold im at h
  rw [Bool.and_eq_true, Bool.and_eq_true, List.all_eq_true] at h
  obtain ⟨h1, h2, h3⟩ := h
  have h1 := of_decide_eq_true h1
  have h2 := of_decide_eq_true h2
  refine ⟨h1.1, h1.2, h2, fun row hr => ?_⟩
  have := h3 row hr
  rw [Bool.and_eq_true] at this
  exact of_decide_eq_true this.1

/-- the sets of s of c columns. -/
def setsN (c s : Nat) : List (List Int) := subsF s c c [] 0
def setsV (c s : Int) : List (List Int) := if 0 ≤ c ∧ c ≤ 6 ∧ 0 ≤ s ∧ s ≤ c then setsN c.toNat s.toNat else []
theorem isets (c s : Int) : impl_SetsOf.f c s = some (setsV c s) := by
  unfold impl_SetsOf.f setsV setsN
  by_cases h : 0 ≤ c ∧ c ≤ 6 ∧ 0 ≤ s ∧ s ≤ c
  · rw [if_pos h, if_pos h]
  · rw [if_neg h, if_neg h]
theorem setsA : (List.range 7).all (fun c => (List.range 7).all (fun s => decide ((setsN c s).length ≤ 64) && (setsN c s).all (fun x => decide (x.length = s) && x.all (fun k => decide (0 ≤ k ∧ k < (c : Int)))))) = true := by decide +kernel
theorem sets_is {c s : Nat} (hc : c ≤ 6) (hs : s ≤ 6) : (setsN c s).length ≤ 64 ∧ ∀ x ∈ setsN c s, x.length = s ∧ ∀ k ∈ x, 0 ≤ k ∧ k < (c : Int) := by
  have h := List.all_eq_true.1 (List.all_eq_true.1 setsA c (List.mem_range.2 (by omega))) s (List.mem_range.2 (by omega))
  rw [Bool.and_eq_true] at h
  refine ⟨of_decide_eq_true h.1, fun x hx => ?_⟩
  have h2 := List.all_eq_true.1 h.2 x hx
  rw [Bool.and_eq_true] at h2
  exact ⟨of_decide_eq_true h2.1, fun k hk => of_decide_eq_true (List.all_eq_true.1 h2.2 k hk)⟩
theorem setsV_is (c s : Int) : (setsV c s).length ≤ 64 ∧ ∀ x ∈ setsV c s, x.length ≤ 6 := by
  unfold setsV
  by_cases h : 0 ≤ c ∧ c ≤ 6 ∧ 0 ≤ s ∧ s ≤ c
  · rw [if_pos h]
    have := sets_is (c := c.toNat) (s := s.toNat) (by omega) (by omega)
    exact ⟨this.1, fun x hx => by have := (this.2 x hx).1; omega⟩
  · rw [if_neg h]; simp

theorem implIn (a l h : Int) : impl_InRange.f a l h = some (decide (l ≤ a ∧ a ≤ h)) := by
  unfold impl_InRange.f
  by_cases h1 : l ≤ a <;> simp [h1]

theorem allIn_l (l : List Int) (a b : Int) (hl : l.length ≤ 1048577) : ∀ (d i : Nat), i + d = l.length → Ev (fun k => impl_allIn.l0 k a b l l.length i) ((l.drop i).all (inB a b)) := by
  intro d
  induction d with
  | zero =>
    intro i hi
    refine Ev.step (fun k => impl_allIn.l0.eq_2 _ _ _ _ _ k) ?_
    refine Ev.neg (by omega) (Ev.some_ ?_)
    rw [List.drop_eq_nil_of_le (by omega)]; rfl
  | succ d ih =>
    intro i hi
    have hlt : i < l.length := by omega
    refine Ev.step (fun k => impl_allIn.l0.eq_2 _ _ _ _ _ k) ?_
    refine Ev.pos (by omega) ?_
    refine Ev.pos (by omega) ?_
    refine Ev.pos (by omega) ?_
    rw [rd_get l i hlt, List.drop_eq_getElem_cons hlt, List.all_cons]
    refine Ev.bnow (a := inB a b l[i]) (by rw [implIn]; rfl) ?_
    cases h : inB a b l[i] with
    | true =>
      refine Ev.pos rfl ?_
      simp only [wnx hlt (by omega)]
      exact ih (i + 1) (by omega)
    | false => exact Ev.neg (by simp) (Ev.now _)
theorem allIn (l : List Int) (a b : Int) (hl : l.length ≤ 1048577) : Ev (fun k => impl_allIn.f k l a b) (l.all (inB a b)) := by
  unfold impl_allIn.f
  exact allIn_l l a b hl l.length 0 (by omega)

theorem iim_l (l : List (List Int)) (cols : Int) (hl : l.length ≤ 1048576) (hm : ∀ x ∈ l, x.length ≤ 1048576) : ∀ (d i : Nat), i + d = l.length → Ev (fun k => impl_IsMatrix.l0 k cols l l.length i) ((l.drop i).all (fun row => decide ((row.length : Int) = cols) && row.all (inB (-2) 2))) := by
  intro d
  induction d with
  | zero =>
    intro i hi
    refine Ev.step (fun k => impl_IsMatrix.l0.eq_2 _ _ _ _ k) ?_
    refine Ev.neg (by omega) (Ev.some_ ?_)
    rw [List.drop_eq_nil_of_le (by omega)]; rfl
  | succ d ih =>
    intro i hi
    have hlt : i < l.length := by omega
    have hx := hm l[i] (List.getElem_mem hlt)
    refine Ev.step (fun k => impl_IsMatrix.l0.eq_2 _ _ _ _ k) ?_
    refine Ev.pos (by omega) ?_
    refine Ev.pos (by omega) ?_
    refine Ev.pos (by omega) ?_
    rw [rd1 l i hlt, List.drop_eq_getElem_cons hlt, List.all_cons]
    by_cases h : (l[i].length : Int) = cols
    · refine Ev.pos h ?_
      refine Ev.bind (allIn l[i] (-2) 2 (by omega)) ?_
      rw [decide_eq_true h, Bool.true_and]
      cases h2 : l[i].all (inB (-2) 2) with
      | true =>
        refine Ev.pos rfl ?_
        simp only [wnx hlt (by omega)]
        exact ih (i + 1) (by omega)
      | false => exact Ev.neg (by simp) (Ev.now _)
    · refine Ev.neg h (Ev.some_ ?_)
      rw [decide_eq_false h]; rfl
theorem iim (l : List (List Int)) (cols : Int) (hl : l.length ≤ 1048576) (hm : ∀ x ∈ l, x.length ≤ 1048576) : Ev (fun k => impl_IsMatrix.f k l cols) (im l cols) := by
  unfold impl_IsMatrix.f
  refine Ev.bnow (implIn _ _ _) ?_
  have e := iim_l l cols hl hm l.length 0 (by omega)
  unfold im
  by_cases h : 1 ≤ cols ∧ cols ≤ 6
  · refine Ev.pos (decide_eq_true h) ?_
    rw [decide_eq_true h, Bool.true_and]
    by_cases h2 : (l.length : Int) > 12
    · rw [decide_eq_true h2, decide_eq_false (show ¬ l.length ≤ 12 by omega)]
      exact Ev.step (fun k => impl_IsMatrix.j0.eq_2 _ _ _ k) (Ev.pos rfl (Ev.now _))
    · rw [decide_eq_false h2, decide_eq_true (show l.length ≤ 12 by omega)]
      exact Ev.step (fun k => impl_IsMatrix.j0.eq_2 _ _ _ k) (Ev.neg (by simp) e)
  · refine Ev.neg (by rw [decide_eq_false h]; simp) ?_
    rw [decide_eq_false h]
    exact Ev.step (fun k => impl_IsMatrix.j0.eq_2 _ _ _ k) (Ev.pos rfl (Ev.now _))

theorem nobit (row : List Int) (h : row.length ≤ 1048576) : Ev (fun k => noBit k row) (!(row.all (inB 0 1))) := by
  unfold noBit
  exact Ev.bind (allIn row 0 1 (by omega)) (Ev.now _)
theorem allO_ev : ∀ (l : List (List Int)), (∀ x ∈ l, x.length ≤ 1048576) → Ev (fun k => allO (noBit k) l) (!(bt l))
  | [], _ => Ev.now _
  | x :: l, h => by
    show Ev (fun k => (noBit k x).bind fun b => (allO (noBit k) l).bind fun c => some (b || c)) _
    refine Ev.bind (nobit x (h x List.mem_cons_self)) ?_
    refine Ev.bind (allO_ev l (fun y hy => h y (List.mem_cons_of_mem _ hy))) (Ev.some_ ?_)
    unfold bt
    rw [List.all_cons, Bool.not_and]
theorem ibits (l : List (List Int)) (cols : Int) (hl : l.length ≤ 1048576) (hm : ∀ x ∈ l, x.length ≤ 1048576) : Ev (fun k => impl_isBits.f k l cols) (im l cols && bt l) := by
  unfold impl_isBits.f
  refine Ev.bind (iim l cols hl hm) ?_
  cases im l cols with
  | true =>
    refine Ev.pos rfl ?_
    refine Ev.bind (allO_ev l hm) (Ev.some_ ?_)
    simp
  | false => exact Ev.neg (by simp) (Ev.now _)

theorem specIn (a l h : Int) : spec_l1In.f a l h = some (decide (l ≤ a ∧ a ≤ h)) := by
  unfold spec_l1In.f
  by_cases h1 : l ≤ a <;> simp [h1]

theorem sim_r (l : List (List Int)) (cols : Int) (i : Nat) (hlt : i < l.length) (hl : l.length ≤ 1048576) (hx : l[i].length ≤ 1048576) (hc : (l[i].length : Int) = cols) {r : Bool} (nx : Ev (fun k => spec_IsMatrix.l0 k l cols ((i + 1 : Nat) : Int)) r) :
    ∀ (d j : Nat), j + d = l[i].length → Ev (fun k => spec_IsMatrix.l1 k l cols i j) (((l[i].drop j).all (inB (-2) 2)) && r) := by
  intro d
  induction d with
  | zero =>
    intro j hj
    refine Ev.step (fun k => spec_IsMatrix.l1.eq_2 _ _ _ _ k) ?_
    refine Ev.neg (by omega) ?_
    rw [List.drop_eq_nil_of_le (by omega)]
    simp only [wnx hlt (by omega), List.all_nil, Bool.true_and]
    exact nx
  | succ d ih =>
    intro j hj
    have hlt2 : j < l[i].length := by omega
    refine Ev.step (fun k => spec_IsMatrix.l1.eq_2 _ _ _ _ k) ?_
    refine Ev.pos (by omega) ?_
    refine Ev.pos (by omega) ?_
    refine Ev.pos (by omega) ?_
    refine Ev.pos (by omega) ?_
    rw [rd1 l i hlt]
    refine Ev.pos (by omega) ?_
    rw [rd_get l[i] j hlt2, List.drop_eq_getElem_cons hlt2, List.all_cons]
    refine Ev.bnow (a := inB (-2) 2 l[i][j]) (by rw [specIn]; rfl) ?_
    cases h : inB (-2) 2 l[i][j] with
    | true =>
      refine Ev.pos rfl ?_
      simp only [wnx hlt2 (by omega), Bool.true_and]
      exact ih (j + 1) (by omega)
    | false => exact Ev.neg (by simp) (Ev.now _)
theorem sim_l (l : List (List Int)) (cols : Int) (hl : l.length ≤ 1048576) (hm : ∀ x ∈ l, x.length ≤ 1048576) : ∀ (d i : Nat), i + d = l.length → Ev (fun k => spec_IsMatrix.l0 k l cols i) ((l.drop i).all (fun row => decide ((row.length : Int) = cols) && row.all (inB (-2) 2))) := by
  intro d
  induction d with
  | zero =>
    intro i hi
    refine Ev.step (fun k => spec_IsMatrix.l0.eq_2 _ _ _ k) ?_
    refine Ev.neg (by omega) (Ev.some_ ?_)
    rw [List.drop_eq_nil_of_le (by omega)]; rfl
  | succ d ih =>
    intro i hi
    have hlt : i < l.length := by omega
    have hx := hm l[i] (List.getElem_mem hlt)
    refine Ev.step (fun k => spec_IsMatrix.l0.eq_2 _ _ _ k) ?_
    refine Ev.pos (by omega) ?_
    refine Ev.pos (by omega) ?_
    rw [rd1 l i hlt, List.drop_eq_getElem_cons hlt, List.all_cons]
    by_cases h : (l[i].length : Int) = cols
    · refine Ev.pos h ?_
      rw [decide_eq_true h, Bool.true_and]
      exact sim_r l cols i hlt hl hx h (ih (i + 1) (by omega)) l[i].length 0 (by omega)
    · refine Ev.neg h (Ev.some_ ?_)
      rw [decide_eq_false h]; rfl
theorem sim (l : List (List Int)) (cols : Int) (hl : l.length ≤ 1048576) (hm : ∀ x ∈ l, x.length ≤ 1048576) : Ev (fun k => spec_IsMatrix.f k l cols) (im l cols) := by
  unfold spec_IsMatrix.f
  refine Ev.bnow (specIn _ _ _) ?_
  have e := sim_l l cols hl hm l.length 0 (by omega)
  unfold im
  by_cases h : 1 ≤ cols ∧ cols ≤ 6
  · refine Ev.pos (decide_eq_true h) ?_
    rw [decide_eq_true h, Bool.true_and]
    by_cases h2 : (l.length : Int) > 12
    · rw [decide_eq_true h2, decide_eq_false (show ¬ l.length ≤ 12 by omega)]
      exact Ev.step (fun k => spec_IsMatrix.j0.eq_2 _ _ _ k) (Ev.pos rfl (Ev.now _))
    · rw [decide_eq_false h2, decide_eq_true (show l.length ≤ 12 by omega)]
      exact Ev.step (fun k => spec_IsMatrix.j0.eq_2 _ _ _ k) (Ev.neg (by simp) e)
  · refine Ev.neg (by rw [decide_eq_false h]; simp) ?_
    rw [decide_eq_false h]
    exact Ev.step (fun k => spec_IsMatrix.j0.eq_2 _ _ _ k) (Ev.pos rfl (Ev.now _))

theorem sbt_r (l : List (List Int)) (i : Nat) (hlt : i < l.length) (hl : l.length ≤ 1048576) (hx : l[i].length ≤ 1048576) {r : Bool} (nx : Ev (fun k => spec_l15Bits.l0 k l ((i + 1 : Nat) : Int)) r) :
    ∀ (d j : Nat), j + d = l[i].length → Ev (fun k => spec_l15Bits.l1 k l i j) (((l[i].drop j).all (inB 0 1)) && r) := by
  intro d
  induction d with
  | zero =>
    intro j hj
    refine Ev.step (fun k => spec_l15Bits.l1.eq_2 _ _ _ k) ?_
    refine Ev.pos (by omega) ?_
    refine Ev.pos (by omega) ?_
    rw [rd1 l i hlt]
    refine Ev.neg (by omega) ?_
    rw [List.drop_eq_nil_of_le (by omega)]
    simp only [wnx hlt (by omega), List.all_nil, Bool.true_and]
    exact nx
  | succ d ih =>
    intro j hj
    have hlt2 : j < l[i].length := by omega
    refine Ev.step (fun k => spec_l15Bits.l1.eq_2 _ _ _ k) ?_
    refine Ev.pos (by omega) ?_
    refine Ev.pos (by omega) ?_
    rw [rd1 l i hlt]
    refine Ev.pos (by omega) ?_
    refine Ev.pos (by omega) ?_
    rw [rd_get l[i] j hlt2, List.drop_eq_getElem_cons hlt2, List.all_cons]
    refine Ev.bnow (a := inB 0 1 l[i][j]) (by rw [specIn]; rfl) ?_
    cases h : inB 0 1 l[i][j] with
    | true =>
      refine Ev.pos rfl ?_
      simp only [wnx hlt2 (by omega), Bool.true_and]
      exact ih (j + 1) (by omega)
    | false => exact Ev.neg (by simp) (Ev.now _)
theorem sbt_l (l : List (List Int)) (hl : l.length ≤ 1048576) (hm : ∀ x ∈ l, x.length ≤ 1048576) : ∀ (d i : Nat), i + d = l.length → Ev (fun k => spec_l15Bits.l0 k l i) (bt (l.drop i)) := by
  intro d
  induction d with
  | zero =>
    intro i hi
    refine Ev.step (fun k => spec_l15Bits.l0.eq_2 _ _ k) ?_
    refine Ev.neg (by omega) (Ev.some_ ?_)
    rw [List.drop_eq_nil_of_le (by omega)]; rfl
  | succ d ih =>
    intro i hi
    have hlt : i < l.length := by omega
    have hx := hm l[i] (List.getElem_mem hlt)
    refine Ev.step (fun k => spec_l15Bits.l0.eq_2 _ _ k) ?_
    refine Ev.pos (by omega) ?_
    rw [List.drop_eq_getElem_cons hlt]
    exact sbt_r l i hlt hl hx (ih (i + 1) (by omega)) l[i].length 0 (by omega)
theorem sbt (l : List (List Int)) (hl : l.length ≤ 1048576) (hm : ∀ x ∈ l, x.length ≤ 1048576) : Ev (fun k => spec_l15Bits.f k l) (bt l) := by
  unfold spec_l15Bits.f
  exact sbt_l l hl hm l.length 0 (by omega)

def verd (l : List (List Int)) (b : List Bool) (cols : Int) : Bool := (im l cols && bt l) && ((b.length : Int) == (l.length : Int))
theorem specVerd (l : List (List Int)) (b : List Bool) (cols : Int) (hl : l.length ≤ 1048576) (hm : ∀ x ∈ l, x.length ≤ 1048576) : Ev (fun k => spec_AreVerdicts.f k l b cols) (verd l b cols) := by
  unfold spec_AreVerdicts.f verd
  refine Ev.bind (sim l cols hl hm) ?_
  cases im l cols with
  | true =>
    refine Ev.pos rfl ?_
    refine Ev.bind (sbt l hl hm) ?_
    cases bt l with
    | true => exact Ev.pos rfl (Ev.now _)
    | false => exact Ev.neg (by simp) (Ev.now _)
  | false => exact Ev.neg (by simp) (Ev.now _)
theorem implVerd (l : List (List Int)) (b : List Bool) (cols : Int) (hl : l.length ≤ 1048576) (hm : ∀ x ∈ l, x.length ≤ 1048576) : Ev (fun k => impl_AreVerdicts.f k l b cols) (verd l b cols) := by
  unfold impl_AreVerdicts.f verd
  refine Ev.bind (ibits l cols hl hm) ?_
  cases im l cols && bt l with
  | true => exact Ev.pos rfl (Ev.now _)
  | false => exact Ev.neg (by simp) (Ev.now _)
theorem verd_is {l : List (List Int)} {b : List Bool} {cols : Int} (h : verd l b cols = true) : im l cols = true ∧ b.length = l.length ∧ ∀ row ∈ l, ∀ x ∈ row, x = 0 ∨ x = 1 := by
  unfold verd bt at h
  rw [Bool.and_eq_true, Bool.and_eq_true, List.all_eq_true] at h
  obtain ⟨⟨h1, h2⟩, h3⟩ := h
  refine ⟨h1, by have := eq_of_beq h3; omega, fun row hr x hx => ?_⟩
  have h4 := h2 row hr
  rw [List.all_eq_true] at h4
  have h5 := h4 x hx
  unfold inB at h5
  have := of_decide_eq_true h5
  omega

/-- whether the links explain what failed. -/
def ex (l : List (List Int)) (b : List Bool) (x : List Int) : Bool := ((b.length : Int) == (l.length : Int)) && (l.zip b).all (fun z => fw z.1 x == z.2)
theorem zip_at' (l : List (List Int)) (b : List Bool) (i : Nat) (h1 : i < l.length) (h2 : b.length = l.length) : (l.zip b).drop i = (l[i], b[i]'(by omega)) :: (l.zip b).drop (i + 1) := by
  have hz : i < (l.zip b).length := by rw [List.length_zip]; omega
  rw [List.drop_eq_getElem_cons hz]
  simp
theorem iex_l (l : List (List Int)) (b : List Bool) (x : List Int) (hl : l.length ≤ 1048576) (hb : b.length = l.length) : ∀ (d i : Nat), i + d = l.length → Ev (fun k => impl_Explains.l0 k b x l l.length i) (((l.zip b).drop i).all (fun z => fw z.1 x == z.2)) := by
  intro d
  induction d with
  | zero =>
    intro i hi
    refine Ev.step (fun k => impl_Explains.l0.eq_2 _ _ _ _ _ k) ?_
    refine Ev.neg (by omega) (Ev.some_ ?_)
    rw [List.drop_eq_nil_of_le (by rw [List.length_zip]; omega)]; rfl
  | succ d ih =>
    intro i hi
    have hlt : i < l.length := by omega
    refine Ev.step (fun k => impl_Explains.l0.eq_2 _ _ _ _ _ k) ?_
    refine Ev.pos (by omega) ?_
    refine Ev.pos (by omega) ?_
    refine Ev.pos (by omega) ?_
    rw [rd1 l i hlt, rdof_get b i (by omega), zip_at' l b i hlt hb, List.all_cons]
    refine Ev.bnow (ifw _ _) ?_
    refine Ev.pos (by omega) ?_
    simp only [wnx hlt (by omega)]
    by_cases h : fw l[i] x = b[i]
    · refine Ev.neg (by simp [h]) ?_
      rw [h]
      simpa using ih (i + 1) (by omega)
    · refine Ev.pos (by simpa using h) (Ev.some_ ?_)
      have : (fw l[i] x == b[i]) = false := by simpa using h
      rw [this]; rfl
theorem iex (l : List (List Int)) (b : List Bool) (x : List Int) (hl : l.length ≤ 1048576) : Ev (fun k => impl_Explains.f k l b x) (ex l b x) := by
  unfold impl_Explains.f ex
  by_cases h : (b.length : Int) = (l.length : Int)
  · refine Ev.pos h ?_
    rw [show ((b.length : Int) == (l.length : Int)) = true by simpa using h, Bool.true_and]
    exact iex_l l b x hl (by omega) l.length 0 (by omega)
  · refine Ev.neg h (Ev.some_ ?_)
    rw [show ((b.length : Int) == (l.length : Int)) = false by simpa using h, Bool.false_and]
/-- the first sizes' sets that explain. -/
def smL (l : List (List Int)) (b : List Bool) (n : Nat) : Nat → Nat → List (List Int)
  | 0, _ => []
  | d + 1, s => if 0 < ((setsV n s).filter (ex l b)).length then (setsV n s).filter (ex l b) else smL l b n d (s + 1)
def smV (l : List (List Int)) (b : List Bool) (cols : Int) : List (List Int) := if verd l b cols = true then smL l b cols.toNat (cols.toNat + 1) 0 else []
theorem ism_1 (l : List (List Int)) (b : List Bool) (n s : Nat) (hn : n ≤ 6) (hl : l.length ≤ 1048576) (T : List (List Int)) (hT : T.length ≤ 64) (r : List (List Int)) : ∀ (d i : Nat) (acc : List (List Int)), i + d = T.length → acc.length ≤ i →
    (0 < (acc ++ (T.drop i).filter (ex l b)).length → r = acc ++ (T.drop i).filter (ex l b)) → ((acc ++ (T.drop i).filter (ex l b)).length = 0 → Ev (fun k => impl_SmallestSets.l0 k l b n ((n : Int) + 1) (wrap64 ((s : Int) + 1))) r) →
    Ev (fun k => impl_SmallestSets.l1 k l b n acc ((n : Int) + 1) s T T.length i) r := by
  intro d
  induction d with
  | zero =>
    intro i acc hi ha e1 e2
    rw [List.drop_eq_nil_of_le (by omega), List.filter_nil, List.append_nil] at e1 e2
    refine Ev.step (fun k => impl_SmallestSets.l1.eq_2 _ _ _ _ _ _ _ _ _ k) ?_
    refine Ev.neg (by omega) ?_
    by_cases h : (acc.length : Int) > 0
    · exact Ev.pos h (Ev.some_ (e1 (by omega)).symm)
    · exact Ev.neg h (e2 (by omega))
  | succ d ih =>
    intro i acc hi ha e1 e2
    have hlt : i < T.length := by omega
    rw [List.drop_eq_getElem_cons hlt, List.filter_cons] at e1 e2
    refine Ev.step (fun k => impl_SmallestSets.l1.eq_2 _ _ _ _ _ _ _ _ _ k) ?_
    refine Ev.pos (by omega) ?_
    refine Ev.pos (by omega) ?_
    refine Ev.pos (by omega) ?_
    rw [rd1 T i hlt]
    refine Ev.bind (iex l b _ hl) ?_
    simp only [wnx hlt (by omega)]
    by_cases h : ex l b T[i] = true
    · refine Ev.pos h ?_
      refine Ev.pos (by omega) ?_
      rw [if_pos h] at e1 e2
      refine ih (i + 1) (acc ++ [T[i]]) (by omega) (by simp; omega) (fun h0 => ?_) (fun h0 => ?_)
      · rw [List.append_assoc] at h0 ⊢; exact e1 h0
      · rw [List.append_assoc] at h0; exact e2 h0
    · refine Ev.neg h ?_
      rw [if_neg h] at e1 e2
      exact ih (i + 1) acc (by omega) (by omega) e1 e2
theorem ism_0 (l : List (List Int)) (b : List Bool) (n : Nat) (hn : n ≤ 6) (hl : l.length ≤ 1048576) : ∀ (d s : Nat), s + d = n + 1 → Ev (fun k => impl_SmallestSets.l0 k l b n ((n : Int) + 1) s) (smL l b n d s) := by
  intro d
  induction d with
  | zero =>
    intro s hs
    refine Ev.step (fun k => impl_SmallestSets.l0.eq_2 _ _ _ _ _ k) ?_
    exact Ev.neg (by omega) (Ev.now _)
  | succ d ih =>
    intro s hs
    refine Ev.step (fun k => impl_SmallestSets.l0.eq_2 _ _ _ _ _ k) ?_
    refine Ev.pos (by omega) ?_
    refine Ev.bnow (isets n s) ?_
    have hT := setsV_is n s
    have hw : wrap64 ((s : Int) + 1) = ((s + 1 : Nat) : Int) := wnx (show s < 8 by omega) (by omega)
    have e := ih (s + 1) (by omega)
    unfold smL
    refine ism_1 l b n s hn hl (setsV n s) hT.1 _ (setsV n s).length 0 [] (by omega) (by simp) (fun h => ?_) (fun h => ?_)
    · rw [List.drop_zero, List.nil_append] at h ⊢
      rw [if_pos h]
    · rw [List.drop_zero, List.nil_append] at h
      rw [if_neg (by omega), hw]
      exact e
theorem ism (l : List (List Int)) (b : List Bool) (cols : Int) (hl : l.length ≤ 1048576) (hm : ∀ x ∈ l, x.length ≤ 1048576) : Ev (fun k => impl_SmallestSets.f k l b cols) (smV l b cols) := by
  unfold impl_SmallestSets.f smV
  refine Ev.bind (implVerd l b cols hl hm) ?_
  by_cases h : verd l b cols = true
  · have hi := im_is (verd_is h).1
    refine Ev.pos h ?_
    rw [if_pos h]
    obtain ⟨n, rfl⟩ := Int.eq_ofNat_of_zero_le (show 0 ≤ cols by omega)
    rw [wr (x := (n : Int) + 1) (by omega) (by omega)]
    exact ism_0 l b n (by omega) hl (n + 1) 0 (by omega)
  · refine Ev.neg h ?_
    rw [if_neg h]
    exact Ev.now _
theorem smL_is (l : List (List Int)) (b : List Bool) (n : Nat) : ∀ (d s : Nat), (smL l b n d s = [] ∧ ∀ j, s ≤ j → j < s + d → (setsV n j).filter (ex l b) = []) ∨ ∃ j, s ≤ j ∧ j < s + d ∧ smL l b n d s = (setsV n j).filter (ex l b) ∧ 0 < (smL l b n d s).length ∧ ∀ i, s ≤ i → i < j → (setsV n i).filter (ex l b) = []
  | 0, s => .inl ⟨rfl, fun j h1 h2 => by omega⟩
  | d + 1, s => by
    unfold smL
    by_cases h : 0 < ((setsV n s).filter (ex l b)).length
    · rw [if_pos h]
      exact .inr ⟨s, Nat.le_refl _, by omega, rfl, h, fun i h1 h2 => by omega⟩
    · rw [if_neg h]
      have h0 : (setsV n s).filter (ex l b) = [] := List.eq_nil_of_length_eq_zero (by omega)
      rcases smL_is l b n d (s + 1) with ⟨h1, h2⟩ | ⟨j, h1, h2, h3, h4, h5⟩
      · refine .inl ⟨h1, fun j a c => ?_⟩
        by_cases e : j = s
        · subst e; exact h0
        · exact h2 j (by omega) (by omega)
      · refine .inr ⟨j, by omega, by omega, h3, h4, fun i a c => ?_⟩
        by_cases e : i = s
        · subst e; exact h0
        · exact h5 i (by omega) c

theorem ssets_a : (List.range 7).all (fun c => (List.range 7).all (fun s => if s ≤ c then spec_SetsOf.f 2000 (c : Int) (s : Int) == some (setsN c s) else true)) = true := by decide +kernel
theorem ssets {c s : Nat} (hc : c ≤ 6) (hs : s ≤ c) : Ev (fun k => spec_SetsOf.f k c s) (setsN c s) := by
  have h := List.all_eq_true.1 (List.all_eq_true.1 ssets_a c (List.mem_range.2 (by omega))) s (List.mem_range.2 (by omega))
  rw [if_pos hs] at h
  exact Ev.of (fun k => spec_SetsOf.mono _ _ k) (eq_of_beq h)

theorem sfw_l (row g : List Int) (hr : row.length ≤ 1048576) (hg : g.length ≤ 1048576) : ∀ (d i : Nat), i + d = g.length → Ev (fun k => spec_FailsWith.l0 k row g i) ((g.drop i).any (fwB row)) := by
  intro d
  induction d with
  | zero =>
    intro i hi
    refine Ev.step (fun k => spec_FailsWith.l0.eq_2 _ _ _ k) ?_
    refine Ev.neg (by omega) (Ev.some_ ?_)
    rw [List.drop_eq_nil_of_le (by omega)]; rfl
  | succ d ih =>
    intro i hi
    have hlt : i < g.length := by omega
    refine Ev.step (fun k => spec_FailsWith.l0.eq_2 _ _ _ k) ?_
    refine Ev.pos (by omega) ?_
    refine Ev.pos (by omega) ?_
    rw [rd_get g i hlt, List.drop_eq_getElem_cons hlt, List.any_cons, wr (x := (row.length : Int) - 1) (by omega) (by omega)]
    refine Ev.bnow (specIn _ _ _) ?_
    by_cases h : 0 ≤ g[i] ∧ g[i] ≤ (row.length : Int) - 1
    · refine Ev.pos (decide_eq_true h) ?_
      refine Ev.pos h.1 ?_
      refine Ev.pos (by omega) ?_
      by_cases h1 : rd row g[i] = 1
      · refine Ev.pos h1 (Ev.some_ ?_)
        have : fwB row g[i] = true := decide_eq_true ⟨h.1, by omega, h1⟩
        rw [this]; rfl
      · refine Ev.neg h1 ?_
        have : fwB row g[i] = false := decide_eq_false (fun x => h1 x.2.2)
        rw [this, Bool.false_or]
        simp only [wnx hlt (by omega)]
        exact ih (i + 1) (by omega)
    · refine Ev.neg (by rw [decide_eq_false h]; simp) ?_
      have : fwB row g[i] = false := decide_eq_false (fun x => h ⟨x.1, by omega⟩)
      rw [this, Bool.false_or]
      simp only [wnx hlt (by omega)]
      exact ih (i + 1) (by omega)
theorem sfw (row g : List Int) (hr : row.length ≤ 1048576) (hg : g.length ≤ 1048576) : Ev (fun k => spec_FailsWith.f k row g) (fw row g) := by
  unfold spec_FailsWith.f
  exact sfw_l row g hr hg g.length 0 (by omega)

theorem sex_l (l : List (List Int)) (b : List Bool) (x : List Int) (hl : l.length ≤ 1048576) (hm : ∀ r ∈ l, r.length ≤ 1048576) (hx : x.length ≤ 1048576) (hb : b.length = l.length) : ∀ (d i : Nat), i + d = l.length → Ev (fun k => spec_Explains.l0 k l b x i) (((l.zip b).drop i).all (fun z => fw z.1 x == z.2)) := by
  intro d
  induction d with
  | zero =>
    intro i hi
    refine Ev.step (fun k => spec_Explains.l0.eq_2 _ _ _ _ k) ?_
    refine Ev.neg (by omega) (Ev.some_ ?_)
    rw [List.drop_eq_nil_of_le (by rw [List.length_zip]; omega)]; rfl
  | succ d ih =>
    intro i hi
    have hlt : i < l.length := by omega
    have hr := hm l[i] (List.getElem_mem hlt)
    refine Ev.step (fun k => spec_Explains.l0.eq_2 _ _ _ _ k) ?_
    refine Ev.pos (by omega) ?_
    refine Ev.pos (by omega) ?_
    rw [rd1 l i hlt, rdof_get b i (by omega), zip_at' l b i hlt hb, List.all_cons]
    refine Ev.bind (sfw l[i] x hr hx) ?_
    refine Ev.pos (by omega) ?_
    simp only [wnx hlt (by omega)]
    by_cases h : fw l[i] x = b[i]
    · refine Ev.neg (by simp [h]) ?_
      rw [h]
      simpa using ih (i + 1) (by omega)
    · refine Ev.pos (by simpa using h) (Ev.some_ ?_)
      have : (fw l[i] x == b[i]) = false := by simpa using h
      rw [this]; rfl
theorem sex (l : List (List Int)) (b : List Bool) (x : List Int) (hl : l.length ≤ 1048576) (hm : ∀ r ∈ l, r.length ≤ 1048576) (hx : x.length ≤ 1048576) : Ev (fun k => spec_Explains.f k l b x) (ex l b x) := by
  unfold spec_Explains.f ex
  by_cases h : (b.length : Int) = (l.length : Int)
  · refine Ev.pos h ?_
    rw [show ((b.length : Int) == (l.length : Int)) = true by simpa using h, Bool.true_and]
    exact sex_l l b x hl hm hx (by omega) l.length 0 (by omega)
  · refine Ev.neg h (Ev.some_ ?_)
    rw [show ((b.length : Int) == (l.length : Int)) = false by simpa using h, Bool.false_and]
theorem ssm_no (l : List (List Int)) (b : List Bool) (c : Int) (acc : List (List Int)) (s : Int) : Ev (fun k => spec_SmallestSets.j1 k l b c acc s false) acc := by
  refine Ev.step (fun k => spec_SmallestSets.j1.eq_2 _ _ _ _ _ _ k) ?_
  exact Ev.neg (by simp) (Ev.now _)
theorem ssm_end (l : List (List Int)) (b : List Bool) (c : Int) (hl : l.length ≤ 1048576) (hm : ∀ r ∈ l, r.length ≤ 1048576) (acc : List (List Int)) (ha : 0 < acc.length ∨ verd l b c = false) (s : Int) : Ev (fun k => spec_SmallestSets.l0 k l b c acc s) acc := by
  refine Ev.step (fun k => spec_SmallestSets.l0.eq_2 _ _ _ _ _ k) ?_
  by_cases h : s ≤ c
  · refine Ev.pos h ?_
    refine Ev.bind (specVerd l b c hl hm) ?_
    by_cases hv : verd l b c = true
    · refine Ev.pos hv ?_
      rcases ha with ha | ha
      · have e : ((acc.length : Int) == 0) = false := by simp; intro e; rw [e] at ha; simp at ha
        rw [e]
        exact ssm_no l b c acc s
      · rw [hv] at ha; cases ha
    · exact Ev.neg hv (ssm_no l b c acc s)
  · exact Ev.neg h (ssm_no l b c acc s)
theorem ssm_1 (l : List (List Int)) (b : List Bool) (c : Int) (hl : l.length ≤ 1048576) (hm : ∀ r ∈ l, r.length ≤ 1048576) (s : Nat) (hs : s < 64) (T : List (List Int)) (hT : T.length ≤ 64) (hT6 : ∀ x ∈ T, x.length ≤ 6) (r : List (List Int)) : ∀ (d i : Nat) (acc : List (List Int)), i + d = T.length → acc.length ≤ i →
    Ev (fun k => spec_SmallestSets.l0 k l b c (acc ++ (T.drop i).filter (ex l b)) ((s + 1 : Nat) : Int)) r → Ev (fun k => spec_SmallestSets.l1 k l b c acc s T i) r := by
  have hsw := wnx hs (by omega)
  intro d
  induction d with
  | zero =>
    intro i acc hi ha e
    rw [List.drop_eq_nil_of_le (by omega), List.filter_nil, List.append_nil] at e
    refine Ev.step (fun k => spec_SmallestSets.l1.eq_2 _ _ _ _ _ _ _ k) ?_
    refine Ev.neg (by omega) ?_
    simp only [hsw]
    exact e
  | succ d ih =>
    intro i acc hi ha e
    have hlt : i < T.length := by omega
    have h6 := hT6 T[i] (List.getElem_mem hlt)
    have hiw := wnx hlt (by omega)
    rw [List.drop_eq_getElem_cons hlt, List.filter_cons] at e
    refine Ev.step (fun k => spec_SmallestSets.l1.eq_2 _ _ _ _ _ _ _ k) ?_
    refine Ev.pos (Int.ofNat_lt.2 hlt) ?_
    refine Ev.pos (Int.natCast_nonneg _) ?_
    rw [rd1 T i hlt]
    refine Ev.bind (sex l b _ hl hm (by omega)) ?_
    simp only [hiw]
    by_cases h : ex l b T[i] = true
    · rw [if_pos h] at e
      refine Ev.pos h ?_
      refine Ev.pos (by omega) ?_
      refine ih (i + 1) (acc ++ [T[i]]) (by omega) (by simp; omega) ?_
      rw [List.append_assoc]; exact e
    · rw [if_neg h] at e
      refine Ev.neg h ?_
      exact ih (i + 1) acc (by omega) (by omega) e
theorem ssm_0 (l : List (List Int)) (b : List Bool) (n : Nat) (hn : n ≤ 6) (hl : l.length ≤ 1048576) (hm : ∀ r ∈ l, r.length ≤ 1048576) (hv : verd l b n = true) : ∀ (d s : Nat), s + d = n + 1 → Ev (fun k => spec_SmallestSets.l0 k l b n [] s) (smL l b n d s) := by
  intro d
  induction d with
  | zero =>
    intro s hs
    refine Ev.step (fun k => spec_SmallestSets.l0.eq_2 _ _ _ _ _ k) ?_
    refine Ev.neg (by omega) ?_
    exact ssm_no l b n [] s
  | succ d ih =>
    intro s hs
    have e := ih (s + 1) (by omega)
    have hT := setsV_is n s
    have hV : setsV (n : Int) (s : Int) = setsN n s := by
      unfold setsV
      rw [if_pos (by omega), Int.toNat_natCast, Int.toNat_natCast]
    refine Ev.step (fun k => spec_SmallestSets.l0.eq_2 _ _ _ _ _ k) ?_
    refine Ev.pos (by omega) ?_
    refine Ev.bind (specVerd l b n hl hm) ?_
    refine Ev.pos hv ?_
    refine Ev.step (fun k => spec_SmallestSets.j1.eq_2 _ _ _ _ _ _ k) ?_
    refine Ev.pos rfl ?_
    refine Ev.bind (ssets (show n ≤ 6 by omega) (show s ≤ n by omega)) ?_
    rw [← hV]
    refine ssm_1 l b n hl hm s (by omega) (setsV n s) hT.1 hT.2 _ (setsV n s).length 0 [] (Nat.zero_add _) (by simp) ?_
    rw [List.drop_zero, List.nil_append]
    unfold smL
    by_cases h : 0 < ((setsV n s).filter (ex l b)).length
    · rw [if_pos h]
      exact ssm_end l b n hl hm _ (.inl h) _
    · rw [if_neg h]
      have h0 : (setsV n s).filter (ex l b) = [] := List.eq_nil_of_length_eq_zero (by omega)
      rw [h0]
      exact e
theorem ssm (l : List (List Int)) (b : List Bool) (cols : Int) (hl : l.length ≤ 1048576) (hm : ∀ x ∈ l, x.length ≤ 1048576) : Ev (fun k => spec_SmallestSets.f k l b cols) (smV l b cols) := by
  unfold spec_SmallestSets.f smV
  by_cases h : verd l b cols = true
  · have hi := im_is (verd_is h).1
    rw [if_pos h]
    obtain ⟨n, rfl⟩ := Int.eq_ofNat_of_zero_le (show 0 ≤ cols by omega)
    exact ssm_0 l b n (by omega) hl hm h (n + 1) 0 (by omega)
  · rw [if_neg h]
    exact ssm_end l b cols hl hm [] (.inr (by simpa using h)) 0
theorem smV_is (l : List (List Int)) (b : List Bool) (cols : Int) : (smV l b cols).length ≤ 64 ∧ ∀ x ∈ smV l b cols, x.length ≤ 6 := by
  unfold smV
  by_cases h : verd l b cols = true
  · rw [if_pos h]
    rcases smL_is l b cols.toNat (cols.toNat + 1) 0 with ⟨h1, _⟩ | ⟨j, _, _, h3, _, _⟩
    · rw [h1]; simp
    · have hT := setsV_is (cols.toNat : Int) (j : Int)
      rw [h3]
      exact ⟨Nat.le_trans (List.length_filter_le _ _) hT.1, fun x hx => hT.2 x (List.mem_filter.1 hx).1⟩
  · rw [if_neg h]; simp

/-- Numbers from a on. -/
def mkI : Nat → Int → List Int
  | 0, _ => []
  | n + 1, a => a :: mkI n (a + 1)
theorem mkI_len : ∀ (n : Nat) (a : Int), (mkI n a).length = n := by
  intro n
  induction n with
  | zero => intro a; rfl
  | succ n ih => intro a; simp [mkI, ih]
theorem rdI (pre rest : List Int) (x : Int) : rd (pre ++ x :: rest) (pre.length : Int) = x := by
  simp [rd, List.getD]
theorem setI (pre rest : List Int) (x y : Int) : (pre ++ x :: rest).set pre.length y = pre ++ y :: rest := by simp
theorem markI_l : ∀ (rest pre : List Int) (a : Int), 0 ≤ a → a + rest.length ≤ 1000000000000 → pre.length + rest.length ≤ 1048576 → Ev (fun k => laws_markIntS.l0 k (pre ++ rest) a pre.length) (a + rest.length, pre ++ mkI rest.length a) := by
  intro rest
  induction rest with
  | nil =>
    intro pre a h0 h1 h2
    refine Ev.step (fun k => laws_markIntS.l0.eq_2 _ _ _ k) ?_
    refine Ev.neg (by simp) (Ev.some_ ?_)
    simp [mkI]
  | cons x rest ih =>
    intro pre a h0 h1 h2
    rw [List.length_cons] at h1 h2
    refine Ev.step (fun k => laws_markIntS.l0.eq_2 _ _ _ k) ?_
    refine Ev.pos (by simp; omega) ?_
    refine Ev.pos (by omega) ?_
    simp only [Int.toNat_natCast, setI, wnx (show pre.length < 1048577 by omega) (by omega), wr (x := a + 1) (by omega) (by omega)]
    have e := ih (pre ++ [a]) (a + 1) (by omega) (by omega) (by simp; omega)
    rw [List.append_assoc, List.append_assoc, List.length_append] at e
    simp only [List.length_cons, List.length_nil, List.cons_append, List.nil_append] at e
    simp only [List.length_cons, mkI]
    rw [show a + ((rest.length + 1 : Nat) : Int) = a + 1 + (rest.length : Int) by omega]
    exact e
theorem markI (l : List Int) (a : Int) (hl : l.length ≤ 1048576) (h0 : 0 ≤ a) (h1 : a ≤ 100000000000) : Ev (fun k => laws_markIntS.f k l a) (a + l.length, mkI l.length a) := by
  unfold laws_markIntS.f
  have e := markI_l l [] a h0 (by omega) (by simp; omega)
  simpa using e
theorem heldI_l : ∀ (n : Nat) (pre : List Int) (a : Int), 0 ≤ a → a + n ≤ 1000000000000 → pre.length + n ≤ 1048576 → Ev (fun k => laws_heldIntS.l0 k (pre ++ mkI n a) a pre.length) (a + n) := by
  intro n
  induction n with
  | zero =>
    intro pre a h0 h1 h2
    refine Ev.step (fun k => laws_heldIntS.l0.eq_2 _ _ _ k) ?_
    refine Ev.neg (by simp [mkI]) (Ev.some_ (by simp))
  | succ n ih =>
    intro pre a h0 h1 h2
    refine Ev.step (fun k => laws_heldIntS.l0.eq_2 _ _ _ k) ?_
    refine Ev.pos (by simp [mkI]; omega) ?_
    refine Ev.pos (by omega) ?_
    simp only [mkI, rdI]
    refine Ev.pos trivial ?_
    simp only [wnx (show pre.length < 1048577 by omega) (by omega), wr (x := a + 1) (by omega) (by omega)]
    have e := ih (pre ++ [a]) (a + 1) (by omega) (by omega) (by simp; omega)
    rw [List.append_assoc, List.length_append] at e
    simp only [List.length_cons, List.length_nil, List.cons_append, List.nil_append] at e
    rw [show a + ((n + 1 : Nat) : Int) = a + 1 + (n : Int) by omega]
    exact e
theorem heldI (n : Nat) (hn : n ≤ 1048576) : Ev (fun k => laws_heldIntS.f k (mkI n 1) 1) (1 + n) := by
  unfold laws_heldIntS.f
  have e := heldI_l n [] 1 (by omega) (by omega) (by simp; omega)
  simpa using e

theorem toInt_l (l : List Int) (hl : l.length ≤ 1048576) : ∀ (d i : Nat) (acc : List Int), i + d = l.length → acc.length = l.length → (∀ j, j < i → acc[j]? = l[j]?) → Ev (fun k => laws_toIntS.l0 k l acc i) l := by
  intro d
  induction d with
  | zero =>
    intro i acc hi ha hj
    refine Ev.step (fun k => laws_toIntS.l0.eq_2 _ _ _ k) ?_
    refine Ev.neg (by omega) (Ev.some_ ?_)
    apply List.ext_getElem?
    intro j
    by_cases h : j < i
    · exact hj j h
    · rw [List.getElem?_eq_none (by omega), List.getElem?_eq_none (by omega)]
  | succ d ih =>
    intro i acc hi ha hj
    refine Ev.step (fun k => laws_toIntS.l0.eq_2 _ _ _ k) ?_
    refine Ev.pos (by omega) ?_
    refine Ev.pos (by omega) ?_
    refine Ev.pos (by omega) ?_
    simp only [wnx (show i < l.length by omega) (by omega), Int.toNat_natCast]
    refine ih (i + 1) _ (by omega) (by simp; omega) ?_
    intro j hj2
    by_cases h : j = i
    · subst h
      have hlt : j < l.length := by omega
      rw [List.getElem?_set_self (by omega), rd_get l j hlt, List.getElem?_eq_getElem hlt]
    · rw [List.getElem?_set_ne (by omega)]
      exact hj j (by omega)
theorem toInts (l : List Int) (hl : l.length ≤ 1048576) : Ev (fun k => laws_toIntS.f k l) l := by
  unfold laws_toIntS.f
  refine Ev.pos (by omega) ?_
  refine Ev.pos (by omega) ?_
  exact toInt_l l hl l.length 0 _ (by omega) (by simp) (by intro j hj; omega)

theorem eqInt_l (l : List Int) (hl : l.length ≤ 1048576) : ∀ (d i : Nat), i + d = l.length → Ev (fun k => laws_eqIntS.l0 k l l i) true := by
  intro d
  induction d with
  | zero =>
    intro i hi
    refine Ev.step (fun k => laws_eqIntS.l0.eq_2 _ _ _ k) ?_
    exact Ev.neg (by omega) (Ev.now _)
  | succ d ih =>
    intro i hi
    refine Ev.step (fun k => laws_eqIntS.l0.eq_2 _ _ _ k) ?_
    refine Ev.pos (by omega) ?_
    refine Ev.pos (by omega) ?_
    refine Ev.pos (by omega) ?_
    refine Ev.pos rfl ?_
    simp only [wnx (show i < l.length by omega) (by omega)]
    exact ih (i + 1) (by omega)
theorem eqInts (l : List Int) (hl : l.length ≤ 1048576) : Ev (fun k => laws_eqIntS.f k l l) true := by
  unfold laws_eqIntS.f
  exact Ev.pos rfl (eqInt_l l hl l.length 0 (by omega))

theorem szSS_l (l : List (List Int)) (hl : l.length ≤ 1048576) (hm : ∀ x ∈ l, x.length ≤ maxLen) : ∀ (d i : Nat) (q : Int), i + d = l.length → 0 ≤ q → q ≤ 1048576 → ∃ t, Ev (fun k => laws_szIntSS.l0 k l q i) t ∧ (t < 0 ∨ (t = q - tot (l.drop i) ∧ 0 ≤ t)) := by
  intro d
  induction d with
  | zero =>
    intro i q hi h0 h1
    refine ⟨q, Ev.step (fun k => laws_szIntSS.l0.eq_2 _ _ _ k) (Ev.neg (by omega) (Ev.now _)), .inr ?_⟩
    rw [List.drop_eq_nil_of_le (by omega)]
    simp [tot]; omega
  | succ d ih =>
    intro i q hi h0 h1
    have hlt : i < l.length := by omega
    have hx := hm l[i] (List.getElem_mem hlt)
    unfold maxLen at hx
    have e0 : laws_szIntS.f l[i] q = some (if q - (l[i].length : Int) < 0 then -1 else q - (l[i].length : Int)) := by
      unfold laws_szIntS.f
      rw [wr (x := q - (l[i].length : Int)) (by omega) (by omega)]
      split <;> rfl
    by_cases h : q - (l[i].length : Int) < 0
    · rw [if_pos h] at e0
      refine ⟨-1, Ev.step (fun k => laws_szIntSS.l0.eq_2 _ _ _ k) (Ev.pos (by omega) (Ev.pos (by omega) ?_)), .inl (by omega)⟩
      rw [rd1 l i hlt]
      exact Ev.bnow e0 (Ev.pos (by omega) (Ev.now _))
    · rw [if_neg h] at e0
      obtain ⟨t, et, ht⟩ := ih (i + 1) (q - (l[i].length : Int)) (by omega) (by omega) (by omega)
      refine ⟨t, Ev.step (fun k => laws_szIntSS.l0.eq_2 _ _ _ k) (Ev.pos (by omega) (Ev.pos (by omega) ?_)), ?_⟩
      · rw [rd1 l i hlt]
        refine Ev.bnow e0 (Ev.neg h ?_)
        simp only [wnx hlt (by omega)]
        exact et
      · rcases ht with ht | ⟨ht, h2⟩
        · exact .inl ht
        · refine .inr ⟨?_, h2⟩
          have : tot (l.drop i) = l[i].length + tot (l.drop (i + 1)) := by
            rw [List.drop_eq_getElem_cons hlt]; simp only [tot, List.map_cons, List.sum_cons]
          omega
theorem szSS (l : List (List Int)) (q : Int) (h0 : 0 ≤ q) (h1 : q ≤ 1048576) (hl : l.length ≤ maxLen) (hm : ∀ x ∈ l, x.length ≤ maxLen) : ∃ t, Ev (fun k => laws_szIntSS.f k l q) t ∧ (t < 0 ∨ (t = q - l.length - tot l ∧ 0 ≤ t)) := by
  unfold maxLen at hl
  unfold laws_szIntSS.f
  rw [wr (x := q - (l.length : Int)) (by omega) (by omega)]
  by_cases h : q - (l.length : Int) < 0
  · exact ⟨-1, Ev.pos h (Ev.now _), .inl (by omega)⟩
  · obtain ⟨t, et, ht⟩ := szSS_l l (by omega) hm l.length 0 (q - (l.length : Int)) (by omega) (by omega) (by omega)
    exact ⟨t, Ev.neg h et, ht⟩
theorem toSS_l (l : List (List Int)) (hl : l.length ≤ 1048576) (hm : ∀ x ∈ l, x.length ≤ 1048576) : ∀ (d i : Nat) (acc : List (List Int)), i + d = l.length → acc.length = l.length → (∀ j, j < i → acc[j]? = l[j]?) → Ev (fun k => laws_toIntSS.l0 k l acc i) l := by
  intro d
  induction d with
  | zero =>
    intro i acc hi ha hj
    refine Ev.step (fun k => laws_toIntSS.l0.eq_2 _ _ _ k) ?_
    refine Ev.neg (by omega) (Ev.some_ ?_)
    apply List.ext_getElem?
    intro j
    by_cases h : j < i
    · exact hj j h
    · rw [List.getElem?_eq_none (by omega), List.getElem?_eq_none (by omega)]
  | succ d ih =>
    intro i acc hi ha hj
    have hlt : i < l.length := by omega
    refine Ev.step (fun k => laws_toIntSS.l0.eq_2 _ _ _ k) ?_
    refine Ev.pos (by omega) ?_
    refine Ev.pos (by omega) ?_
    rw [rd1 l i hlt]
    refine Ev.bind (toInts l[i] (hm _ (List.getElem_mem hlt))) ?_
    refine Ev.pos (by omega) ?_
    simp only [wnx (show i < l.length by omega) (by omega), Int.toNat_natCast]
    refine ih (i + 1) _ (by omega) (by simp; omega) ?_
    intro j hj2
    by_cases h : j = i
    · subst h
      rw [List.getElem?_set_self (by omega), List.getElem?_eq_getElem hlt]
    · rw [List.getElem?_set_ne (by omega)]
      exact hj j (by omega)
theorem toSS (l : List (List Int)) (hl : l.length ≤ 1048576) (hm : ∀ x ∈ l, x.length ≤ 1048576) : Ev (fun k => laws_toIntSS.f k l) l := by
  unfold laws_toIntSS.f
  refine Ev.pos (by omega) ?_
  refine Ev.pos (by omega) ?_
  exact toSS_l l hl hm l.length 0 _ (by omega) (by simp) (by intro j hj; omega)
theorem eqSS_l (l : List (List Int)) (hl : l.length ≤ 1048576) (hm : ∀ x ∈ l, x.length ≤ 1048576) : ∀ (d i : Nat), i + d = l.length → Ev (fun k => laws_eqIntSS.l0 k l l i) true := by
  intro d
  induction d with
  | zero =>
    intro i hi
    refine Ev.step (fun k => laws_eqIntSS.l0.eq_2 _ _ _ k) ?_
    exact Ev.neg (by omega) (Ev.now _)
  | succ d ih =>
    intro i hi
    have hlt : i < l.length := by omega
    refine Ev.step (fun k => laws_eqIntSS.l0.eq_2 _ _ _ k) ?_
    refine Ev.pos (by omega) ?_
    refine Ev.pos (by omega) ?_
    refine Ev.pos (by omega) ?_
    rw [rd1 l i hlt]
    refine Ev.bind (eqInts l[i] (hm _ (List.getElem_mem hlt))) ?_
    refine Ev.pos rfl ?_
    simp only [wnx (show i < l.length by omega) (by omega)]
    exact ih (i + 1) (by omega)
theorem eqSS (l : List (List Int)) (hl : l.length ≤ 1048576) (hm : ∀ x ∈ l, x.length ≤ 1048576) : Ev (fun k => laws_eqIntSS.f k l l) true := by
  unfold laws_eqIntSS.f
  exact Ev.pos rfl (eqSS_l l hl hm l.length 0 (by omega))

/-- Numbers from a on, in rows as long as these. -/
def mkSS : List (List Int) → Int → List (List Int)
  | [], _ => []
  | r :: l, a => mkI r.length a :: mkSS l (a + r.length)
theorem tot_cons (r : List Int) (l : List (List Int)) : tot (r :: l) = r.length + tot l := by simp [tot]
theorem markSS : ∀ (l : List (List Int)) (a : Int), 0 ≤ a → a + tot l ≤ 100000000000 → (∀ x ∈ l, x.length ≤ 1048576) → Ev (fun k => laws_markIntSS.f k l a) (a + tot l, mkSS l a) := by
  intro l
  induction l with
  | nil =>
    intro a _ _ _
    simp only [laws_markIntSS.f]
    exact Ev.some_ (by simp [tot, mkSS])
  | cons r l ih =>
    intro a h0 h1 hm
    have hr := hm r (by simp)
    have ht := tot_cons r l
    simp only [laws_markIntSS.f]
    refine Ev.bind (markI r a hr h0 (by omega)) ?_
    refine Ev.bind (ih (a + r.length) (by omega) (by omega) (fun x hx => hm x (by simp [hx]))) (Ev.some_ ?_)
    simp only [mkSS, ht]
    congr 1
    omega

theorem heldRow (n : Nat) (a : Int) (h0 : 0 ≤ a) (h1 : a + n ≤ 1000000000000) (hn : n ≤ 1048576) : Ev (fun k => laws_heldIntS.f k (mkI n a) a) (a + n) := by
  unfold laws_heldIntS.f
  have e := heldI_l n [] a h0 h1 (by simp; omega)
  simpa using e
theorem rd1_at (pre rest : List (List Int)) (x : List Int) : rd_L1 (pre ++ x :: rest) (pre.length : Int) = x := by simp [rd_L1, List.getD]
theorem mkSS_len : ∀ (l : List (List Int)) (a : Int), (mkSS l a).length = l.length := by
  intro l
  induction l with
  | nil => intro a; rfl
  | cons r l ih => intro a; simp [mkSS, ih]
theorem heldSS_l : ∀ (rest pre : List (List Int)) (a : Int), 0 ≤ a → a + tot rest ≤ 100000000000 → pre.length + rest.length ≤ 1048576 → (∀ x ∈ rest, x.length ≤ 1048576) → Ev (fun k => laws_heldIntSS.l0 k (pre ++ mkSS rest a) a pre.length) (a + tot rest) := by
  intro rest
  induction rest with
  | nil =>
    intro pre a h0 h1 h2 _
    refine Ev.step (fun k => laws_heldIntSS.l0.eq_2 _ _ _ k) ?_
    refine Ev.neg (by simp [mkSS]) (Ev.some_ (by simp [tot]))
  | cons r rest ih =>
    intro pre a h0 h1 h2 hm
    have hr := hm r (by simp)
    have ht := tot_cons r rest
    rw [List.length_cons] at h2
    refine Ev.step (fun k => laws_heldIntSS.l0.eq_2 _ _ _ k) ?_
    refine Ev.pos (by simp [mkSS]; omega) ?_
    refine Ev.pos (by omega) ?_
    simp only [mkSS, rd1_at]
    refine Ev.bind (heldRow r.length a h0 (by omega) hr) ?_
    refine Ev.neg (by omega) ?_
    simp only [wnx (show pre.length < 1048577 by omega) (by omega)]
    have e := ih (pre ++ [mkI r.length a]) (a + r.length) (by omega) (by omega) (by simp; omega) (fun x hx => hm x (by simp [hx]))
    rw [List.append_assoc, List.length_append] at e
    simp only [List.length_cons, List.length_nil, List.cons_append, List.nil_append] at e
    rw [show a + ((tot (r :: rest) : Nat) : Int) = a + (r.length : Int) + ((tot rest : Nat) : Int) by omega]
    exact e
theorem heldSS (l : List (List Int)) (hl : l.length ≤ 1048576) (ht : tot l ≤ 2000000) (hm : ∀ x ∈ l, x.length ≤ 1048576) : Ev (fun k => laws_heldIntSS.f k (mkSS l 1) 1) (1 + tot l) := by
  unfold laws_heldIntSS.f
  have e := heldSS_l l [] 1 (by omega) (by omega) (by simp; omega) hm
  simpa using e

theorem toBool_l (l : List Bool) (hl : l.length ≤ 1048576) : ∀ (d i : Nat) (acc : List Bool), i + d = l.length → acc.length = l.length → (∀ j, j < i → acc[j]? = l[j]?) → Ev (fun k => laws_toBoolS.l0 k l acc i) l := by
  intro d
  induction d with
  | zero =>
    intro i acc hi ha hj
    refine Ev.step (fun k => laws_toBoolS.l0.eq_2 _ _ _ k) ?_
    refine Ev.neg (by omega) (Ev.some_ ?_)
    apply List.ext_getElem?
    intro j
    by_cases h : j < i
    · exact hj j h
    · rw [List.getElem?_eq_none (by omega), List.getElem?_eq_none (by omega)]
  | succ d ih =>
    intro i acc hi ha hj
    refine Ev.step (fun k => laws_toBoolS.l0.eq_2 _ _ _ k) ?_
    refine Ev.pos (by omega) ?_
    refine Ev.pos (by omega) ?_
    refine Ev.pos (by omega) ?_
    simp only [wnx (show i < l.length by omega) (by omega), Int.toNat_natCast]
    refine ih (i + 1) _ (by omega) (by simp; omega) ?_
    intro j hj2
    by_cases h : j = i
    · subst h
      have hlt : j < l.length := by omega
      rw [List.getElem?_set_self (by omega), rdof_get l j hlt, List.getElem?_eq_getElem hlt]
    · rw [List.getElem?_set_ne (by omega)]
      exact hj j (by omega)
theorem toBools (l : List Bool) (hl : l.length ≤ 1048576) : Ev (fun k => laws_toBoolS.f k l) l := by
  unfold laws_toBoolS.f
  refine Ev.pos (by omega) ?_
  refine Ev.pos (by omega) ?_
  exact toBool_l l hl l.length 0 _ (by omega) (by simp) (by intro j hj; omega)

theorem markB_l (l : List Bool) (hl : l.length ≤ 1048576) : ∀ (d i : Nat) (acc : List Bool) (a : Int), i + d = l.length → acc.length = l.length → 0 ≤ a → a + d ≤ 100000000000 → ∃ r, Ev (fun k => laws_markBoolS.l0 k acc a i) (a + d, r) := by
  intro d
  induction d with
  | zero =>
    intro i acc a hi ha h0 h1
    refine ⟨acc, Ev.step (fun k => laws_markBoolS.l0.eq_2 _ _ _ k) ?_⟩
    exact Ev.neg (by omega) (Ev.some_ (by simp))
  | succ d ih =>
    intro i acc a hi ha h0 h1
    obtain ⟨r, e⟩ := ih (i + 1) (acc.set i ((Int.tmod a 3) == 0)) (a + 1) (by omega) (by simp; omega) (by omega) (by omega)
    refine ⟨r, Ev.step (fun k => laws_markBoolS.l0.eq_2 _ _ _ k) ?_⟩
    refine Ev.pos (by omega) ?_
    refine Ev.pos (by omega) ?_
    rw [wr (x := a + 1) (by omega) (by omega), wnx (show i < l.length by omega) (by omega), Int.toNat_natCast, show a + ((d + 1 : Nat) : Int) = a + 1 + (d : Int) by omega]
    exact e
theorem markB (l : List Bool) (a : Int) (hl : l.length ≤ 1048576) (h0 : 0 ≤ a) (h1 : a ≤ 10000000000) : ∃ r, Ev (fun k => laws_markBoolS.f k l a) (a + l.length, r) := by
  unfold laws_markBoolS.f
  exact markB_l l hl l.length 0 l a (by omega) rfl h0 (by omega)

theorem eqBool_l (l : List Bool) (hl : l.length ≤ 1048576) : ∀ (d i : Nat), i + d = l.length → Ev (fun k => laws_eqBoolS.l0 k l l i) true := by
  intro d
  induction d with
  | zero =>
    intro i hi
    refine Ev.step (fun k => laws_eqBoolS.l0.eq_2 _ _ _ k) ?_
    exact Ev.neg (by omega) (Ev.now _)
  | succ d ih =>
    intro i hi
    refine Ev.step (fun k => laws_eqBoolS.l0.eq_2 _ _ _ k) ?_
    refine Ev.pos (by omega) ?_
    refine Ev.pos (by omega) ?_
    refine Ev.pos (by omega) ?_
    refine Ev.neg (by simp) ?_
    simp only [wnx (show i < l.length by omega) (by omega)]
    exact ih (i + 1) (by omega)
theorem eqBools (l : List Bool) (hl : l.length ≤ 1048576) : Ev (fun k => laws_eqBoolS.f k l l) true := by
  unfold laws_eqBoolS.f
  exact Ev.pos rfl (eqBool_l l hl l.length 0 (by omega))

theorem tot_le6 : ∀ (l : List (List Int)), (∀ x ∈ l, x.length ≤ 6) → tot l ≤ 6 * l.length
  | [], _ => by simp [tot]
  | r :: l, h => by
    have h1 := h r List.mem_cons_self
    have h2 := tot_le6 l (fun x hx => h x (List.mem_cons_of_mem _ hx))
    rw [tot_cons, List.length_cons]; omega
theorem FnExactSmallestSets : ∀ (l0 : List (List Int)) (l1 : List Bool) (a2 : Int), (l0.length ≤ maxLen ∧ ∀ x_ ∈ l0, (x_.length ≤ maxLen ∧ ∀ y_ ∈ x_, (Lit.int .i64 y_).wf = true)) → (l1.length ≤ maxLen ∧ ∀ x_ ∈ l1, True) → (Lit.int .i64 a2).wf = true → ∃ k, laws_FnExactSmallestSets.f k l0 l1 a2 = some true := by
  intro l b cols ⟨h1, h2⟩ _ _
  refine Ev.rounds (g := fun j => laws_FnExactSmallestSets.f j l b cols) ?_
  unfold laws_FnExactSmallestSets.f
  by_cases gb : (b.length : Int) > 1048576
  · exact Ev.pos gb (Ev.now _)
  refine Ev.neg gb ?_
  obtain ⟨q, eq, hq⟩ := szSS l 1048576 (by omega) (by omega) h1 (fun x hx => (h2 x hx).1)
  refine Ev.bind eq ?_
  by_cases h0 : q < 0
  · exact Ev.pos h0 (Ev.now _)
  refine Ev.neg h0 ?_
  have hb : b.length ≤ 1048576 := by omega
  have hl : l.length ≤ 1048576 := by omega
  have ht : tot l ≤ 1048576 := by omega
  have hm : ∀ x ∈ l, x.length ≤ 1048576 := fun x hx => by have := tot_mem l x hx; omega
  have hV := smV_is l b cols
  have hL : (smV l b cols).length ≤ 1048576 := Nat.le_trans hV.1 (by decide)
  have hT : tot (smV l b cols) ≤ 1048576 := Nat.le_trans (tot_le6 _ hV.2) (by have := hV.1; omega)
  have hM : ∀ x ∈ smV l b cols, x.length ≤ 1048576 := fun x hx => Nat.le_trans (hV.2 x hx) (by decide)
  obtain ⟨rb, eb⟩ := markB b (1 + tot l) hb (by omega) (by omega)
  clear hq h1 h2 hV
  refine Ev.bind (toSS l hl hm) ?_
  refine Ev.bind (toBools b hb) ?_
  refine Ev.bind (ssm l b cols hl hm) ?_
  refine Ev.bind (toSS l hl hm) ?_
  refine Ev.bind (toBools b hb) ?_
  refine Ev.bind (ism l b cols hl hm) ?_
  refine Ev.bind (eqSS _ hL hM) ?_
  refine Ev.pos rfl ?_
  refine Ev.bind (toSS l hl hm) ?_
  refine Ev.bind (eqSS l hl hm) ?_
  refine Ev.pos rfl ?_
  refine Ev.bind (toBools b hb) ?_
  refine Ev.bind (eqBools b hb) ?_
  refine Ev.pos rfl ?_
  refine Ev.bind (markSS l 1 (by omega) (by omega) hm) ?_
  refine Ev.bind eb ?_
  refine Ev.neg (by simp only []; omega) ?_
  refine Ev.bind (eqSS _ hL hM) ?_
  refine Ev.pos rfl ?_
  refine Ev.bind (markSS _ 1 (by omega) (by omega) hM) ?_
  have hh := heldSS _ hL (by omega) hM
  refine Ev.bind hh ?_
  refine Ev.neg (by omega) ?_
  refine Ev.pos rfl ?_
  refine Ev.bind (toSS l hl hm) ?_
  refine Ev.bind (toBools b hb) ?_
  refine Ev.bind (ism l b cols hl hm) ?_
  refine Ev.bind (eqSS _ hL hM) ?_
  refine Ev.pos rfl ?_
  refine Ev.bind hh ?_
  refine Ev.neg (by omega) ?_
  exact Ev.pos rfl (Ev.now _)

end Go.Proofs.Ytoniljblfenpeaa.Pure
