/- The law FnExactTwinOf returns true at every list of rows, set and count of columns: the program's TwinOf answers as the reference's. No condition. -/
import Derived.Test.YtoniljblfenpeaaHFnExactTwinOfx6
namespace Go.Proofs.Ytoniljblfenpeaa.Pure
open Go.RowKit Go.Proofs.Ytoniljblfenpeaa.PFnExactTwinOf Go.Proofs.YtoniljblfenpeaaW.PrintWords Go.Proofs.YtoniljblfenpeaaW.PrintLast
set_option linter.unusedSimpArgs false
set_option linter.unusedVariables false

theorem wr {x : Int} (h1 : -9223372036854775808 ≤ x) (h2 : x ≤ 9223372036854775807) : wrap64 x = x := by unfold wrap64; omega
theorem Ev.pos {α : Type} {c : Prop} [Decidable c] {g f : Nat → Option α} {r : α} (h : c) (e : Ev g r) : Ev (fun k => if c then g k else f k) r := by
  simp only [if_pos h]; exact e
theorem Ev.neg {α : Type} {c : Prop} [Decidable c] {g f : Nat → Option α} {r : α} (h : ¬ c) (e : Ev f r) : Ev (fun k => if c then g k else f k) r := by
  simp only [if_neg h]; exact e
theorem Ev.some_ {α : Type} {r r' : α} (h : r = r') : Ev (fun _ => some r) r' := h ▸ Ev.now r
theorem Ev.bnow {α β : Type} {g : Option α} {f : Nat → α → Option β} {a : α} {r : β} (h : g = some a) (k : Ev (fun n => f n a) r) : Ev (fun n => g.bind (f n)) r := by
  subst h; exact k

theorem wnx {i n : Nat} (h : i < n) (hn : n ≤ 9223372036854775807) : wrap64 ((i : Int) + 1) = ((i + 1 : Nat) : Int) := by rw [wr (by omega) (by omega)]; rfl
theorem rd_get (l : List Int) (i : Nat) (h : i < l.length) : rd l (i : Int) = l[i] := by simp [rd, List.getD, h]

theorem eq_l (a b : List Int) (ha : a.length ≤ 1048576) (hb : b.length = a.length) : ∀ (d i : Nat), i + d = a.length → Ev (fun k => slices_Equal_int_int.l0 k a b a.length i) (a.drop i == b.drop i) := by
  intro d
  induction d with
  | zero =>
    intro i hi
    refine Ev.step (fun k => slices_Equal_int_int.l0.eq_2 _ _ _ _ k) ?_
    refine Ev.neg (by omega) (Ev.some_ ?_)
    rw [List.drop_eq_nil_of_le (by omega), List.drop_eq_nil_of_le (by omega)]; rfl
  | succ d ih =>
    intro i hi
    have hlt : i < a.length := by omega
    have hltb : i < b.length := by omega
    refine Ev.step (fun k => slices_Equal_int_int.l0.eq_2 _ _ _ _ k) ?_
    refine Ev.pos (by omega) ?_
    refine Ev.pos (by omega) ?_
    refine Ev.pos (by omega) ?_
    refine Ev.pos (by omega) ?_
    rw [rd_get a i hlt, rd_get b i hltb, List.drop_eq_getElem_cons hlt, List.drop_eq_getElem_cons hltb]
    by_cases h : a[i] = b[i]
    · refine Ev.pos h ?_
      simp only [wnx hlt (by omega)]
      have e : (a[i] :: a.drop (i + 1) == b[i] :: b.drop (i + 1)) = (a.drop (i + 1) == b.drop (i + 1)) := by
        rw [List.cons_beq_cons, h, beq_self_eq_true, Bool.true_and]
      rw [e]
      exact ih (i + 1) (by omega)
    · refine Ev.neg h (Ev.some_ ?_)
      have e : (a[i] == b[i]) = false := by simpa using h
      rw [List.cons_beq_cons, e, Bool.false_and]
theorem ieq (a b : List Int) (ha : a.length ≤ 1048576) : Ev (fun k => impl_EqualInts.f k a b) (a == b) := by
  unfold impl_EqualInts.f slices_Equal_int_int.f
  have h : Ev (fun k => if (a.length : Int) = (b.length : Int) then slices_Equal_int_int.l0 k a b (a.length : Int) 0 else some false) (a == b) := by
    by_cases h : (a.length : Int) = (b.length : Int)
    · refine Ev.pos h ?_
      exact eq_l a b ha (by omega) a.length 0 (by omega)
    · refine Ev.neg h (Ev.some_ ?_)
      have : a ≠ b := fun e => h (by rw [e])
      simp [this]
  exact Ev.bind h (Ev.now _)

def inB (a b x : Int) : Bool := decide (a ≤ x ∧ x ≤ b)
def okV (l : List Int) : Bool := l.all (inB 0 100000) && decide (l.length ≤ 12)

/-- a matrix of so many columns. -/
def im (l : List (List Int)) (cols : Int) : Bool := decide (1 ≤ cols ∧ cols ≤ 6) && (decide (l.length ≤ 12) && l.all (fun row => decide ((row.length : Int) = cols) && row.all (inB (-2) 2)))
/-- nothing but zeros and ones. -/
def bt (l : List (List Int)) : Bool := l.all (fun row => row.all (inB 0 1))

/-- of the first n columns those that P takes. -/
def colsL (P : Nat → Bool) (n : Nat) : List Int := ((List.range n).filter P).map (fun c : Nat => (c : Int))
theorem colsL_succ (P : Nat → Bool) (n : Nat) : colsL P (n + 1) = colsL P n ++ (if P n = true then [(n : Int)] else []) := by
  unfold colsL
  rw [List.range_succ, List.filter_append, List.map_append]
  congr 1
  cases h : P n <;> simp [List.filter_cons, h]
theorem colsL_len (P : Nat → Bool) (n : Nat) : (colsL P n).length ≤ n := by
  unfold colsL
  rw [List.length_map]
  refine Nat.le_trans (List.length_filter_le _ _) ?_
  rw [List.length_range]
  exact Nat.le_refl _
theorem im_is {l : List (List Int)} {cols : Int} (h : im l cols = true) : 1 ≤ cols ∧ cols ≤ 6 ∧ l.length ≤ 12 ∧ ∀ row ∈ l, (row.length : Int) = cols := by
  unfold im at h
  rw [Bool.and_eq_true, Bool.and_eq_true, List.all_eq_true] at h
  obtain ⟨h1, h2, h3⟩ := h
  have h1 := of_decide_eq_true h1
  have h2 := of_decide_eq_true h2
  refine ⟨h1.1, h1.2, h2, fun row hr => ?_⟩
  have := h3 row hr
  rw [Bool.and_eq_true] at this
  exact of_decide_eq_true this.1

/-- the sets of s of c columns. -/
def setsN (c s : Nat) : List (List Int) := subsF s c c [] 0
def setsV (c s : Int) : List (List Int) := if 0 ≤ c ∧ c ≤ 6 ∧ 0 ≤ s ∧ s ≤ c then setsN c.toNat s.toNat else []
theorem isets (c s : Int) : impl_SetsOf.f c s = some (setsV c s) := by
  unfold impl_SetsOf.f setsV setsN
  by_cases h : 0 ≤ c ∧ c ≤ 6 ∧ 0 ≤ s ∧ s ≤ c
  · rw [if_pos h, if_pos h]
  · rw [if_neg h, if_neg h]
theorem setsA : (List.range 7).all (fun c => (List.range 7).all (fun s => decide ((setsN c s).length ≤ 64) && (setsN c s).all (fun x => decide (x.length = s) && x.all (fun k => decide (0 ≤ k ∧ k < (c : Int)))))) = true := by decide +kernel
theorem sets_is {c s : Nat} (hc : c ≤ 6) (hs : s ≤ 6) : (setsN c s).length ≤ 64 ∧ ∀ x ∈ setsN c s, x.length = s ∧ ∀ k ∈ x, 0 ≤ k ∧ k < (c : Int) := by
  have h := List.all_eq_true.1 (List.all_eq_true.1 setsA c (List.mem_range.2 (by omega))) s (List.mem_range.2 (by omega))
  rw [Bool.and_eq_true] at h
  refine ⟨of_decide_eq_true h.1, fun x hx => ?_⟩
  have h2 := List.all_eq_true.1 h.2 x hx
  rw [Bool.and_eq_true] at h2
  exact ⟨of_decide_eq_true h2.1, fun k hk => of_decide_eq_true (List.all_eq_true.1 h2.2 k hk)⟩
theorem setsV_is (c s : Int) : (setsV c s).length ≤ 64 ∧ ∀ x ∈ setsV c s, x.length ≤ 6 := by
  unfold setsV
  by_cases h : 0 ≤ c ∧ c ≤ 6 ∧ 0 ≤ s ∧ s ≤ c
  · rw [if_pos h]
    have := sets_is (c := c.toNat) (s := s.toNat) (by omega) (by omega)
    exact ⟨this.1, fun x hx => by have := (this.2 x hx).1; omega⟩
  · rw [if_neg h]; simp

/-- the sets of c columns of at most p of them, the smaller ones first. -/
def setsT (c p : Nat) : List (List Int) := flatR (setsN c) (p + 1)
theorem setsT_a : (List.range 7).all (fun c => (List.range 8).all (fun p => decide ((flatR (setsN c) p).length ≤ 64))) = true := by decide +kernel
theorem flat_le {c p : Nat} (hc : c ≤ 6) (hp : p ≤ 7) : (flatR (setsN c) p).length ≤ 64 := of_decide_eq_true (List.all_eq_true.1 (List.all_eq_true.1 setsT_a c (List.mem_range.2 (by omega))) p (List.mem_range.2 (by omega)))
theorem setsT_mem {c p : Nat} (hc : c ≤ 6) (hp : p ≤ 6) : ∀ x ∈ setsT c p, x.length ≤ 6 := by
  intro x hx
  unfold setsT flatR at hx
  rw [List.mem_flatten] at hx
  obtain ⟨l, hl, hx⟩ := hx
  obtain ⟨s, hs, rfl⟩ := List.mem_map.1 hl
  have hs := List.mem_range.1 hs
  have := ((sets_is hc (show s ≤ 6 by omega)).2 x hx).1
  omega
theorem isetsN {c s : Nat} (hc : c ≤ 6) (hs : s ≤ c) : impl_SetsOf.f c s = some (setsN c s) := by
  rw [isets]; unfold setsV
  rw [if_pos (by omega)]; rfl
theorem ito_l (c : Nat) (a : Int) (p : Nat) (hc : c ≤ 6) (hp : p ≤ c) (hm : mn (c : Int) a = (p : Int)) : ∀ (d i : Nat), i + d = p + 1 → Ev (fun k => impl_setsTo.l0 k c a (flatR (setsN c) i) i) (setsT c p) := by
  intro d
  induction d with
  | zero =>
    intro i hi
    refine Ev.step (fun k => impl_setsTo.l0.eq_2 _ _ _ _ k) ?_
    rw [hm]
    refine Ev.neg (by omega) (Ev.some_ ?_)
    rw [show i = p + 1 by omega]; rfl
  | succ d ih =>
    intro i hi
    have h1 := flat_le hc (show i ≤ 7 by omega)
    have h2 := (sets_is hc (show i ≤ 6 by omega)).1
    refine Ev.step (fun k => impl_setsTo.l0.eq_2 _ _ _ _ k) ?_
    rw [hm]
    refine Ev.pos (by omega) ?_
    refine Ev.bnow (isetsN hc (show i ≤ c by omega)) ?_
    refine Ev.pos (by omega) ?_
    rw [← flatR_succ]
    simp only [wnx (show i < 8 by omega) (by omega)]
    exact ih (i + 1) (by omega)
theorem ito {c : Nat} {a : Int} {p : Nat} (hc : c ≤ 6) (hp : p ≤ c) (hm : mn (c : Int) a = (p : Int)) : Ev (fun k => impl_setsTo.f k c a) (setsT c p) := by
  unfold impl_setsTo.f
  exact ito_l c a p hc hp hm (p + 1) 0 (by omega)

def fwB (row : List Int) (k : Int) : Bool := decide (0 ≤ k ∧ k < row.length ∧ rd row k = 1)
/-- whether a row fails with these links. -/
def fw (row g : List Int) : Bool := g.any (fwB row)

/-- whether every row fails with both sets alike. -/
def sv (m : List (List Int)) (a b : List Int) : Bool := !(m.any (fun row => fw row a != fw row b))

theorem isv (m : List (List Int)) (a b : List Int) : impl_SameVerdicts.f m a b = some (sv m a b) := rfl

theorem specIn (a l h : Int) : spec_l1In.f a l h = some (decide (l ≤ a ∧ a ≤ h)) := by
  unfold spec_l1In.f
  by_cases h1 : l ≤ a <;> simp [h1]

theorem sfw_l (row g : List Int) (hr : row.length ≤ 1048576) (hg : g.length ≤ 1048576) : ∀ (d i : Nat), i + d = g.length → Ev (fun k => spec_FailsWith.l0 k row g i) ((g.drop i).any (fwB row)) := by
  intro d
  induction d with
  | zero =>
    intro i hi
    refine Ev.step (fun k => spec_FailsWith.l0.eq_2 _ _ _ k) ?_
    refine Ev.neg (by omega) (Ev.some_ ?_)
    rw [List.drop_eq_nil_of_le (by omega)]; rfl
  | succ d ih =>
    intro i hi
    have hlt : i < g.length := by omega
    refine Ev.step (fun k => spec_FailsWith.l0.eq_2 _ _ _ k) ?_
    refine Ev.pos (by omega) ?_
    refine Ev.pos (by omega) ?_
    rw [rd_get g i hlt, List.drop_eq_getElem_cons hlt, List.any_cons, wr (x := (row.length : Int) - 1) (by omega) (by omega)]
    refine Ev.bnow (specIn _ _ _) ?_
    by_cases h : 0 ≤ g[i] ∧ g[i] ≤ (row.length : Int) - 1
    · refine Ev.pos (decide_eq_true h) ?_
      refine Ev.pos h.1 ?_
      refine Ev.pos (by omega) ?_
      by_cases h1 : rd row g[i] = 1
      · refine Ev.pos h1 (Ev.some_ ?_)
        have : fwB row g[i] = true := decide_eq_true ⟨h.1, by omega, h1⟩
        rw [this]; rfl
      · refine Ev.neg h1 ?_
        have : fwB row g[i] = false := decide_eq_false (fun x => h1 x.2.2)
        rw [this, Bool.false_or]
        simp only [wnx hlt (by omega)]
        exact ih (i + 1) (by omega)
    · refine Ev.neg (by rw [decide_eq_false h]; simp) ?_
      have : fwB row g[i] = false := decide_eq_false (fun x => h ⟨x.1, by omega⟩)
      rw [this, Bool.false_or]
      simp only [wnx hlt (by omega)]
      exact ih (i + 1) (by omega)
theorem sfw (row g : List Int) (hr : row.length ≤ 1048576) (hg : g.length ≤ 1048576) : Ev (fun k => spec_FailsWith.f k row g) (fw row g) := by
  unfold spec_FailsWith.f
  exact sfw_l row g hr hg g.length 0 (by omega)

def tot (l : List (List Int)) : Nat := (l.map List.length).sum
theorem rd1 (l : List (List Int)) (i : Nat) (h : i < l.length) : rd_L1 l (i : Int) = l[i] := by simp [rd_L1, List.getD, h]
theorem tot_mem : ∀ (l : List (List Int)) (x : List Int), x ∈ l → x.length ≤ tot l := by
  intro l
  induction l with
  | nil => intro x h; cases h
  | cons y l ih =>
    intro x h
    simp only [tot, List.map_cons, List.sum_cons]
    rcases List.mem_cons.1 h with rfl | h
    · omega
    · have := ih x h; unfold tot at this; omega

theorem ssv_l (m : List (List Int)) (a b : List Int) (hl : m.length ≤ 1048576) (hm : ∀ x ∈ m, x.length ≤ 1048576) (ha : a.length ≤ 1048576) (hb : b.length ≤ 1048576) : ∀ (d i : Nat), i + d = m.length → Ev (fun k => spec_SameVerdicts.l0 k m a b i) (sv (m.drop i) a b) := by
  intro d
  induction d with
  | zero =>
    intro i hi
    refine Ev.step (fun k => spec_SameVerdicts.l0.eq_2 _ _ _ _ k) ?_
    refine Ev.neg (by omega) (Ev.some_ ?_)
    rw [List.drop_eq_nil_of_le (by omega)]; rfl
  | succ d ih =>
    intro i hi
    have hlt : i < m.length := by omega
    have hx := hm m[i] (List.getElem_mem hlt)
    refine Ev.step (fun k => spec_SameVerdicts.l0.eq_2 _ _ _ _ k) ?_
    refine Ev.pos (by omega) ?_
    refine Ev.pos (by omega) ?_
    rw [rd1 m i hlt, List.drop_eq_getElem_cons hlt]
    refine Ev.bind (sfw m[i] a hx ha) ?_
    refine Ev.bind (sfw m[i] b hx hb) ?_
    have e : sv (m[i] :: m.drop (i + 1)) a b = (!(fw m[i] a != fw m[i] b) && sv (m.drop (i + 1)) a b) := by
      unfold sv; rw [List.any_cons, Bool.not_or]
    rw [e]
    by_cases h : (fw m[i] a != fw m[i] b) = true
    · refine Ev.pos h (Ev.some_ ?_)
      rw [h]; rfl
    · refine Ev.neg h ?_
      rw [Bool.eq_false_iff.2 h]
      simp only [wnx hlt (by omega)]
      exact ih (i + 1) (by omega)
theorem ssv (m : List (List Int)) (a b : List Int) (hl : m.length ≤ 1048576) (hm : ∀ x ∈ m, x.length ≤ 1048576) (ha : a.length ≤ 1048576) (hb : b.length ≤ 1048576) : Ev (fun k => spec_SameVerdicts.f k m a b) (sv m a b) := by
  unfold spec_SameVerdicts.f
  exact ssv_l m a b hl hm ha hb m.length 0 (by omega)

theorem ssets_a : (List.range 7).all (fun c => (List.range 7).all (fun s => if s ≤ c then spec_SetsOf.f 2000 (c : Int) (s : Int) == some (setsN c s) else true)) = true := by decide +kernel
theorem ssets {c s : Nat} (hc : c ≤ 6) (hs : s ≤ c) : Ev (fun k => spec_SetsOf.f k c s) (setsN c s) := by
  have h := List.all_eq_true.1 (List.all_eq_true.1 ssets_a c (List.mem_range.2 (by omega))) s (List.mem_range.2 (by omega))
  rw [if_pos hs] at h
  exact Ev.of (fun k => spec_SetsOf.mono _ _ k) (eq_of_beq h)

theorem s16_l (c : Nat) (a : Int) (p : Nat) (hc : c ≤ 6) (hp : p ≤ c) (hm : mn (c : Int) a = (p : Int)) : ∀ (d i : Nat), i + d = p + 1 → Ev (fun k => spec_l16Sets.l0 k c a (flatR (setsN c) i) i) (setsT c p) := by
  have hq : (p : Int) ≤ a ∧ ((p : Int) = c ∨ (p : Int) = a) := by unfold mn at hm; split at hm <;> omega
  intro d
  induction d with
  | zero =>
    intro i hi
    refine Ev.step (fun k => spec_l16Sets.l0.eq_2 _ _ _ _ k) ?_
    have e : flatR (setsN c) i = setsT c p := by rw [show i = p + 1 by omega]; rfl
    by_cases h : (i : Int) ≤ (c : Int)
    · exact Ev.pos h (Ev.neg (by omega) (Ev.some_ e))
    · exact Ev.neg h (Ev.some_ e)
  | succ d ih =>
    intro i hi
    have h1 := flat_le hc (show i ≤ 7 by omega)
    have h2 := (sets_is hc (show i ≤ 6 by omega)).1
    refine Ev.step (fun k => spec_l16Sets.l0.eq_2 _ _ _ _ k) ?_
    refine Ev.pos (by omega) ?_
    refine Ev.pos (by omega) ?_
    refine Ev.bind (ssets hc (show i ≤ c by omega)) ?_
    refine Ev.pos (by omega) ?_
    rw [← flatR_succ]
    simp only [wnx (show i < 8 by omega) (by omega)]
    exact ih (i + 1) (by omega)
theorem s16 {c : Nat} {a : Int} {p : Nat} (hc : c ≤ 6) (hp : p ≤ c) (hm : mn (c : Int) a = (p : Int)) : Ev (fun k => spec_l16Sets.f k c a) (setsT c p) := by
  unfold spec_l16Sets.f
  exact s16_l c a p hc hp hm (p + 1) 0 (by omega)
theorem s16_neg {c : Nat} {a : Int} (ha : a < 0) : Ev (fun k => spec_l16Sets.f k c a) [] := by
  unfold spec_l16Sets.f
  refine Ev.step (fun k => spec_l16Sets.l0.eq_2 _ _ _ _ k) ?_
  exact Ev.pos (by omega) (Ev.neg (by omega) (Ev.now _))

theorem implIn (a l h : Int) : impl_InRange.f a l h = some (decide (l ≤ a ∧ a ≤ h)) := by
  unfold impl_InRange.f
  by_cases h1 : l ≤ a <;> simp [h1]

theorem allIn_l (l : List Int) (a b : Int) (hl : l.length ≤ 1048577) : ∀ (d i : Nat), i + d = l.length → Ev (fun k => impl_allIn.l0 k a b l l.length i) ((l.drop i).all (inB a b)) := by
  intro d
  induction d with
  | zero =>
    intro i hi
    refine Ev.step (fun k => impl_allIn.l0.eq_2 _ _ _ _ _ k) ?_
    refine Ev.neg (by omega) (Ev.some_ ?_)
    rw [List.drop_eq_nil_of_le (by omega)]; rfl
  | succ d ih =>
    intro i hi
    have hlt : i < l.length := by omega
    refine Ev.step (fun k => impl_allIn.l0.eq_2 _ _ _ _ _ k) ?_
    refine Ev.pos (by omega) ?_
    refine Ev.pos (by omega) ?_
    refine Ev.pos (by omega) ?_
    rw [rd_get l i hlt, List.drop_eq_getElem_cons hlt, List.all_cons]
    refine Ev.bnow (a := inB a b l[i]) (by rw [implIn]; rfl) ?_
    cases h : inB a b l[i] with
    | true =>
      refine Ev.pos rfl ?_
      simp only [wnx hlt (by omega)]
      exact ih (i + 1) (by omega)
    | false => exact Ev.neg (by simp) (Ev.now _)
theorem allIn (l : List Int) (a b : Int) (hl : l.length ≤ 1048577) : Ev (fun k => impl_allIn.f k l a b) (l.all (inB a b)) := by
  unfold impl_allIn.f
  exact allIn_l l a b hl l.length 0 (by omega)

theorem iim_l (l : List (List Int)) (cols : Int) (hl : l.length ≤ 1048576) (hm : ∀ x ∈ l, x.length ≤ 1048576) : ∀ (d i : Nat), i + d = l.length → Ev (fun k => impl_IsMatrix.l0 k cols l l.length i) ((l.drop i).all (fun row => decide ((row.length : Int) = cols) && row.all (inB (-2) 2))) := by
  intro d
  induction d with
  | zero =>
    intro i hi
    refine Ev.step (fun k => impl_IsMatrix.l0.eq_2 _ _ _ _ k) ?_
    refine Ev.neg (by omega) (Ev.some_ ?_)
    rw [List.drop_eq_nil_of_le (by omega)]; rfl
  | succ d ih =>
    intro i hi
    have hlt : i < l.length := by omega
    have hx := hm l[i] (List.getElem_mem hlt)
    refine Ev.step (fun k => impl_IsMatrix.l0.eq_2 _ _ _ _ k) ?_
    refine Ev.pos (by omega) ?_
    refine Ev.pos (by omega) ?_
    refine Ev.pos (by omega) ?_
    rw [rd1 l i hlt, List.drop_eq_getElem_cons hlt, List.all_cons]
    by_cases h : (l[i].length : Int) = cols
    · refine Ev.pos h ?_
      refine Ev.bind (allIn l[i] (-2) 2 (by omega)) ?_
      rw [decide_eq_true h, Bool.true_and]
      cases h2 : l[i].all (inB (-2) 2) with
      | true =>
        refine Ev.pos rfl ?_
        simp only [wnx hlt (by omega)]
        exact ih (i + 1) (by omega)
      | false => exact Ev.neg (by simp) (Ev.now _)
    · refine Ev.neg h (Ev.some_ ?_)
      rw [decide_eq_false h]; rfl
theorem iim (l : List (List Int)) (cols : Int) (hl : l.length ≤ 1048576) (hm : ∀ x ∈ l, x.length ≤ 1048576) : Ev (fun k => impl_IsMatrix.f k l cols) (im l cols) := by
  unfold impl_IsMatrix.f
  refine Ev.bnow (implIn _ _ _) ?_
  have e := iim_l l cols hl hm l.length 0 (by omega)
  unfold im
  by_cases h : 1 ≤ cols ∧ cols ≤ 6
  · refine Ev.pos (decide_eq_true h) ?_
    rw [decide_eq_true h, Bool.true_and]
    by_cases h2 : (l.length : Int) > 12
    · rw [decide_eq_true h2, decide_eq_false (show ¬ l.length ≤ 12 by omega)]
      exact Ev.step (fun k => impl_IsMatrix.j0.eq_2 _ _ _ k) (Ev.pos rfl (Ev.now _))
    · rw [decide_eq_false h2, decide_eq_true (show l.length ≤ 12 by omega)]
      exact Ev.step (fun k => impl_IsMatrix.j0.eq_2 _ _ _ k) (Ev.neg (by simp) e)
  · refine Ev.neg (by rw [decide_eq_false h]; simp) ?_
    rw [decide_eq_false h]
    exact Ev.step (fun k => impl_IsMatrix.j0.eq_2 _ _ _ k) (Ev.pos rfl (Ev.now _))

theorem nobit (row : List Int) (h : row.length ≤ 1048576) : Ev (fun k => noBit k row) (!(row.all (inB 0 1))) := by
  unfold noBit
  exact Ev.bind (allIn row 0 1 (by omega)) (Ev.now _)
theorem allO_ev : ∀ (l : List (List Int)), (∀ x ∈ l, x.length ≤ 1048576) → Ev (fun k => allO (noBit k) l) (!(bt l))
  | [], _ => Ev.now _
  | x :: l, h => by
    show Ev (fun k => (noBit k x).bind fun b => (allO (noBit k) l).bind fun c => some (b || c)) _
    refine Ev.bind (nobit x (h x List.mem_cons_self)) ?_
    refine Ev.bind (allO_ev l (fun y hy => h y (List.mem_cons_of_mem _ hy))) (Ev.some_ ?_)
    unfold bt
    rw [List.all_cons, Bool.not_and]
theorem ibits (l : List (List Int)) (cols : Int) (hl : l.length ≤ 1048576) (hm : ∀ x ∈ l, x.length ≤ 1048576) : Ev (fun k => impl_isBits.f k l cols) (im l cols && bt l) := by
  unfold impl_isBits.f
  refine Ev.bind (iim l cols hl hm) ?_
  cases im l cols with
  | true =>
    refine Ev.pos rfl ?_
    refine Ev.bind (allO_ev l hm) (Ev.some_ ?_)
    simp
  | false => exact Ev.neg (by simp) (Ev.now _)

theorem sim_r (l : List (List Int)) (cols : Int) (i : Nat) (hlt : i < l.length) (hl : l.length ≤ 1048576) (hx : l[i].length ≤ 1048576) (hc : (l[i].length : Int) = cols) {r : Bool} (nx : Ev (fun k => spec_IsMatrix.l0 k l cols ((i + 1 : Nat) : Int)) r) :
    ∀ (d j : Nat), j + d = l[i].length → Ev (fun k => spec_IsMatrix.l1 k l cols i j) (((l[i].drop j).all (inB (-2) 2)) && r) := by
  intro d
  induction d with
  | zero =>
    intro j hj
    refine Ev.step (fun k => spec_IsMatrix.l1.eq_2 _ _ _ _ k) ?_
    refine Ev.neg (by omega) ?_
    rw [List.drop_eq_nil_of_le (by omega)]
    simp only [wnx hlt (by omega), List.all_nil, Bool.true_and]
    exact nx
  | succ d ih =>
    intro j hj
    have hlt2 : j < l[i].length := by omega
    refine Ev.step (fun k => spec_IsMatrix.l1.eq_2 _ _ _ _ k) ?_
    refine Ev.pos (by omega) ?_
    refine Ev.pos (by omega) ?_
    refine Ev.pos (by omega) ?_
    refine Ev.pos (by omega) ?_
    rw [rd1 l i hlt]
    refine Ev.pos (by omega) ?_
    rw [rd_get l[i] j hlt2, List.drop_eq_getElem_cons hlt2, List.all_cons]
    refine Ev.bnow (a := inB (-2) 2 l[i][j]) (by rw [specIn]; rfl) ?_
    cases h : inB (-2) 2 l[i][j] with
    | true =>
      refine Ev.pos rfl ?_
      simp only [wnx hlt2 (by omega), Bool.true_and]
      exact ih (j + 1) (by omega)
    | false => exact Ev.neg (by simp) (Ev.now _)
theorem sim_l (l : List (List Int)) (cols : Int) (hl : l.length ≤ 1048576) (hm : ∀ x ∈ l, x.length ≤ 1048576) : ∀ (d i : Nat), i + d = l.length → Ev (fun k => spec_IsMatrix.l0 k l cols i) ((l.drop i).all (fun row => decide ((row.length : Int) = cols) && row.all (inB (-2) 2))) := by
  intro d
  induction d with
  | zero =>
    intro i hi
    refine Ev.step (fun k => spec_IsMatrix.l0.eq_2 _ _ _ k) ?_
    refine Ev.neg (by omega) (Ev.some_ ?_)
    rw [List.drop_eq_nil_of_le (by omega)]; rfl
  | succ d ih =>
    intro i hi
    have hlt : i < l.length := by omega
    have hx := hm l[i] (List.getElem_mem hlt)
    refine Ev.step (fun k => spec_IsMatrix.l0.eq_2 _ _ _ k) ?_
    refine Ev.pos (by omega) ?_
    refine Ev.pos (by omega) ?_
    rw [rd1 l i hlt, List.drop_eq_getElem_cons hlt, List.all_cons]
    by_cases h : (l[i].length : Int) = cols
    · refine Ev.pos h ?_
      rw [decide_eq_true h, Bool.true_and]
      exact sim_r l cols i hlt hl hx h (ih (i + 1) (by omega)) l[i].length 0 (by omega)
    · refine Ev.neg h (Ev.some_ ?_)
      rw [decide_eq_false h]; rfl
theorem sim (l : List (List Int)) (cols : Int) (hl : l.length ≤ 1048576) (hm : ∀ x ∈ l, x.length ≤ 1048576) : Ev (fun k => spec_IsMatrix.f k l cols) (im l cols) := by
  unfold spec_IsMatrix.f
  refine Ev.bnow (specIn _ _ _) ?_
  have e := sim_l l cols hl hm l.length 0 (by omega)
  unfold im
  by_cases h : 1 ≤ cols ∧ cols ≤ 6
  · refine Ev.pos (decide_eq_true h) ?_
    rw [decide_eq_true h, Bool.true_and]
    by_cases h2 : (l.length : Int) > 12
    · rw [decide_eq_true h2, decide_eq_false (show ¬ l.length ≤ 12 by omega)]
      exact Ev.step (fun k => spec_IsMatrix.j0.eq_2 _ _ _ k) (Ev.pos rfl (Ev.now _))
    · rw [decide_eq_false h2, decide_eq_true (show l.length ≤ 12 by omega)]
      exact Ev.step (fun k => spec_IsMatrix.j0.eq_2 _ _ _ k) (Ev.neg (by simp) e)
  · refine Ev.neg (by rw [decide_eq_false h]; simp) ?_
    rw [decide_eq_false h]
    exact Ev.step (fun k => spec_IsMatrix.j0.eq_2 _ _ _ k) (Ev.pos rfl (Ev.now _))

theorem sbt_r (l : List (List Int)) (i : Nat) (hlt : i < l.length) (hl : l.length ≤ 1048576) (hx : l[i].length ≤ 1048576) {r : Bool} (nx : Ev (fun k => spec_l15Bits.l0 k l ((i + 1 : Nat) : Int)) r) :
    ∀ (d j : Nat), j + d = l[i].length → Ev (fun k => spec_l15Bits.l1 k l i j) (((l[i].drop j).all (inB 0 1)) && r) := by
  intro d
  induction d with
  | zero =>
    intro j hj
    refine Ev.step (fun k => spec_l15Bits.l1.eq_2 _ _ _ k) ?_
    refine Ev.pos (by omega) ?_
    refine Ev.pos (by omega) ?_
    rw [rd1 l i hlt]
    refine Ev.neg (by omega) ?_
    rw [List.drop_eq_nil_of_le (by omega)]
    simp only [wnx hlt (by omega), List.all_nil, Bool.true_and]
    exact nx
  | succ d ih =>
    intro j hj
    have hlt2 : j < l[i].length := by omega
    refine Ev.step (fun k => spec_l15Bits.l1.eq_2 _ _ _ k) ?_
    refine Ev.pos (by omega) ?_
    refine Ev.pos (by omega) ?_
    rw [rd1 l i hlt]
    refine Ev.pos (by omega) ?_
    refine Ev.pos (by omega) ?_
    rw [rd_get l[i] j hlt2, List.drop_eq_getElem_cons hlt2, List.all_cons]
    refine Ev.bnow (a := inB 0 1 l[i][j]) (by rw [specIn]; rfl) ?_
    cases h : inB 0 1 l[i][j] with
    | true =>
      refine Ev.pos rfl ?_
      simp only [wnx hlt2 (by omega), Bool.true_and]
      exact ih (j + 1) (by omega)
    | false => exact Ev.neg (by simp) (Ev.now _)
theorem sbt_l (l : List (List Int)) (hl : l.length ≤ 1048576) (hm : ∀ x ∈ l, x.length ≤ 1048576) : ∀ (d i : Nat), i + d = l.length → Ev (fun k => spec_l15Bits.l0 k l i) (bt (l.drop i)) := by
  intro d
  induction d with
  | zero =>
    intro i hi
    refine Ev.step (fun k => spec_l15Bits.l0.eq_2 _ _ k) ?_
    refine Ev.neg (by omega) (Ev.some_ ?_)
    rw [List.drop_eq_nil_of_le (by omega)]; rfl
  | succ d ih =>
    intro i hi
    have hlt : i < l.length := by omega
    have hx := hm l[i] (List.getElem_mem hlt)
    refine Ev.step (fun k => spec_l15Bits.l0.eq_2 _ _ k) ?_
    refine Ev.pos (by omega) ?_
    rw [List.drop_eq_getElem_cons hlt]
    exact sbt_r l i hlt hl hx (ih (i + 1) (by omega)) l[i].length 0 (by omega)
theorem sbt (l : List (List Int)) (hl : l.length ≤ 1048576) (hm : ∀ x ∈ l, x.length ≤ 1048576) : Ev (fun k => spec_l15Bits.f k l) (bt l) := by
  unfold spec_l15Bits.f
  exact sbt_l l hl hm l.length 0 (by omega)

theorem mn_two (c : Nat) (n : Nat) : mn (c : Int) (n : Int) = ((min c n : Nat) : Int) := by
  unfold mn
  by_cases h : (n : Int) < (c : Int)
  · rw [if_pos h]; omega
  · rw [if_neg h]; omega
/-- the first other set with the same verdicts. -/
def tw (m : List (List Int)) (s : List Int) : List (List Int) → List Int × Bool
  | [] => ([], false)
  | x :: L => if (x == s) = true then tw m s L else if sv m x s = true then (x, true) else tw m s L
def twV (m : List (List Int)) (s : List Int) (cols : Int) : List Int × Bool := if (im m cols && bt m) = true then tw m s (setsT cols.toNat (min cols.toNat s.length)) else ([], false)
theorem tw_len (m : List (List Int)) (s : List Int) : ∀ (L : List (List Int)), (∀ x ∈ L, x.length ≤ 6) → (tw m s L).1.length ≤ 6
  | [], _ => by simp [tw]
  | x :: L, h => by
    have ih := tw_len m s L (fun y hy => h y (List.mem_cons_of_mem _ hy))
    unfold tw
    split
    · exact ih
    · split
      · exact h x List.mem_cons_self
      · exact ih
theorem twV_len (m : List (List Int)) (s : List Int) (cols : Int) : (twV m s cols).1.length ≤ 6 := by
  unfold twV
  by_cases hb : (im m cols && bt m) = true
  · rw [if_pos hb]
    have hb' := hb
    rw [Bool.and_eq_true] at hb'
    have hi := im_is hb'.1
    have := Nat.min_le_left cols.toNat s.length
    exact tw_len m s _ (setsT_mem (by omega) (by omega))
  · rw [if_neg hb]; simp
theorem itx_l (m : List (List Int)) (s : List Int) (L : List (List Int)) (hL : L.length ≤ 64) (hL6 : ∀ x ∈ L, x.length ≤ 6) : ∀ (d i : Nat), i + d = L.length → Ev (fun k => impl_TwinOf.l0 k m s L L.length i) (tw m s (L.drop i)) := by
  intro d
  induction d with
  | zero =>
    intro i hi
    refine Ev.step (fun k => impl_TwinOf.l0.eq_2 _ _ _ _ _ k) ?_
    refine Ev.neg (by omega) (Ev.some_ ?_)
    rw [List.drop_eq_nil_of_le (by omega)]; rfl
  | succ d ih =>
    intro i hi
    have hlt : i < L.length := by omega
    have h6 := hL6 L[i] (List.getElem_mem hlt)
    have e := ih (i + 1) (by omega)
    refine Ev.step (fun k => impl_TwinOf.l0.eq_2 _ _ _ _ _ k) ?_
    refine Ev.pos (by omega) ?_
    refine Ev.pos (by omega) ?_
    refine Ev.pos (by omega) ?_
    rw [rd1 L i hlt, wnx hlt (by omega), List.drop_eq_getElem_cons hlt]
    unfold tw
    refine Ev.bind (ieq L[i] s (by omega)) ?_
    by_cases h1 : (L[i] == s) = true
    · rw [if_pos h1]
      exact Ev.pos h1 e
    · rw [if_neg h1]
      refine Ev.neg h1 ?_
      refine Ev.bnow (isv m L[i] s) ?_
      by_cases h2 : sv m L[i] s = true
      · rw [if_pos h2]
        exact Ev.pos h2 (Ev.now _)
      · rw [if_neg h2]
        exact Ev.neg h2 e
theorem itx (m : List (List Int)) (s : List Int) (cols : Int) (hl : m.length ≤ 1048576) (hm : ∀ x ∈ m, x.length ≤ 1048576) : Ev (fun k => impl_TwinOf.f k m s cols) (twV m s cols) := by
  unfold impl_TwinOf.f twV
  refine Ev.bind (ibits m cols hl hm) ?_
  by_cases hb : (im m cols && bt m) = true
  · rw [if_pos hb]
    have hb' := hb
    rw [Bool.and_eq_true] at hb'
    have hi := im_is hb'.1
    obtain ⟨c, rfl⟩ := Int.eq_ofNat_of_zero_le (show 0 ≤ cols by omega)
    have hp : min c s.length ≤ c := Nat.min_le_left _ _
    refine Ev.pos hb ?_
    refine Ev.bind (ito (show c ≤ 6 by omega) hp (mn_two c s.length)) ?_
    exact itx_l m s _ (flat_le (show c ≤ 6 by omega) (show min c s.length + 1 ≤ 7 by omega)) (setsT_mem (show c ≤ 6 by omega) (show min c s.length ≤ 6 by omega)) (setsT c (min c s.length)).length 0 (Nat.zero_add _)
  · rw [if_neg hb]
    exact Ev.neg hb (Ev.now _)
theorem seq_l (a b : List Int) (ha : a.length ≤ 1048576) (hb : b.length = a.length) : ∀ (d i : Nat), i + d = a.length → Ev (fun k => spec_EqualInts.l0 k a b i) (a.drop i == b.drop i) := by
  intro d
  induction d with
  | zero =>
    intro i hi
    refine Ev.step (fun k => spec_EqualInts.l0.eq_2 _ _ _ k) ?_
    refine Ev.neg (by omega) (Ev.some_ ?_)
    rw [List.drop_eq_nil_of_le (by omega), List.drop_eq_nil_of_le (by omega)]; rfl
  | succ d ih =>
    intro i hi
    have hlt : i < a.length := by omega
    have hltb : i < b.length := by omega
    refine Ev.step (fun k => spec_EqualInts.l0.eq_2 _ _ _ k) ?_
    refine Ev.pos (by omega) ?_
    refine Ev.pos (by omega) ?_
    refine Ev.pos (by omega) ?_
    rw [rd_get a i hlt, rd_get b i hltb, List.drop_eq_getElem_cons hlt, List.drop_eq_getElem_cons hltb]
    by_cases h : a[i] = b[i]
    · refine Ev.pos h ?_
      simp only [wnx hlt (by omega)]
      have e : (a[i] :: a.drop (i + 1) == b[i] :: b.drop (i + 1)) = (a.drop (i + 1) == b.drop (i + 1)) := by
        rw [List.cons_beq_cons, h, beq_self_eq_true, Bool.true_and]
      rw [e]
      exact ih (i + 1) (by omega)
    · refine Ev.neg h (Ev.some_ ?_)
      have e : (a[i] == b[i]) = false := by simpa using h
      rw [List.cons_beq_cons, e, Bool.false_and]
theorem seq (a b : List Int) (ha : a.length ≤ 1048576) : Ev (fun k => spec_EqualInts.f k a b) (a == b) := by
  unfold spec_EqualInts.f
  by_cases h : (a.length : Int) = (b.length : Int)
  · refine Ev.pos h ?_
    exact seq_l a b ha (by omega) a.length 0 (by omega)
  · refine Ev.neg h (Ev.some_ ?_)
    have : a ≠ b := fun e => h (by rw [e])
    simp [this]
theorem stx_l (m : List (List Int)) (s : List Int) (hm : m.length ≤ 1048576) (hx : ∀ x ∈ m, x.length ≤ 1048576) (hs : s.length ≤ 1048576) (L : List (List Int)) (hL : L.length ≤ 64) (hL6 : ∀ x ∈ L, x.length ≤ 6) : ∀ (d i : Nat), i + d = L.length → Ev (fun k => spec_TwinOf.l0 k m s L i) (tw m s (L.drop i)) := by
  intro d
  induction d with
  | zero =>
    intro i hi
    refine Ev.step (fun k => spec_TwinOf.l0.eq_2 _ _ _ _ k) ?_
    refine Ev.neg (by omega) (Ev.some_ ?_)
    rw [List.drop_eq_nil_of_le (by omega)]; rfl
  | succ d ih =>
    intro i hi
    have hlt : i < L.length := by omega
    have h6 := hL6 L[i] (List.getElem_mem hlt)
    have e := ih (i + 1) (by omega)
    refine Ev.step (fun k => spec_TwinOf.l0.eq_2 _ _ _ _ k) ?_
    refine Ev.pos (by omega) ?_
    refine Ev.pos (by omega) ?_
    rw [rd1 L i hlt, wnx hlt (by omega), List.drop_eq_getElem_cons hlt]
    unfold tw
    refine Ev.bind (seq L[i] s (by omega)) ?_
    by_cases h1 : (L[i] == s) = true
    · rw [if_pos h1]
      exact Ev.pos h1 e
    · rw [if_neg h1]
      refine Ev.neg h1 ?_
      refine Ev.bind (ssv m L[i] s hm hx (by omega) hs) ?_
      by_cases h2 : sv m L[i] s = true
      · rw [if_pos h2]
        refine Ev.pos h2 ?_
        refine Ev.bnow rfl ?_
        exact Ev.pos (by simp; omega) (Ev.some_ (by simp))
      · rw [if_neg h2]
        exact Ev.neg h2 e
theorem stx (m : List (List Int)) (s : List Int) (cols : Int) (hl : m.length ≤ 1048576) (hm : ∀ x ∈ m, x.length ≤ 1048576) (hs : s.length ≤ 1048576) : Ev (fun k => spec_TwinOf.f k m s cols) (twV m s cols) := by
  have j1 : Ev (fun k => spec_TwinOf.j0 k m s cols true) ([], false) := by
    refine Ev.step (fun k => spec_TwinOf.j0.eq_2 _ _ _ _ k) ?_
    exact Ev.pos rfl (Ev.now _)
  unfold spec_TwinOf.f twV
  refine Ev.bind (sim m cols hl hm) ?_
  by_cases hb : (im m cols && bt m) = true
  · rw [if_pos hb]
    have hb' := hb
    rw [Bool.and_eq_true] at hb'
    have hi := im_is hb'.1
    obtain ⟨c, rfl⟩ := Int.eq_ofNat_of_zero_le (show 0 ≤ cols by omega)
    have hp : min c s.length ≤ c := Nat.min_le_left _ _
    refine Ev.pos hb'.1 ?_
    refine Ev.bind (sbt m hl hm) ?_
    rw [hb'.2]
    refine Ev.step (fun k => spec_TwinOf.j0.eq_2 _ _ _ _ k) ?_
    refine Ev.neg (by simp) ?_
    refine Ev.bind (s16 (show c ≤ 6 by omega) hp (mn_two c s.length)) ?_
    exact stx_l m s hl hm hs _ (flat_le (show c ≤ 6 by omega) (show min c s.length + 1 ≤ 7 by omega)) (setsT_mem (show c ≤ 6 by omega) (show min c s.length ≤ 6 by omega)) (setsT c (min c s.length)).length 0 (Nat.zero_add _)
  · rw [if_neg hb]
    have hb0 : (im m cols && bt m) = false := by simpa using hb
    cases h1 : im m cols with
    | true =>
      refine Ev.pos rfl ?_
      refine Ev.bind (sbt m hl hm) ?_
      rw [h1, Bool.true_and] at hb0
      rw [hb0]
      exact j1
    | false => exact Ev.neg (by simp) j1

/-- Numbers from a on. -/
def mkI : Nat → Int → List Int
  | 0, _ => []
  | n + 1, a => a :: mkI n (a + 1)
theorem mkI_len : ∀ (n : Nat) (a : Int), (mkI n a).length = n := by
  intro n
  induction n with
  | zero => intro a; rfl
  | succ n ih => intro a; simp [mkI, ih]
theorem rdI (pre rest : List Int) (x : Int) : rd (pre ++ x :: rest) (pre.length : Int) = x := by
  simp [rd, List.getD]
theorem setI (pre rest : List Int) (x y : Int) : (pre ++ x :: rest).set pre.length y = pre ++ y :: rest := by simp
theorem markI_l : ∀ (rest pre : List Int) (a : Int), 0 ≤ a → a + rest.length ≤ 1000000000000 → pre.length + rest.length ≤ 1048576 → Ev (fun k => laws_markIntS.l0 k (pre ++ rest) a pre.length) (a + rest.length, pre ++ mkI rest.length a) := by
  intro rest
  induction rest with
  | nil =>
    intro pre a h0 h1 h2
    refine Ev.step (fun k => laws_markIntS.l0.eq_2 _ _ _ k) ?_
    refine Ev.neg (by simp) (Ev.some_ ?_)
    simp [mkI]
  | cons x rest ih =>
    intro pre a h0 h1 h2
    rw [List.length_cons] at h1 h2
    refine Ev.step (fun k => laws_markIntS.l0.eq_2 _ _ _ k) ?_
    refine Ev.pos (by simp; omega) ?_
    refine Ev.pos (by omega) ?_
    simp only [Int.toNat_natCast, setI, wnx (show pre.length < 1048577 by omega) (by omega), wr (x := a + 1) (by omega) (by omega)]
    have e := ih (pre ++ [a]) (a + 1) (by omega) (by omega) (by simp; omega)
    rw [List.append_assoc, List.append_assoc, List.length_append] at e
    simp only [List.length_cons, List.length_nil, List.cons_append, List.nil_append] at e
    simp only [List.length_cons, mkI]
    rw [show a + ((rest.length + 1 : Nat) : Int) = a + 1 + (rest.length : Int) by omega]
    exact e
theorem markI (l : List Int) (a : Int) (hl : l.length ≤ 1048576) (h0 : 0 ≤ a) (h1 : a ≤ 100000000000) : Ev (fun k => laws_markIntS.f k l a) (a + l.length, mkI l.length a) := by
  unfold laws_markIntS.f
  have e := markI_l l [] a h0 (by omega) (by simp; omega)
  simpa using e
theorem heldI_l : ∀ (n : Nat) (pre : List Int) (a : Int), 0 ≤ a → a + n ≤ 1000000000000 → pre.length + n ≤ 1048576 → Ev (fun k => laws_heldIntS.l0 k (pre ++ mkI n a) a pre.length) (a + n) := by
  intro n
  induction n with
  | zero =>
    intro pre a h0 h1 h2
    refine Ev.step (fun k => laws_heldIntS.l0.eq_2 _ _ _ k) ?_
    refine Ev.neg (by simp [mkI]) (Ev.some_ (by simp))
  | succ n ih =>
    intro pre a h0 h1 h2
    refine Ev.step (fun k => laws_heldIntS.l0.eq_2 _ _ _ k) ?_
    refine Ev.pos (by simp [mkI]; omega) ?_
    refine Ev.pos (by omega) ?_
    simp only [mkI, rdI]
    refine Ev.pos trivial ?_
    simp only [wnx (show pre.length < 1048577 by omega) (by omega), wr (x := a + 1) (by omega) (by omega)]
    have e := ih (pre ++ [a]) (a + 1) (by omega) (by omega) (by simp; omega)
    rw [List.append_assoc, List.length_append] at e
    simp only [List.length_cons, List.length_nil, List.cons_append, List.nil_append] at e
    rw [show a + ((n + 1 : Nat) : Int) = a + 1 + (n : Int) by omega]
    exact e
theorem heldI (n : Nat) (hn : n ≤ 1048576) : Ev (fun k => laws_heldIntS.f k (mkI n 1) 1) (1 + n) := by
  unfold laws_heldIntS.f
  have e := heldI_l n [] 1 (by omega) (by omega) (by simp; omega)
  simpa using e

theorem toInt_l (l : List Int) (hl : l.length ≤ 1048576) : ∀ (d i : Nat) (acc : List Int), i + d = l.length → acc.length = l.length → (∀ j, j < i → acc[j]? = l[j]?) → Ev (fun k => laws_toIntS.l0 k l acc i) l := by
  intro d
  induction d with
  | zero =>
    intro i acc hi ha hj
    refine Ev.step (fun k => laws_toIntS.l0.eq_2 _ _ _ k) ?_
    refine Ev.neg (by omega) (Ev.some_ ?_)
    apply List.ext_getElem?
    intro j
    by_cases h : j < i
    · exact hj j h
    · rw [List.getElem?_eq_none (by omega), List.getElem?_eq_none (by omega)]
  | succ d ih =>
    intro i acc hi ha hj
    refine Ev.step (fun k => laws_toIntS.l0.eq_2 _ _ _ k) ?_
    refine Ev.pos (by omega) ?_
    refine Ev.pos (by omega) ?_
    refine Ev.pos (by omega) ?_
    simp only [wnx (show i < l.length by omega) (by omega), Int.toNat_natCast]
    refine ih (i + 1) _ (by omega) (by simp; omega) ?_
    intro j hj2
    by_cases h : j = i
    · subst h
      have hlt : j < l.length := by omega
      rw [List.getElem?_set_self (by omega), rd_get l j hlt, List.getElem?_eq_getElem hlt]
    · rw [List.getElem?_set_ne (by omega)]
      exact hj j (by omega)
theorem toInts (l : List Int) (hl : l.length ≤ 1048576) : Ev (fun k => laws_toIntS.f k l) l := by
  unfold laws_toIntS.f
  refine Ev.pos (by omega) ?_
  refine Ev.pos (by omega) ?_
  exact toInt_l l hl l.length 0 _ (by omega) (by simp) (by intro j hj; omega)

theorem eqInt_l (l : List Int) (hl : l.length ≤ 1048576) : ∀ (d i : Nat), i + d = l.length → Ev (fun k => laws_eqIntS.l0 k l l i) true := by
  intro d
  induction d with
  | zero =>
    intro i hi
    refine Ev.step (fun k => laws_eqIntS.l0.eq_2 _ _ _ k) ?_
    exact Ev.neg (by omega) (Ev.now _)
  | succ d ih =>
    intro i hi
    refine Ev.step (fun k => laws_eqIntS.l0.eq_2 _ _ _ k) ?_
    refine Ev.pos (by omega) ?_
    refine Ev.pos (by omega) ?_
    refine Ev.pos (by omega) ?_
    refine Ev.pos rfl ?_
    simp only [wnx (show i < l.length by omega) (by omega)]
    exact ih (i + 1) (by omega)
theorem eqInts (l : List Int) (hl : l.length ≤ 1048576) : Ev (fun k => laws_eqIntS.f k l l) true := by
  unfold laws_eqIntS.f
  exact Ev.pos rfl (eqInt_l l hl l.length 0 (by omega))

theorem szSS_l (l : List (List Int)) (hl : l.length ≤ 1048576) (hm : ∀ x ∈ l, x.length ≤ maxLen) : ∀ (d i : Nat) (q : Int), i + d = l.length → 0 ≤ q → q ≤ 1048576 → ∃ t, Ev (fun k => laws_szIntSS.l0 k l q i) t ∧ (t < 0 ∨ (t = q - tot (l.drop i) ∧ 0 ≤ t)) := by
  intro d
  induction d with
  | zero =>
    intro i q hi h0 h1
    refine ⟨q, Ev.step (fun k => laws_szIntSS.l0.eq_2 _ _ _ k) (Ev.neg (by omega) (Ev.now _)), .inr ?_⟩
    rw [List.drop_eq_nil_of_le (by omega)]
    simp [tot]; omega
  | succ d ih =>
    intro i q hi h0 h1
    have hlt : i < l.length := by omega
    have hx := hm l[i] (List.getElem_mem hlt)
    unfold maxLen at hx
    have e0 : laws_szIntS.f l[i] q = some (if q - (l[i].length : Int) < 0 then -1 else q - (l[i].length : Int)) := by
      unfold laws_szIntS.f
      rw [wr (x := q - (l[i].length : Int)) (by omega) (by omega)]
      split <;> rfl
    by_cases h : q - (l[i].length : Int) < 0
    · rw [if_pos h] at e0
      refine ⟨-1, Ev.step (fun k => laws_szIntSS.l0.eq_2 _ _ _ k) (Ev.pos (by omega) (Ev.pos (by omega) ?_)), .inl (by omega)⟩
      rw [rd1 l i hlt]
      exact Ev.bnow e0 (Ev.pos (by omega) (Ev.now _))
    · rw [if_neg h] at e0
      obtain ⟨t, et, ht⟩ := ih (i + 1) (q - (l[i].length : Int)) (by omega) (by omega) (by omega)
      refine ⟨t, Ev.step (fun k => laws_szIntSS.l0.eq_2 _ _ _ k) (Ev.pos (by omega) (Ev.pos (by omega) ?_)), ?_⟩
      · rw [rd1 l i hlt]
        refine Ev.bnow e0 (Ev.neg h ?_)
        simp only [wnx hlt (by omega)]
        exact et
      · rcases ht with ht | ⟨ht, h2⟩
        · exact .inl ht
        · refine .inr ⟨?_, h2⟩
          have : tot (l.drop i) = l[i].length + tot (l.drop (i + 1)) := by
            rw [List.drop_eq_getElem_cons hlt]; simp only [tot, List.map_cons, List.sum_cons]
          omega
theorem szSS (l : List (List Int)) (q : Int) (h0 : 0 ≤ q) (h1 : q ≤ 1048576) (hl : l.length ≤ maxLen) (hm : ∀ x ∈ l, x.length ≤ maxLen) : ∃ t, Ev (fun k => laws_szIntSS.f k l q) t ∧ (t < 0 ∨ (t = q - l.length - tot l ∧ 0 ≤ t)) := by
  unfold maxLen at hl
  unfold laws_szIntSS.f
  rw [wr (x := q - (l.length : Int)) (by omega) (by omega)]
  by_cases h : q - (l.length : Int) < 0
  · exact ⟨-1, Ev.pos h (Ev.now _), .inl (by omega)⟩
  · obtain ⟨t, et, ht⟩ := szSS_l l (by omega) hm l.length 0 (q - (l.length : Int)) (by omega) (by omega) (by omega)
    exact ⟨t, Ev.neg h et, ht⟩
theorem toSS_l (l : List (List Int)) (hl : l.length ≤ 1048576) (hm : ∀ x ∈ l, x.length ≤ 1048576) : ∀ (d i : Nat) (acc : List (List Int)), i + d = l.length → acc.length = l.length → (∀ j, j < i → acc[j]? = l[j]?) → Ev (fun k => laws_toIntSS.l0 k l acc i) l := by
  intro d
  induction d with
  | zero =>
    intro i acc hi ha hj
    refine Ev.step (fun k => laws_toIntSS.l0.eq_2 _ _ _ k) ?_
    refine Ev.neg (by omega) (Ev.some_ ?_)
    apply List.ext_getElem?
    intro j
    by_cases h : j < i
    · exact hj j h
    · rw [List.getElem?_eq_none (by omega), List.getElem?_eq_none (by omega)]
  | succ d ih =>
    intro i acc hi ha hj
    have hlt : i < l.length := by omega
    refine Ev.step (fun k => laws_toIntSS.l0.eq_2 _ _ _ k) ?_
    refine Ev.pos (by omega) ?_
    refine Ev.pos (by omega) ?_
    rw [rd1 l i hlt]
    refine Ev.bind (toInts l[i] (hm _ (List.getElem_mem hlt))) ?_
    refine Ev.pos (by omega) ?_
    simp only [wnx (show i < l.length by omega) (by omega), Int.toNat_natCast]
    refine ih (i + 1) _ (by omega) (by simp; omega) ?_
    intro j hj2
    by_cases h : j = i
    · subst h
      rw [List.getElem?_set_self (by omega), List.getElem?_eq_getElem hlt]
    · rw [List.getElem?_set_ne (by omega)]
      exact hj j (by omega)
theorem toSS (l : List (List Int)) (hl : l.length ≤ 1048576) (hm : ∀ x ∈ l, x.length ≤ 1048576) : Ev (fun k => laws_toIntSS.f k l) l := by
  unfold laws_toIntSS.f
  refine Ev.pos (by omega) ?_
  refine Ev.pos (by omega) ?_
  exact toSS_l l hl hm l.length 0 _ (by omega) (by simp) (by intro j hj; omega)
theorem eqSS_l (l : List (List Int)) (hl : l.length ≤ 1048576) (hm : ∀ x ∈ l, x.length ≤ 1048576) : ∀ (d i : Nat), i + d = l.length → Ev (fun k => laws_eqIntSS.l0 k l l i) true := by
  intro d
  induction d with
  | zero =>
    intro i hi
    refine Ev.step (fun k => laws_eqIntSS.l0.eq_2 _ _ _ k) ?_
    exact Ev.neg (by omega) (Ev.now _)
  | succ d ih =>
    intro i hi
    have hlt : i < l.length := by omega
    refine Ev.step (fun k => laws_eqIntSS.l0.eq_2 _ _ _ k) ?_
    refine Ev.pos (by omega) ?_
    refine Ev.pos (by omega) ?_
    refine Ev.pos (by omega) ?_
    rw [rd1 l i hlt]
    refine Ev.bind (eqInts l[i] (hm _ (List.getElem_mem hlt))) ?_
    refine Ev.pos rfl ?_
    simp only [wnx (show i < l.length by omega) (by omega)]
    exact ih (i + 1) (by omega)
theorem eqSS (l : List (List Int)) (hl : l.length ≤ 1048576) (hm : ∀ x ∈ l, x.length ≤ 1048576) : Ev (fun k => laws_eqIntSS.f k l l) true := by
  unfold laws_eqIntSS.f
  exact Ev.pos rfl (eqSS_l l hl hm l.length 0 (by omega))

/-- Numbers from a on, in rows as long as these. -/
def mkSS : List (List Int) → Int → List (List Int)
  | [], _ => []
  | r :: l, a => mkI r.length a :: mkSS l (a + r.length)
theorem tot_cons (r : List Int) (l : List (List Int)) : tot (r :: l) = r.length + tot l := by simp [tot]
theorem markSS : ∀ (l : List (List Int)) (a : Int), 0 ≤ a → a + tot l ≤ 100000000000 → (∀ x ∈ l, x.length ≤ 1048576) → Ev (fun k => laws_markIntSS.f k l a) (a + tot l, mkSS l a) := by
  intro l
  induction l with
  | nil =>
    intro a _ _ _
    simp only [laws_markIntSS.f]
    exact Ev.some_ (by simp [tot, mkSS])
  | cons r l ih =>
    intro a h0 h1 hm
    have hr := hm r (by simp)
    have ht := tot_cons r l
    simp only [laws_markIntSS.f]
    refine Ev.bind (markI r a hr h0 (by omega)) ?_
    refine Ev.bind (ih (a + r.length) (by omega) (by omega) (fun x hx => hm x (by simp [hx]))) (Ev.some_ ?_)
    simp only [mkSS, ht]
    congr 1
    omega

theorem FnExactTwinOf : ∀ (l0 : List (List Int)) (l1 : List Int) (a2 : Int), (l0.length ≤ maxLen ∧ ∀ x_ ∈ l0, (x_.length ≤ maxLen ∧ ∀ y_ ∈ x_, (Lit.int .i64 y_).wf = true)) → (l1.length ≤ maxLen ∧ ∀ x_ ∈ l1, (Lit.int .i64 x_).wf = true) → (Lit.int .i64 a2).wf = true → ∃ k, laws_FnExactTwinOf.f k l0 l1 a2 = some true := by
  intro l s cols ⟨h1, h2⟩ _ _
  refine Ev.rounds (g := fun j => laws_FnExactTwinOf.f j l s cols) ?_
  unfold laws_FnExactTwinOf.f
  by_cases gb : (s.length : Int) > 1048576
  · exact Ev.pos gb (Ev.now _)
  refine Ev.neg gb ?_
  obtain ⟨q, eq, hq⟩ := szSS l 1048576 (by omega) (by omega) h1 (fun x hx => (h2 x hx).1)
  refine Ev.bind eq ?_
  by_cases h0 : q < 0
  · exact Ev.pos h0 (Ev.now _)
  refine Ev.neg h0 ?_
  have hb : s.length ≤ 1048576 := by omega
  have hl : l.length ≤ 1048576 := by omega
  have ht : tot l ≤ 1048576 := by omega
  have hm : ∀ x ∈ l, x.length ≤ 1048576 := fun x hx => by have := tot_mem l x hx; omega
  have hL : (twV l s cols).1.length ≤ 1048576 := Nat.le_trans (twV_len l s cols) (by decide)
  clear hq h1 h2
  refine Ev.bind (toSS l hl hm) ?_
  refine Ev.bind (toInts s hb) ?_
  refine Ev.bind (stx l s cols hl hm hb) ?_
  refine Ev.bind (toSS l hl hm) ?_
  refine Ev.bind (toInts s hb) ?_
  refine Ev.bind (itx l s cols hl hm) ?_
  refine Ev.bind (eqInts _ hL) ?_
  refine Ev.pos rfl ?_
  refine Ev.pos rfl ?_
  refine Ev.bind (toSS l hl hm) ?_
  refine Ev.bind (eqSS l hl hm) ?_
  refine Ev.pos rfl ?_
  refine Ev.bind (toInts s hb) ?_
  refine Ev.bind (eqInts s hb) ?_
  refine Ev.pos rfl ?_
  refine Ev.bind (markSS l 1 (by omega) (by omega) hm) ?_
  refine Ev.bind (markI s _ hb (by simp only []; omega) (by simp only []; omega)) ?_
  refine Ev.neg (by simp only []; omega) ?_
  refine Ev.bind (eqInts _ hL) ?_
  refine Ev.pos rfl ?_
  refine Ev.pos rfl ?_
  refine Ev.bind (markI _ 1 hL (by omega) (by omega)) ?_
  have hh := heldI (twV l s cols).1.length hL
  refine Ev.bind hh ?_
  refine Ev.neg (by omega) ?_
  refine Ev.pos rfl ?_
  refine Ev.bind (toSS l hl hm) ?_
  refine Ev.bind (toInts s hb) ?_
  refine Ev.bind (itx l s cols hl hm) ?_
  refine Ev.bind (eqInts _ hL) ?_
  refine Ev.pos rfl ?_
  refine Ev.pos rfl ?_
  refine Ev.bind hh ?_
  refine Ev.neg (by omega) ?_
  exact Ev.pos rfl (Ev.now _)

end Go.Proofs.Ytoniljblfenpeaa.Pure
