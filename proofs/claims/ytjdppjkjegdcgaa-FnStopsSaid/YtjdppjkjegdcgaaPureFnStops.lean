/- The law FnStops returns true at every list of bytes: whenever one stops, chance alone would have stopped with at most the told share of all courses. No condition. -/
import Derived.Test.YtjdppjkjegdcgaaPFnStopsx4
namespace Go.Proofs.Ytjdppjkjegdcgaa.Pure
open Go.RowKit Go.Proofs.Ytjdppjkjegdcgaa.PFnStops Go.Proofs.YtjdppjkjegdcgaaW.PrintWords Go.Proofs.YtjdppjkjegdcgaaW.PrintLast
set_option linter.unusedSimpArgs false
set_option linter.unusedVariables false

theorem big_eq (l : List Int) : laws_big.f l = some (decide ((l.length : Int) > 1048576)) := rfl

theorem wr {x : Int} (h1 : -9223372036854775808 ≤ x) (h2 : x ≤ 9223372036854775807) : wrap64 x = x := by unfold wrap64; omega
theorem Ev.pos {α : Type} {c : Prop} [Decidable c] {g f : Nat → Option α} {r : α} (h : c) (e : Ev g r) : Ev (fun k => if c then g k else f k) r := by
  simp only [if_pos h]; exact e
theorem Ev.neg {α : Type} {c : Prop} [Decidable c] {g f : Nat → Option α} {r : α} (h : ¬ c) (e : Ev f r) : Ev (fun k => if c then g k else f k) r := by
  simp only [if_neg h]; exact e
theorem Ev.some_ {α : Type} {r r' : α} (h : r = r') : Ev (fun _ => some r) r' := h ▸ Ev.now r
theorem Ev.bnow {α β : Type} {g : Option α} {f : Nat → α → Option β} {a : α} {r : β} (h : g = some a) (k : Ev (fun n => f n a) r) : Ev (fun n => g.bind (f n)) r := by
  subst h; exact k

/-- Pascal's triangle. -/
def C : Nat → Nat → Nat
  | _, 0 => 1
  | 0, _ + 1 => 0
  | n + 1, k + 1 => C n k + C n (k + 1)
def allN (m : Nat) (p : Nat → Bool) : Bool := match m with
  | 0 => true
  | m + 1 => p m && allN m p
theorem allN_get {m : Nat} {p : Nat → Bool} (h : allN m p = true) : ∀ i, i < m → p i = true := by
  induction m with
  | zero => intro i hi; omega
  | succ m ih =>
    simp only [allN, Bool.and_eq_true] at h
    intro i hi
    by_cases e : i = m
    · exact e ▸ h.1
    · exact ih h.2 i (by omega)
/-- The row of Pascal's triangle, quickly. -/
def nextRow : List Nat → List Nat := fun l => List.zipWith (· + ·) (0 :: l) (l ++ [0])

def chI (n k : Int) : Int := if 0 ≤ n ∧ n ≤ 20 ∧ 0 ≤ k ∧ k ≤ n then (C n.toNat k.toNat : Int) else 0

theorem mx0 (k : Int) : mx 0 k = if 0 < k then k else 0 := rfl
/-- The choices from i on, d of them. -/
def sumC (n : Nat) : Nat → Nat → Nat
  | 0, _ => 0
  | d + 1, i => C n i + sumC n d (i + 1)
theorem C_le_all : allN 21 (fun n => allN 22 (fun k => decide (C n k ≤ 1048576))) = true := by decide +kernel
theorem C_le (n k : Nat) (hn : n < 21) (hk : k < 22) : C n k ≤ 1048576 := by
  have e := allN_get (allN_get C_le_all n hn) k hk
  simpa using e
theorem sumC_le (n : Nat) (hn : n < 21) : ∀ d i, i + d ≤ 22 → sumC n d i ≤ d * 1048576 := by
  intro d
  induction d with
  | zero => intro i _; simp [sumC]
  | succ d ih =>
    intro i hi
    have h1 := C_le n i hn (by omega)
    have h2 := ih (i + 1) (by omega)
    simp only [sumC]
    omega
/-- The tail of a coin's n throws: at least k heads. -/
def tlI (n k : Int) : Int := if 0 ≤ n ∧ n ≤ 20 then (sumC n.toNat (n.toNat + 1 - (mx 0 k).toNat) (mx 0 k).toNat : Int) else 0

theorem tlI_nn (n k : Int) : 0 ≤ tlI n k := by unfold tlI; split <;> omega
theorem tlI_le (n k : Int) : tlI n k ≤ 23068672 := by
  unfold tlI
  split
  · have h3 : 0 ≤ mx 0 k := by rw [mx0]; split <;> omega
    by_cases h : (mx 0 k).toNat ≤ n.toNat + 1
    · have e := sumC_le n.toNat (by omega) (n.toNat + 1 - (mx 0 k).toNat) (mx 0 k).toNat (by omega)
      have e2 : (n.toNat + 1 - (mx 0 k).toNat) * 1048576 ≤ 22 * 1048576 := Nat.mul_le_mul_right _ (by omega)
      omega
    · have h4 : n.toNat + 1 - (mx 0 k).toNat = 0 := by omega
      rw [h4]; simp [sumC]
  · omega
/-- Two to the n. -/
def P2 (n : Int) : Int := 2 ^ n.toNat
theorem P2_le_all : allN 21 (fun n => decide ((2 : Nat) ^ n ≤ 1048576)) = true := by decide +kernel
theorem P2_le (n : Int) (h : 0 ≤ n) (h2 : n ≤ 20) : 1 ≤ P2 n ∧ P2 n ≤ 1048576 := by
  have e := allN_get P2_le_all n.toNat (by omega)
  simp only [decide_eq_true_eq] at e
  have h1 : (1 : Nat) ≤ 2 ^ n.toNat := Nat.one_le_two_pow
  have h3 : P2 n = ((2 ^ n.toNat : Nat) : Int) := by unfold P2; simp
  omega
def rareI (n k p : Int) : Bool := decide (1 ≤ n ∧ n ≤ 20 ∧ 0 ≤ p ∧ p ≤ 100 ∧ 0 ≤ k ∧ k ≤ n ∧ 100 * tlI n k ≤ p * P2 n)
theorem mulp_le {p x : Int} (h0 : 0 ≤ p) (h1 : p ≤ 100) (h2 : 0 ≤ x) (h3 : x ≤ 1048576) : 0 ≤ p * x ∧ p * x ≤ 104857600 := by
  refine ⟨Int.mul_nonneg h0 h2, ?_⟩
  have a := Int.mul_le_mul_of_nonneg_right h1 h2
  have b := Int.mul_le_mul_of_nonneg_left h3 (show (0 : Int) ≤ 100 by omega)
  omega

def winsL (l : List S44) : Nat := (l.filter (fun p => decide (p.f0 < p.f1))).length
def diffL (l : List S44) : Nat := (l.filter (fun p => decide (p.f1 ≠ p.f0))).length
theorem winsL_cons (p : S44) (l : List S44) : winsL (p :: l) = (if p.f0 < p.f1 then 1 else 0) + winsL l := by
  unfold winsL; rw [List.filter_cons]; split <;> simp_all; omega
theorem diffL_cons (p : S44) (l : List S44) : diffL (p :: l) = (if p.f1 = p.f0 then 0 else 1) + diffL l := by
  unfold diffL; rw [List.filter_cons]; split <;> simp_all; omega
theorem winsL_le (l : List S44) : winsL l ≤ l.length := List.length_filter_le _ _
theorem diffL_le (l : List S44) : diffL l ≤ l.length := List.length_filter_le _ _
theorem wins_le_diff (l : List S44) : winsL l ≤ diffL l := by
  induction l with
  | nil => simp [winsL, diffL]
  | cons p l ih => rw [winsL_cons, diffL_cons]; split <;> split <;> omega

theorem q_le (i : Int) (h0 : 0 ≤ i) (h1 : i ≤ 20) : 0 ≤ 100 * i * (i + 1) ∧ 100 * i * (i + 1) ≤ 42000 := by
  refine ⟨Int.mul_nonneg (by omega) (by omega), ?_⟩
  have a := Int.mul_le_mul_of_nonneg_right (show 100 * i ≤ 2000 by omega) (show 0 ≤ i + 1 by omega)
  have b := Int.mul_le_mul_of_nonneg_left (show i + 1 ≤ 21 by omega) (show (0 : Int) ≤ 2000 by omega)
  omega
theorem qt_le (q t : Int) (h0 : 0 ≤ q) (h1 : q ≤ 42000) (h2 : 0 ≤ t) (h3 : t ≤ 23068672) : 0 ≤ q * t ∧ q * t ≤ 968884224000 := by
  refine ⟨Int.mul_nonneg h0 h2, ?_⟩
  have a := Int.mul_le_mul_of_nonneg_right h1 h2
  have b := Int.mul_le_mul_of_nonneg_left h3 (show (0 : Int) ≤ 42000 by omega)
  omega
def stopsB (l : List S44) (p : Int) (i : Nat) : Bool := decide (0 < diffL (l.take i) ∧ 100 * (i : Int) * (i + 1) * tlI (diffL (l.take i)) (winsL (l.take i)) ≤ p * P2 (diffL (l.take i)))
def stopsF : Nat → List S44 → Int → Nat → Int
  | 0, _, _, _ => 0
  | d + 1, l, p, i => if stopsB l p i = true then i else stopsF d l p (i + 1)
def stopsI (l : List S44) (p : Int) : Int := if l.length ≤ 20 ∧ 0 ≤ p ∧ p ≤ 100 then stopsF l.length l p 1 else 0
theorem take_diff_le (l : List S44) (i : Nat) : diffL (l.take i) ≤ l.length := by
  have a := diffL_le (l.take i)
  have b : (l.take i).length ≤ l.length := by rw [List.length_take]; omega
  omega

theorem wnextw {i n : Nat} (h : i < n) (hn : n ≤ 9223372036854775807) : wrap64 ((i : Int) + 1) = ((i + 1 : Nat) : Int) := by rw [wr (by omega) (by omega)]; rfl
theorem implWins_l (l : List S44) (hl : l.length ≤ 1048576) : ∀ (d i : Nat) (a b : Nat), i + d = l.length → a ≤ i → b ≤ i → Ev (fun k => impl_WinsOf.l0 k a b l l.length i) (((a + winsL (l.drop i) : Nat) : Int), ((b + diffL (l.drop i) : Nat) : Int)) := by
  intro d
  induction d with
  | zero =>
    intro i a b hi ha hb
    refine Ev.step (fun k => impl_WinsOf.l0.eq_2 _ _ _ _ _ k) ?_
    refine Ev.neg (by omega) (Ev.some_ ?_)
    rw [List.drop_eq_nil_of_le (by omega)]; simp [winsL, diffL]
  | succ d ih =>
    intro i a b hi ha hb
    have hlt : i < l.length := by omega
    refine Ev.step (fun k => impl_WinsOf.l0.eq_2 _ _ _ _ _ k) ?_
    refine Ev.pos (by omega) ?_
    refine Ev.pos (by omega) ?_
    refine Ev.pos (by omega) ?_
    have hr : rd_T44 l (i : Int) = l[i] := by simp [rd_T44, hlt, List.getD]
    rw [List.drop_eq_getElem_cons hlt, winsL_cons, diffL_cons]
    simp only [hr, wnextw hlt (by omega), wnextw (show a < 1048577 by omega) (by omega), wnextw (show b < 1048577 by omega) (by omega)]
    by_cases h1 : l[i].f1 > l[i].f0
    · refine Ev.pos h1 ?_
      rw [if_pos h1]
      by_cases h2 : l[i].f1 = l[i].f0
      · omega
      · refine Ev.neg h2 ?_
        rw [if_neg h2]
        have e := ih (i + 1) (a + 1) (b + 1) (by omega) (by omega) (by omega)
        rw [← Nat.add_assoc, ← Nat.add_assoc]
        exact e
    · refine Ev.neg h1 ?_
      rw [if_neg h1]
      by_cases h2 : l[i].f1 = l[i].f0
      · refine Ev.pos h2 ?_
        rw [if_pos h2]
        have e := ih (i + 1) a b (by omega) (by omega) (by omega)
        rw [Nat.zero_add, Nat.zero_add]
        exact e
      · refine Ev.neg h2 ?_
        rw [if_neg h2]
        have e := ih (i + 1) a (b + 1) (by omega) (by omega) (by omega)
        rw [Nat.zero_add, ← Nat.add_assoc]
        exact e
theorem implWins (l : List S44) (hl : l.length ≤ 1048576) : Ev (fun k => impl_WinsOf.f k l) ((winsL l : Int), (diffL l : Int)) := by
  unfold impl_WinsOf.f
  have e := implWins_l l hl l.length 0 0 0 (by omega) (by omega) (by omega)
  simpa using e

theorem implIn (a l h : Int) : impl_InRange.f a l h = some (decide (l ≤ a ∧ a ≤ h)) := by
  unfold impl_InRange.f
  by_cases h1 : l ≤ a <;> simp [h1]

def okImplC (n k : Nat) : Bool := decide (impl_ChooseOf.f 25 n k = some (C n k : Int))
theorem implC_all : allN 21 (fun n => allN (n + 1) (fun k => okImplC n k)) = true := by decide +kernel
theorem implC (n k : Int) : Ev (fun j => impl_ChooseOf.f j n k) (chI n k) := by
  by_cases h : 0 ≤ n ∧ n ≤ 20 ∧ 0 ≤ k ∧ k ≤ n
  · obtain ⟨a, rfl⟩ := Int.eq_ofNat_of_zero_le h.1
    obtain ⟨b, rfl⟩ := Int.eq_ofNat_of_zero_le h.2.2.1
    have e := allN_get (allN_get implC_all a (by omega)) b (by omega)
    simp only [okImplC, decide_eq_true_eq] at e
    unfold chI
    rw [if_pos h]
    exact Ev.of (fun k => impl_ChooseOf.mono _ _ k) e
  · unfold chI
    rw [if_neg h]
    unfold impl_ChooseOf.f
    simp only [implIn, Option.bind_some]
    by_cases h1 : 0 ≤ n ∧ n ≤ 20
    · have h2 : ¬ (0 ≤ k ∧ k ≤ n) := by omega
      refine ⟨1, fun j hj => ?_⟩
      obtain ⟨j, rfl⟩ : ∃ m, j = m + 1 := ⟨j - 1, by omega⟩
      simp [h1, h2, impl_ChooseOf.j0]
    · refine ⟨1, fun j hj => ?_⟩
      obtain ⟨j, rfl⟩ : ∃ m, j = m + 1 := ⟨j - 1, by omega⟩
      simp [h1, impl_ChooseOf.j0]

theorem implT_l (n : Nat) (hn : n < 21) : ∀ (d i : Nat) (s : Int), i + d = n + 1 → 0 ≤ s → s ≤ i * 1048576 → Ev (fun j => impl_TailOf.l0 j n s i) (s + sumC n d i) := by
  intro d
  induction d with
  | zero =>
    intro i s hi _ _
    refine Ev.step (fun k => impl_TailOf.l0.eq_2 _ _ _ k) ?_
    exact Ev.neg (by omega) (Ev.some_ (by simp [sumC]))
  | succ d ih =>
    intro i s hi h0 h1
    refine Ev.step (fun k => impl_TailOf.l0.eq_2 _ _ _ k) ?_
    refine Ev.pos (by omega) ?_
    refine Ev.bind (implC n i) ?_
    have hc : chI n i = C n i := by unfold chI; rw [if_pos (by omega)]; rfl
    have hb := C_le n i hn (by omega)
    have hw1 : wrap64 (s + chI n i) = s + (C n i : Nat) := by rw [hc]; exact wr (by omega) (by omega)
    have hw2 : wrap64 ((i : Int) + 1) = ((i + 1 : Nat) : Int) := by rw [wr (by omega) (by omega)]; rfl
    simp only [hw1, hw2]
    have e := ih (i + 1) (s + (C n i : Nat)) (by omega) (by omega) (by omega)
    simp only [sumC]
    have e2 : s + (((C n i + sumC n d (i + 1) : Nat)) : Int) = s + (C n i : Nat) + (sumC n d (i + 1) : Nat) := by omega
    rw [e2]
    exact e
theorem implT (n k : Int) : Ev (fun j => impl_TailOf.f j n k) (tlI n k) := by
  unfold impl_TailOf.f tlI
  simp only [implIn, Option.bind_some, decide_eq_true_eq]
  by_cases h : 0 ≤ n ∧ n ≤ 20
  · rw [if_pos h]
    refine Ev.pos h ?_
    obtain ⟨a, rfl⟩ := Int.eq_ofNat_of_zero_le h.1
    by_cases h2 : mx 0 k ≤ a
    · have h3 : 0 ≤ mx 0 k := by rw [mx0]; split <;> omega
      obtain ⟨i, hi⟩ := Int.eq_ofNat_of_zero_le h3
      rw [hi] at h2 ⊢
      have e := implT_l a (by omega) (a + 1 - i) i 0 (by omega) (by omega) (by omega)
      simpa using e
    · have h3 : a + 1 - (mx 0 k).toNat = 0 := by omega
      simp only [Int.ofNat_eq_natCast, Int.toNat_natCast, h3, sumC]
      refine Ev.step (fun k => impl_TailOf.l0.eq_2 _ _ _ k) ?_
      exact Ev.neg h2 (Ev.some_ rfl)
  · rw [if_neg h]
    exact Ev.neg h (Ev.now _)

theorem implStops_l (l : List S44) (p : Int) (hl : l.length ≤ 20) (h0 : 0 ≤ p) (h1 : p ≤ 100) : ∀ (d i : Nat), 1 ≤ i → i + d = l.length + 1 → Ev (fun k => impl_StopsAt.l0 k l p i) (stopsF d l p i) := by
  intro d
  induction d with
  | zero =>
    intro i hi1 hi
    refine Ev.step (fun k => impl_StopsAt.l0.eq_2 _ _ _ k) ?_
    exact Ev.neg (by omega) (Ev.some_ rfl)
  | succ d ih =>
    intro i hi1 hi
    refine Ev.step (fun k => impl_StopsAt.l0.eq_2 _ _ _ k) ?_
    refine Ev.pos (by omega) ?_
    refine Ev.pos (by omega) ?_
    simp only [Int.toNat_natCast]
    refine Ev.bind (implWins (l.take i) (by rw [List.length_take]; omega)) ?_
    have hd := take_diff_le l i
    have e := ih (i + 1) (by omega) (by omega)
    simp only [wnextw (show i < 1000 by omega) (by omega)]
    unfold stopsF stopsB
    by_cases h3 : 0 < diffL (l.take i)
    · refine Ev.pos (by omega) ?_
      refine Ev.bind (implT _ _) ?_
      refine Ev.pos (by omega) ?_
      have a0 := tlI_nn (diffL (l.take i)) (winsL (l.take i))
      have a1 := tlI_le (diffL (l.take i)) (winsL (l.take i))
      have b := P2_le (diffL (l.take i)) (by omega) (by omega)
      have c := mulp_le h0 h1 (show 0 ≤ P2 (diffL (l.take i)) by omega) b.2
      have e1 : shl .i64 p (diffL (l.take i)) = p * P2 (diffL (l.take i)) := by
        have hm : min ((diffL (l.take i) : Nat) : Int).toNat IntKind.i64.bits = ((diffL (l.take i) : Nat) : Int).toNat := by
          show min ((diffL (l.take i) : Nat) : Int).toNat 64 = _
          omega
        unfold shl
        rw [hm, i64_w]
        exact wr (by show _ ≤ p * P2 _; omega) (by show p * P2 _ ≤ _; omega)
      have q := q_le i (by omega) (by omega)
      have q2 := qt_le _ _ q.1 q.2 a0 a1
      have e2 : wrap64 (wrap64 (wrap64 (100 * (i : Int)) * ((i + 1 : Nat) : Int)) * tlI (diffL (l.take i)) (winsL (l.take i))) = 100 * (i : Int) * (i + 1) * tlI (diffL (l.take i)) (winsL (l.take i)) := by
        rw [wr (x := 100 * (i : Int)) (by omega) (by omega)]
        have e3 : ((i + 1 : Nat) : Int) = (i : Int) + 1 := rfl
        rw [e3, wr (x := 100 * (i : Int) * (i + 1)) (by omega) (by omega)]
        exact wr (by omega) (by omega)
      simp only [e1, e2]
      by_cases h4 : 100 * (i : Int) * (i + 1) * tlI (diffL (l.take i)) (winsL (l.take i)) ≤ p * P2 (diffL (l.take i))
      · rw [if_pos (by simp [h3, h4])]
        exact Ev.pos h4 (Ev.some_ rfl)
      · rw [if_neg (by simp [h4])]
        exact Ev.neg h4 e
    · refine Ev.neg (by omega) ?_
      rw [if_neg (by simp [h3])]
      exact e
theorem implStops (l : List S44) (p : Int) : Ev (fun k => impl_StopsAt.f k l p) (stopsI l p) := by
  unfold impl_StopsAt.f stopsI
  simp only [implIn, Option.bind_some]
  by_cases hl : (l.length : Int) > 20
  · refine Ev.pos hl ?_
    rw [if_neg (by omega)]
    refine Ev.step (fun k => impl_StopsAt.j0.eq_2 _ _ _ k) ?_
    exact Ev.pos rfl (Ev.now _)
  · refine Ev.neg hl ?_
    refine Ev.step (fun k => impl_StopsAt.j0.eq_2 _ _ _ k) ?_
    by_cases h : 0 ≤ p ∧ p ≤ 100
    · rw [if_pos (by omega)]
      refine Ev.neg (by simp [h]) ?_
      exact implStops_l l p (by omega) h.1 h.2 _ 1 (by omega) (by omega)
    · rw [if_neg (by omega)]
      exact Ev.pos (by simp; omega) (Ev.now _)

theorem wnexts {i n : Nat} (h : i < n) (hn : n ≤ 9223372036854775807) : wrap64 ((i : Int) + 1) = ((i + 1 : Nat) : Int) := by rw [wr (by omega) (by omega)]; rfl
theorem specWins_l (l : List S44) (hl : l.length ≤ 1048576) : ∀ (d i : Nat) (a b : Nat), i + d = l.length → a ≤ i → b ≤ i → Ev (fun k => spec_WinsOf.l0 k l a b i) (((a + winsL (l.drop i) : Nat) : Int), ((b + diffL (l.drop i) : Nat) : Int)) := by
  intro d
  induction d with
  | zero =>
    intro i a b hi ha hb
    refine Ev.step (fun k => spec_WinsOf.l0.eq_2 _ _ _ _ k) ?_
    refine Ev.neg (by omega) (Ev.some_ ?_)
    rw [List.drop_eq_nil_of_le (by omega)]; simp [winsL, diffL]
  | succ d ih =>
    intro i a b hi ha hb
    have hlt : i < l.length := by omega
    refine Ev.step (fun k => spec_WinsOf.l0.eq_2 _ _ _ _ k) ?_
    refine Ev.pos (by omega) ?_
    refine Ev.pos (by omega) ?_
    have hr : rd_T44 l (i : Int) = l[i] := by simp [rd_T44, hlt, List.getD]
    rw [List.drop_eq_getElem_cons hlt, winsL_cons, diffL_cons]
    simp only [hr, wnexts hlt (by omega), wnexts (show a < 1048577 by omega) (by omega), wnexts (show b < 1048577 by omega) (by omega)]
    by_cases h1 : l[i].f1 > l[i].f0
    · refine Ev.pos h1 ?_
      rw [if_pos h1]
      by_cases h2 : l[i].f1 = l[i].f0
      · omega
      · refine Ev.neg h2 ?_
        rw [if_neg h2]
        have e := ih (i + 1) (a + 1) (b + 1) (by omega) (by omega) (by omega)
        rw [← Nat.add_assoc, ← Nat.add_assoc]
        exact e
    · refine Ev.neg h1 ?_
      rw [if_neg h1]
      by_cases h2 : l[i].f1 = l[i].f0
      · refine Ev.pos h2 ?_
        rw [if_pos h2]
        have e := ih (i + 1) a b (by omega) (by omega) (by omega)
        rw [Nat.zero_add, Nat.zero_add]
        exact e
      · refine Ev.neg h2 ?_
        rw [if_neg h2]
        have e := ih (i + 1) a (b + 1) (by omega) (by omega) (by omega)
        rw [Nat.zero_add, ← Nat.add_assoc]
        exact e
theorem specWins (l : List S44) (hl : l.length ≤ 1048576) : Ev (fun k => spec_WinsOf.f k l) ((winsL l : Int), (diffL l : Int)) := by
  unfold spec_WinsOf.f
  have e := specWins_l l hl l.length 0 0 0 (by omega) (by omega) (by omega)
  simpa using e

theorem specIn (a l h : Int) : spec_l1In.f a l h = some (decide (l ≤ a ∧ a ≤ h)) := by
  unfold spec_l1In.f
  by_cases h1 : l ≤ a <;> simp [h1]

def okSpecC (n k : Nat) : Bool := decide (spec_ChooseOf.f 25 n k = some (C n k : Int))
theorem specC_all : allN 21 (fun n => allN (n + 1) (fun k => okSpecC n k)) = true := by decide +kernel
theorem specC (n k : Int) : Ev (fun j => spec_ChooseOf.f j n k) (chI n k) := by
  by_cases h : 0 ≤ n ∧ n ≤ 20 ∧ 0 ≤ k ∧ k ≤ n
  · obtain ⟨a, rfl⟩ := Int.eq_ofNat_of_zero_le h.1
    obtain ⟨b, rfl⟩ := Int.eq_ofNat_of_zero_le h.2.2.1
    have e := allN_get (allN_get specC_all a (by omega)) b (by omega)
    simp only [okSpecC, decide_eq_true_eq] at e
    unfold chI
    rw [if_pos h]
    exact Ev.of (fun k => spec_ChooseOf.mono _ _ k) e
  · unfold chI
    rw [if_neg h]
    unfold spec_ChooseOf.f
    simp only [specIn, Option.bind_some]
    by_cases h1 : 0 ≤ n ∧ n ≤ 20
    · have h2 : ¬ (0 ≤ k ∧ k ≤ n) := by omega
      refine ⟨1, fun j hj => ?_⟩
      obtain ⟨j, rfl⟩ : ∃ m, j = m + 1 := ⟨j - 1, by omega⟩
      simp [h1, h2, spec_ChooseOf.j0]
    · refine ⟨1, fun j hj => ?_⟩
      obtain ⟨j, rfl⟩ : ∃ m, j = m + 1 := ⟨j - 1, by omega⟩
      simp [h1, spec_ChooseOf.j0]

theorem specT_l (n : Nat) (hn : n < 21) : ∀ (d i : Nat) (s : Int), i + d = n + 1 → 0 ≤ s → s ≤ i * 1048576 → Ev (fun j => spec_TailOf.l0 j n s i) (s + sumC n d i) := by
  intro d
  induction d with
  | zero =>
    intro i s hi _ _
    refine Ev.step (fun k => spec_TailOf.l0.eq_2 _ _ _ k) ?_
    exact Ev.neg (by omega) (Ev.some_ (by simp [sumC]))
  | succ d ih =>
    intro i s hi h0 h1
    refine Ev.step (fun k => spec_TailOf.l0.eq_2 _ _ _ k) ?_
    refine Ev.pos (by omega) ?_
    refine Ev.bind (specC n i) ?_
    have hc : chI n i = C n i := by unfold chI; rw [if_pos (by omega)]; rfl
    have hb := C_le n i hn (by omega)
    have hw1 : wrap64 (s + chI n i) = s + (C n i : Nat) := by rw [hc]; exact wr (by omega) (by omega)
    have hw2 : wrap64 ((i : Int) + 1) = ((i + 1 : Nat) : Int) := by rw [wr (by omega) (by omega)]; rfl
    simp only [hw1, hw2]
    have e := ih (i + 1) (s + (C n i : Nat)) (by omega) (by omega) (by omega)
    simp only [sumC]
    have e2 : s + (((C n i + sumC n d (i + 1) : Nat)) : Int) = s + (C n i : Nat) + (sumC n d (i + 1) : Nat) := by omega
    rw [e2]
    exact e
theorem specMax (a b : Int) : spec_Max.f a b = some (mx a b) := by
  unfold spec_Max.f mx
  repeat' split
  all_goals first | rfl | (congr 1; omega)
theorem specT (n k : Int) : Ev (fun j => spec_TailOf.f j n k) (tlI n k) := by
  unfold spec_TailOf.f tlI
  simp only [specIn, specMax, Option.bind_some, decide_eq_true_eq]
  by_cases h : 0 ≤ n ∧ n ≤ 20
  · rw [if_pos h]
    refine Ev.pos h ?_
    obtain ⟨a, rfl⟩ := Int.eq_ofNat_of_zero_le h.1
    by_cases h2 : mx 0 k ≤ a
    · have h3 : 0 ≤ mx 0 k := by rw [mx0]; split <;> omega
      obtain ⟨i, hi⟩ := Int.eq_ofNat_of_zero_le h3
      rw [hi] at h2 ⊢
      have e := specT_l a (by omega) (a + 1 - i) i 0 (by omega) (by omega) (by omega)
      simpa using e
    · have h3 : a + 1 - (mx 0 k).toNat = 0 := by omega
      simp only [Int.ofNat_eq_natCast, Int.toNat_natCast, h3, sumC]
      refine Ev.step (fun k => spec_TailOf.l0.eq_2 _ _ _ k) ?_
      exact Ev.neg h2 (Ev.some_ rfl)
  · rw [if_neg h]
    exact Ev.neg h (Ev.now _)

theorem specPow_l (n : Nat) (hn : n ≤ 20) : ∀ (d i : Nat) (s : Int), i + d = n → s = 2 ^ i → Ev (fun j => spec_l19Power.l0 j n s i) (2 ^ n) := by
  intro d
  induction d with
  | zero =>
    intro i s hi hs
    refine Ev.step (fun k => spec_l19Power.l0.eq_2 _ _ _ k) ?_
    exact Ev.neg (by omega) (Ev.some_ (by rw [hs, show i = n by omega]))
  | succ d ih =>
    intro i s hi hs
    refine Ev.step (fun k => spec_l19Power.l0.eq_2 _ _ _ k) ?_
    refine Ev.pos (by omega) ?_
    have b := P2_le i (by omega) (by omega)
    have hb : P2 i = 2 ^ i := by unfold P2; simp
    have hw : wrap64 (2 * s) = 2 ^ (i + 1) := by
      rw [wr (by omega) (by omega), hs, Int.pow_succ]; omega
    have hw2 : wrap64 ((i : Int) + 1) = ((i + 1 : Nat) : Int) := by rw [wr (by omega) (by omega)]; rfl
    simp only [hw, hw2]
    exact ih (i + 1) _ (by omega) rfl
theorem specPow (n : Int) (h0 : 0 ≤ n) (h1 : n ≤ 20) : Ev (fun j => spec_l19Power.f j n) (P2 n) := by
  obtain ⟨a, rfl⟩ := Int.eq_ofNat_of_zero_le h0
  have e := specPow_l a (by omega) a 0 1 (by omega) rfl
  unfold spec_l19Power.f P2
  simpa using e

theorem specStops_l (l : List S44) (p : Int) (hl : l.length ≤ 20) (h0 : 0 ≤ p) (h1 : p ≤ 100) : ∀ (d i : Nat), 1 ≤ i → i + d = l.length + 1 → Ev (fun k => spec_StopsAt.l0 k l p i) (stopsF d l p i) := by
  intro d
  induction d with
  | zero =>
    intro i hi1 hi
    refine Ev.step (fun k => spec_StopsAt.l0.eq_2 _ _ _ k) ?_
    exact Ev.neg (by omega) (Ev.some_ rfl)
  | succ d ih =>
    intro i hi1 hi
    refine Ev.step (fun k => spec_StopsAt.l0.eq_2 _ _ _ k) ?_
    refine Ev.pos (by omega) ?_
    refine Ev.pos (by omega) ?_
    simp only [Int.toNat_natCast]
    refine Ev.bind (specWins (l.take i) (by rw [List.length_take]; omega)) ?_
    have hd := take_diff_le l i
    have e := ih (i + 1) (by omega) (by omega)
    simp only [wnexts (show i < 1000 by omega) (by omega)]
    unfold stopsF stopsB
    by_cases h3 : 0 < diffL (l.take i)
    · refine Ev.pos (by omega) ?_
      refine Ev.bind (specT _ _) ?_
      refine Ev.bind (specPow _ (by omega) (by omega)) ?_
      have a0 := tlI_nn (diffL (l.take i)) (winsL (l.take i))
      have a1 := tlI_le (diffL (l.take i)) (winsL (l.take i))
      have b := P2_le (diffL (l.take i)) (by omega) (by omega)
      have c := mulp_le h0 h1 (show 0 ≤ P2 (diffL (l.take i)) by omega) b.2
      have q := q_le i (by omega) (by omega)
      have q2 := qt_le _ _ q.1 q.2 a0 a1
      have e2 : wrap64 (wrap64 (wrap64 (100 * (i : Int)) * ((i + 1 : Nat) : Int)) * tlI (diffL (l.take i)) (winsL (l.take i))) = 100 * (i : Int) * (i + 1) * tlI (diffL (l.take i)) (winsL (l.take i)) := by
        rw [wr (x := 100 * (i : Int)) (by omega) (by omega)]
        have e3 : ((i + 1 : Nat) : Int) = (i : Int) + 1 := rfl
        rw [e3, wr (x := 100 * (i : Int) * (i + 1)) (by omega) (by omega)]
        exact wr (by omega) (by omega)
      simp only [wr (x := p * P2 (diffL (l.take i))) (by omega) (by omega), e2]
      by_cases h4 : 100 * (i : Int) * (i + 1) * tlI (diffL (l.take i)) (winsL (l.take i)) ≤ p * P2 (diffL (l.take i))
      · rw [if_pos (by simp [h3, h4])]
        exact Ev.pos h4 (Ev.some_ rfl)
      · rw [if_neg (by simp [h4])]
        exact Ev.neg h4 e
    · refine Ev.neg (by omega) ?_
      rw [if_neg (by simp [h3])]
      exact e
theorem specStops (l : List S44) (p : Int) : Ev (fun k => spec_StopsAt.f k l p) (stopsI l p) := by
  unfold spec_StopsAt.f stopsI
  simp only [specIn, Option.bind_some]
  by_cases hl : (l.length : Int) > 20
  · refine Ev.pos hl ?_
    rw [if_neg (by omega)]
    refine Ev.step (fun k => spec_StopsAt.j0.eq_2 _ _ _ k) ?_
    exact Ev.pos rfl (Ev.now _)
  · refine Ev.neg hl ?_
    refine Ev.step (fun k => spec_StopsAt.j0.eq_2 _ _ _ k) ?_
    by_cases h : 0 ≤ p ∧ p ≤ 100
    · rw [if_pos (by omega)]
      refine Ev.neg (by simp [h]) ?_
      exact specStops_l l p (by omega) h.1 h.2 _ 1 (by omega) (by omega)
    · rw [if_neg (by omega)]
      exact Ev.pos (by simp; omega) (Ev.now _)

/-- The course of the number y: d pairs. -/
def mkl : Nat → Nat → List S44
  | 0, _ => []
  | d + 1, y => ⟨5, 4 + 2 * ((y % 2 : Nat) : Int)⟩ :: mkl d (y / 2)
def stopsQ (n x : Nat) (p : Int) : Bool := decide (0 < stopsI (mkl n x) p)
/-- How many of d courses from x on stop. -/
def cntF (n : Nat) (p : Int) : Nat → Nat → Nat
  | 0, _ => 0
  | d + 1, x => (if stopsQ n x p = true then 1 else 0) + cntF n p d (x + 1)
def okN (n : Nat) (p : Int) : Bool := decide (100 * (cntF n p (2 ^ n) 0 : Int) ≤ p * 2 ^ n)
theorem all_ok : allN 8 (fun n => n == 0 || (okN n 1 && okN n 5 && okN n 10 && okN n 25 && okN n 50 && okN n 100)) = true := by decide +kernel
theorem mkl_len : ∀ (d y : Nat), (mkl d y).length = d := by
  intro d
  induction d with
  | zero => intro y; rfl
  | succ d ih => intro y; simp [mkl, ih]
theorem cntF_le (n : Nat) (p : Int) : ∀ d x, cntF n p d x ≤ d := by
  intro d
  induction d with
  | zero => intro x; simp [cntF]
  | succ d ih => intro x; have := ih (x + 1); unfold cntF; split <;> omega
theorem l3_ok (n : Nat) (p pw st x : Int) (hn : n ≤ 7) (r : Bool) : ∀ (d i y : Nat) (acc : List S44), i + d = n → acc.length = i → y < 1000 →
    Ev (fun k => (impl_StopsAt.f k (acc ++ mkl d y) p).bind fun t157 => (if t157 > 0 then (laws_FnStops.l2 k n p pw (wrap64 (st + 1)) (wrap64 (x + 1))) else (laws_FnStops.l2 k n p pw st (wrap64 (x + 1))))) r →
    Ev (fun k => laws_FnStops.l3 k n p pw st x acc y i) r := by
  intro d
  induction d with
  | zero =>
    intro i y acc hi ha hy e
    refine Ev.step (fun k => laws_FnStops.l3.eq_2 _ _ _ _ _ _ _ _ k) ?_
    refine Ev.neg (by omega) ?_
    simpa [mkl] using e
  | succ d ih =>
    intro i y acc hi ha hy e
    refine Ev.step (fun k => laws_FnStops.l3.eq_2 _ _ _ _ _ _ _ _ k) ?_
    refine Ev.pos (by omega) ?_
    refine Ev.pos (by omega) ?_
    have h1 : Int.tmod (y : Int) 2 = ((y % 2 : Nat) : Int) := by rw [Int.tmod_eq_emod_of_nonneg (by omega)]; rfl
    have h2 : Int.tdiv (y : Int) 2 = ((y / 2 : Nat) : Int) := by rw [Int.tdiv_eq_ediv_of_nonneg (by omega)]; rfl
    have h3 : wrap64 (4 + wrap64 (2 * ((y % 2 : Nat) : Int))) = 4 + 2 * ((y % 2 : Nat) : Int) := by
      rw [wr (x := 2 * ((y % 2 : Nat) : Int)) (by omega) (by omega), wr (by omega) (by omega)]
    have h4 : wrap64 ((y / 2 : Nat) : Int) = ((y / 2 : Nat) : Int) := wr (by omega) (by omega)
    have h5 : wrap64 ((i : Int) + 1) = ((i + 1 : Nat) : Int) := by rw [wr (by omega) (by omega)]; rfl
    simp only [h1, h2, h3, h4, h5]
    refine ih (i + 1) (y / 2) _ (by omega) (by simp [ha]) (by omega) ?_
    rw [List.append_assoc]
    exact e
theorem l2_ok (n : Nat) (p : Int) (hn : n ≤ 7) (hp : 0 ≤ p) (hp2 : p ≤ 100) (hpw : 2 ^ n ≤ 128) : ∀ (d x st : Nat), x + d = 2 ^ n → st ≤ x →
    Ev (fun k => laws_FnStops.l2 k n p ((2 ^ n : Nat) : Int) st x) (decide (100 * ((st + cntF n p d x : Nat) : Int) ≤ p * 2 ^ n)) := by
  intro d
  induction d with
  | zero =>
    intro x st hx hs
    refine Ev.step (fun k => laws_FnStops.l2.eq_2 _ _ _ _ _ k) ?_
    refine Ev.neg (by omega) (Ev.some_ ?_)
    have a := mulp_le hp hp2 (show (0 : Int) ≤ ((2 ^ n : Nat) : Int) by omega) (by omega)
    rw [wr (x := 100 * (st : Int)) (by omega) (by omega), wr (by omega) (by omega)]
    apply decide_eq_decide.mpr
    simp [cntF]
  | succ d ih =>
    intro x st hx hs
    refine Ev.step (fun k => laws_FnStops.l2.eq_2 _ _ _ _ _ k) ?_
    refine Ev.pos (by omega) ?_
    refine l3_ok n p _ st x hn _ n 0 x [] (by omega) rfl (by omega) ?_
    refine Ev.bind (implStops _ _) ?_
    have h5 : wrap64 ((x : Int) + 1) = ((x + 1 : Nat) : Int) := by rw [wr (by omega) (by omega)]; rfl
    have h6 : wrap64 ((st : Int) + 1) = ((st + 1 : Nat) : Int) := by rw [wr (by omega) (by omega)]; rfl
    simp only [List.nil_append, h5, h6]
    unfold cntF stopsQ
    by_cases h : 0 < stopsI (mkl n x) p
    · rw [if_pos (by simpa using h)]
      refine Ev.pos h ?_
      have e := ih (x + 1) (st + 1) (by omega) (by omega)
      rw [show st + (1 + cntF n p d (x + 1)) = st + 1 + cntF n p d (x + 1) by omega]
      exact e
    · rw [if_neg (by simpa using h)]
      refine Ev.neg h ?_
      rw [Nat.zero_add]
      exact ih (x + 1) st (by omega) (by omega)
theorem two_w (q : Nat) (h : q ≤ 128) : wrap64 (2 * (q : Int)) = ((q * 2 : Nat) : Int) := by rw [wr (by omega) (by omega)]; omega
theorem l1_ok (n : Nat) (p : Int) (hn1 : 1 ≤ n) (hn : n ≤ 7) (hp : p ∈ ([1, 5, 10, 25, 50, 100] : List Int)) : ∀ (d i : Nat), i + d = n → Ev (fun k => laws_FnStops.l1 k n p ((2 ^ i : Nat) : Int) i) true := by
  have hpw : 2 ^ n ≤ 128 := Nat.pow_le_pow_right (n := 2) (by decide) hn
  intro d
  induction d with
  | zero =>
    intro i hi
    have hin : i = n := by omega
    subst hin
    refine Ev.step (fun k => laws_FnStops.l1.eq_2 _ _ _ _ k) ?_
    refine Ev.neg (by omega) ?_
    have hp01 : 0 ≤ p ∧ p ≤ 100 := by simp at hp; omega
    have e := l2_ok i p hn hp01.1 hp01.2 hpw (2 ^ i) 0 0 (by omega) (by omega)
    have ok : okN i p = true := by
      have a := allN_get all_ok i (by omega)
      have h0 : (i == 0) = false := by simp; omega
      simp only [h0, Bool.false_or, Bool.and_eq_true] at a
      simp at hp
      rcases hp with rfl | rfl | rfl | rfl | rfl | rfl
      · exact a.1.1.1.1.1
      · exact a.1.1.1.1.2
      · exact a.1.1.1.2
      · exact a.1.1.2
      · exact a.1.2
      · exact a.2
    unfold okN at ok
    rw [Nat.zero_add, ok] at e
    exact e
  | succ d ih =>
    intro i hi
    refine Ev.step (fun k => laws_FnStops.l1.eq_2 _ _ _ _ k) ?_
    refine Ev.pos (by omega) ?_
    have hle : 2 ^ i ≤ 128 := Nat.le_trans (Nat.pow_le_pow_right (n := 2) (by decide) (by omega)) (Nat.pow_le_pow_right (n := 2) (by decide) hn)
    have h5 : wrap64 ((i : Int) + 1) = ((i + 1 : Nat) : Int) := by rw [wr (by omega) (by omega)]; rfl
    have h6 : wrap64 (2 * ((2 ^ i : Nat) : Int)) = ((2 ^ (i + 1) : Nat) : Int) := by rw [two_w _ hle, Nat.pow_succ]
    simp only [h5, h6]
    exact ih (i + 1) (by omega)
theorem at_ok (l : List Int) (j : Nat) (hl : l.length ≤ 1048576) (hj : j ≤ 1) (hw : ∀ x ∈ l, (Lit.int .u8 x).wf = true) : ∃ t, laws_at.f l j = some t ∧ 0 ≤ t ∧ t ≤ 255 := by
  unfold laws_at.f
  by_cases h : (j : Int) < (l.length : Int)
  · rw [if_pos h, if_pos (by omega)]
    have hlt : j < l.length := by omega
    have e : rd l (j : Int) = l[j] := by simp [rd, List.getD, hlt]
    have w := hw l[j] (List.getElem_mem hlt)
    have b : 0 ≤ l[j] ∧ l[j] ≤ 255 := by
      simp [Lit.wf, IntKind.min, IntKind.max, IntKind.bits, IntKind.signed] at w
      omega
    rw [e, wr (by omega) (by omega)]
    exact ⟨_, rfl, b.1, b.2⟩
  · rw [if_neg h, wr (x := (j : Int) * 31) (by omega) (by omega), wr (x := (l.length : Int) * 7) (by omega) (by omega), wr (by omega) (by omega)]
    refine ⟨_, rfl, Int.tmod_nonneg _ (by omega), ?_⟩
    have := Int.tmod_lt_of_pos ((j : Int) * 31 + (l.length : Int) * 7) (show (0 : Int) < 256 by omega)
    omega
theorem l0_ok (l : List Int) (hl : l.length ≤ 1048576) (hw : ∀ x ∈ l, (Lit.int .u8 x).wf = true) : ∀ (d i : Nat) (acc : List S44), i + d = 7 → acc.length = i → Ev (fun k => laws_FnStops.l0 k l acc i) true := by
  intro d
  induction d with
  | zero =>
    intro i acc hi ha
    refine Ev.step (fun k => laws_FnStops.l0.eq_2 _ _ _ k) ?_
    refine Ev.neg (by omega) ?_
    refine Ev.bind (implStops _ _) ?_
    refine Ev.bind (specStops _ _) ?_
    refine Ev.pos rfl ?_
    obtain ⟨t0, e0, a0, b0⟩ := at_ok l 0 hl (by omega) hw
    obtain ⟨t1, e1, a1, b1⟩ := at_ok l 1 hl (by omega) hw
    refine Ev.bnow e0 ?_
    refine Ev.bnow rfl ?_
    refine Ev.bnow e1 ?_
    have c0 := Int.tmod_nonneg 6 a1
    have c1 := Int.tmod_lt_of_pos t1 (show (0 : Int) < 6 by omega)
    have d0 := Int.tmod_nonneg 7 a0
    have d1 := Int.tmod_lt_of_pos t0 (show (0 : Int) < 7 by omega)
    refine Ev.pos c0 ?_
    refine Ev.pos (by simpa using c1) ?_
    rw [wr (x := 1 + Int.tmod t0 7) (by omega) (by omega)]
    obtain ⟨m, hm⟩ := Int.eq_ofNat_of_zero_le (show 0 ≤ 1 + Int.tmod t0 7 by omega)
    rw [hm]
    refine l1_ok m _ (by omega) (by omega) ?_ m 0 (by omega)
    have : (Int.tmod t1 6).toNat < 6 := by omega
    unfold rd
    generalize (Int.tmod t1 6).toNat = q at this
    have : q = 0 ∨ q = 1 ∨ q = 2 ∨ q = 3 ∨ q = 4 ∨ q = 5 := by omega
    rcases this with rfl | rfl | rfl | rfl | rfl | rfl <;> simp
  | succ d ih =>
    intro i acc hi ha
    refine Ev.step (fun k => laws_FnStops.l0.eq_2 _ _ _ k) ?_
    refine Ev.pos (by omega) ?_
    refine Ev.pos (by omega) ?_
    have h5 : wrap64 ((i : Int) + 1) = ((i + 1 : Nat) : Int) := by rw [wr (by omega) (by omega)]; rfl
    simp only [h5]
    exact ih (i + 1) _ (by omega) (by simp [ha])
theorem FnStops : laws_FnStops.Pure := by
  intro l _ _ hw
  refine Ev.rounds (g := fun j => laws_FnStops.f j l) ?_
  unfold laws_FnStops.f
  refine Ev.bnow (big_eq l) ?_
  by_cases hb : (l.length : Int) > 1048576
  · exact Ev.pos (by simpa using hb) (Ev.now _)
  · refine Ev.neg (by simpa using hb) ?_
    exact l0_ok l (by omega) hw 7 0 [] rfl rfl

end Go.Proofs.Ytjdppjkjegdcgaa.Pure
