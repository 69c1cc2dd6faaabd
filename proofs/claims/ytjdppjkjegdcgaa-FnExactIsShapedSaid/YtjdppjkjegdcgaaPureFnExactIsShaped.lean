/- The law FnExactIsShaped returns true at every list of pairs and number: the program's IsShaped answers as the reference's. No condition. -/
import Derived.Test.YtjdppjkjegdcgaaPFnExactIsShapedx4
namespace Go.Proofs.Ytjdppjkjegdcgaa.Pure
open Go.RowKit Go.Proofs.Ytjdppjkjegdcgaa.PFnExactIsShaped Go.Proofs.YtjdppjkjegdcgaaW.PrintWords Go.Proofs.YtjdppjkjegdcgaaW.PrintLast
set_option linter.unusedSimpArgs false
set_option linter.unusedVariables false

theorem wr {x : Int} (h1 : -9223372036854775808 ≤ x) (h2 : x ≤ 9223372036854775807) : wrap64 x = x := by unfold wrap64; omega
theorem Ev.pos {α : Type} {c : Prop} [Decidable c] {g f : Nat → Option α} {r : α} (h : c) (e : Ev g r) : Ev (fun k => if c then g k else f k) r := by
  simp only [if_pos h]; exact e
theorem Ev.neg {α : Type} {c : Prop} [Decidable c] {g f : Nat → Option α} {r : α} (h : ¬ c) (e : Ev f r) : Ev (fun k => if c then g k else f k) r := by
  simp only [if_neg h]; exact e
theorem Ev.some_ {α : Type} {r r' : α} (h : r = r') : Ev (fun _ => some r) r' := h ▸ Ev.now r
theorem Ev.bnow {α β : Type} {g : Option α} {f : Nat → α → Option β} {a : α} {r : β} (h : g = some a) (k : Ev (fun n => f n a) r) : Ev (fun n => g.bind (f n)) r := by
  subst h; exact k

def cv (x : S52) : S44 := ⟨x.f0, x.f1⟩
theorem wnext {i n : Nat} (h : i < n) (hn : n ≤ 9223372036854775807) : wrap64 ((i : Int) + 1) = ((i + 1 : Nat) : Int) := by rw [wr (by omega) (by omega)]; rfl
theorem toPair_l (l : List S52) (hl : l.length ≤ 1048576) : ∀ (d i : Nat) (acc : List S44), i + d = l.length → acc.length = l.length → (∀ j, j < i → acc[j]? = (l.map cv)[j]?) → Ev (fun k => laws_toPairS.l0 k l acc i) (l.map cv) := by
  intro d
  induction d with
  | zero =>
    intro i acc hi ha hj
    refine Ev.step (fun k => laws_toPairS.l0.eq_2 _ _ _ k) ?_
    refine Ev.neg (by omega) (Ev.some_ ?_)
    apply List.ext_getElem?
    intro j
    by_cases h : j < i
    · exact hj j h
    · rw [List.getElem?_eq_none (by omega), List.getElem?_eq_none (by simp; omega)]
  | succ d ih =>
    intro i acc hi ha hj
    refine Ev.step (fun k => laws_toPairS.l0.eq_2 _ _ _ k) ?_
    refine Ev.pos (by omega) ?_
    refine Ev.pos (by omega) ?_
    refine Ev.bnow (by unfold laws_toPair.f; rfl) ?_
    refine Ev.pos (by omega) ?_
    simp only [wnext (show i < l.length by omega) (by omega), Int.toNat_natCast]
    refine ih (i + 1) _ (by omega) (by simp; omega) ?_
    intro j hj2
    by_cases h : j = i
    · subst h
      have hlt : j < l.length := by omega
      rw [List.getElem?_set_self (by omega)]
      simp [rd_T52, cv, hlt, List.getD]
    · rw [List.getElem?_set_ne (by omega)]
      exact hj j (by omega)
theorem toPairs (l : List S52) (hl : l.length ≤ 1048576) : Ev (fun k => laws_toPairS.f k l) (l.map cv) := by
  unfold laws_toPairS.f
  refine Ev.pos (by omega) ?_
  refine Ev.pos (by omega) ?_
  exact toPair_l l hl l.length 0 _ (by omega) (by simp) (by intro j hj; omega)
theorem eqPair_l (l : List S44) (hl : l.length ≤ 1048576) : ∀ (d i : Nat), i + d = l.length → Ev (fun k => laws_eqPairS.l0 k l l i) true := by
  intro d
  induction d with
  | zero =>
    intro i hi
    refine Ev.step (fun k => laws_eqPairS.l0.eq_2 _ _ _ k) ?_
    exact Ev.neg (by omega) (Ev.now _)
  | succ d ih =>
    intro i hi
    refine Ev.step (fun k => laws_eqPairS.l0.eq_2 _ _ _ k) ?_
    refine Ev.pos (by omega) ?_
    refine Ev.pos (by omega) ?_
    refine Ev.pos (by omega) ?_
    refine Ev.bnow (a := true) (by unfold laws_eqPair.f; simp) ?_
    refine Ev.pos rfl ?_
    simp only [wnext (show i < l.length by omega) (by omega)]
    exact ih (i + 1) (by omega)
theorem eqPairs (l : List S44) (hl : l.length ≤ 1048576) : Ev (fun k => laws_eqPairS.f k l l) true := by
  unfold laws_eqPairS.f
  exact Ev.pos rfl (eqPair_l l hl l.length 0 (by omega))
theorem szPairs (l : List S52) (hl : l.length ≤ maxLen) : ∃ t, laws_szPairS.f l 1048576 = some t ∧ (t < 0 ∨ l.length ≤ 1048576) := by
  unfold maxLen at hl
  unfold laws_szPairS.f
  rw [wr (x := 1048576 - (l.length : Int)) (by omega) (by omega)]
  split
  · exact ⟨-1, rfl, .inl (by omega)⟩
  · exact ⟨_, rfl, .inr (by omega)⟩

def winsL (l : List S44) : Nat := (l.filter (fun p => decide (p.f0 < p.f1))).length
def diffL (l : List S44) : Nat := (l.filter (fun p => decide (p.f1 ≠ p.f0))).length
theorem winsL_cons (p : S44) (l : List S44) : winsL (p :: l) = (if p.f0 < p.f1 then 1 else 0) + winsL l := by
  unfold winsL; rw [List.filter_cons]; split <;> simp_all; omega
theorem diffL_cons (p : S44) (l : List S44) : diffL (p :: l) = (if p.f1 = p.f0 then 0 else 1) + diffL l := by
  unfold diffL; rw [List.filter_cons]; split <;> simp_all; omega
theorem winsL_le (l : List S44) : winsL l ≤ l.length := List.length_filter_le _ _
theorem diffL_le (l : List S44) : diffL l ≤ l.length := List.length_filter_le _ _
theorem wins_le_diff (l : List S44) : winsL l ≤ diffL l := by
  induction l with
  | nil => simp [winsL, diffL]
  | cons p l ih => rw [winsL_cons, diffL_cons]; split <;> split <;> omega

theorem wnextw {i n : Nat} (h : i < n) (hn : n ≤ 9223372036854775807) : wrap64 ((i : Int) + 1) = ((i + 1 : Nat) : Int) := by rw [wr (by omega) (by omega)]; rfl
theorem implWins_l (l : List S44) (hl : l.length ≤ 1048576) : ∀ (d i : Nat) (a b : Nat), i + d = l.length → a ≤ i → b ≤ i → Ev (fun k => impl_WinsOf.l0 k a b l l.length i) (((a + winsL (l.drop i) : Nat) : Int), ((b + diffL (l.drop i) : Nat) : Int)) := by
  intro d
  induction d with
  | zero =>
    intro i a b hi ha hb
    refine Ev.step (fun k => impl_WinsOf.l0.eq_2 _ _ _ _ _ k) ?_
    refine Ev.neg (by omega) (Ev.some_ ?_)
    rw [List.drop_eq_nil_of_le (by omega)]; simp [winsL, diffL]
  | succ d ih =>
    intro i a b hi ha hb
    have hlt : i < l.length := by omega
    refine Ev.step (fun k => impl_WinsOf.l0.eq_2 _ _ _ _ _ k) ?_
    refine Ev.pos (by omega) ?_
    refine Ev.pos (by omega) ?_
    refine Ev.pos (by omega) ?_
    have hr : rd_T44 l (i : Int) = l[i] := by simp [rd_T44, hlt, List.getD]
    rw [List.drop_eq_getElem_cons hlt, winsL_cons, diffL_cons]
    simp only [hr, wnextw hlt (by omega), wnextw (show a < 1048577 by omega) (by omega), wnextw (show b < 1048577 by omega) (by omega)]
    by_cases h1 : l[i].f1 > l[i].f0
    · refine Ev.pos h1 ?_
      rw [if_pos h1]
      by_cases h2 : l[i].f1 = l[i].f0
      · omega
      · refine Ev.neg h2 ?_
        rw [if_neg h2]
        have e := ih (i + 1) (a + 1) (b + 1) (by omega) (by omega) (by omega)
        rw [← Nat.add_assoc, ← Nat.add_assoc]
        exact e
    · refine Ev.neg h1 ?_
      rw [if_neg h1]
      by_cases h2 : l[i].f1 = l[i].f0
      · refine Ev.pos h2 ?_
        rw [if_pos h2]
        have e := ih (i + 1) a b (by omega) (by omega) (by omega)
        rw [Nat.zero_add, Nat.zero_add]
        exact e
      · refine Ev.neg h2 ?_
        rw [if_neg h2]
        have e := ih (i + 1) a (b + 1) (by omega) (by omega) (by omega)
        rw [Nat.zero_add, ← Nat.add_assoc]
        exact e
theorem implWins (l : List S44) (hl : l.length ≤ 1048576) : Ev (fun k => impl_WinsOf.f k l) ((winsL l : Int), (diffL l : Int)) := by
  unfold impl_WinsOf.f
  have e := implWins_l l hl l.length 0 0 0 (by omega) (by omega) (by omega)
  simpa using e

theorem wnexts {i n : Nat} (h : i < n) (hn : n ≤ 9223372036854775807) : wrap64 ((i : Int) + 1) = ((i + 1 : Nat) : Int) := by rw [wr (by omega) (by omega)]; rfl
theorem specWins_l (l : List S44) (hl : l.length ≤ 1048576) : ∀ (d i : Nat) (a b : Nat), i + d = l.length → a ≤ i → b ≤ i → Ev (fun k => spec_WinsOf.l0 k l a b i) (((a + winsL (l.drop i) : Nat) : Int), ((b + diffL (l.drop i) : Nat) : Int)) := by
  intro d
  induction d with
  | zero =>
    intro i a b hi ha hb
    refine Ev.step (fun k => spec_WinsOf.l0.eq_2 _ _ _ _ k) ?_
    refine Ev.neg (by omega) (Ev.some_ ?_)
    rw [List.drop_eq_nil_of_le (by omega)]; simp [winsL, diffL]
  | succ d ih =>
    intro i a b hi ha hb
    have hlt : i < l.length := by omega
    refine Ev.step (fun k => spec_WinsOf.l0.eq_2 _ _ _ _ k) ?_
    refine Ev.pos (by omega) ?_
    refine Ev.pos (by omega) ?_
    have hr : rd_T44 l (i : Int) = l[i] := by simp [rd_T44, hlt, List.getD]
    rw [List.drop_eq_getElem_cons hlt, winsL_cons, diffL_cons]
    simp only [hr, wnexts hlt (by omega), wnexts (show a < 1048577 by omega) (by omega), wnexts (show b < 1048577 by omega) (by omega)]
    by_cases h1 : l[i].f1 > l[i].f0
    · refine Ev.pos h1 ?_
      rw [if_pos h1]
      by_cases h2 : l[i].f1 = l[i].f0
      · omega
      · refine Ev.neg h2 ?_
        rw [if_neg h2]
        have e := ih (i + 1) (a + 1) (b + 1) (by omega) (by omega) (by omega)
        rw [← Nat.add_assoc, ← Nat.add_assoc]
        exact e
    · refine Ev.neg h1 ?_
      rw [if_neg h1]
      by_cases h2 : l[i].f1 = l[i].f0
      · refine Ev.pos h2 ?_
        rw [if_pos h2]
        have e := ih (i + 1) a b (by omega) (by omega) (by omega)
        rw [Nat.zero_add, Nat.zero_add]
        exact e
      · refine Ev.neg h2 ?_
        rw [if_neg h2]
        have e := ih (i + 1) a (b + 1) (by omega) (by omega) (by omega)
        rw [Nat.zero_add, ← Nat.add_assoc]
        exact e
theorem specWins (l : List S44) (hl : l.length ≤ 1048576) : Ev (fun k => spec_WinsOf.f k l) ((winsL l : Int), (diffL l : Int)) := by
  unfold spec_WinsOf.f
  have e := specWins_l l hl l.length 0 0 0 (by omega) (by omega) (by omega)
  simpa using e

/-- Pascal's triangle. -/
def C : Nat → Nat → Nat
  | _, 0 => 1
  | 0, _ + 1 => 0
  | n + 1, k + 1 => C n k + C n (k + 1)
def allN (m : Nat) (p : Nat → Bool) : Bool := match m with
  | 0 => true
  | m + 1 => p m && allN m p
theorem allN_get {m : Nat} {p : Nat → Bool} (h : allN m p = true) : ∀ i, i < m → p i = true := by
  induction m with
  | zero => intro i hi; omega
  | succ m ih =>
    simp only [allN, Bool.and_eq_true] at h
    intro i hi
    by_cases e : i = m
    · exact e ▸ h.1
    · exact ih h.2 i (by omega)
/-- The row of Pascal's triangle, quickly. -/
def nextRow : List Nat → List Nat := fun l => List.zipWith (· + ·) (0 :: l) (l ++ [0])

def chI (n k : Int) : Int := if 0 ≤ n ∧ n ≤ 20 ∧ 0 ≤ k ∧ k ≤ n then (C n.toNat k.toNat : Int) else 0

theorem mx0 (k : Int) : mx 0 k = if 0 < k then k else 0 := rfl
/-- The choices from i on, d of them. -/
def sumC (n : Nat) : Nat → Nat → Nat
  | 0, _ => 0
  | d + 1, i => C n i + sumC n d (i + 1)
theorem C_le_all : allN 21 (fun n => allN 22 (fun k => decide (C n k ≤ 1048576))) = true := by decide +kernel
theorem C_le (n k : Nat) (hn : n < 21) (hk : k < 22) : C n k ≤ 1048576 := by
  have e := allN_get (allN_get C_le_all n hn) k hk
  simpa using e
theorem sumC_le (n : Nat) (hn : n < 21) : ∀ d i, i + d ≤ 22 → sumC n d i ≤ d * 1048576 := by
  intro d
  induction d with
  | zero => intro i _; simp [sumC]
  | succ d ih =>
    intro i hi
    have h1 := C_le n i hn (by omega)
    have h2 := ih (i + 1) (by omega)
    simp only [sumC]
    omega
/-- The tail of a coin's n throws: at least k heads. -/
def tlI (n k : Int) : Int := if 0 ≤ n ∧ n ≤ 20 then (sumC n.toNat (n.toNat + 1 - (mx 0 k).toNat) (mx 0 k).toNat : Int) else 0

theorem tlI_nn (n k : Int) : 0 ≤ tlI n k := by unfold tlI; split <;> omega
theorem tlI_le (n k : Int) : tlI n k ≤ 23068672 := by
  unfold tlI
  split
  · have h3 : 0 ≤ mx 0 k := by rw [mx0]; split <;> omega
    by_cases h : (mx 0 k).toNat ≤ n.toNat + 1
    · have e := sumC_le n.toNat (by omega) (n.toNat + 1 - (mx 0 k).toNat) (mx 0 k).toNat (by omega)
      have e2 : (n.toNat + 1 - (mx 0 k).toNat) * 1048576 ≤ 22 * 1048576 := Nat.mul_le_mul_right _ (by omega)
      omega
    · have h4 : n.toNat + 1 - (mx 0 k).toNat = 0 := by omega
      rw [h4]; simp [sumC]
  · omega
/-- Two to the n. -/
def P2 (n : Int) : Int := 2 ^ n.toNat
theorem P2_le_all : allN 21 (fun n => decide ((2 : Nat) ^ n ≤ 1048576)) = true := by decide +kernel
theorem P2_le (n : Int) (h : 0 ≤ n) (h2 : n ≤ 20) : 1 ≤ P2 n ∧ P2 n ≤ 1048576 := by
  have e := allN_get P2_le_all n.toNat (by omega)
  simp only [decide_eq_true_eq] at e
  have h1 : (1 : Nat) ≤ 2 ^ n.toNat := Nat.one_le_two_pow
  have h3 : P2 n = ((2 ^ n.toNat : Nat) : Int) := by unfold P2; simp
  omega
def rareI (n k p : Int) : Bool := decide (1 ≤ n ∧ n ≤ 20 ∧ 0 ≤ p ∧ p ≤ 100 ∧ 0 ≤ k ∧ k ≤ n ∧ 100 * tlI n k ≤ p * P2 n)
theorem mulp_le {p x : Int} (h0 : 0 ≤ p) (h1 : p ≤ 100) (h2 : 0 ≤ x) (h3 : x ≤ 1048576) : 0 ≤ p * x ∧ p * x ≤ 104857600 := by
  refine ⟨Int.mul_nonneg h0 h2, ?_⟩
  have a := Int.mul_le_mul_of_nonneg_right h1 h2
  have b := Int.mul_le_mul_of_nonneg_left h3 (show (0 : Int) ≤ 100 by omega)
  omega

theorem implIn (a l h : Int) : impl_InRange.f a l h = some (decide (l ≤ a ∧ a ≤ h)) := by
  unfold impl_InRange.f
  by_cases h1 : l ≤ a <;> simp [h1]

def okImplC (n k : Nat) : Bool := decide (impl_ChooseOf.f 25 n k = some (C n k : Int))
theorem implC_all : allN 21 (fun n => allN (n + 1) (fun k => okImplC n k)) = true := by decide +kernel
theorem implC (n k : Int) : Ev (fun j => impl_ChooseOf.f j n k) (chI n k) := by
  by_cases h : 0 ≤ n ∧ n ≤ 20 ∧ 0 ≤ k ∧ k ≤ n
  · obtain ⟨a, rfl⟩ := Int.eq_ofNat_of_zero_le h.1
    obtain ⟨b, rfl⟩ := Int.eq_ofNat_of_zero_le h.2.2.1
    have e := allN_get (allN_get implC_all a (by omega)) b (by omega)
    simp only [okImplC, decide_eq_true_eq] at e
    unfold chI
    rw [if_pos h]
    exact Ev.of (fun k => impl_ChooseOf.mono _ _ k) e
  · unfold chI
    rw [if_neg h]
    unfold impl_ChooseOf.f
    simp only [implIn, Option.bind_some]
    by_cases h1 : 0 ≤ n ∧ n ≤ 20
    · have h2 : ¬ (0 ≤ k ∧ k ≤ n) := by omega
      refine ⟨1, fun j hj => ?_⟩
      obtain ⟨j, rfl⟩ : ∃ m, j = m + 1 := ⟨j - 1, by omega⟩
      simp [h1, h2, impl_ChooseOf.j0]
    · refine ⟨1, fun j hj => ?_⟩
      obtain ⟨j, rfl⟩ : ∃ m, j = m + 1 := ⟨j - 1, by omega⟩
      simp [h1, impl_ChooseOf.j0]

theorem implT_l (n : Nat) (hn : n < 21) : ∀ (d i : Nat) (s : Int), i + d = n + 1 → 0 ≤ s → s ≤ i * 1048576 → Ev (fun j => impl_TailOf.l0 j n s i) (s + sumC n d i) := by
  intro d
  induction d with
  | zero =>
    intro i s hi _ _
    refine Ev.step (fun k => impl_TailOf.l0.eq_2 _ _ _ k) ?_
    exact Ev.neg (by omega) (Ev.some_ (by simp [sumC]))
  | succ d ih =>
    intro i s hi h0 h1
    refine Ev.step (fun k => impl_TailOf.l0.eq_2 _ _ _ k) ?_
    refine Ev.pos (by omega) ?_
    refine Ev.bind (implC n i) ?_
    have hc : chI n i = C n i := by unfold chI; rw [if_pos (by omega)]; rfl
    have hb := C_le n i hn (by omega)
    have hw1 : wrap64 (s + chI n i) = s + (C n i : Nat) := by rw [hc]; exact wr (by omega) (by omega)
    have hw2 : wrap64 ((i : Int) + 1) = ((i + 1 : Nat) : Int) := by rw [wr (by omega) (by omega)]; rfl
    simp only [hw1, hw2]
    have e := ih (i + 1) (s + (C n i : Nat)) (by omega) (by omega) (by omega)
    simp only [sumC]
    have e2 : s + (((C n i + sumC n d (i + 1) : Nat)) : Int) = s + (C n i : Nat) + (sumC n d (i + 1) : Nat) := by omega
    rw [e2]
    exact e
theorem implT (n k : Int) : Ev (fun j => impl_TailOf.f j n k) (tlI n k) := by
  unfold impl_TailOf.f tlI
  simp only [implIn, Option.bind_some, decide_eq_true_eq]
  by_cases h : 0 ≤ n ∧ n ≤ 20
  · rw [if_pos h]
    refine Ev.pos h ?_
    obtain ⟨a, rfl⟩ := Int.eq_ofNat_of_zero_le h.1
    by_cases h2 : mx 0 k ≤ a
    · have h3 : 0 ≤ mx 0 k := by rw [mx0]; split <;> omega
      obtain ⟨i, hi⟩ := Int.eq_ofNat_of_zero_le h3
      rw [hi] at h2 ⊢
      have e := implT_l a (by omega) (a + 1 - i) i 0 (by omega) (by omega) (by omega)
      simpa using e
    · have h3 : a + 1 - (mx 0 k).toNat = 0 := by omega
      simp only [Int.ofNat_eq_natCast, Int.toNat_natCast, h3, sumC]
      refine Ev.step (fun k => impl_TailOf.l0.eq_2 _ _ _ k) ?_
      exact Ev.neg h2 (Ev.some_ rfl)
  · rw [if_neg h]
    exact Ev.neg h (Ev.now _)

theorem implRare (n k p : Int) : Ev (fun j => impl_IsRare.f j n k p) (rareI n k p) := by
  unfold impl_IsRare.f rareI
  simp only [implIn, Option.bind_some, decide_eq_true_eq]
  by_cases h1 : 1 ≤ n ∧ n ≤ 20
  · refine Ev.pos h1 ?_
    by_cases h2 : 0 ≤ p ∧ p ≤ 100
    · refine Ev.pos h2 ?_
      by_cases h3 : 0 ≤ k ∧ k ≤ n
      · refine Ev.pos h3 ?_
        refine Ev.bind (implT n k) ?_
        refine Ev.pos (by omega) ?_
        have a0 := tlI_nn n k
        have a1 := tlI_le n k
        have b := P2_le n (by omega) h1.2
        have c := mulp_le h2.1 h2.2 (show 0 ≤ P2 n by omega) b.2
        have e1 : shl .i64 p n = p * P2 n := by
          have hm : min n.toNat IntKind.i64.bits = n.toNat := by
            show min n.toNat 64 = n.toNat
            omega
          unfold shl
          rw [hm, i64_w]
          exact wr (by show _ ≤ p * P2 n; omega) (by show p * P2 n ≤ _; omega)
        simp only [e1, wr (x := 100 * tlI n k) (by omega) (by omega)]
        exact Ev.some_ (by simp [h1, h2, h3])
      · exact Ev.neg h3 (Ev.some_ (by simp; omega))
    · exact Ev.neg h2 (Ev.some_ (by simp; omega))
  · exact Ev.neg h1 (Ev.some_ (by simp; omega))

theorem specIn (a l h : Int) : spec_l1In.f a l h = some (decide (l ≤ a ∧ a ≤ h)) := by
  unfold spec_l1In.f
  by_cases h1 : l ≤ a <;> simp [h1]

def okSpecC (n k : Nat) : Bool := decide (spec_ChooseOf.f 25 n k = some (C n k : Int))
theorem specC_all : allN 21 (fun n => allN (n + 1) (fun k => okSpecC n k)) = true := by decide +kernel
theorem specC (n k : Int) : Ev (fun j => spec_ChooseOf.f j n k) (chI n k) := by
  by_cases h : 0 ≤ n ∧ n ≤ 20 ∧ 0 ≤ k ∧ k ≤ n
  · obtain ⟨a, rfl⟩ := Int.eq_ofNat_of_zero_le h.1
    obtain ⟨b, rfl⟩ := Int.eq_ofNat_of_zero_le h.2.2.1
    have e := allN_get (allN_get specC_all a (by omega)) b (by omega)
    simp only [okSpecC, decide_eq_true_eq] at e
    unfold chI
    rw [if_pos h]
    exact Ev.of (fun k => spec_ChooseOf.mono _ _ k) e
  · unfold chI
    rw [if_neg h]
    unfold spec_ChooseOf.f
    simp only [specIn, Option.bind_some]
    by_cases h1 : 0 ≤ n ∧ n ≤ 20
    · have h2 : ¬ (0 ≤ k ∧ k ≤ n) := by omega
      refine ⟨1, fun j hj => ?_⟩
      obtain ⟨j, rfl⟩ : ∃ m, j = m + 1 := ⟨j - 1, by omega⟩
      simp [h1, h2, spec_ChooseOf.j0]
    · refine ⟨1, fun j hj => ?_⟩
      obtain ⟨j, rfl⟩ : ∃ m, j = m + 1 := ⟨j - 1, by omega⟩
      simp [h1, spec_ChooseOf.j0]

theorem specT_l (n : Nat) (hn : n < 21) : ∀ (d i : Nat) (s : Int), i + d = n + 1 → 0 ≤ s → s ≤ i * 1048576 → Ev (fun j => spec_TailOf.l0 j n s i) (s + sumC n d i) := by
  intro d
  induction d with
  | zero =>
    intro i s hi _ _
    refine Ev.step (fun k => spec_TailOf.l0.eq_2 _ _ _ k) ?_
    exact Ev.neg (by omega) (Ev.some_ (by simp [sumC]))
  | succ d ih =>
    intro i s hi h0 h1
    refine Ev.step (fun k => spec_TailOf.l0.eq_2 _ _ _ k) ?_
    refine Ev.pos (by omega) ?_
    refine Ev.bind (specC n i) ?_
    have hc : chI n i = C n i := by unfold chI; rw [if_pos (by omega)]; rfl
    have hb := C_le n i hn (by omega)
    have hw1 : wrap64 (s + chI n i) = s + (C n i : Nat) := by rw [hc]; exact wr (by omega) (by omega)
    have hw2 : wrap64 ((i : Int) + 1) = ((i + 1 : Nat) : Int) := by rw [wr (by omega) (by omega)]; rfl
    simp only [hw1, hw2]
    have e := ih (i + 1) (s + (C n i : Nat)) (by omega) (by omega) (by omega)
    simp only [sumC]
    have e2 : s + (((C n i + sumC n d (i + 1) : Nat)) : Int) = s + (C n i : Nat) + (sumC n d (i + 1) : Nat) := by omega
    rw [e2]
    exact e
theorem specMax (a b : Int) : spec_Max.f a b = some (mx a b) := by
  unfold spec_Max.f mx
  repeat' split
  all_goals first | rfl | (congr 1; omega)
theorem specT (n k : Int) : Ev (fun j => spec_TailOf.f j n k) (tlI n k) := by
  unfold spec_TailOf.f tlI
  simp only [specIn, specMax, Option.bind_some, decide_eq_true_eq]
  by_cases h : 0 ≤ n ∧ n ≤ 20
  · rw [if_pos h]
    refine Ev.pos h ?_
    obtain ⟨a, rfl⟩ := Int.eq_ofNat_of_zero_le h.1
    by_cases h2 : mx 0 k ≤ a
    · have h3 : 0 ≤ mx 0 k := by rw [mx0]; split <;> omega
      obtain ⟨i, hi⟩ := Int.eq_ofNat_of_zero_le h3
      rw [hi] at h2 ⊢
      have e := specT_l a (by omega) (a + 1 - i) i 0 (by omega) (by omega) (by omega)
      simpa using e
    · have h3 : a + 1 - (mx 0 k).toNat = 0 := by omega
      simp only [Int.ofNat_eq_natCast, Int.toNat_natCast, h3, sumC]
      refine Ev.step (fun k => spec_TailOf.l0.eq_2 _ _ _ k) ?_
      exact Ev.neg h2 (Ev.some_ rfl)
  · rw [if_neg h]
    exact Ev.neg h (Ev.now _)

theorem specPow_l (n : Nat) (hn : n ≤ 20) : ∀ (d i : Nat) (s : Int), i + d = n → s = 2 ^ i → Ev (fun j => spec_l19Power.l0 j n s i) (2 ^ n) := by
  intro d
  induction d with
  | zero =>
    intro i s hi hs
    refine Ev.step (fun k => spec_l19Power.l0.eq_2 _ _ _ k) ?_
    exact Ev.neg (by omega) (Ev.some_ (by rw [hs, show i = n by omega]))
  | succ d ih =>
    intro i s hi hs
    refine Ev.step (fun k => spec_l19Power.l0.eq_2 _ _ _ k) ?_
    refine Ev.pos (by omega) ?_
    have b := P2_le i (by omega) (by omega)
    have hb : P2 i = 2 ^ i := by unfold P2; simp
    have hw : wrap64 (2 * s) = 2 ^ (i + 1) := by
      rw [wr (by omega) (by omega), hs, Int.pow_succ]; omega
    have hw2 : wrap64 ((i : Int) + 1) = ((i + 1 : Nat) : Int) := by rw [wr (by omega) (by omega)]; rfl
    simp only [hw, hw2]
    exact ih (i + 1) _ (by omega) rfl
theorem specPow (n : Int) (h0 : 0 ≤ n) (h1 : n ≤ 20) : Ev (fun j => spec_l19Power.f j n) (P2 n) := by
  obtain ⟨a, rfl⟩ := Int.eq_ofNat_of_zero_le h0
  have e := specPow_l a (by omega) a 0 1 (by omega) rfl
  unfold spec_l19Power.f P2
  simpa using e
theorem specRare (n k p : Int) : Ev (fun j => spec_IsRare.f j n k p) (rareI n k p) := by
  unfold spec_IsRare.f rareI
  simp only [specIn, Option.bind_some, decide_eq_true_eq]
  by_cases h1 : 1 ≤ n ∧ n ≤ 20
  · refine Ev.pos h1 ?_
    by_cases h2 : 0 ≤ p ∧ p ≤ 100
    · refine Ev.pos h2 ?_
      by_cases h3 : 0 ≤ k ∧ k ≤ n
      · refine Ev.pos h3 ?_
        refine Ev.bind (specT n k) ?_
        refine Ev.bind (specPow n (by omega) h1.2) ?_
        have a0 := tlI_nn n k
        have a1 := tlI_le n k
        have b := P2_le n (by omega) h1.2
        have c := mulp_le h2.1 h2.2 (show 0 ≤ P2 n by omega) b.2
        simp only [wr (x := p * P2 n) (by omega) (by omega), wr (x := 100 * tlI n k) (by omega) (by omega)]
        exact Ev.some_ (by simp [h1, h2, h3])
      · exact Ev.neg h3 (Ev.some_ (by simp; omega))
    · exact Ev.neg h2 (Ev.some_ (by simp; omega))
  · exact Ev.neg h1 (Ev.some_ (by simp; omega))

theorem FnExactIsShaped : ∀ (l0 : List S52) (a1 : Int), (l0.length ≤ maxLen ∧ ∀ x_ ∈ l0, ((Lit.int .i64 x_.f0).wf = true ∧ (Lit.int .i64 x_.f1).wf = true)) → (Lit.int .i64 a1).wf = true → ∃ k, laws_FnExactIsShaped.f k l0 a1 = some true := by
  intro l p ⟨hl, _⟩ _
  refine Ev.rounds (g := fun j => laws_FnExactIsShaped.f j l p) ?_
  unfold laws_FnExactIsShaped.f
  obtain ⟨t, ht, h⟩ := szPairs l hl
  refine Ev.bnow ht ?_
  by_cases h0 : t < 0
  · exact Ev.pos h0 (Ev.now _)
  · have hl2 : l.length ≤ 1048576 := by omega
    have hl3 : (l.map cv).length ≤ 1048576 := by simpa using hl2
    refine Ev.neg h0 ?_
    have eS : ∃ b, Ev (fun k => spec_IsShaped.f k (l.map cv) p) b ∧ Ev (fun k => impl_IsShaped.f k (l.map cv) p) b := by
      unfold spec_IsShaped.f impl_IsShaped.f
      by_cases h20 : ((l.map cv).length : Int) ≤ 20
      · refine ⟨rareI (diffL (l.map cv)) (winsL (l.map cv)) p, ?_, ?_⟩
        · refine Ev.bind (specWins _ hl3) (Ev.pos h20 ?_)
          exact Ev.bind (specRare _ _ _) (Ev.now _)
        · refine Ev.bind (implWins _ hl3) (Ev.pos h20 ?_)
          exact Ev.bind (implRare _ _ _) (Ev.now _)
      · refine ⟨false, ?_, ?_⟩
        · exact Ev.bind (specWins _ hl3) (Ev.neg h20 (Ev.now _))
        · exact Ev.bind (implWins _ hl3) (Ev.neg h20 (Ev.now _))
    obtain ⟨b, e1, e2⟩ := eS
    refine Ev.bind (toPairs l hl2) ?_
    refine Ev.bind e1 ?_
    refine Ev.bind (toPairs l hl2) ?_
    refine Ev.bind e2 ?_
    refine Ev.neg (by simp) ?_
    refine Ev.bind (toPairs l hl2) ?_
    refine Ev.bind (eqPairs _ hl3) ?_
    exact Ev.pos rfl (Ev.now _)

end Go.Proofs.Ytjdppjkjegdcgaa.Pure
