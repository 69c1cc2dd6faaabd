/- The law FnChances returns true at every list of bytes: tails are sums of choices, and more heads are never less rare. No condition. -/
import Derived.Test.YtjdppjkjegdcgaaHFnChancesx4
namespace Go.Proofs.Ytjdppjkjegdcgaa.Pure
open Go.RowKit Go.Proofs.Ytjdppjkjegdcgaa.PFnChances Go.Proofs.YtjdppjkjegdcgaaW.PrintWords Go.Proofs.YtjdppjkjegdcgaaW.PrintLast
set_option linter.unusedSimpArgs false
set_option linter.unusedVariables false

theorem wr {x : Int} (h1 : -9223372036854775808 ≤ x) (h2 : x ≤ 9223372036854775807) : wrap64 x = x := by unfold wrap64; omega
theorem Ev.pos {α : Type} {c : Prop} [Decidable c] {g f : Nat → Option α} {r : α} (h : c) (e : Ev g r) : Ev (fun k => if c then g k else f k) r := by
  simp only [if_pos h]; exact e
theorem Ev.neg {α : Type} {c : Prop} [Decidable c] {g f : Nat → Option α} {r : α} (h : ¬ c) (e : Ev f r) : Ev (fun k => if c then g k else f k) r := by
  simp only [if_neg h]; exact e
theorem Ev.some_ {α : Type} {r r' : α} (h : r = r') : Ev (fun _ => some r) r' := h ▸ Ev.now r
theorem Ev.bnow {α β : Type} {g : Option α} {f : Nat → α → Option β} {a : α} {r : β} (h : g = some a) (k : Ev (fun n => f n a) r) : Ev (fun n => g.bind (f n)) r := by
  subst h; exact k

theorem and_le (x : Int) (m : Nat) (hm : m < 4611686018427387904) : 0 ≤ Go.bits .and .i64 x m ∧ Go.bits .and .i64 x m ≤ m := by
  simp only [Go.bits, BitVec.toNat_and, BitVec.ofInt_natCast, BitVec.toNat_ofNat]
  have h1 : (BitVec.ofInt IntKind.i64.bits x).toNat &&& m % 2 ^ IntKind.i64.bits ≤ m % 2 ^ IntKind.i64.bits := Nat.and_le_right
  have h2 : m % 2 ^ IntKind.i64.bits = m := Nat.mod_eq_of_lt (by show m < 2 ^ 64; omega)
  rw [h2] at h1 ⊢
  rw [i64_w, wr (by omega) (by omega)]
  omega
theorem new_l (l : List Int) (hl : l.length ≤ 1048576) : ∀ (d i : Nat) (h : Int), l.length - i ≤ d → i ≤ l.length → ∃ h', Ev (fun k => spec_l1New.l0 k l h i) (l, 0, h') := by
  intro d
  induction d with
  | zero =>
    intro i h hi hi2
    refine ⟨h, Ev.step (fun k => spec_l1New.l0.eq_2 _ _ _ k) ?_⟩
    exact Ev.neg (by omega) (Ev.now _)
  | succ d ih =>
    intro i h hi hi2
    by_cases h1 : (i : Int) < (l.length : Int)
    · by_cases h2 : (i : Int) < 4000
      · obtain ⟨h', e⟩ := ih (i + 1) (Go.bits .and .i64 (wrap64 ((wrap64 ((wrap64 (h * 137)) + (wrap64 (rd l i)))) + 11)) 1073741823) (by omega) (by omega)
        refine ⟨h', Ev.step (fun k => spec_l1New.l0.eq_2 _ _ _ k) (Ev.pos h1 (Ev.pos h2 (Ev.pos (by omega) ?_)))⟩
        rw [wr (x := (i : Int) + 1) (by omega) (by omega)]
        exact e
      · exact ⟨h, Ev.step (fun k => spec_l1New.l0.eq_2 _ _ _ k) (Ev.pos h1 (Ev.neg h2 (Ev.now _)))⟩
    · exact ⟨h, Ev.step (fun k => spec_l1New.l0.eq_2 _ _ _ k) (Ev.neg h1 (Ev.now _))⟩
theorem new_ok (l : List Int) (hl : l.length ≤ 1048576) : ∃ h, Ev (fun k => spec_l1New.f k l) (l, 0, h) := by
  unfold spec_l1New.f
  exact new_l l hl l.length 0 _ (by omega) (by omega)
/-- The cursor stands in the bytes. -/
def Cur (b : List Int) (i : Int) : Prop := 0 ≤ i ∧ i ≤ b.length ∧ b.length ≤ 1048576
theorem byte_ok (b : List Int) (i h : Int) (hc : Cur b i) : ∃ x i' h', spec_l1Byte.f b i h = some (x, i', h') ∧ 0 ≤ x ∧ x ≤ 255 ∧ Cur b i' := by
  obtain ⟨h0, h1, h2⟩ := hc
  unfold spec_l1Byte.f
  by_cases hi : i < (b.length : Int)
  · rw [if_pos hi, if_pos h0, wr (x := i + 1) (by omega) (by omega)]
    have a := and_le (wrap64 ((Go.bits .and .i64 (Go.bits .xor .i64 ((wrap64 ((wrap64 (h * 6364136223846793005)) + 1442695040888963407)) / 8589934592) ((wrap64 ((wrap64 (h * 6364136223846793005)) + 1442695040888963407)) / 140737488355328)) 255) + (wrap64 (rd b i)))) 255 (by decide)
    exact ⟨_, _, _, rfl, a.1, a.2, by omega, by omega, h2⟩
  · rw [if_neg hi]
    have a := and_le (Go.bits .xor .i64 ((wrap64 ((wrap64 (h * 6364136223846793005)) + 1442695040888963407)) / 8589934592) ((wrap64 ((wrap64 (h * 6364136223846793005)) + 1442695040888963407)) / 140737488355328)) 255 (by decide)
    exact ⟨_, _, _, rfl, a.1, a.2, h0, h1, h2⟩
theorem below_ok (b : List Int) (i h a : Int) (hc : Cur b i) (ha : 0 < a) (ha2 : a ≤ 256) : ∃ x i' h', spec_l1Below.f b i h a = some (x, i', h') ∧ 0 ≤ x ∧ x < a ∧ Cur b i' := by
  obtain ⟨x, i', h', e, h0, h1, hc'⟩ := byte_ok b i h hc
  refine ⟨Int.tmod x a, i', h', ?_, Int.tmod_nonneg _ h0, Int.tmod_lt_of_pos _ ha, hc'⟩
  unfold spec_l1Below.f
  rw [if_neg (by omega), if_pos ha2, e]
  simp only [Option.bind_some]
  rw [if_neg (by omega)]

theorem int_ok (b : List Int) (i h : Int) (l : List Int) (hc : Cur b i) (hl : 0 < l.length) (hl2 : l.length ≤ 256) : ∃ x i' h', spec_l1Int.f b i h l = some (x, i', h') ∧ x ∈ l ∧ Cur b i' := by
  obtain ⟨x, i', h', e, h0, h1, hc'⟩ := below_ok b i h l.length hc (by omega) (by omega)
  refine ⟨rd l x, i', h', ?_, ?_, hc'⟩
  · unfold spec_l1Int.f
    rw [e]
    simp only [Option.bind_some]
    rw [if_pos h0, if_pos h1]
  · unfold rd
    have hlt : x.toNat < l.length := by omega
    simp [List.getD, hlt]

theorem big_eq (l : List Int) : laws_big.f l = some (decide ((l.length : Int) > 1048576)) := rfl

/-- Pascal's triangle. -/
def C : Nat → Nat → Nat
  | _, 0 => 1
  | 0, _ + 1 => 0
  | n + 1, k + 1 => C n k + C n (k + 1)
def allN (m : Nat) (p : Nat → Bool) : Bool := match m with
  | 0 => true
  | m + 1 => p m && allN m p
theorem allN_get {m : Nat} {p : Nat → Bool} (h : allN m p = true) : ∀ i, i < m → p i = true := by
  induction m with
  | zero => intro i hi; omega
  | succ m ih =>
    simp only [allN, Bool.and_eq_true] at h
    intro i hi
    by_cases e : i = m
    · exact e ▸ h.1
    · exact ih h.2 i (by omega)
/-- The row of Pascal's triangle, quickly. -/
def nextRow : List Nat → List Nat := fun l => List.zipWith (· + ·) (0 :: l) (l ++ [0])

def chI (n k : Int) : Int := if 0 ≤ n ∧ n ≤ 20 ∧ 0 ≤ k ∧ k ≤ n then (C n.toNat k.toNat : Int) else 0

theorem mx0 (k : Int) : mx 0 k = if 0 < k then k else 0 := rfl
/-- The choices from i on, d of them. -/
def sumC (n : Nat) : Nat → Nat → Nat
  | 0, _ => 0
  | d + 1, i => C n i + sumC n d (i + 1)
theorem C_le_all : allN 21 (fun n => allN 22 (fun k => decide (C n k ≤ 1048576))) = true := by decide +kernel
theorem C_le (n k : Nat) (hn : n < 21) (hk : k < 22) : C n k ≤ 1048576 := by
  have e := allN_get (allN_get C_le_all n hn) k hk
  simpa using e
theorem sumC_le (n : Nat) (hn : n < 21) : ∀ d i, i + d ≤ 22 → sumC n d i ≤ d * 1048576 := by
  intro d
  induction d with
  | zero => intro i _; simp [sumC]
  | succ d ih =>
    intro i hi
    have h1 := C_le n i hn (by omega)
    have h2 := ih (i + 1) (by omega)
    simp only [sumC]
    omega
/-- The tail of a coin's n throws: at least k heads. -/
def tlI (n k : Int) : Int := if 0 ≤ n ∧ n ≤ 20 then (sumC n.toNat (n.toNat + 1 - (mx 0 k).toNat) (mx 0 k).toNat : Int) else 0

theorem tlI_nn (n k : Int) : 0 ≤ tlI n k := by unfold tlI; split <;> omega
theorem tlI_le (n k : Int) : tlI n k ≤ 23068672 := by
  unfold tlI
  split
  · have h3 : 0 ≤ mx 0 k := by rw [mx0]; split <;> omega
    by_cases h : (mx 0 k).toNat ≤ n.toNat + 1
    · have e := sumC_le n.toNat (by omega) (n.toNat + 1 - (mx 0 k).toNat) (mx 0 k).toNat (by omega)
      have e2 : (n.toNat + 1 - (mx 0 k).toNat) * 1048576 ≤ 22 * 1048576 := Nat.mul_le_mul_right _ (by omega)
      omega
    · have h4 : n.toNat + 1 - (mx 0 k).toNat = 0 := by omega
      rw [h4]; simp [sumC]
  · omega
/-- Two to the n. -/
def P2 (n : Int) : Int := 2 ^ n.toNat
theorem P2_le_all : allN 21 (fun n => decide ((2 : Nat) ^ n ≤ 1048576)) = true := by decide +kernel
theorem P2_le (n : Int) (h : 0 ≤ n) (h2 : n ≤ 20) : 1 ≤ P2 n ∧ P2 n ≤ 1048576 := by
  have e := allN_get P2_le_all n.toNat (by omega)
  simp only [decide_eq_true_eq] at e
  have h1 : (1 : Nat) ≤ 2 ^ n.toNat := Nat.one_le_two_pow
  have h3 : P2 n = ((2 ^ n.toNat : Nat) : Int) := by unfold P2; simp
  omega
def rareI (n k p : Int) : Bool := decide (1 ≤ n ∧ n ≤ 20 ∧ 0 ≤ p ∧ p ≤ 100 ∧ 0 ≤ k ∧ k ≤ n ∧ 100 * tlI n k ≤ p * P2 n)
theorem mulp_le {p x : Int} (h0 : 0 ≤ p) (h1 : p ≤ 100) (h2 : 0 ≤ x) (h3 : x ≤ 1048576) : 0 ≤ p * x ∧ p * x ≤ 104857600 := by
  refine ⟨Int.mul_nonneg h0 h2, ?_⟩
  have a := Int.mul_le_mul_of_nonneg_right h1 h2
  have b := Int.mul_le_mul_of_nonneg_left h3 (show (0 : Int) ≤ 100 by omega)
  omega

/-- The least number of heads that is rare, from i on; d numbers are left. -/
def lrf : Nat → Int → Int → Int → Int
  | 0, _, _, _ => -1
  | d + 1, n, p, i => if rareI n i p = true then i else lrf d n p (i + 1)
def leastI (n p : Int) : Int := if 1 ≤ n ∧ n ≤ 20 then lrf (n.toNat + 1) n p 0 else -1

theorem lrf_or (n p : Int) : ∀ (d : Nat) (i : Int), 0 ≤ i → lrf d n p i = -1 ∨ 0 ≤ lrf d n p i := by
  intro d
  induction d with
  | zero => intro i _; exact .inl rfl
  | succ d ih =>
    intro i h0
    unfold lrf
    split
    · exact .inr h0
    · exact ih (i + 1) (by omega)
theorem leastI_or (n p : Int) : leastI n p = -1 ∨ 0 ≤ leastI n p := by
  unfold leastI
  split
  · exact lrf_or n p _ 0 (by omega)
  · exact .inl rfl
def pnf : Nat → Int → Int → Int
  | 0, _, _ => -1
  | d + 1, p, i => if 0 ≤ leastI i p then i else pnf d p (i + 1)
def pnI (p : Int) : Int := pnf 20 p 1

theorem implIn (a l h : Int) : impl_InRange.f a l h = some (decide (l ≤ a ∧ a ≤ h)) := by
  unfold impl_InRange.f
  by_cases h1 : l ≤ a <;> simp [h1]

def okImplC (n k : Nat) : Bool := decide (impl_ChooseOf.f 25 n k = some (C n k : Int))
theorem implC_all : allN 21 (fun n => allN (n + 1) (fun k => okImplC n k)) = true := by decide +kernel
theorem implC (n k : Int) : Ev (fun j => impl_ChooseOf.f j n k) (chI n k) := by
  by_cases h : 0 ≤ n ∧ n ≤ 20 ∧ 0 ≤ k ∧ k ≤ n
  · obtain ⟨a, rfl⟩ := Int.eq_ofNat_of_zero_le h.1
    obtain ⟨b, rfl⟩ := Int.eq_ofNat_of_zero_le h.2.2.1
    have e := allN_get (allN_get implC_all a (by omega)) b (by omega)
    simp only [okImplC, decide_eq_true_eq] at e
    unfold chI
    rw [if_pos h]
    exact Ev.of (fun k => impl_ChooseOf.mono _ _ k) e
  · unfold chI
    rw [if_neg h]
    unfold impl_ChooseOf.f
    simp only [implIn, Option.bind_some]
    by_cases h1 : 0 ≤ n ∧ n ≤ 20
    · have h2 : ¬ (0 ≤ k ∧ k ≤ n) := by omega
      refine ⟨1, fun j hj => ?_⟩
      obtain ⟨j, rfl⟩ : ∃ m, j = m + 1 := ⟨j - 1, by omega⟩
      simp [h1, h2, impl_ChooseOf.j0]
    · refine ⟨1, fun j hj => ?_⟩
      obtain ⟨j, rfl⟩ : ∃ m, j = m + 1 := ⟨j - 1, by omega⟩
      simp [h1, impl_ChooseOf.j0]

theorem implT_l (n : Nat) (hn : n < 21) : ∀ (d i : Nat) (s : Int), i + d = n + 1 → 0 ≤ s → s ≤ i * 1048576 → Ev (fun j => impl_TailOf.l0 j n s i) (s + sumC n d i) := by
  intro d
  induction d with
  | zero =>
    intro i s hi _ _
    refine Ev.step (fun k => impl_TailOf.l0.eq_2 _ _ _ k) ?_
    exact Ev.neg (by omega) (Ev.some_ (by simp [sumC]))
  | succ d ih =>
    intro i s hi h0 h1
    refine Ev.step (fun k => impl_TailOf.l0.eq_2 _ _ _ k) ?_
    refine Ev.pos (by omega) ?_
    refine Ev.bind (implC n i) ?_
    have hc : chI n i = C n i := by unfold chI; rw [if_pos (by omega)]; rfl
    have hb := C_le n i hn (by omega)
    have hw1 : wrap64 (s + chI n i) = s + (C n i : Nat) := by rw [hc]; exact wr (by omega) (by omega)
    have hw2 : wrap64 ((i : Int) + 1) = ((i + 1 : Nat) : Int) := by rw [wr (by omega) (by omega)]; rfl
    simp only [hw1, hw2]
    have e := ih (i + 1) (s + (C n i : Nat)) (by omega) (by omega) (by omega)
    simp only [sumC]
    have e2 : s + (((C n i + sumC n d (i + 1) : Nat)) : Int) = s + (C n i : Nat) + (sumC n d (i + 1) : Nat) := by omega
    rw [e2]
    exact e
theorem implT (n k : Int) : Ev (fun j => impl_TailOf.f j n k) (tlI n k) := by
  unfold impl_TailOf.f tlI
  simp only [implIn, Option.bind_some, decide_eq_true_eq]
  by_cases h : 0 ≤ n ∧ n ≤ 20
  · rw [if_pos h]
    refine Ev.pos h ?_
    obtain ⟨a, rfl⟩ := Int.eq_ofNat_of_zero_le h.1
    by_cases h2 : mx 0 k ≤ a
    · have h3 : 0 ≤ mx 0 k := by rw [mx0]; split <;> omega
      obtain ⟨i, hi⟩ := Int.eq_ofNat_of_zero_le h3
      rw [hi] at h2 ⊢
      have e := implT_l a (by omega) (a + 1 - i) i 0 (by omega) (by omega) (by omega)
      simpa using e
    · have h3 : a + 1 - (mx 0 k).toNat = 0 := by omega
      simp only [Int.ofNat_eq_natCast, Int.toNat_natCast, h3, sumC]
      refine Ev.step (fun k => impl_TailOf.l0.eq_2 _ _ _ k) ?_
      exact Ev.neg h2 (Ev.some_ rfl)
  · rw [if_neg h]
    exact Ev.neg h (Ev.now _)

theorem implRare (n k p : Int) : Ev (fun j => impl_IsRare.f j n k p) (rareI n k p) := by
  unfold impl_IsRare.f rareI
  simp only [implIn, Option.bind_some, decide_eq_true_eq]
  by_cases h1 : 1 ≤ n ∧ n ≤ 20
  · refine Ev.pos h1 ?_
    by_cases h2 : 0 ≤ p ∧ p ≤ 100
    · refine Ev.pos h2 ?_
      by_cases h3 : 0 ≤ k ∧ k ≤ n
      · refine Ev.pos h3 ?_
        refine Ev.bind (implT n k) ?_
        refine Ev.pos (by omega) ?_
        have a0 := tlI_nn n k
        have a1 := tlI_le n k
        have b := P2_le n (by omega) h1.2
        have c := mulp_le h2.1 h2.2 (show 0 ≤ P2 n by omega) b.2
        have e1 : shl .i64 p n = p * P2 n := by
          have hm : min n.toNat IntKind.i64.bits = n.toNat := by
            show min n.toNat 64 = n.toNat
            omega
          unfold shl
          rw [hm, i64_w]
          exact wr (by show _ ≤ p * P2 n; omega) (by show p * P2 n ≤ _; omega)
        simp only [e1, wr (x := 100 * tlI n k) (by omega) (by omega)]
        exact Ev.some_ (by simp [h1, h2, h3])
      · exact Ev.neg h3 (Ev.some_ (by simp; omega))
    · exact Ev.neg h2 (Ev.some_ (by simp; omega))
  · exact Ev.neg h1 (Ev.some_ (by simp; omega))

theorem implLR_l (n p : Int) (h1 : 1 ≤ n) (h2 : n ≤ 20) : ∀ (d : Nat) (i : Int), 0 ≤ i → i + d = n + 1 → Ev (fun j => impl_LeastRare.l0 j n p (n + 1) i) (lrf d n p i) := by
  intro d
  induction d with
  | zero =>
    intro i h0 hi
    refine Ev.step (fun k => impl_LeastRare.l0.eq_2 _ _ _ _ k) ?_
    exact Ev.neg (by omega) (Ev.some_ rfl)
  | succ d ih =>
    intro i h0 hi
    refine Ev.step (fun k => impl_LeastRare.l0.eq_2 _ _ _ _ k) ?_
    refine Ev.pos (by omega) ?_
    refine Ev.bind (implRare n i p) ?_
    unfold lrf
    cases hr : rareI n i p with
    | true => exact Ev.pos rfl (Ev.some_ rfl)
    | false =>
      refine Ev.neg (by simp) ?_
      simp only [wr (x := i + 1) (by omega) (by omega)]
      exact ih (i + 1) (by omega) (by omega)
theorem implLR (n p : Int) : Ev (fun j => impl_LeastRare.f j n p) (leastI n p) := by
  unfold impl_LeastRare.f leastI
  simp only [implIn, Option.bind_some, decide_eq_true_eq]
  by_cases h : 1 ≤ n ∧ n ≤ 20
  · rw [if_pos h]
    refine Ev.pos h ?_
    simp only [wr (x := n + 1) (by omega) (by omega)]
    exact implLR_l n p h.1 h.2 _ 0 (by omega) (by omega)
  · rw [if_neg h]
    exact Ev.neg h (Ev.now _)

theorem implPN_l (p : Int) : ∀ (d : Nat) (i : Int), 1 ≤ i → i + d = 21 → Ev (fun j => impl_PairsNeeded.l0 j p i) (pnf d p i) := by
  intro d
  induction d with
  | zero =>
    intro i h0 hi
    refine Ev.step (fun k => impl_PairsNeeded.l0.eq_2 _ _ k) ?_
    exact Ev.neg (by omega) (Ev.some_ rfl)
  | succ d ih =>
    intro i h0 hi
    refine Ev.step (fun k => impl_PairsNeeded.l0.eq_2 _ _ k) ?_
    refine Ev.pos (by omega) ?_
    refine Ev.bind (implLR i p) ?_
    unfold pnf
    rcases leastI_or i p with h | h
    · rw [if_neg (show ¬ 0 ≤ leastI i p by omega)]
      refine Ev.pos h ?_
      simp only [wr (x := i + 1) (by omega) (by omega)]
      exact ih (i + 1) (by omega) (by omega)
    · rw [if_pos h]
      exact Ev.neg (by omega) (Ev.some_ rfl)
theorem implPN (p : Int) : Ev (fun j => impl_PairsNeeded.f j p) (pnI p) := implPN_l p 20 1 (by omega) (by omega)

theorem sym_all : allN 21 (fun n => allN (n + 1) (fun k => decide (C n k = C n (n - k)))) = true := by decide +kernel
theorem pow_all : allN 21 (fun n => decide (sumC n (n + 1) 0 = 2 ^ n)) = true := by decide +kernel
theorem chI_sym (n k : Int) (hn : 0 ≤ n) (hn2 : n ≤ 20) : chI n k = chI n (n - k) := by
  unfold chI
  by_cases h : 0 ≤ k ∧ k ≤ n
  · rw [if_pos (by omega), if_pos (by omega)]
    have e := allN_get (allN_get sym_all n.toNat (by omega)) k.toNat (by omega)
    simp only [decide_eq_true_eq] at e
    rw [e, show (n - k).toNat = n.toNat - k.toNat by omega]
  · rw [if_neg (by omega), if_neg (by omega)]
theorem tl_zero (n : Int) (hn : 0 ≤ n) (hn2 : n ≤ 20) : tlI n 0 = P2 n := by
  unfold tlI P2
  have e := allN_get pow_all n.toNat (by omega)
  simp only [decide_eq_true_eq] at e
  rw [if_pos (by omega), mx0, if_neg (by omega)]
  simp only [Int.toNat_zero, Nat.sub_zero, e]
  simp
theorem tl_succ (n k : Int) (hn : 0 ≤ n) (hn2 : n ≤ 20) (hk : -1 ≤ k) : tlI n k = tlI n (k + 1) + chI n k := by
  unfold tlI
  rw [if_pos (by omega), if_pos (by omega)]
  by_cases hk1 : k = -1
  · subst hk1
    have : chI n (-1) = 0 := by unfold chI; rw [if_neg (by omega)]
    rw [this, mx0, mx0, if_neg (by omega), if_neg (by omega)]; omega
  · obtain ⟨a, rfl⟩ := Int.eq_ofNat_of_zero_le (show 0 ≤ k by omega)
    obtain ⟨m, rfl⟩ := Int.eq_ofNat_of_zero_le hn
    have e0 : (mx 0 ((a : Nat) : Int)).toNat = a := by rw [mx0]; split <;> omega
    have e1 : (mx 0 (((a : Nat) : Int) + 1)).toNat = a + 1 := by rw [mx0]; split <;> omega
    rw [e0, e1]
    unfold chI
    by_cases h : a ≤ m
    · rw [if_pos (by omega)]
      have e2 : ((m : Nat) : Int).toNat + 1 - a = (((m : Nat) : Int).toNat + 1 - (a + 1)) + 1 := by omega
      rw [e2]
      simp only [sumC, Int.toNat_natCast]
      omega
    · rw [if_neg (by omega)]
      have e2 : ((m : Nat) : Int).toNat + 1 - a = 0 := by omega
      have e3 : ((m : Nat) : Int).toNat + 1 - (a + 1) = 0 := by omega
      rw [e2, e3]; simp [sumC]
theorem chI_nn (n k : Int) : 0 ≤ chI n k ∧ chI n k ≤ 1048576 := by
  unfold chI
  split
  · have := C_le n.toNat k.toNat (by omega) (by omega); omega
  · omega
theorem rare_up (n k p : Int) (h : rareI n k p = true) (hk : k < n) : rareI n (k + 1) p = true := by
  simp only [rareI, decide_eq_true_eq] at h ⊢
  have a := tl_succ n k (by omega) (by omega) (by omega)
  have b := chI_nn n k
  omega
theorem rare_mono (n p : Int) : ∀ (d : Nat) (i : Int), rareI n i p = true → i + d ≤ n → rareI n (i + d) p = true := by
  intro d
  induction d with
  | zero => intro i h _; simpa using h
  | succ d ih =>
    intro i h hd
    have := rare_up n (i + d) p (ih i h (by omega)) (by omega)
    rw [show i + ((d + 1 : Nat) : Int) = i + d + 1 by omega]
    exact this
/-- What is found first. -/
theorem lrf_is (n p : Int) : ∀ (d : Nat) (i : Int), 0 ≤ i → (lrf d n p i = -1 ∧ ∀ j, i ≤ j → j < i + d → rareI n j p = false) ∨ (i ≤ lrf d n p i ∧ lrf d n p i < i + d ∧ rareI n (lrf d n p i) p = true ∧ ∀ j, i ≤ j → j < lrf d n p i → rareI n j p = false) := by
  intro d
  induction d with
  | zero => intro i _; exact .inl ⟨rfl, fun j h1 h2 => by omega⟩
  | succ d ih =>
    intro i h0
    unfold lrf
    cases hr : rareI n i p with
    | true =>
      rw [if_pos rfl]
      exact .inr ⟨by omega, by omega, hr, fun j h1 h2 => by omega⟩
    | false =>
      rw [if_neg (by simp)]
      have step : ∀ j, i ≤ j → ¬ i + 1 ≤ j → rareI n j p = false := fun j h1 h2 => by rw [show j = i by omega]; exact hr
      rcases ih (i + 1) (by omega) with ⟨e, h⟩ | ⟨h1, h2, h3, h4⟩
      · exact .inl ⟨e, fun j a b => if c : i + 1 ≤ j then h j c (by omega) else step j a c⟩
      · exact .inr ⟨by omega, by omega, h3, fun j a b => if c : i + 1 ≤ j then h4 j c b else step j a c⟩
theorem rare_iff (n k p : Int) : (decide (0 ≤ leastI n p) && decide (leastI n p ≤ k) && decide (k ≤ n)) = rareI n k p := by
  by_cases hn : 1 ≤ n ∧ n ≤ 20
  · unfold leastI
    rw [if_pos hn]
    rcases lrf_is n p (n.toNat + 1) 0 (by omega) with ⟨e, h⟩ | ⟨h1, h2, h3, h4⟩
    · rw [e]
      have : rareI n k p = false := by
        by_cases hk : 0 ≤ k ∧ k ≤ n
        · exact h k hk.1 (by omega)
        · simp only [rareI, decide_eq_false_iff_not]; omega
      rw [this]; simp
    · by_cases hk : lrf (n.toNat + 1) n p 0 ≤ k ∧ k ≤ n
      · obtain ⟨d, hd⟩ := Int.eq_ofNat_of_zero_le (show 0 ≤ k - lrf (n.toNat + 1) n p 0 by omega)
        have := rare_mono n p d _ h3 (by omega)
        rw [show lrf (n.toNat + 1) n p 0 + (d : Int) = k by omega] at this
        rw [this]; simp [h1, hk]
      · have : rareI n k p = false := by
          by_cases hk0 : 0 ≤ k ∧ k ≤ n
          · exact h4 k hk0.1 (by omega)
          · simp only [rareI, decide_eq_false_iff_not]; omega
        rw [this]
        by_cases hk1 : k ≤ n
        · simp; omega
        · simp [hk1]
  · have : rareI n k p = false := by simp only [rareI, decide_eq_false_iff_not]; omega
    rw [this]
    unfold leastI
    rw [if_neg hn]; simp
theorem pnf_is (p : Int) : ∀ (d : Nat) (i : Int), 1 ≤ i → pnf d p i = -1 ∨ (i ≤ pnf d p i ∧ pnf d p i < i + d ∧ 0 ≤ leastI (pnf d p i) p ∧ ∀ j, i ≤ j → j < pnf d p i → leastI j p < 0) := by
  intro d
  induction d with
  | zero => intro i _; exact .inl rfl
  | succ d ih =>
    intro i h0
    unfold pnf
    by_cases hr : 0 ≤ leastI i p
    · rw [if_pos hr]
      exact .inr ⟨by omega, by omega, hr, fun j h1 h2 => by omega⟩
    · rw [if_neg hr]
      rcases ih (i + 1) (by omega) with e | ⟨h1, h2, h3, h4⟩
      · exact .inl e
      · refine .inr ⟨by omega, by omega, h3, fun j a b => ?_⟩
        by_cases c : i + 1 ≤ j
        · exact h4 j c b
        · rw [show j = i by omega]; omega
theorem j5_ok (p : Int) : Ev (fun k => laws_FnChances.j5 k p false) true := by
  refine Ev.step (fun k => laws_FnChances.j5.eq_2 _ _ k) ?_
  refine Ev.neg (by simp) ?_
  refine Ev.bind (implPN p) ?_
  rcases pnf_is p 20 1 (by omega) with e | ⟨h1, h2, h3, h4⟩
  · exact Ev.pos (by unfold pnI; omega) (Ev.now _)
  · refine Ev.neg (by unfold pnI; omega) ?_
    refine Ev.bind (implLR _ _) ?_
    refine Ev.pos h3 ?_
    by_cases h5 : pnI p = 1
    · exact Ev.pos h5 (Ev.now _)
    · refine Ev.neg h5 ?_
      have hw : wrap64 (pnI p - 1) = pnI p - 1 := wr (by unfold pnI at *; omega) (by unfold pnI at *; omega)
      simp only [hw]
      refine Ev.bind (implLR _ _) (Ev.some_ ?_)
      have := h4 (pnI p - 1) (by unfold pnI at *; omega) (by unfold pnI; omega)
      simpa using this
theorem j4_ok (n k p : Int) : Ev (fun j => laws_FnChances.j4 j n k p false) true := by
  refine Ev.step (fun k => laws_FnChances.j4.eq_2 _ _ _ _ k) ?_
  refine Ev.neg (by simp) ?_
  refine Ev.bind (implLR n p) ?_
  have hi := rare_iff n k p
  by_cases h1 : leastI n p ≥ 0
  · refine Ev.pos h1 ?_
    by_cases h2 : k ≥ leastI n p
    · refine Ev.pos h2 ?_
      refine Ev.bind (implRare n k p) ?_
      have e : (decide (k ≤ n) != rareI n k p) = false := by rw [← hi]; simp [h1, h2]
      rw [e]; exact j5_ok p
    · refine Ev.neg h2 ?_
      refine Ev.bind (implRare n k p) ?_
      have e : (false != rareI n k p) = false := by rw [← hi]; simp; omega
      rw [e]; exact j5_ok p
  · refine Ev.neg h1 ?_
    refine Ev.bind (implRare n k p) ?_
    have e : (false != rareI n k p) = false := by rw [← hi]; simp; omega
    rw [e]; exact j5_ok p
theorem j3_ok (n k p : Int) (hk : -1 ≤ k) (hk2 : k ≤ 21) : Ev (fun j => laws_FnChances.j3 j n k p) true := by
  refine Ev.step (fun j => laws_FnChances.j3.eq_2 _ _ _ j) ?_
  refine Ev.bind (implRare n k p) ?_
  cases hr : rareI n k p with
  | false => exact Ev.neg (by simp) (j4_ok n k p)
  | true =>
    refine Ev.pos rfl ?_
    by_cases h : k < n
    · refine Ev.pos h ?_
      rw [wr (x := k + 1) (by omega) (by omega)]
      refine Ev.bind (implRare n (k + 1) p) ?_
      rw [rare_up n k p hr h]
      exact j4_ok n k p
    · exact Ev.neg h (j4_ok n k p)
theorem j2_ok (n k p : Int) (hn : 0 ≤ n) (hn2 : n ≤ 20) (hk : -1 ≤ k) (hk2 : k ≤ 21) : Ev (fun j => laws_FnChances.j2 j n k p (P2 n) true) true := by
  refine Ev.step (fun j => laws_FnChances.j2.eq_2 _ _ _ _ _ j) ?_
  refine Ev.pos rfl ?_
  refine Ev.bind (implT n 0) ?_
  refine Ev.pos (tl_zero n hn hn2) ?_
  refine Ev.bind (implT n k) ?_
  rw [wr (x := k + 1) (by omega) (by omega)]
  refine Ev.bind (implT n (k + 1)) ?_
  refine Ev.bind (implC n k) ?_
  have a0 := tlI_nn n (k + 1)
  have a1 := tlI_le n (k + 1)
  have b := chI_nn n k
  rw [wr (x := tlI n (k + 1) + chI n k) (by omega) (by omega)]
  refine Ev.pos (tl_succ n k hn hn2 hk) ?_
  refine Ev.bind (implC n k) ?_
  rw [wr (x := n - k) (by omega) (by omega)]
  refine Ev.bind (implC n (n - k)) ?_
  exact Ev.pos (chI_sym n k hn hn2) (j3_ok n k p hk hk2)
theorem j1_ok (n k p x : Int) (hk : -1 ≤ k) (hk2 : k ≤ 21) (hx : 0 ≤ n → n ≤ 20 → x = P2 n) : Ev (fun j => laws_FnChances.j1 j n k p x) true := by
  refine Ev.step (fun j => laws_FnChances.j1.eq_2 _ _ _ _ j) ?_
  by_cases h0 : n ≥ 0
  · refine Ev.pos h0 ?_
    by_cases h1 : n ≤ 20
    · rw [hx h0 h1, decide_eq_true h1]
      exact j2_ok n k p h0 h1 hk hk2
    · rw [decide_eq_false h1]
      refine Ev.step (fun j => laws_FnChances.j2.eq_2 _ _ _ _ _ j) ?_
      exact Ev.neg (by simp) (j3_ok n k p hk hk2)
  · refine Ev.neg h0 ?_
    refine Ev.step (fun j => laws_FnChances.j2.eq_2 _ _ _ _ _ j) ?_
    exact Ev.neg (by simp) (j3_ok n k p hk hk2)
theorem l0_ok (n k p : Int) (hk : -1 ≤ k) (hk2 : k ≤ 21) : ∀ (d i : Nat), i + d = 20 → (i : Int) ≤ n ∨ i = 0 → Ev (fun j => laws_FnChances.l0 j n k p (P2 i) i) true := by
  intro d
  induction d with
  | zero =>
    intro i hi hin
    refine Ev.step (fun j => laws_FnChances.l0.eq_2 _ _ _ _ _ j) ?_
    have e := j1_ok n k p (P2 i) hk hk2 (fun h0 h1 => by rw [show n = (i : Int) by omega])
    by_cases h : (i : Int) < n
    · refine Ev.pos h (Ev.neg (by omega) ?_)
      exact j1_ok n k p (P2 i) hk hk2 (fun h0 h1 => by omega)
    · exact Ev.neg h e
  | succ d ih =>
    intro i hi hin
    refine Ev.step (fun j => laws_FnChances.l0.eq_2 _ _ _ _ _ j) ?_
    by_cases h : (i : Int) < n
    · refine Ev.pos h (Ev.pos (by omega) ?_)
      have b := P2_le i (by omega) (by omega)
      have e : 2 * P2 i = P2 ((i + 1 : Nat) : Int) := by unfold P2; simp [Int.pow_succ]; omega
      rw [wr (x := 2 * P2 i) (by omega) (by omega), wr (x := (i : Int) + 1) (by omega) (by omega), e]
      exact ih (i + 1) (by omega) (by omega)
    · refine Ev.neg h ?_
      exact j1_ok n k p (P2 i) hk hk2 (fun h0 h1 => by rw [show n = (i : Int) by omega])
theorem FnChances : laws_FnChances.Pure := by
  intro l _ _ _
  refine Ev.rounds (g := fun j => laws_FnChances.f j l) ?_
  unfold laws_FnChances.f
  refine Ev.bnow (big_eq l) ?_
  by_cases hb : (l.length : Int) > 1048576
  · exact Ev.pos (by simpa using hb) (Ev.now _)
  · refine Ev.neg (by simpa using hb) ?_
    have hl : l.length ≤ 1048576 := by omega
    obtain ⟨h, eN⟩ := new_ok l hl
    have hc0 : Cur l 0 := ⟨by omega, by omega, hl⟩
    obtain ⟨x, i1, h1, e1, x0, x1, hc1⟩ := below_ok l 0 h 23 hc0 (by omega) (by omega)
    obtain ⟨y, i2, h2, e2, y0, y1, hc2⟩ := below_ok l i1 h1 23 hc1 (by omega) (by omega)
    have eD : Ev (fun k => spec_DrawChooseOf.f k l) (x - 1, y - 1) := by
      unfold spec_DrawChooseOf.f
      refine Ev.bind eN ?_
      refine Ev.bnow e1 ?_
      refine Ev.bnow e2 ?_
      rw [wr (x := x - 1) (by omega) (by omega), wr (x := y - 1) (by omega) (by omega)]
      exact Ev.now _
    obtain ⟨p, i3, h3, e3, _, _⟩ := int_ok l 0 h [0, 1, 5, 50, 100, 101, (-1)] hc0 (by decide) (by decide)
    have eR : Ev (fun k => spec_DrawIsRare.f k l) (x - 1, y - 1, p) := by
      unfold spec_DrawIsRare.f
      refine Ev.bind eD ?_
      refine Ev.bind eN ?_
      refine Ev.bnow e3 ?_
      exact Ev.now _
    refine Ev.bind eR ?_
    exact l0_ok (x - 1) (y - 1) p (by omega) (by omega) 20 0 rfl (.inr rfl)

end Go.Proofs.Ytjdppjkjegdcgaa.Pure
