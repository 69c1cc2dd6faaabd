/- The law FnShaped returns true at every list of bytes: nobody is found to be treated worse in both directions at a level below a half. No condition. -/
import Derived.Test.YtmlddlnmplnlaaaHFnShapedx5
namespace Go.Proofs.Ytmlddlnmplnlaaa.Pure
open Go.RowKit Go.Proofs.Ytmlddlnmplnlaaa.PFnShaped Go.Proofs.YtmlddlnmplnlaaaW.PrintWords Go.Proofs.YtmlddlnmplnlaaaW.PrintLast
set_option linter.unusedSimpArgs false
set_option linter.unusedVariables false

theorem wr {x : Int} (h1 : -9223372036854775808 ≤ x) (h2 : x ≤ 9223372036854775807) : wrap64 x = x := by unfold wrap64; omega
theorem Ev.pos {α : Type} {c : Prop} [Decidable c] {g f : Nat → Option α} {r : α} (h : c) (e : Ev g r) : Ev (fun k => if c then g k else f k) r := by
  simp only [if_pos h]; exact e
theorem Ev.neg {α : Type} {c : Prop} [Decidable c] {g f : Nat → Option α} {r : α} (h : ¬ c) (e : Ev f r) : Ev (fun k => if c then g k else f k) r := by
  simp only [if_neg h]; exact e
theorem Ev.some_ {α : Type} {r r' : α} (h : r = r') : Ev (fun _ => some r) r' := h ▸ Ev.now r
theorem Ev.bnow {α β : Type} {g : Option α} {f : Nat → α → Option β} {a : α} {r : β} (h : g = some a) (k : Ev (fun n => f n a) r) : Ev (fun n => g.bind (f n)) r := by
  subst h; exact k

theorem and_le (x : Int) (m : Nat) (hm : m < 4611686018427387904) : 0 ≤ Go.bits .and .i64 x m ∧ Go.bits .and .i64 x m ≤ m := by
  simp only [Go.bits, BitVec.toNat_and, BitVec.ofInt_natCast, BitVec.toNat_ofNat]
  have h1 : (BitVec.ofInt IntKind.i64.bits x).toNat &&& m % 2 ^ IntKind.i64.bits ≤ m % 2 ^ IntKind.i64.bits := Nat.and_le_right
  have h2 : m % 2 ^ IntKind.i64.bits = m := Nat.mod_eq_of_lt (by show m < 2 ^ 64; omega)
  rw [h2] at h1 ⊢
  rw [i64_w, wr (by omega) (by omega)]
  omega
theorem new_l (l : List Int) (hl : l.length ≤ 1048576) : ∀ (d i : Nat) (h : Int), l.length - i ≤ d → i ≤ l.length → ∃ h', Ev (fun k => spec_l1New.l0 k l h i) (l, 0, h') := by
  intro d
  induction d with
  | zero =>
    intro i h hi hi2
    refine ⟨h, Ev.step (fun k => spec_l1New.l0.eq_2 _ _ _ k) ?_⟩
    exact Ev.neg (by omega) (Ev.now _)
  | succ d ih =>
    intro i h hi hi2
    by_cases h1 : (i : Int) < (l.length : Int)
    · by_cases h2 : (i : Int) < 4000
      · obtain ⟨h', e⟩ := ih (i + 1) (Go.bits .and .i64 (wrap64 ((wrap64 ((wrap64 (h * 137)) + (wrap64 (rd l i)))) + 11)) 1073741823) (by omega) (by omega)
        refine ⟨h', Ev.step (fun k => spec_l1New.l0.eq_2 _ _ _ k) (Ev.pos h1 (Ev.pos h2 (Ev.pos (by omega) ?_)))⟩
        rw [wr (x := (i : Int) + 1) (by omega) (by omega)]
        exact e
      · exact ⟨h, Ev.step (fun k => spec_l1New.l0.eq_2 _ _ _ k) (Ev.pos h1 (Ev.neg h2 (Ev.now _)))⟩
    · exact ⟨h, Ev.step (fun k => spec_l1New.l0.eq_2 _ _ _ k) (Ev.neg h1 (Ev.now _))⟩
theorem new_ok (l : List Int) (hl : l.length ≤ 1048576) : ∃ h, Ev (fun k => spec_l1New.f k l) (l, 0, h) := by
  unfold spec_l1New.f
  exact new_l l hl l.length 0 _ (by omega) (by omega)
/-- The cursor stands in the bytes. -/
def Cur (b : List Int) (i : Int) : Prop := 0 ≤ i ∧ i ≤ b.length ∧ b.length ≤ 1048576
theorem byte_ok (b : List Int) (i h : Int) (hc : Cur b i) : ∃ x i' h', spec_l1Byte.f b i h = some (x, i', h') ∧ 0 ≤ x ∧ x ≤ 255 ∧ Cur b i' := by
  obtain ⟨h0, h1, h2⟩ := hc
  unfold spec_l1Byte.f
  by_cases hi : i < (b.length : Int)
  · rw [if_pos hi, if_pos h0, wr (x := i + 1) (by omega) (by omega)]
    have a := and_le (wrap64 ((Go.bits .and .i64 (Go.bits .xor .i64 ((wrap64 ((wrap64 (h * 6364136223846793005)) + 1442695040888963407)) / 8589934592) ((wrap64 ((wrap64 (h * 6364136223846793005)) + 1442695040888963407)) / 140737488355328)) 255) + (wrap64 (rd b i)))) 255 (by decide)
    exact ⟨_, _, _, rfl, a.1, a.2, by omega, by omega, h2⟩
  · rw [if_neg hi]
    have a := and_le (Go.bits .xor .i64 ((wrap64 ((wrap64 (h * 6364136223846793005)) + 1442695040888963407)) / 8589934592) ((wrap64 ((wrap64 (h * 6364136223846793005)) + 1442695040888963407)) / 140737488355328)) 255 (by decide)
    exact ⟨_, _, _, rfl, a.1, a.2, h0, h1, h2⟩
theorem below_ok (b : List Int) (i h a : Int) (hc : Cur b i) (ha : 0 < a) (ha2 : a ≤ 256) : ∃ x i' h', spec_l1Below.f b i h a = some (x, i', h') ∧ 0 ≤ x ∧ x < a ∧ Cur b i' := by
  obtain ⟨x, i', h', e, h0, h1, hc'⟩ := byte_ok b i h hc
  refine ⟨Int.tmod x a, i', h', ?_, Int.tmod_nonneg _ h0, Int.tmod_lt_of_pos _ ha, hc'⟩
  unfold spec_l1Below.f
  rw [if_neg (by omega), if_pos ha2, e]
  simp only [Option.bind_some]
  rw [if_neg (by omega)]

theorem int_ok (b : List Int) (i h : Int) (l : List Int) (hc : Cur b i) (hl : 0 < l.length) (hl2 : l.length ≤ 256) : ∃ x i' h', spec_l1Int.f b i h l = some (x, i', h') ∧ x ∈ l ∧ Cur b i' := by
  obtain ⟨x, i', h', e, h0, h1, hc'⟩ := below_ok b i h l.length hc (by omega) (by omega)
  refine ⟨rd l x, i', h', ?_, ?_, hc'⟩
  · unfold spec_l1Int.f
    rw [e]
    simp only [Option.bind_some]
    rw [if_pos h0, if_pos h1]
  · unfold rd
    have hlt : x.toNat < l.length := by omega
    simp [List.getD, hlt]

theorem wnx {i n : Nat} (h : i < n) (hn : n ≤ 9223372036854775807) : wrap64 ((i : Int) + 1) = ((i + 1 : Nat) : Int) := by rw [wr (by omega) (by omega)]; rfl
theorem rd_get (l : List Int) (i : Nat) (h : i < l.length) : rd l (i : Int) = l[i] := by simp [rd, List.getD, h]

theorem once_ok (b : List Int) (i h a : Int) (hc : Cur b i) (ha : 0 < a) (ha2 : a ≤ 256) : ∃ x i' h', spec_l1Once.f b i h a = some (x, i', h') ∧ Cur b i' := by
  obtain ⟨x, i', h', e, _, _, c⟩ := below_ok b i h a hc ha ha2
  refine ⟨x == 0, i', h', ?_, c⟩
  unfold spec_l1Once.f
  rw [e]; rfl

theorem raw_ok (b : List Int) (i h : Int) (hc : Cur b i) : ∃ x i' h', spec_l9Raw.f b i h = some (x, i', h') ∧ Cur b i' := by
  unfold spec_l9Raw.f
  obtain ⟨x, i1, h1, e1, c1⟩ := once_ok b i h 6 hc (by omega) (by omega)
  rw [e1]
  simp only [Option.bind_some]
  obtain ⟨p, j, g, f, _, k⟩ := int_ok b i1 h1 [(-1), 0, 100000, 100001, (-100000), (-100001), 9223372036854775807, (-9223372036854775808)] c1 (by decide) (by decide)
  obtain ⟨p2, j2, g2, f2, _, _, k2⟩ := below_ok b i1 h1 60 c1 (by omega) (by omega)
  rw [f, f2]
  simp only [Option.bind_some]
  split
  · exact ⟨_, _, _, rfl, k⟩
  · exact ⟨_, _, _, rfl, k2⟩

theorem big_eq (l : List Int) : laws_big.f l = some (decide ((l.length : Int) > 1048576)) := rfl

theorem any20_l (b : List Int) (n : Nat) (hn : n ≤ 21) (bias : Int) : ∀ (d i : Nat) (acc : List S49) (ci ch : Int), i + d = n → acc.length = i → Cur b ci →
    ∃ L ci' ch', Ev (fun k => spec_l20Any.l0 k acc bias n i b ci ch) (L, ci', ch') ∧ L.length ≤ 21 ∧ Cur b ci' := by
  intro d
  induction d with
  | zero =>
    intro i acc ci ch hi ha hc
    by_cases h0 : (n : Int) > 0
    · obtain ⟨x, i1, h1, e1, c1⟩ := once_ok b ci ch 8 hc (by omega) (by omega)
      cases x with
      | true =>
        obtain ⟨y, i2, h2, e2, c2⟩ := raw_ok b i1 h1 c1
        exact ⟨acc.set 0 ⟨y, (rd_T49 acc 0).f1⟩, i2, h2, Ev.step (fun k => spec_l20Any.l0.eq_2 _ _ _ _ _ _ _ k) (Ev.neg (by omega) (Ev.pos h0 (Ev.bnow e1 (Ev.pos rfl (Ev.bnow e2 (Ev.pos (by omega) (Ev.now _))))))), by simp; omega, c2⟩
      | false =>
        exact ⟨acc, i1, h1, Ev.step (fun k => spec_l20Any.l0.eq_2 _ _ _ _ _ _ _ k) (Ev.neg (by omega) (Ev.pos h0 (Ev.bnow e1 (Ev.neg (by simp) (Ev.now _))))), by omega, c1⟩
    · exact ⟨acc, ci, ch, Ev.step (fun k => spec_l20Any.l0.eq_2 _ _ _ _ _ _ _ k) (Ev.neg (by omega) (Ev.neg h0 (Ev.now _))), by omega, hc⟩
  | succ d ih =>
    intro i acc ci ch hi ha hc
    obtain ⟨y, i2, h2, e2, _, _, c2⟩ := below_ok b ci ch 8 hc (by omega) (by omega)
    obtain ⟨z, i3, h3, e3, _, _, c3⟩ := below_ok b i2 h2 8 c2 (by omega) (by omega)
    have hw := wnx (show i < n by omega) (by omega)
    obtain ⟨L, ci', ch', e, hL, c'⟩ := ih (i + 1) (acc ++ [⟨y, wrap64 (bias + z)⟩]) i3 h3 (by omega) (by simp; omega) c3
    refine ⟨L, ci', ch', Ev.step (fun k => spec_l20Any.l0.eq_2 _ _ _ _ _ _ _ k) (Ev.pos (by omega) (Ev.bnow e2 (Ev.bnow e3 (Ev.pos (by omega) ?_)))), hL, c'⟩
    simp only [hw]
    exact e
theorem any20_ok (b : List Int) (ci ch : Int) (hc : Cur b ci) : ∃ L ci' ch', Ev (fun k => spec_l20Any.f k b ci ch) (L, ci', ch') ∧ L.length ≤ 21 ∧ Cur b ci' := by
  unfold spec_l20Any.f
  obtain ⟨x, i1, h1, e1, _, _, c1⟩ := below_ok b ci ch 4 hc (by omega) (by omega)
  obtain ⟨y, i2, h2, e2, y0, y1, c2⟩ := below_ok b i1 h1 12 c1 (by omega) (by omega)
  obtain ⟨z, i3, h3, e3, c3⟩ := once_ok b i2 h2 9 c2 (by omega) (by omega)
  cases z with
  | true =>
    obtain ⟨v, i4, h4, e4, v0, v1, c4⟩ := below_ok b i3 h3 2 c3 (by omega) (by omega)
    obtain ⟨m, hm⟩ := Int.eq_ofNat_of_zero_le (show 0 ≤ 20 + v by omega)
    obtain ⟨L, ci', ch', e, hL, c'⟩ := any20_l b m (by omega) x m 0 [] i4 h4 (by omega) rfl c4
    refine ⟨L, ci', ch', Ev.bnow rfl (Ev.bnow e1 (Ev.bnow e2 (Ev.bnow e3 (Ev.pos rfl (Ev.bnow e4 ?_))))), hL, c'⟩
    refine Ev.step (fun k => spec_l20Any.j0.eq_2 _ _ _ _ _ _ k) ?_
    dsimp only
    rw [wr (x := 20 + v) (by omega) (by omega), hm]
    exact e
  | false =>
    obtain ⟨m, hm⟩ := Int.eq_ofNat_of_zero_le y0
    obtain ⟨L, ci', ch', e, hL, c'⟩ := any20_l b m (by omega) x m 0 [] i3 h3 (by omega) rfl c3
    refine ⟨L, ci', ch', Ev.bnow rfl (Ev.bnow e1 (Ev.bnow e2 (Ev.bnow e3 (Ev.neg (by simp) ?_)))), hL, c'⟩
    refine Ev.step (fun k => spec_l20Any.j0.eq_2 _ _ _ _ _ _ k) ?_
    dsimp only
    rw [hm]
    exact e
theorem drawShaped_ok (c : List Int) (hc : c.length ≤ 1048576) : ∃ L p, Ev (fun k => spec_DrawIsShaped.f k c) (L, p) ∧ L.length ≤ 21 := by
  unfold spec_DrawIsShaped.f
  obtain ⟨h, eN⟩ := new_ok c hc
  obtain ⟨L, i1, h1, e1, hL, c1⟩ := any20_ok c 0 h ⟨by omega, by omega, hc⟩
  obtain ⟨g, i2, h2, e2, hg, _⟩ := int_ok c i1 h1 [0, 1, 5, 50, 100, 101, (-1)] c1 (by decide) (by decide)
  exact ⟨L, g, Ev.bind eN (Ev.bind e1 (Ev.bnow e2 (Ev.now _))), hL⟩

def winsL (l : List S49) : Nat := (l.filter (fun p => decide (p.f0 < p.f1))).length
def diffL (l : List S49) : Nat := (l.filter (fun p => decide (p.f1 ≠ p.f0))).length
theorem winsL_cons (p : S49) (l : List S49) : winsL (p :: l) = (if p.f0 < p.f1 then 1 else 0) + winsL l := by
  unfold winsL; rw [List.filter_cons]; split <;> simp_all; omega
theorem diffL_cons (p : S49) (l : List S49) : diffL (p :: l) = (if p.f1 = p.f0 then 0 else 1) + diffL l := by
  unfold diffL; rw [List.filter_cons]; split <;> simp_all; omega
theorem winsL_le (l : List S49) : winsL l ≤ l.length := List.length_filter_le _ _
theorem diffL_le (l : List S49) : diffL l ≤ l.length := List.length_filter_le _ _
theorem wins_le_diff (l : List S49) : winsL l ≤ diffL l := by
  induction l with
  | nil => simp [winsL, diffL]
  | cons p l ih => rw [winsL_cons, diffL_cons]; split <;> split <;> omega

theorem wnextw {i n : Nat} (h : i < n) (hn : n ≤ 9223372036854775807) : wrap64 ((i : Int) + 1) = ((i + 1 : Nat) : Int) := by rw [wr (by omega) (by omega)]; rfl
theorem implWins_l (l : List S49) (hl : l.length ≤ 1048576) : ∀ (d i : Nat) (a b : Nat), i + d = l.length → a ≤ i → b ≤ i → Ev (fun k => impl_WinsOf.l0 k a b l l.length i) (((a + winsL (l.drop i) : Nat) : Int), ((b + diffL (l.drop i) : Nat) : Int)) := by
  intro d
  induction d with
  | zero =>
    intro i a b hi ha hb
    refine Ev.step (fun k => impl_WinsOf.l0.eq_2 _ _ _ _ _ k) ?_
    refine Ev.neg (by omega) (Ev.some_ ?_)
    rw [List.drop_eq_nil_of_le (by omega)]; simp [winsL, diffL]
  | succ d ih =>
    intro i a b hi ha hb
    have hlt : i < l.length := by omega
    refine Ev.step (fun k => impl_WinsOf.l0.eq_2 _ _ _ _ _ k) ?_
    refine Ev.pos (by omega) ?_
    refine Ev.pos (by omega) ?_
    refine Ev.pos (by omega) ?_
    have hr : rd_T49 l (i : Int) = l[i] := by simp [rd_T49, hlt, List.getD]
    rw [List.drop_eq_getElem_cons hlt, winsL_cons, diffL_cons]
    simp only [hr, wnextw hlt (by omega), wnextw (show a < 1048577 by omega) (by omega), wnextw (show b < 1048577 by omega) (by omega)]
    by_cases h1 : l[i].f1 > l[i].f0
    · refine Ev.pos h1 ?_
      rw [if_pos h1]
      by_cases h2 : l[i].f1 = l[i].f0
      · omega
      · refine Ev.neg h2 ?_
        rw [if_neg h2]
        have e := ih (i + 1) (a + 1) (b + 1) (by omega) (by omega) (by omega)
        rw [← Nat.add_assoc, ← Nat.add_assoc]
        exact e
    · refine Ev.neg h1 ?_
      rw [if_neg h1]
      by_cases h2 : l[i].f1 = l[i].f0
      · refine Ev.pos h2 ?_
        rw [if_pos h2]
        have e := ih (i + 1) a b (by omega) (by omega) (by omega)
        rw [Nat.zero_add, Nat.zero_add]
        exact e
      · refine Ev.neg h2 ?_
        rw [if_neg h2]
        have e := ih (i + 1) a (b + 1) (by omega) (by omega) (by omega)
        rw [Nat.zero_add, ← Nat.add_assoc]
        exact e
theorem implWins (l : List S49) (hl : l.length ≤ 1048576) : Ev (fun k => impl_WinsOf.f k l) ((winsL l : Int), (diffL l : Int)) := by
  unfold impl_WinsOf.f
  have e := implWins_l l hl l.length 0 0 0 (by omega) (by omega) (by omega)
  simpa using e

/-- Pascal's triangle. -/
def C : Nat → Nat → Nat
  | _, 0 => 1
  | 0, _ + 1 => 0
  | n + 1, k + 1 => C n k + C n (k + 1)
def allN (m : Nat) (p : Nat → Bool) : Bool := match m with
  | 0 => true
  | m + 1 => p m && allN m p
theorem allN_get {m : Nat} {p : Nat → Bool} (h : allN m p = true) : ∀ i, i < m → p i = true := by
  induction m with
  | zero => intro i hi; omega
  | succ m ih =>
    simp only [allN, Bool.and_eq_true] at h
    intro i hi
    by_cases e : i = m
    · exact e ▸ h.1
    · exact ih h.2 i (by omega)
/-- The row of Pascal's triangle, quickly. -/
def nextRow : List Nat → List Nat := fun l => List.zipWith (· + ·) (0 :: l) (l ++ [0])

def chI (n k : Int) : Int := if 0 ≤ n ∧ n ≤ 20 ∧ 0 ≤ k ∧ k ≤ n then (C n.toNat k.toNat : Int) else 0

theorem mx0 (k : Int) : mx 0 k = if 0 < k then k else 0 := rfl
/-- The choices from i on, d of them. -/
def sumC (n : Nat) : Nat → Nat → Nat
  | 0, _ => 0
  | d + 1, i => C n i + sumC n d (i + 1)
theorem C_le_all : allN 21 (fun n => allN 22 (fun k => decide (C n k ≤ 1048576))) = true := by decide +kernel
theorem C_le (n k : Nat) (hn : n < 21) (hk : k < 22) : C n k ≤ 1048576 := by
  have e := allN_get (allN_get C_le_all n hn) k hk
  simpa using e
theorem sumC_le (n : Nat) (hn : n < 21) : ∀ d i, i + d ≤ 22 → sumC n d i ≤ d * 1048576 := by
  intro d
  induction d with
  | zero => intro i _; simp [sumC]
  | succ d ih =>
    intro i hi
    have h1 := C_le n i hn (by omega)
    have h2 := ih (i + 1) (by omega)
    simp only [sumC]
    omega
/-- The tail of a coin's n throws: at least k heads. -/
def tlI (n k : Int) : Int := if 0 ≤ n ∧ n ≤ 20 then (sumC n.toNat (n.toNat + 1 - (mx 0 k).toNat) (mx 0 k).toNat : Int) else 0

theorem tlI_nn (n k : Int) : 0 ≤ tlI n k := by unfold tlI; split <;> omega
theorem tlI_le (n k : Int) : tlI n k ≤ 23068672 := by
  unfold tlI
  split
  · have h3 : 0 ≤ mx 0 k := by rw [mx0]; split <;> omega
    by_cases h : (mx 0 k).toNat ≤ n.toNat + 1
    · have e := sumC_le n.toNat (by omega) (n.toNat + 1 - (mx 0 k).toNat) (mx 0 k).toNat (by omega)
      have e2 : (n.toNat + 1 - (mx 0 k).toNat) * 1048576 ≤ 22 * 1048576 := Nat.mul_le_mul_right _ (by omega)
      omega
    · have h4 : n.toNat + 1 - (mx 0 k).toNat = 0 := by omega
      rw [h4]; simp [sumC]
  · omega
/-- Two to the n. -/
def P2 (n : Int) : Int := 2 ^ n.toNat
theorem P2_le_all : allN 21 (fun n => decide ((2 : Nat) ^ n ≤ 1048576)) = true := by decide +kernel
theorem P2_le (n : Int) (h : 0 ≤ n) (h2 : n ≤ 20) : 1 ≤ P2 n ∧ P2 n ≤ 1048576 := by
  have e := allN_get P2_le_all n.toNat (by omega)
  simp only [decide_eq_true_eq] at e
  have h1 : (1 : Nat) ≤ 2 ^ n.toNat := Nat.one_le_two_pow
  have h3 : P2 n = ((2 ^ n.toNat : Nat) : Int) := by unfold P2; simp
  omega
def rareI (n k p : Int) : Bool := decide (1 ≤ n ∧ n ≤ 20 ∧ 0 ≤ p ∧ p ≤ 100 ∧ 0 ≤ k ∧ k ≤ n ∧ 100 * tlI n k ≤ p * P2 n)
theorem mulp_le {p x : Int} (h0 : 0 ≤ p) (h1 : p ≤ 100) (h2 : 0 ≤ x) (h3 : x ≤ 1048576) : 0 ≤ p * x ∧ p * x ≤ 104857600 := by
  refine ⟨Int.mul_nonneg h0 h2, ?_⟩
  have a := Int.mul_le_mul_of_nonneg_right h1 h2
  have b := Int.mul_le_mul_of_nonneg_left h3 (show (0 : Int) ≤ 100 by omega)
  omega

theorem q_le (i : Int) (h0 : 0 ≤ i) (h1 : i ≤ 20) : 0 ≤ 100 * i * (i + 1) ∧ 100 * i * (i + 1) ≤ 42000 := by
  refine ⟨Int.mul_nonneg (by omega) (by omega), ?_⟩
  have a := Int.mul_le_mul_of_nonneg_right (show 100 * i ≤ 2000 by omega) (show 0 ≤ i + 1 by omega)
  have b := Int.mul_le_mul_of_nonneg_left (show i + 1 ≤ 21 by omega) (show (0 : Int) ≤ 2000 by omega)
  omega
theorem qt_le (q t : Int) (h0 : 0 ≤ q) (h1 : q ≤ 42000) (h2 : 0 ≤ t) (h3 : t ≤ 23068672) : 0 ≤ q * t ∧ q * t ≤ 968884224000 := by
  refine ⟨Int.mul_nonneg h0 h2, ?_⟩
  have a := Int.mul_le_mul_of_nonneg_right h1 h2
  have b := Int.mul_le_mul_of_nonneg_left h3 (show (0 : Int) ≤ 42000 by omega)
  omega
def stopsB (l : List S49) (p : Int) (i : Nat) : Bool := decide (0 < diffL (l.take i) ∧ 100 * (i : Int) * (i + 1) * tlI (diffL (l.take i)) (winsL (l.take i)) ≤ p * P2 (diffL (l.take i)))
def stopsF : Nat → List S49 → Int → Nat → Int
  | 0, _, _, _ => 0
  | d + 1, l, p, i => if stopsB l p i = true then i else stopsF d l p (i + 1)
def stopsI (l : List S49) (p : Int) : Int := if l.length ≤ 20 ∧ 0 ≤ p ∧ p ≤ 100 then stopsF l.length l p 1 else 0
theorem take_diff_le (l : List S49) (i : Nat) : diffL (l.take i) ≤ l.length := by
  have a := diffL_le (l.take i)
  have b : (l.take i).length ≤ l.length := by rw [List.length_take]; omega
  omega

theorem implIn (a l h : Int) : impl_InRange.f a l h = some (decide (l ≤ a ∧ a ≤ h)) := by
  unfold impl_InRange.f
  by_cases h1 : l ≤ a <;> simp [h1]

def okImplC (n k : Nat) : Bool := decide (impl_ChooseOf.f 25 n k = some (C n k : Int))
theorem implC_all : allN 21 (fun n => allN (n + 1) (fun k => okImplC n k)) = true := by decide +kernel
theorem implC (n k : Int) : Ev (fun j => impl_ChooseOf.f j n k) (chI n k) := by
  by_cases h : 0 ≤ n ∧ n ≤ 20 ∧ 0 ≤ k ∧ k ≤ n
  · obtain ⟨a, rfl⟩ := Int.eq_ofNat_of_zero_le h.1
    obtain ⟨b, rfl⟩ := Int.eq_ofNat_of_zero_le h.2.2.1
    have e := allN_get (allN_get implC_all a (by omega)) b (by omega)
    simp only [okImplC, decide_eq_true_eq] at e
    unfold chI
    rw [if_pos h]
    exact Ev.of (fun k => impl_ChooseOf.mono _ _ k) e
  · unfold chI
    rw [if_neg h]
    unfold impl_ChooseOf.f
    simp only [implIn, Option.bind_some]
    by_cases h1 : 0 ≤ n ∧ n ≤ 20
    · have h2 : ¬ (0 ≤ k ∧ k ≤ n) := by omega
      refine ⟨1, fun j hj => ?_⟩
      obtain ⟨j, rfl⟩ : ∃ m, j = m + 1 := ⟨j - 1, by omega⟩
      simp [h1, h2, impl_ChooseOf.j0]
    · refine ⟨1, fun j hj => ?_⟩
      obtain ⟨j, rfl⟩ : ∃ m, j = m + 1 := ⟨j - 1, by omega⟩
      simp [h1, impl_ChooseOf.j0]

theorem implT_l (n : Nat) (hn : n < 21) : ∀ (d i : Nat) (s : Int), i + d = n + 1 → 0 ≤ s → s ≤ i * 1048576 → Ev (fun j => impl_TailOf.l0 j n s i) (s + sumC n d i) := by
  intro d
  induction d with
  | zero =>
    intro i s hi _ _
    refine Ev.step (fun k => impl_TailOf.l0.eq_2 _ _ _ k) ?_
    exact Ev.neg (by omega) (Ev.some_ (by simp [sumC]))
  | succ d ih =>
    intro i s hi h0 h1
    refine Ev.step (fun k => impl_TailOf.l0.eq_2 _ _ _ k) ?_
    refine Ev.pos (by omega) ?_
    refine Ev.bind (implC n i) ?_
    have hc : chI n i = C n i := by unfold chI; rw [if_pos (by omega)]; rfl
    have hb := C_le n i hn (by omega)
    have hw1 : wrap64 (s + chI n i) = s + (C n i : Nat) := by rw [hc]; exact wr (by omega) (by omega)
    have hw2 : wrap64 ((i : Int) + 1) = ((i + 1 : Nat) : Int) := by rw [wr (by omega) (by omega)]; rfl
    simp only [hw1, hw2]
    have e := ih (i + 1) (s + (C n i : Nat)) (by omega) (by omega) (by omega)
    simp only [sumC]
    have e2 : s + (((C n i + sumC n d (i + 1) : Nat)) : Int) = s + (C n i : Nat) + (sumC n d (i + 1) : Nat) := by omega
    rw [e2]
    exact e
theorem implT (n k : Int) : Ev (fun j => impl_TailOf.f j n k) (tlI n k) := by
  unfold impl_TailOf.f tlI
  simp only [implIn, Option.bind_some, decide_eq_true_eq]
  by_cases h : 0 ≤ n ∧ n ≤ 20
  · rw [if_pos h]
    refine Ev.pos h ?_
    obtain ⟨a, rfl⟩ := Int.eq_ofNat_of_zero_le h.1
    by_cases h2 : mx 0 k ≤ a
    · have h3 : 0 ≤ mx 0 k := by rw [mx0]; split <;> omega
      obtain ⟨i, hi⟩ := Int.eq_ofNat_of_zero_le h3
      rw [hi] at h2 ⊢
      have e := implT_l a (by omega) (a + 1 - i) i 0 (by omega) (by omega) (by omega)
      simpa using e
    · have h3 : a + 1 - (mx 0 k).toNat = 0 := by omega
      simp only [Int.ofNat_eq_natCast, Int.toNat_natCast, h3, sumC]
      refine Ev.step (fun k => impl_TailOf.l0.eq_2 _ _ _ k) ?_
      exact Ev.neg h2 (Ev.some_ rfl)
  · rw [if_neg h]
    exact Ev.neg h (Ev.now _)

theorem implStops_l (l : List S49) (p : Int) (hl : l.length ≤ 20) (h0 : 0 ≤ p) (h1 : p ≤ 100) : ∀ (d i : Nat), 1 ≤ i → i + d = l.length + 1 → Ev (fun k => impl_StopsAt.l0 k l p i) (stopsF d l p i) := by
  intro d
  induction d with
  | zero =>
    intro i hi1 hi
    refine Ev.step (fun k => impl_StopsAt.l0.eq_2 _ _ _ k) ?_
    exact Ev.neg (by omega) (Ev.some_ rfl)
  | succ d ih =>
    intro i hi1 hi
    refine Ev.step (fun k => impl_StopsAt.l0.eq_2 _ _ _ k) ?_
    refine Ev.pos (by omega) ?_
    refine Ev.pos (by omega) ?_
    simp only [Int.toNat_natCast]
    refine Ev.bind (implWins (l.take i) (by rw [List.length_take]; omega)) ?_
    have hd := take_diff_le l i
    have e := ih (i + 1) (by omega) (by omega)
    simp only [wnextw (show i < 1000 by omega) (by omega)]
    unfold stopsF stopsB
    by_cases h3 : 0 < diffL (l.take i)
    · refine Ev.pos (by omega) ?_
      refine Ev.bind (implT _ _) ?_
      refine Ev.pos (by omega) ?_
      have a0 := tlI_nn (diffL (l.take i)) (winsL (l.take i))
      have a1 := tlI_le (diffL (l.take i)) (winsL (l.take i))
      have b := P2_le (diffL (l.take i)) (by omega) (by omega)
      have c := mulp_le h0 h1 (show 0 ≤ P2 (diffL (l.take i)) by omega) b.2
      have e1 : shl .i64 p (diffL (l.take i)) = p * P2 (diffL (l.take i)) := by
        have hm : min ((diffL (l.take i) : Nat) : Int).toNat IntKind.i64.bits = ((diffL (l.take i) : Nat) : Int).toNat := by
          show min ((diffL (l.take i) : Nat) : Int).toNat 64 = _
          omega
        unfold shl
        rw [hm, i64_w]
        exact wr (by show _ ≤ p * P2 _; omega) (by show p * P2 _ ≤ _; omega)
      have q := q_le i (by omega) (by omega)
      have q2 := qt_le _ _ q.1 q.2 a0 a1
      have e2 : wrap64 (wrap64 (wrap64 (100 * (i : Int)) * ((i + 1 : Nat) : Int)) * tlI (diffL (l.take i)) (winsL (l.take i))) = 100 * (i : Int) * (i + 1) * tlI (diffL (l.take i)) (winsL (l.take i)) := by
        rw [wr (x := 100 * (i : Int)) (by omega) (by omega)]
        have e3 : ((i + 1 : Nat) : Int) = (i : Int) + 1 := rfl
        rw [e3, wr (x := 100 * (i : Int) * (i + 1)) (by omega) (by omega)]
        exact wr (by omega) (by omega)
      simp only [e1, e2]
      by_cases h4 : 100 * (i : Int) * (i + 1) * tlI (diffL (l.take i)) (winsL (l.take i)) ≤ p * P2 (diffL (l.take i))
      · rw [if_pos (by simp [h3, h4])]
        exact Ev.pos h4 (Ev.some_ rfl)
      · rw [if_neg (by simp [h4])]
        exact Ev.neg h4 e
    · refine Ev.neg (by omega) ?_
      rw [if_neg (by simp [h3])]
      exact e
theorem implStops (l : List S49) (p : Int) : Ev (fun k => impl_StopsAt.f k l p) (stopsI l p) := by
  unfold impl_StopsAt.f stopsI
  simp only [implIn, Option.bind_some]
  by_cases hl : (l.length : Int) > 20
  · refine Ev.pos hl ?_
    rw [if_neg (by omega)]
    refine Ev.step (fun k => impl_StopsAt.j0.eq_2 _ _ _ k) ?_
    exact Ev.pos rfl (Ev.now _)
  · refine Ev.neg hl ?_
    refine Ev.step (fun k => impl_StopsAt.j0.eq_2 _ _ _ k) ?_
    by_cases h : 0 ≤ p ∧ p ≤ 100
    · rw [if_pos (by omega)]
      refine Ev.neg (by simp [h]) ?_
      exact implStops_l l p (by omega) h.1 h.2 _ 1 (by omega) (by omega)
    · rw [if_neg (by omega)]
      exact Ev.pos (by simp; omega) (Ev.now _)

theorem implRare (n k p : Int) : Ev (fun j => impl_IsRare.f j n k p) (rareI n k p) := by
  unfold impl_IsRare.f rareI
  simp only [implIn, Option.bind_some, decide_eq_true_eq]
  by_cases h1 : 1 ≤ n ∧ n ≤ 20
  · refine Ev.pos h1 ?_
    by_cases h2 : 0 ≤ p ∧ p ≤ 100
    · refine Ev.pos h2 ?_
      by_cases h3 : 0 ≤ k ∧ k ≤ n
      · refine Ev.pos h3 ?_
        refine Ev.bind (implT n k) ?_
        refine Ev.pos (by omega) ?_
        have a0 := tlI_nn n k
        have a1 := tlI_le n k
        have b := P2_le n (by omega) h1.2
        have c := mulp_le h2.1 h2.2 (show 0 ≤ P2 n by omega) b.2
        have e1 : shl .i64 p n = p * P2 n := by
          have hm : min n.toNat IntKind.i64.bits = n.toNat := by
            show min n.toNat 64 = n.toNat
            omega
          unfold shl
          rw [hm, i64_w]
          exact wr (by show _ ≤ p * P2 n; omega) (by show p * P2 n ≤ _; omega)
        simp only [e1, wr (x := 100 * tlI n k) (by omega) (by omega)]
        exact Ev.some_ (by simp [h1, h2, h3])
      · exact Ev.neg h3 (Ev.some_ (by simp; omega))
    · exact Ev.neg h2 (Ev.some_ (by simp; omega))
  · exact Ev.neg h1 (Ev.some_ (by simp; omega))

theorem wnext {i n : Nat} (h : i < n) (hn : n ≤ 9223372036854775807) : wrap64 ((i : Int) + 1) = ((i + 1 : Nat) : Int) := by rw [wr (by omega) (by omega)]; rfl

def sw (x : S49) : S49 := ⟨x.f1, x.f0⟩

theorem implSwap_l (l : List S49) (hl : l.length ≤ 1048576) : ∀ (d i : Nat) (acc : List S49), i + d = l.length → acc.length = l.length → (∀ j, j < i → acc[j]? = (l.map sw)[j]?) → Ev (fun k => impl_SwapPairs.l0 k acc l l.length i) (l.map sw) := by
  intro d
  induction d with
  | zero =>
    intro i acc hi ha hj
    refine Ev.step (fun k => impl_SwapPairs.l0.eq_2 _ _ _ _ k) ?_
    refine Ev.neg (by omega) (Ev.some_ ?_)
    apply List.ext_getElem?
    intro j
    by_cases h : j < i
    · exact hj j h
    · rw [List.getElem?_eq_none (by omega), List.getElem?_eq_none (by simp; omega)]
  | succ d ih =>
    intro i acc hi ha hj
    have hlt : i < l.length := by omega
    refine Ev.step (fun k => impl_SwapPairs.l0.eq_2 _ _ _ _ k) ?_
    refine Ev.pos (by omega) ?_
    refine Ev.pos (by omega) ?_
    refine Ev.pos (by omega) ?_
    refine Ev.pos (by omega) ?_
    have hr : rd_T49 l (i : Int) = l[i] := by simp [rd_T49, hlt, List.getD]
    simp only [wnext hlt (by omega), Int.toNat_natCast, hr]
    refine ih (i + 1) _ (by omega) (by simp; omega) ?_
    intro j hj2
    by_cases h : j = i
    · subst h
      rw [List.getElem?_set_self (by omega)]
      simp [sw, hlt]
    · rw [List.getElem?_set_ne (by omega)]
      exact hj j (by omega)
theorem implSwap (l : List S49) (hl : l.length ≤ 1048576) : Ev (fun k => impl_SwapPairs.f k l) (l.map sw) := by
  unfold impl_SwapPairs.f
  refine Ev.bnow (a := l) (by unfold impl_Pair.f; rw [if_pos (by omega)]) ?_
  exact implSwap_l l hl l.length 0 l (by omega) rfl (by intro j hj; omega)

def inB (a b x : Int) : Bool := decide (a ≤ x ∧ x ≤ b)
def okV (l : List Int) : Bool := l.all (inB 0 100000) && decide (l.length ≤ 12)

/-- The reference's way: one number is laid into a sorted list. -/
def insI (x : Int) (s : List Int) : List Int := s.takeWhile (fun y => decide (y ≤ x)) ++ x :: s.dropWhile (fun y => decide (y ≤ x))
theorem insI_perm (x : Int) (s : List Int) : (insI x s).Perm (x :: s) := by
  unfold insI
  refine (List.perm_middle).trans ?_
  rw [List.takeWhile_append_dropWhile]
theorem srt_perm (l : List Int) : (srt l).Perm l := List.mergeSort_perm _ _
theorem srt_sorted (l : List Int) : (srt l).Pairwise (· ≤ ·) := by
  have h := List.pairwise_mergeSort (le := fun x y : Int => decide (x ≤ y)) (by intro a b c; simp; omega) (by intro a b; simp; omega) l
  unfold srt
  exact h.imp (by intro a b h; simpa using h)
theorem insI_sorted (x : Int) : ∀ s : List Int, s.Pairwise (· ≤ ·) → (insI x s).Pairwise (· ≤ ·)
  | [], _ => by simp [insI]
  | y :: s, h => by
    rw [List.pairwise_cons] at h
    unfold insI
    by_cases hy : y ≤ x
    · rw [List.takeWhile_cons_of_pos (by simpa using hy), List.dropWhile_cons_of_pos (by simpa using hy), List.cons_append, List.pairwise_cons]
      refine ⟨?_, insI_sorted x s h.2⟩
      intro a ha
      have := (insI_perm x s).mem_iff.1 ha
      rcases List.mem_cons.1 this with rfl | h1
      · exact hy
      · exact h.1 a h1
    · rw [List.takeWhile_cons_of_neg (by simpa using hy), List.dropWhile_cons_of_neg (by simpa using hy), List.nil_append, List.pairwise_cons, List.pairwise_cons]
      refine ⟨?_, h.1, h.2⟩
      intro a ha
      rcases List.mem_cons.1 ha with rfl | h1
      · omega
      · have := h.1 a h1; omega
def insAll (l : List Int) : List Int := l.foldl (fun s x => insI x s) []
theorem insAll_gen (l : List Int) : ∀ s : List Int, s.Pairwise (· ≤ ·) → (l.foldl (fun s x => insI x s) s).Pairwise (· ≤ ·) ∧ (l.foldl (fun s x => insI x s) s).Perm (l ++ s) := by
  induction l with
  | nil => intro s h; exact ⟨h, List.Perm.refl _⟩
  | cons x l ih =>
    intro s h
    have := ih (insI x s) (insI_sorted x s h)
    refine ⟨this.1, this.2.trans ?_⟩
    exact (List.Perm.append_left l (insI_perm x s)).trans List.perm_middle
theorem insAll_srt (l : List Int) : insAll l = srt l := by
  have h := insAll_gen l [] List.Pairwise.nil
  rw [List.append_nil] at h
  exact List.Perm.eq_of_pairwise (le := (· ≤ ·)) (by intro a b _ _ h1 h2; omega) h.1 (srt_sorted l) (h.2.trans (srt_perm l).symm)
/-! the middle one -/
def med (l : List Int) : Int := if l.length = 0 then 0 else (srt l).getD (l.length / 2) 0
theorem med_below (l : List Int) : 2 * l.countP (fun x => decide (x < med l)) ≤ l.length := by
  unfold med
  split
  · rename_i h; have := List.eq_nil_of_length_eq_zero h; subst this; simp
  · rename_i h
    have hl := srt_length l
    have hlt : l.length / 2 < (srt l).length := by omega
    generalize hm : (srt l).getD (l.length / 2) 0 = m
    rw [← (srt_perm l).countP_eq]
    have hm' : (srt l)[l.length / 2] = m := by rw [← hm]; simp [List.getD, hlt]
    have hs := srt_sorted l
    rw [List.pairwise_iff_getElem] at hs
    have e : (srt l).countP (fun x => decide (x < m)) = ((srt l).take (l.length / 2)).countP (fun x => decide (x < m)) + ((srt l).drop (l.length / 2)).countP (fun x => decide (x < m)) := by
      rw [← List.countP_append, List.take_append_drop]
    have z : ((srt l).drop (l.length / 2)).countP (fun x => decide (x < m)) = 0 := by
      rw [List.countP_eq_zero]
      intro a ha
      obtain ⟨j, hj, rfl⟩ := List.mem_iff_getElem.1 ha
      rw [List.getElem_drop]
      rw [List.length_drop] at hj
      by_cases hj0 : j = 0
      · subst hj0; simp [hm']
      · have := hs (l.length / 2) (l.length / 2 + j) hlt (by omega) (by omega)
        rw [hm'] at this
        simp; omega
    have t : ((srt l).take (l.length / 2)).countP (fun x => decide (x < m)) ≤ l.length / 2 := by
      refine Nat.le_trans List.countP_le_length ?_
      rw [List.length_take]; omega
    omega
theorem med_above (l : List Int) : 2 * l.countP (fun x => decide (med l < x)) ≤ l.length := by
  unfold med
  split
  · rename_i h; have := List.eq_nil_of_length_eq_zero h; subst this; simp
  · rename_i h
    have hl := srt_length l
    have hlt : l.length / 2 < (srt l).length := by omega
    generalize hm : (srt l).getD (l.length / 2) 0 = m
    rw [← (srt_perm l).countP_eq]
    have hm' : (srt l)[l.length / 2] = m := by rw [← hm]; simp [List.getD, hlt]
    have hs := srt_sorted l
    rw [List.pairwise_iff_getElem] at hs
    have e : (srt l).countP (fun x => decide (m < x)) = ((srt l).take (l.length / 2 + 1)).countP (fun x => decide (m < x)) + ((srt l).drop (l.length / 2 + 1)).countP (fun x => decide (m < x)) := by
      rw [← List.countP_append, List.take_append_drop]
    have z : ((srt l).take (l.length / 2 + 1)).countP (fun x => decide (m < x)) = 0 := by
      rw [List.countP_eq_zero]
      intro a ha
      obtain ⟨j, hj, rfl⟩ := List.mem_iff_getElem.1 ha
      rw [List.getElem_take]
      rw [List.length_take] at hj
      by_cases hj0 : j = l.length / 2
      · subst hj0; simp [hm']
      · have := hs j (l.length / 2) (by omega) hlt (by omega)
        rw [hm'] at this
        simp; omega
    have t : ((srt l).drop (l.length / 2 + 1)).countP (fun x => decide (m < x)) ≤ (srt l).length - (l.length / 2 + 1) := by
      refine Nat.le_trans List.countP_le_length ?_
      rw [List.length_drop]; omega
    omega
/-- Distances from m, summed. -/
def far (m : Int) : List Int → Int
  | [] => 0
  | x :: l => (if x ≤ m then m - x else x - m) + far m l
theorem far_up (m c : Int) (h : m ≤ c) : ∀ l : List Int, far m l + (c - m) * (l.length - 2 * (l.countP (fun x => decide (m < x)) : Int)) ≤ far c l
  | [] => by simp [far]
  | x :: l => by
    have ih := far_up m c h l
    simp only [far, List.length_cons, List.countP_cons]
    generalize (l.countP (fun x => decide (m < x)) : Nat) = q at ih ⊢
    by_cases hx : m < x
    · simp only [hx, decide_true, if_true]
      have e : (c - m) * (((l.length + 1 : Nat) : Int) - 2 * ((q + 1 : Nat) : Int)) = (c - m) * ((l.length : Int) - 2 * (q : Int)) - (c - m) := by
        have : (((l.length + 1 : Nat) : Int) - 2 * ((q + 1 : Nat) : Int)) = ((l.length : Int) - 2 * (q : Int)) - 1 := by omega
        rw [this, Int.mul_sub, Int.mul_one]
      rw [e]
      generalize (c - m) * ((l.length : Int) - 2 * (q : Int)) = z at ih ⊢
      split <;> split <;> omega
    · simp only [hx, decide_false, Bool.false_eq_true, if_false]
      have e : (c - m) * (((l.length + 1 : Nat) : Int) - 2 * ((q + 0 : Nat) : Int)) = (c - m) * ((l.length : Int) - 2 * (q : Int)) + (c - m) := by
        have : (((l.length + 1 : Nat) : Int) - 2 * ((q + 0 : Nat) : Int)) = ((l.length : Int) - 2 * (q : Int)) + 1 := by omega
        rw [this, Int.mul_add, Int.mul_one]
      rw [e]
      generalize (c - m) * ((l.length : Int) - 2 * (q : Int)) = z at ih ⊢
      split <;> split <;> omega
theorem far_down (m c : Int) (h : c ≤ m) : ∀ l : List Int, far m l + (m - c) * (l.length - 2 * (l.countP (fun x => decide (x < m)) : Int)) ≤ far c l
  | [] => by simp [far]
  | x :: l => by
    have ih := far_down m c h l
    simp only [far, List.length_cons, List.countP_cons]
    generalize (l.countP (fun x => decide (x < m)) : Nat) = q at ih ⊢
    by_cases hx : x < m
    · simp only [hx, decide_true, if_true]
      have e : (m - c) * (((l.length + 1 : Nat) : Int) - 2 * ((q + 1 : Nat) : Int)) = (m - c) * ((l.length : Int) - 2 * (q : Int)) - (m - c) := by
        have : (((l.length + 1 : Nat) : Int) - 2 * ((q + 1 : Nat) : Int)) = ((l.length : Int) - 2 * (q : Int)) - 1 := by omega
        rw [this, Int.mul_sub, Int.mul_one]
      rw [e]
      generalize (m - c) * ((l.length : Int) - 2 * (q : Int)) = z at ih ⊢
      split <;> split <;> omega
    · simp only [hx, decide_false, Bool.false_eq_true, if_false]
      have e : (m - c) * (((l.length + 1 : Nat) : Int) - 2 * ((q + 0 : Nat) : Int)) = (m - c) * ((l.length : Int) - 2 * (q : Int)) + (m - c) := by
        have : (((l.length + 1 : Nat) : Int) - 2 * ((q + 0 : Nat) : Int)) = ((l.length : Int) - 2 * (q : Int)) + 1 := by omega
        rw [this, Int.mul_add, Int.mul_one]
      rw [e]
      generalize (m - c) * ((l.length : Int) - 2 * (q : Int)) = z at ih ⊢
      split <;> split <;> omega
/-- No place is nearer to all than the middle one. -/
theorem far_med (l : List Int) (c : Int) : far (med l) l ≤ far c l := by
  rcases Int.le_total (med l) c with h | h
  · have h1 := far_up (med l) c h l
    have h2 := med_above l
    have h3 : 0 ≤ (c - med l) * ((l.length : Int) - 2 * (l.countP (fun x => decide (med l < x)) : Int)) := Int.mul_nonneg (by omega) (by omega)
    omega
  · have h1 := far_down (med l) c h l
    have h2 := med_below l
    have h3 : 0 ≤ (med l - c) * ((l.length : Int) - 2 * (l.countP (fun x => decide (x < med l)) : Int)) := Int.mul_nonneg (by omega) (by omega)
    omega
theorem far_append (m : Int) (a b : List Int) : far m (a ++ b) = far m a + far m b := by
  induction a with
  | nil => simp [far]
  | cons x a ih => simp only [List.cons_append, far, ih]; omega

theorem insI_length (x : Int) (s : List Int) : (insI x s).length = s.length + 1 := by
  have := (insI_perm x s).length_eq
  simpa using this
theorem insI_at (x : Int) : ∀ (s : List Int) (j : Nat), j ≤ s.length → (∀ y ∈ s.take j, y ≤ x) → (∀ h : j < s.length, ¬ s[j] ≤ x) → ([] ++ s.take j) ++ [x] ++ s.drop j = insI x s
  | s, 0, _, _, h2 => by
    cases s with
    | nil => rfl
    | cons y s =>
      have : ¬ y ≤ x := h2 (by simp)
      unfold insI
      rw [List.takeWhile_cons_of_neg (by simpa using this), List.dropWhile_cons_of_neg (by simpa using this)]
      rfl
  | [], j + 1, h0, _, _ => by simp at h0
  | y :: s, j + 1, h0, h1, h2 => by
    have hy : y ≤ x := h1 y (by simp)
    have ih := insI_at x s j (by simpa using h0) (fun z hz => h1 z (by simp [hz])) (fun h => h2 (by simpa using h))
    unfold insI at ih ⊢
    rw [List.takeWhile_cons_of_pos (by simpa using hy), List.dropWhile_cons_of_pos (by simpa using hy), List.cons_append, ← ih]
    simp
theorem med_rd (l : List Int) : med l = if l.length = 0 then 0 else rd (srt l) ((l.length / 2 : Nat) : Int) := by
  unfold med rd
  rw [Int.toNat_natCast]
theorem implMed (l : List Int) (hl : l.length ≤ 1048576) : impl_MedianOf.f l = some (med l) := by
  rw [med_rd]
  unfold impl_MedianOf.f
  by_cases h : l.length = 0
  · rw [if_pos h, if_pos h]
  · rw [if_neg h, if_neg h, if_pos (by omega)]

def okP (p : S49) : Bool := inB 0 100000 p.f0 && inB 0 100000 p.f1
def gapW (p : S49) : Int := wrap64 (p.f1 - p.f0)
def mg (l : List S49) : Int := if l.all okP = true then med (l.map gapW) else 0
theorem rd_pair (l : List S49) (i : Nat) (h : i < l.length) : rd_T49 l (i : Int) = l[i] := by simp [rd_T49, h, List.getD]

theorem implGap_l (l : List S49) (hl : l.length ≤ 1048576) : ∀ (d i : Nat) (acc : List Int), i + d = l.length → acc.length = i → Ev (fun k => impl_MedianGap.l0 k acc l l.length i) (if (l.drop i).all okP = true then med (acc ++ (l.drop i).map gapW) else 0) := by
  intro d
  induction d with
  | zero =>
    intro i acc hi ha
    refine Ev.step (fun k => impl_MedianGap.l0.eq_2 _ _ _ _ k) ?_
    refine Ev.neg (by omega) ?_
    rw [List.drop_eq_nil_of_le (by omega)]
    refine Ev.bnow (implMed acc (by omega)) (Ev.some_ ?_)
    simp
  | succ d ih =>
    intro i acc hi ha
    have hlt : i < l.length := by omega
    refine Ev.step (fun k => impl_MedianGap.l0.eq_2 _ _ _ _ k) ?_
    refine Ev.pos (by omega) ?_
    refine Ev.pos (by omega) ?_
    refine Ev.pos (by omega) ?_
    rw [rd_pair l i hlt, List.drop_eq_getElem_cons hlt, List.all_cons, List.map_cons]
    refine Ev.bnow (a := inB 0 100000 l[i].f0) (by rw [implIn]; rfl) ?_
    unfold okP
    cases h0 : inB 0 100000 l[i].f0 with
    | false =>
      refine Ev.neg (by simp) (Ev.some_ ?_)
      rw [if_neg (by simp)]
    | true =>
      refine Ev.pos rfl ?_
      refine Ev.bnow (a := inB 0 100000 l[i].f1) (by rw [implIn]; rfl) ?_
      cases h1 : inB 0 100000 l[i].f1 with
      | false =>
        refine Ev.neg (by simp) (Ev.some_ ?_)
        rw [if_neg (by simp)]
      | true =>
        refine Ev.pos rfl ?_
        refine Ev.pos (by omega) ?_
        simp only [wnx hlt (by omega)]
        have e := ih (i + 1) (acc ++ [gapW l[i]]) (by omega) (by simp; omega)
        rw [List.append_assoc] at e
        exact e
theorem implGap (l : List S49) (hl : l.length ≤ 1048576) : Ev (fun k => impl_MedianGap.f k l) (mg l) := by
  unfold impl_MedianGap.f mg
  exact implGap_l l hl l.length 0 [] (by omega) rfl

theorem diff_sw (l : List S49) : diffL (l.map sw) = diffL l := by
  induction l with
  | nil => rfl
  | cons p l ih =>
    rw [List.map_cons, diffL_cons, diffL_cons, ih]
    by_cases h : p.f0 = p.f1
    · rw [if_pos (show (sw p).f1 = (sw p).f0 from h), if_pos h.symm]
    · rw [if_neg (show ¬ (sw p).f1 = (sw p).f0 from h), if_neg (fun e => h e.symm)]
theorem wins_sw (l : List S49) : winsL l + winsL (l.map sw) = diffL l := by
  induction l with
  | nil => rfl
  | cons p l ih =>
    rw [List.map_cons, diffL_cons, winsL_cons, winsL_cons]
    rcases Int.lt_trichotomy p.f0 p.f1 with h | h | h
    · rw [if_pos h, if_neg (show ¬ (sw p).f0 < (sw p).f1 from (show ¬ p.f1 < p.f0 by omega)), if_neg (show ¬ p.f1 = p.f0 by omega)]; omega
    · rw [if_neg (show ¬ p.f0 < p.f1 by omega), if_neg (show ¬ (sw p).f0 < (sw p).f1 from (show ¬ p.f1 < p.f0 by omega)), if_pos h.symm]; omega
    · rw [if_neg (show ¬ p.f0 < p.f1 by omega), if_pos (show (sw p).f0 < (sw p).f1 from h), if_neg (show ¬ p.f1 = p.f0 by omega)]; omega
theorem both_all : allN 21 (fun n => allN 22 (fun w => decide (w ≤ n → 2 ^ n ≤ sumC n (n + 1 - w) w + sumC n (n + 1 - (n - w)) (n - w)))) = true := by decide +kernel
theorem both_tl (n w : Nat) (hn : n ≤ 20) (hw : w ≤ n) : P2 n ≤ tlI n w + tlI n ((n - w : Nat) : Int) := by
  have e := allN_get (allN_get both_all n (by omega)) w (by omega)
  simp only [decide_eq_true_eq] at e
  have h := e hw
  unfold tlI P2
  rw [if_pos (by omega), if_pos (by omega)]
  have m1 : mx 0 (w : Int) = (w : Int) := by rw [mx0]; split <;> omega
  have m2 : mx 0 ((n - w : Nat) : Int) = ((n - w : Nat) : Int) := by rw [mx0]; split <;> omega
  rw [m1, m2]
  simp only [Int.toNat_natCast]
  have h3 : ((2 : Int) ^ n) = ((2 ^ n : Nat) : Int) := by simp
  rw [h3]
  omega
theorem both_rare (n w : Nat) (hw : w ≤ n) (p : Int) (hp : p < 50) (h1 : rareI n w p = true) (h2 : rareI n ((n - w : Nat) : Int) p = true) : False := by
  unfold rareI at h1 h2
  simp only [decide_eq_true_eq] at h1 h2
  have hb := both_tl n w (by omega) hw
  have hP := P2_le n (by omega) (by omega)
  have hm : p * P2 n ≤ 49 * P2 n := Int.mul_le_mul_of_nonneg_right (by omega) (by omega)
  have a1 := h1.2.2.2.2.2.2
  have a2 := h2.2.2.2.2.2.2
  generalize tlI n w = x at *
  generalize tlI n ((n - w : Nat) : Int) = y at *
  generalize p * P2 n = z at *
  generalize P2 n = q at *
  omega
theorem implShaped (l : List S49) (p : Int) (hl : l.length ≤ 1048576) : Ev (fun k => impl_IsShaped.f k l p) (decide (l.length ≤ 20) && rareI (diffL l) (winsL l) p) := by
  unfold impl_IsShaped.f
  refine Ev.bind (implWins _ hl) ?_
  by_cases h : (l.length : Int) ≤ 20
  · refine Ev.pos h ?_
    refine Ev.bind (implRare _ _ _) (Ev.some_ ?_)
    have : l.length ≤ 20 := by omega
    simp [this]
  · refine Ev.neg h (Ev.some_ ?_)
    have : ¬ l.length ≤ 20 := by omega
    simp [this]
theorem stopsF_is (l : List S49) (p : Int) : ∀ (d i : Nat), stopsF d l p i = 0 ∨ ∃ s : Nat, stopsF d l p i = s ∧ i ≤ s ∧ s < i + d ∧ stopsB l p s = true ∧ ∀ j, i ≤ j → j < s → stopsB l p j = false
  | 0, i => .inl rfl
  | d + 1, i => by
    unfold stopsF
    by_cases h : stopsB l p i = true
    · rw [if_pos h]
      exact .inr ⟨i, rfl, Nat.le_refl _, by omega, h, fun j h1 h2 => by omega⟩
    · rw [if_neg h]
      rcases stopsF_is l p d (i + 1) with h1 | ⟨s, h1, h2, h3, h4, h5⟩
      · exact .inl h1
      · refine .inr ⟨s, h1, by omega, by omega, h4, fun j a b => ?_⟩
        by_cases e : j = i
        · subst e; simpa using h
        · exact h5 j (by omega) b
theorem stopsF_at (l : List S49) (p : Int) (s : Nat) (hs : stopsB l p s = true) : ∀ (d i : Nat), i ≤ s → s < i + d → (∀ j, i ≤ j → j < s → stopsB l p j = false) → stopsF d l p i = s
  | 0, i, h1, h2, _ => by omega
  | d + 1, i, h1, h2, h3 => by
    unfold stopsF
    by_cases e : i = s
    · subst e; rw [if_pos hs]
    · rw [if_neg (by rw [h3 i (Nat.le_refl _) (by omega)]; simp)]
      exact stopsF_at l p s hs d (i + 1) (by omega) (by omega) (fun j a b => h3 j (by omega) b)
theorem stops_is (l : List S49) (p : Int) : stopsI l p = 0 ∨ ∃ s : Nat, stopsI l p = s ∧ 1 ≤ s ∧ s ≤ l.length ∧ stopsI (l.take s) p = s := by
  unfold stopsI
  by_cases h : l.length ≤ 20 ∧ 0 ≤ p ∧ p ≤ 100
  · rw [if_pos h]
    rcases stopsF_is l p l.length 1 with h1 | ⟨s, h1, h2, h3, h4, h5⟩
    · exact .inl h1
    · refine .inr ⟨s, h1, h2, by omega, ?_⟩
      have hlen : (l.take s).length = s := by rw [List.length_take]; omega
      rw [if_pos (by omega), hlen]
      have hB : ∀ j, j ≤ s → stopsB (l.take s) p j = stopsB l p j := fun j hj => by
        unfold stopsB
        rw [List.take_take, Nat.min_eq_left hj]
      refine stopsF_at (l.take s) p s (by rw [hB s (Nat.le_refl _)]; exact h4) s 1 h2 (by omega) (fun j a b => ?_)
      rw [hB j (by omega)]
      exact h5 j a b
  · rw [if_neg h]; exact .inl rfl
theorem cnt_ok (l : List S49) (hl : l.length ≤ 21) (g : Int) (hb : l.all okP = true → 2 * (l.map gapW).countP (fun x => decide (x < g)) ≤ l.length) (ha : l.all okP = true → 2 * (l.map gapW).countP (fun x => decide (g < x)) ≤ l.length) : ∀ (d i x y : Nat), i + d = l.length → x ≤ i → y ≤ i →
    x + ((l.drop i).map gapW).countP (fun x => decide (x < g)) = (l.map gapW).countP (fun x => decide (x < g)) → y + ((l.drop i).map gapW).countP (fun x => decide (g < x)) = (l.map gapW).countP (fun x => decide (g < x)) →
    Ev (fun k => laws_FnShaped.l0 k l g x y ((l.take i).all okP) i) true := by
  intro d
  induction d with
  | zero =>
    intro i x y hi hx hy ex ey
    rw [List.drop_eq_nil_of_le (by omega)] at ex ey
    simp only [List.map_nil, List.countP_nil, Nat.add_zero] at ex ey
    rw [List.take_of_length_le (by omega)]
    refine Ev.step (fun k => laws_FnShaped.l0.eq_2 _ _ _ _ _ _ k) ?_
    refine Ev.neg (by omega) ?_
    by_cases hok : l.all okP = true
    · have hb' := hb hok
      have ha' := ha hok
      refine Ev.pos hok ?_
      by_cases h0 : (l.length : Int) = 0
      · exact Ev.pos h0 (Ev.now _)
      · refine Ev.neg h0 ?_
        rw [wr (x := 2 * (x : Int)) (by omega) (by omega), wr (x := 2 * (y : Int)) (by omega) (by omega)]
        refine Ev.pos (by omega) (Ev.some_ ?_)
        exact decide_eq_true (by omega)
    · exact Ev.neg hok (Ev.now _)
  | succ d ih =>
    intro i x y hi hx hy ex ey
    have hlt : i < l.length := by omega
    have hrd := rd_pair l i hlt
    have htake : (l.take (i + 1)).all okP = ((l.take i).all okP && okP l[i]) := by
      rw [List.take_succ_eq_append_getElem hlt, List.all_append]; simp
    have hi1 := wnx hlt (by clear ex ey hb ha htake; omega)
    have hx1 := wnx (show x < 22 by clear ex ey hb ha htake hi1; omega) (by decide)
    have hy1 := wnx (show y < 22 by clear ex ey hb ha htake hi1 hx1; omega) (by decide)
    have hli : (i : Int) < (l.length : Int) := by clear ex ey hb ha htake hi1 hx1 hy1; omega
    have hj4 : Ev (fun k => laws_FnShaped.j4 k l g x y ((l.take (i + 1)).all okP) i) true := by
      refine Ev.step (fun k => laws_FnShaped.j4.eq_2 _ _ _ _ _ _ k) ?_
      refine Ev.pos (Int.natCast_nonneg _) ?_
      refine Ev.pos hli ?_
      rw [List.drop_eq_getElem_cons hlt, List.map_cons, List.countP_cons] at ex ey
      have hg : wrap64 ((rd_T49 l (i : Int)).f1 - (rd_T49 l (i : Int)).f0) = gapW l[i] := by rw [hrd]; rfl
      simp only [hg, hi1, hx1, hy1]
      by_cases c1 : gapW l[i] < g
      · refine Ev.pos c1 ?_
        have c2 : ¬ g < gapW l[i] := Int.not_lt.mpr (Int.le_of_lt c1)
        refine Ev.neg c2 ?_
        simp only [c1, c2, decide_true, decide_false, if_true, Bool.false_eq_true, if_false] at ex ey
        clear hi1 hx1 hy1 hli c1 c2 hb ha hg hrd htake
        exact ih (i + 1) (x + 1) y (by omega) (by omega) (by omega) (by omega) (by omega)
      · refine Ev.neg c1 ?_
        by_cases c2 : g < gapW l[i]
        · refine Ev.pos c2 ?_
          simp only [c1, c2, decide_true, decide_false, if_true, Bool.false_eq_true, if_false] at ex ey
          clear hi1 hx1 hy1 hli c1 c2 hb ha hg hrd htake
          exact ih (i + 1) x (y + 1) (by omega) (by omega) (by omega) (by omega) (by omega)
        · refine Ev.neg c2 ?_
          simp only [c1, c2, decide_true, decide_false, if_true, Bool.false_eq_true, if_false] at ex ey
          clear hi1 hx1 hy1 hli c1 c2 hb ha hg hrd htake
          exact ih (i + 1) x y (by omega) (by omega) (by omega) (by omega) (by omega)
    rw [htake] at hj4
    clear ex ey hb ha ih
    refine Ev.step (fun k => laws_FnShaped.l0.eq_2 _ _ _ _ _ _ k) ?_
    refine Ev.pos hli ?_
    rw [hrd]
    cases hq : (l.take i).all okP with
    | false =>
      rw [hq, Bool.false_and] at hj4
      exact Ev.neg (by simp) hj4
    | true =>
      rw [hq, Bool.true_and] at hj4
      unfold okP inB at hj4
      refine Ev.pos rfl ?_
      refine Ev.pos (Int.natCast_nonneg _) ?_
      by_cases a0 : l[i].f0 ≥ 0
      · refine Ev.pos a0 ?_
        by_cases a1 : l[i].f0 ≤ 100000
        · refine Ev.pos a1 ?_
          by_cases a2 : l[i].f1 ≥ 0
          · refine Ev.pos a2 ?_
            have : (decide (0 ≤ l[i].f0 ∧ l[i].f0 ≤ 100000) && decide (0 ≤ l[i].f1 ∧ l[i].f1 ≤ 100000)) = decide (l[i].f1 ≤ 100000) := by
              rw [decide_eq_true ⟨a0, a1⟩, Bool.true_and]
              apply decide_eq_decide.mpr; omega
            rw [this] at hj4
            exact hj4
          · refine Ev.neg a2 ?_
            rw [decide_eq_false (p := 0 ≤ l[i].f1 ∧ l[i].f1 ≤ 100000) (by omega), Bool.and_false] at hj4
            exact hj4
        · refine Ev.neg a1 ?_
          rw [decide_eq_false (p := 0 ≤ l[i].f0 ∧ l[i].f0 ≤ 100000) (by omega), Bool.false_and] at hj4
          exact hj4
      · refine Ev.neg a0 ?_
        rw [decide_eq_false (p := 0 ≤ l[i].f0 ∧ l[i].f0 ≤ 100000) (by omega), Bool.false_and] at hj4
        exact hj4
theorem j2_ok (l : List S49) (hl : l.length ≤ 21) : Ev (fun k => laws_FnShaped.j2 k l false) true := by
  refine Ev.step (fun k => laws_FnShaped.j2.eq_2 _ _ k) ?_
  refine Ev.neg (by simp) ?_
  refine Ev.bind (implGap l (by omega)) ?_
  have hm : l.all okP = true → mg l = med (l.map gapW) := fun h => by unfold mg; rw [if_pos h]
  have e := cnt_ok l hl (mg l) (fun h => by rw [hm h]; have := med_below (l.map gapW); rwa [List.length_map] at this) (fun h => by rw [hm h]; have := med_above (l.map gapW); rwa [List.length_map] at this) l.length 0 0 0 (by omega) (by omega) (by omega) (by simp) (by simp)
  exact e
theorem j1_ok (l : List S49) (p : Int) (hl : l.length ≤ 21) : Ev (fun k => laws_FnShaped.j1 k l p false) true := by
  refine Ev.step (fun k => laws_FnShaped.j1.eq_2 _ _ _ k) ?_
  refine Ev.neg (by simp) ?_
  refine Ev.bind (implStops l p) ?_
  rcases stops_is l p with h | ⟨s, h, h1, h2, h3⟩
  · rw [h]
    refine Ev.neg (by omega) ?_
    refine Ev.neg (by omega) ?_
    exact Ev.neg (by omega) (j2_ok l hl)
  · rw [h]
    refine Ev.neg (by omega) ?_
    refine Ev.neg (by omega) ?_
    refine Ev.pos (by omega) ?_
    refine Ev.pos (by omega) ?_
    refine Ev.pos (by omega) ?_
    refine Ev.bind (implStops _ p) ?_
    rw [Int.toNat_natCast, h3]
    rw [show ((s : Int) != (s : Int)) = false from by simp]
    exact j2_ok l hl
theorem FnShaped : laws_FnShaped.Pure := by
  intro c _ _ _
  refine Ev.rounds (g := fun j => laws_FnShaped.f j c) ?_
  unfold laws_FnShaped.f
  refine Ev.bnow (big_eq c) ?_
  by_cases hb : (c.length : Int) > 1048576
  · exact Ev.pos (by simpa using hb) (Ev.now _)
  · refine Ev.neg (by simpa using hb) ?_
    have hc : c.length ≤ 1048576 := by omega
    obtain ⟨l, p, e, hl⟩ := drawShaped_ok c hc
    have hls : (l.map sw).length ≤ 1048576 := by rw [List.length_map]; omega
    refine Ev.bind e ?_
    refine Ev.bind (implSwap l (by omega)) ?_
    refine Ev.bind (implWins l (by omega)) ?_
    refine Ev.bind (implWins (l.map sw) hls) ?_
    have hd := diff_sw l
    have hw := wins_sw l
    have hdl := diffL_le l
    have hwl := winsL_le l
    dsimp only
    rw [hd]
    refine Ev.pos rfl ?_
    rw [wr (by omega) (by omega)]
    refine Ev.pos (by omega) ?_
    rw [decide_eq_false (show ¬ ((diffL l : Nat) : Int) > (l.length : Int) by omega)]
    refine Ev.step (fun k => laws_FnShaped.j0.eq_2 _ _ _ _ k) ?_
    refine Ev.neg (by simp) ?_
    by_cases hp : p < 50
    · refine Ev.pos hp ?_
      refine Ev.bind (implShaped l p (by omega)) ?_
      by_cases h1 : (decide (l.length ≤ 20) && rareI (diffL l) (winsL l) p) = true
      · refine Ev.pos h1 ?_
        refine Ev.bind (implShaped (l.map sw) p hls) ?_
        have hn : (decide ((l.map sw).length ≤ 20) && rareI (diffL (l.map sw)) (winsL (l.map sw)) p) = false := by
          rw [Bool.and_eq_true] at h1
          rw [Bool.eq_false_iff]
          intro h2
          rw [Bool.and_eq_true, hd] at h2
          have h3 := h2.2
          rw [show winsL (l.map sw) = diffL l - winsL l by omega] at h3
          exact both_rare (diffL l) (winsL l) (wins_le_diff l) p hp h1.2 h3
        rw [hn]
        exact j1_ok l p hl
      · exact Ev.neg h1 (j1_ok l p hl)
    · exact Ev.neg hp (j1_ok l p hl)

end Go.Proofs.Ytmlddlnmplnlaaa.Pure
