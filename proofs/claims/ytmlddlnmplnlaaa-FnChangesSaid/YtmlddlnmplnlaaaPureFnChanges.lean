/- The law FnChanges returns true at every list of bytes: no other place divides a series better, and what is far apart is found. No condition. -/
import Derived.Test.YtmlddlnmplnlaaaHFnChangesx4
namespace Go.Proofs.Ytmlddlnmplnlaaa.Pure
open Go.RowKit Go.Proofs.Ytmlddlnmplnlaaa.PFnChanges Go.Proofs.YtmlddlnmplnlaaaW.PrintWords Go.Proofs.YtmlddlnmplnlaaaW.PrintLast
set_option linter.unusedSimpArgs false
set_option linter.unusedVariables false

theorem wr {x : Int} (h1 : -9223372036854775808 ≤ x) (h2 : x ≤ 9223372036854775807) : wrap64 x = x := by unfold wrap64; omega
theorem Ev.pos {α : Type} {c : Prop} [Decidable c] {g f : Nat → Option α} {r : α} (h : c) (e : Ev g r) : Ev (fun k => if c then g k else f k) r := by
  simp only [if_pos h]; exact e
theorem Ev.neg {α : Type} {c : Prop} [Decidable c] {g f : Nat → Option α} {r : α} (h : ¬ c) (e : Ev f r) : Ev (fun k => if c then g k else f k) r := by
  simp only [if_neg h]; exact e
theorem Ev.some_ {α : Type} {r r' : α} (h : r = r') : Ev (fun _ => some r) r' := h ▸ Ev.now r
theorem Ev.bnow {α β : Type} {g : Option α} {f : Nat → α → Option β} {a : α} {r : β} (h : g = some a) (k : Ev (fun n => f n a) r) : Ev (fun n => g.bind (f n)) r := by
  subst h; exact k

theorem and_le (x : Int) (m : Nat) (hm : m < 4611686018427387904) : 0 ≤ Go.bits .and .i64 x m ∧ Go.bits .and .i64 x m ≤ m := by
  simp only [Go.bits, BitVec.toNat_and, BitVec.ofInt_natCast, BitVec.toNat_ofNat]
  have h1 : (BitVec.ofInt IntKind.i64.bits x).toNat &&& m % 2 ^ IntKind.i64.bits ≤ m % 2 ^ IntKind.i64.bits := Nat.and_le_right
  have h2 : m % 2 ^ IntKind.i64.bits = m := Nat.mod_eq_of_lt (by show m < 2 ^ 64; omega)
  rw [h2] at h1 ⊢
  rw [i64_w, wr (by omega) (by omega)]
  omega
theorem new_l (l : List Int) (hl : l.length ≤ 1048576) : ∀ (d i : Nat) (h : Int), l.length - i ≤ d → i ≤ l.length → ∃ h', Ev (fun k => spec_l1New.l0 k l h i) (l, 0, h') := by
  intro d
  induction d with
  | zero =>
    intro i h hi hi2
    refine ⟨h, Ev.step (fun k => spec_l1New.l0.eq_2 _ _ _ k) ?_⟩
    exact Ev.neg (by omega) (Ev.now _)
  | succ d ih =>
    intro i h hi hi2
    by_cases h1 : (i : Int) < (l.length : Int)
    · by_cases h2 : (i : Int) < 4000
      · obtain ⟨h', e⟩ := ih (i + 1) (Go.bits .and .i64 (wrap64 ((wrap64 ((wrap64 (h * 137)) + (wrap64 (rd l i)))) + 11)) 1073741823) (by omega) (by omega)
        refine ⟨h', Ev.step (fun k => spec_l1New.l0.eq_2 _ _ _ k) (Ev.pos h1 (Ev.pos h2 (Ev.pos (by omega) ?_)))⟩
        rw [wr (x := (i : Int) + 1) (by omega) (by omega)]
        exact e
      · exact ⟨h, Ev.step (fun k => spec_l1New.l0.eq_2 _ _ _ k) (Ev.pos h1 (Ev.neg h2 (Ev.now _)))⟩
    · exact ⟨h, Ev.step (fun k => spec_l1New.l0.eq_2 _ _ _ k) (Ev.neg h1 (Ev.now _))⟩
theorem new_ok (l : List Int) (hl : l.length ≤ 1048576) : ∃ h, Ev (fun k => spec_l1New.f k l) (l, 0, h) := by
  unfold spec_l1New.f
  exact new_l l hl l.length 0 _ (by omega) (by omega)
/-- The cursor stands in the bytes. -/
def Cur (b : List Int) (i : Int) : Prop := 0 ≤ i ∧ i ≤ b.length ∧ b.length ≤ 1048576
theorem byte_ok (b : List Int) (i h : Int) (hc : Cur b i) : ∃ x i' h', spec_l1Byte.f b i h = some (x, i', h') ∧ 0 ≤ x ∧ x ≤ 255 ∧ Cur b i' := by
  obtain ⟨h0, h1, h2⟩ := hc
  unfold spec_l1Byte.f
  by_cases hi : i < (b.length : Int)
  · rw [if_pos hi, if_pos h0, wr (x := i + 1) (by omega) (by omega)]
    have a := and_le (wrap64 ((Go.bits .and .i64 (Go.bits .xor .i64 ((wrap64 ((wrap64 (h * 6364136223846793005)) + 1442695040888963407)) / 8589934592) ((wrap64 ((wrap64 (h * 6364136223846793005)) + 1442695040888963407)) / 140737488355328)) 255) + (wrap64 (rd b i)))) 255 (by decide)
    exact ⟨_, _, _, rfl, a.1, a.2, by omega, by omega, h2⟩
  · rw [if_neg hi]
    have a := and_le (Go.bits .xor .i64 ((wrap64 ((wrap64 (h * 6364136223846793005)) + 1442695040888963407)) / 8589934592) ((wrap64 ((wrap64 (h * 6364136223846793005)) + 1442695040888963407)) / 140737488355328)) 255 (by decide)
    exact ⟨_, _, _, rfl, a.1, a.2, h0, h1, h2⟩
theorem below_ok (b : List Int) (i h a : Int) (hc : Cur b i) (ha : 0 < a) (ha2 : a ≤ 256) : ∃ x i' h', spec_l1Below.f b i h a = some (x, i', h') ∧ 0 ≤ x ∧ x < a ∧ Cur b i' := by
  obtain ⟨x, i', h', e, h0, h1, hc'⟩ := byte_ok b i h hc
  refine ⟨Int.tmod x a, i', h', ?_, Int.tmod_nonneg _ h0, Int.tmod_lt_of_pos _ ha, hc'⟩
  unfold spec_l1Below.f
  rw [if_neg (by omega), if_pos ha2, e]
  simp only [Option.bind_some]
  rw [if_neg (by omega)]

theorem int_ok (b : List Int) (i h : Int) (l : List Int) (hc : Cur b i) (hl : 0 < l.length) (hl2 : l.length ≤ 256) : ∃ x i' h', spec_l1Int.f b i h l = some (x, i', h') ∧ x ∈ l ∧ Cur b i' := by
  obtain ⟨x, i', h', e, h0, h1, hc'⟩ := below_ok b i h l.length hc (by omega) (by omega)
  refine ⟨rd l x, i', h', ?_, ?_, hc'⟩
  · unfold spec_l1Int.f
    rw [e]
    simp only [Option.bind_some]
    rw [if_pos h0, if_pos h1]
  · unfold rd
    have hlt : x.toNat < l.length := by omega
    simp [List.getD, hlt]

theorem wnx {i n : Nat} (h : i < n) (hn : n ≤ 9223372036854775807) : wrap64 ((i : Int) + 1) = ((i + 1 : Nat) : Int) := by rw [wr (by omega) (by omega)]; rfl
theorem rd_get (l : List Int) (i : Nat) (h : i < l.length) : rd l (i : Int) = l[i] := by simp [rd, List.getD, h]

theorem once_ok (b : List Int) (i h a : Int) (hc : Cur b i) (ha : 0 < a) (ha2 : a ≤ 256) : ∃ x i' h', spec_l1Once.f b i h a = some (x, i', h') ∧ Cur b i' := by
  obtain ⟨x, i', h', e, _, _, c⟩ := below_ok b i h a hc ha ha2
  refine ⟨x == 0, i', h', ?_, c⟩
  unfold spec_l1Once.f
  rw [e]; rfl

theorem raw_ok (b : List Int) (i h : Int) (hc : Cur b i) : ∃ x i' h', spec_l9Raw.f b i h = some (x, i', h') ∧ Cur b i' := by
  unfold spec_l9Raw.f
  obtain ⟨x, i1, h1, e1, c1⟩ := once_ok b i h 6 hc (by omega) (by omega)
  rw [e1]
  simp only [Option.bind_some]
  obtain ⟨p, j, g, f, _, k⟩ := int_ok b i1 h1 [(-1), 0, 100000, 100001, (-100000), (-100001), 9223372036854775807, (-9223372036854775808)] c1 (by decide) (by decide)
  obtain ⟨p2, j2, g2, f2, _, _, k2⟩ := below_ok b i1 h1 60 c1 (by omega) (by omega)
  rw [f, f2]
  simp only [Option.bind_some]
  split
  · exact ⟨_, _, _, rfl, k⟩
  · exact ⟨_, _, _, rfl, k2⟩

theorem big_eq (l : List Int) : laws_big.f l = some (decide ((l.length : Int) > 1048576)) := rfl

theorem any_l (b : List Int) (n : Nat) (hn : n ≤ 17) : ∀ (d i : Nat) (base : Int) (acc : List Int) (ci ch : Int), i + d = n → acc.length = i → Cur b ci →
    ∃ L ci' ch', Ev (fun k => spec_l21Any.l0 k acc base n i b ci ch) (L, ci', ch') ∧ L.length ≤ 17 ∧ Cur b ci' := by
  intro d
  induction d with
  | zero =>
    intro i base acc ci ch hi ha hc
    by_cases h0 : (n : Int) > 0
    · obtain ⟨x, i1, h1, e1, c1⟩ := once_ok b ci ch 8 hc (by omega) (by omega)
      cases x with
      | true =>
        obtain ⟨y, i2, h2, e2, c2⟩ := raw_ok b i1 h1 c1
        exact ⟨acc.set 0 y, i2, h2, Ev.step (fun k => spec_l21Any.l0.eq_2 _ _ _ _ _ _ _ k) (Ev.neg (by omega) (Ev.pos h0 (Ev.bnow e1 (Ev.pos rfl (Ev.bnow e2 (Ev.pos (by omega) (Ev.now _))))))), by simp; omega, c2⟩
      | false =>
        exact ⟨acc, i1, h1, Ev.step (fun k => spec_l21Any.l0.eq_2 _ _ _ _ _ _ _ k) (Ev.neg (by omega) (Ev.pos h0 (Ev.bnow e1 (Ev.neg (by simp) (Ev.now _))))), by omega, c1⟩
    · exact ⟨acc, ci, ch, Ev.step (fun k => spec_l21Any.l0.eq_2 _ _ _ _ _ _ _ k) (Ev.neg (by omega) (Ev.neg h0 (Ev.now _))), by omega, hc⟩
  | succ d ih =>
    intro i base acc ci ch hi ha hc
    obtain ⟨x, i1, h1, e1, c1⟩ := once_ok b ci ch 7 hc (by omega) (by omega)
    have hw := wnx (show i < n by omega) (by omega)
    cases x with
    | true =>
      obtain ⟨y, i2, h2, e2, _, _, c2⟩ := below_ok b i1 h1 30 c1 (by omega) (by omega)
      obtain ⟨z, i3, h3, e3, _, _, c3⟩ := below_ok b i2 h2 4 c2 (by omega) (by omega)
      obtain ⟨L, ci', ch', e, hL, c'⟩ := ih (i + 1) (wrap64 (base + y)) (acc ++ [wrap64 (wrap64 (base + y) + z)]) i3 h3 (by omega) (by simp; omega) c3
      refine ⟨L, ci', ch', Ev.step (fun k => spec_l21Any.l0.eq_2 _ _ _ _ _ _ _ k) (Ev.pos (by omega) (Ev.bnow e1 (Ev.pos rfl (Ev.bnow e2 (Ev.bnow e3 (Ev.pos (by omega) ?_)))))), hL, c'⟩
      simp only [hw]
      exact e
    | false =>
      obtain ⟨z, i3, h3, e3, _, _, c3⟩ := below_ok b i1 h1 4 c1 (by omega) (by omega)
      obtain ⟨L, ci', ch', e, hL, c'⟩ := ih (i + 1) base (acc ++ [wrap64 (base + z)]) i3 h3 (by omega) (by simp; omega) c3
      refine ⟨L, ci', ch', Ev.step (fun k => spec_l21Any.l0.eq_2 _ _ _ _ _ _ _ k) (Ev.pos (by omega) (Ev.bnow e1 (Ev.neg (by simp) (Ev.bnow e3 (Ev.pos (by omega) ?_))))), hL, c'⟩
      simp only [hw]
      exact e
theorem any_ok (b : List Int) (ci ch : Int) (hc : Cur b ci) : ∃ L ci' ch', Ev (fun k => spec_l21Any.f k b ci ch) (L, ci', ch') ∧ L.length ≤ 17 ∧ Cur b ci' := by
  unfold spec_l21Any.f
  obtain ⟨x, i1, h1, e1, _, _, c1⟩ := below_ok b ci ch 20 hc (by omega) (by omega)
  obtain ⟨y, i2, h2, e2, y0, y1, c2⟩ := below_ok b i1 h1 12 c1 (by omega) (by omega)
  obtain ⟨z, i3, h3, e3, c3⟩ := once_ok b i2 h2 9 c2 (by omega) (by omega)
  cases z with
  | true =>
    obtain ⟨v, i4, h4, e4, v0, v1, c4⟩ := below_ok b i3 h3 2 c3 (by omega) (by omega)
    obtain ⟨m, hm⟩ := Int.eq_ofNat_of_zero_le (show 0 ≤ 16 + v by omega)
    obtain ⟨L, ci', ch', e, hL, c'⟩ := any_l b m (by omega) m 0 (wrap64 (10 + x)) [] i4 h4 (by omega) rfl c4
    refine ⟨L, ci', ch', Ev.bnow rfl (Ev.bnow e1 (Ev.bnow e2 (Ev.bnow e3 (Ev.pos rfl (Ev.bnow e4 ?_))))), hL, c'⟩
    refine Ev.step (fun k => spec_l21Any.j0.eq_2 _ _ _ _ _ _ k) ?_
    dsimp only
    rw [wr (x := 16 + v) (by omega) (by omega), hm]
    exact e
  | false =>
    obtain ⟨m, hm⟩ := Int.eq_ofNat_of_zero_le y0
    obtain ⟨L, ci', ch', e, hL, c'⟩ := any_l b m (by omega) m 0 (wrap64 (10 + x)) [] i3 h3 (by omega) rfl c3
    refine ⟨L, ci', ch', Ev.bnow rfl (Ev.bnow e1 (Ev.bnow e2 (Ev.bnow e3 (Ev.neg (by simp) ?_)))), hL, c'⟩
    refine Ev.step (fun k => spec_l21Any.j0.eq_2 _ _ _ _ _ _ k) ?_
    dsimp only
    rw [hm]
    exact e
theorem drawHch_ok (c : List Int) (hc : c.length ≤ 1048576) : ∃ L g, Ev (fun k => spec_DrawHasChanged.f k c) (L, g) ∧ L.length ≤ 17 ∧ g ≤ 9223372036854775807 := by
  unfold spec_DrawHasChanged.f
  obtain ⟨h, eN⟩ := new_ok c hc
  obtain ⟨L, i1, h1, e1, hL, c1⟩ := any_ok c 0 h ⟨by omega, by omega, hc⟩
  obtain ⟨g, i2, h2, e2, hg, _⟩ := int_ok c i1 h1 [(-1), 0, 1, 5, 20, 60, 9223372036854775807] c1 (by decide) (by decide)
  refine ⟨L, g, Ev.bind eN (Ev.bind e1 (Ev.bnow e2 (Ev.now _))), hL, ?_⟩
  simp at hg
  omega

def inB (a b x : Int) : Bool := decide (a ≤ x ∧ x ≤ b)
def okV (l : List Int) : Bool := l.all (inB 0 100000) && decide (l.length ≤ 12)

/-- The reference's way: one number is laid into a sorted list. -/
def insI (x : Int) (s : List Int) : List Int := s.takeWhile (fun y => decide (y ≤ x)) ++ x :: s.dropWhile (fun y => decide (y ≤ x))
theorem insI_perm (x : Int) (s : List Int) : (insI x s).Perm (x :: s) := by
  unfold insI
  refine (List.perm_middle).trans ?_
  rw [List.takeWhile_append_dropWhile]
theorem srt_perm (l : List Int) : (srt l).Perm l := List.mergeSort_perm _ _
theorem srt_sorted (l : List Int) : (srt l).Pairwise (· ≤ ·) := by
  have h := List.pairwise_mergeSort (le := fun x y : Int => decide (x ≤ y)) (by intro a b c; simp; omega) (by intro a b; simp; omega) l
  unfold srt
  exact h.imp (by intro a b h; simpa using h)
theorem insI_sorted (x : Int) : ∀ s : List Int, s.Pairwise (· ≤ ·) → (insI x s).Pairwise (· ≤ ·)
  | [], _ => by simp [insI]
  | y :: s, h => by
    rw [List.pairwise_cons] at h
    unfold insI
    by_cases hy : y ≤ x
    · rw [List.takeWhile_cons_of_pos (by simpa using hy), List.dropWhile_cons_of_pos (by simpa using hy), List.cons_append, List.pairwise_cons]
      refine ⟨?_, insI_sorted x s h.2⟩
      intro a ha
      have := (insI_perm x s).mem_iff.1 ha
      rcases List.mem_cons.1 this with rfl | h1
      · exact hy
      · exact h.1 a h1
    · rw [List.takeWhile_cons_of_neg (by simpa using hy), List.dropWhile_cons_of_neg (by simpa using hy), List.nil_append, List.pairwise_cons, List.pairwise_cons]
      refine ⟨?_, h.1, h.2⟩
      intro a ha
      rcases List.mem_cons.1 ha with rfl | h1
      · omega
      · have := h.1 a h1; omega
def insAll (l : List Int) : List Int := l.foldl (fun s x => insI x s) []
theorem insAll_gen (l : List Int) : ∀ s : List Int, s.Pairwise (· ≤ ·) → (l.foldl (fun s x => insI x s) s).Pairwise (· ≤ ·) ∧ (l.foldl (fun s x => insI x s) s).Perm (l ++ s) := by
  induction l with
  | nil => intro s h; exact ⟨h, List.Perm.refl _⟩
  | cons x l ih =>
    intro s h
    have := ih (insI x s) (insI_sorted x s h)
    refine ⟨this.1, this.2.trans ?_⟩
    exact (List.Perm.append_left l (insI_perm x s)).trans List.perm_middle
theorem insAll_srt (l : List Int) : insAll l = srt l := by
  have h := insAll_gen l [] List.Pairwise.nil
  rw [List.append_nil] at h
  exact List.Perm.eq_of_pairwise (le := (· ≤ ·)) (by intro a b _ _ h1 h2; omega) h.1 (srt_sorted l) (h.2.trans (srt_perm l).symm)
/-! the middle one -/
def med (l : List Int) : Int := if l.length = 0 then 0 else (srt l).getD (l.length / 2) 0
theorem med_below (l : List Int) : 2 * l.countP (fun x => decide (x < med l)) ≤ l.length := by
  unfold med
  split
  · rename_i h; have := List.eq_nil_of_length_eq_zero h; subst this; simp
  · rename_i h
    have hl := srt_length l
    have hlt : l.length / 2 < (srt l).length := by omega
    generalize hm : (srt l).getD (l.length / 2) 0 = m
    rw [← (srt_perm l).countP_eq]
    have hm' : (srt l)[l.length / 2] = m := by rw [← hm]; simp [List.getD, hlt]
    have hs := srt_sorted l
    rw [List.pairwise_iff_getElem] at hs
    have e : (srt l).countP (fun x => decide (x < m)) = ((srt l).take (l.length / 2)).countP (fun x => decide (x < m)) + ((srt l).drop (l.length / 2)).countP (fun x => decide (x < m)) := by
      rw [← List.countP_append, List.take_append_drop]
    have z : ((srt l).drop (l.length / 2)).countP (fun x => decide (x < m)) = 0 := by
      rw [List.countP_eq_zero]
      intro a ha
      obtain ⟨j, hj, rfl⟩ := List.mem_iff_getElem.1 ha
      rw [List.getElem_drop]
      rw [List.length_drop] at hj
      by_cases hj0 : j = 0
      · subst hj0; simp [hm']
      · have := hs (l.length / 2) (l.length / 2 + j) hlt (by omega) (by omega)
        rw [hm'] at this
        simp; omega
    have t : ((srt l).take (l.length / 2)).countP (fun x => decide (x < m)) ≤ l.length / 2 := by
      refine Nat.le_trans List.countP_le_length ?_
      rw [List.length_take]; omega
    omega
theorem med_above (l : List Int) : 2 * l.countP (fun x => decide (med l < x)) ≤ l.length := by
  unfold med
  split
  · rename_i h; have := List.eq_nil_of_length_eq_zero h; subst this; simp
  · rename_i h
    have hl := srt_length l
    have hlt : l.length / 2 < (srt l).length := by omega
    generalize hm : (srt l).getD (l.length / 2) 0 = m
    rw [← (srt_perm l).countP_eq]
    have hm' : (srt l)[l.length / 2] = m := by rw [← hm]; simp [List.getD, hlt]
    have hs := srt_sorted l
    rw [List.pairwise_iff_getElem] at hs
    have e : (srt l).countP (fun x => decide (m < x)) = ((srt l).take (l.length / 2 + 1)).countP (fun x => decide (m < x)) + ((srt l).drop (l.length / 2 + 1)).countP (fun x => decide (m < x)) := by
      rw [← List.countP_append, List.take_append_drop]
    have z : ((srt l).take (l.length / 2 + 1)).countP (fun x => decide (m < x)) = 0 := by
      rw [List.countP_eq_zero]
      intro a ha
      obtain ⟨j, hj, rfl⟩ := List.mem_iff_getElem.1 ha
      rw [List.getElem_take]
      rw [List.length_take] at hj
      by_cases hj0 : j = l.length / 2
      · subst hj0; simp [hm']
      · have := hs j (l.length / 2) (by omega) hlt (by omega)
        rw [hm'] at this
        simp; omega
    have t : ((srt l).drop (l.length / 2 + 1)).countP (fun x => decide (m < x)) ≤ (srt l).length - (l.length / 2 + 1) := by
      refine Nat.le_trans List.countP_le_length ?_
      rw [List.length_drop]; omega
    omega
/-- Distances from m, summed. -/
def far (m : Int) : List Int → Int
  | [] => 0
  | x :: l => (if x ≤ m then m - x else x - m) + far m l
theorem far_up (m c : Int) (h : m ≤ c) : ∀ l : List Int, far m l + (c - m) * (l.length - 2 * (l.countP (fun x => decide (m < x)) : Int)) ≤ far c l
  | [] => by simp [far]
  | x :: l => by
    have ih := far_up m c h l
    simp only [far, List.length_cons, List.countP_cons]
    generalize (l.countP (fun x => decide (m < x)) : Nat) = q at ih ⊢
    by_cases hx : m < x
    · simp only [hx, decide_true, if_true]
      have e : (c - m) * (((l.length + 1 : Nat) : Int) - 2 * ((q + 1 : Nat) : Int)) = (c - m) * ((l.length : Int) - 2 * (q : Int)) - (c - m) := by
        have : (((l.length + 1 : Nat) : Int) - 2 * ((q + 1 : Nat) : Int)) = ((l.length : Int) - 2 * (q : Int)) - 1 := by omega
        rw [this, Int.mul_sub, Int.mul_one]
      rw [e]
      generalize (c - m) * ((l.length : Int) - 2 * (q : Int)) = z at ih ⊢
      split <;> split <;> omega
    · simp only [hx, decide_false, Bool.false_eq_true, if_false]
      have e : (c - m) * (((l.length + 1 : Nat) : Int) - 2 * ((q + 0 : Nat) : Int)) = (c - m) * ((l.length : Int) - 2 * (q : Int)) + (c - m) := by
        have : (((l.length + 1 : Nat) : Int) - 2 * ((q + 0 : Nat) : Int)) = ((l.length : Int) - 2 * (q : Int)) + 1 := by omega
        rw [this, Int.mul_add, Int.mul_one]
      rw [e]
      generalize (c - m) * ((l.length : Int) - 2 * (q : Int)) = z at ih ⊢
      split <;> split <;> omega
theorem far_down (m c : Int) (h : c ≤ m) : ∀ l : List Int, far m l + (m - c) * (l.length - 2 * (l.countP (fun x => decide (x < m)) : Int)) ≤ far c l
  | [] => by simp [far]
  | x :: l => by
    have ih := far_down m c h l
    simp only [far, List.length_cons, List.countP_cons]
    generalize (l.countP (fun x => decide (x < m)) : Nat) = q at ih ⊢
    by_cases hx : x < m
    · simp only [hx, decide_true, if_true]
      have e : (m - c) * (((l.length + 1 : Nat) : Int) - 2 * ((q + 1 : Nat) : Int)) = (m - c) * ((l.length : Int) - 2 * (q : Int)) - (m - c) := by
        have : (((l.length + 1 : Nat) : Int) - 2 * ((q + 1 : Nat) : Int)) = ((l.length : Int) - 2 * (q : Int)) - 1 := by omega
        rw [this, Int.mul_sub, Int.mul_one]
      rw [e]
      generalize (m - c) * ((l.length : Int) - 2 * (q : Int)) = z at ih ⊢
      split <;> split <;> omega
    · simp only [hx, decide_false, Bool.false_eq_true, if_false]
      have e : (m - c) * (((l.length + 1 : Nat) : Int) - 2 * ((q + 0 : Nat) : Int)) = (m - c) * ((l.length : Int) - 2 * (q : Int)) + (m - c) := by
        have : (((l.length + 1 : Nat) : Int) - 2 * ((q + 0 : Nat) : Int)) = ((l.length : Int) - 2 * (q : Int)) + 1 := by omega
        rw [this, Int.mul_add, Int.mul_one]
      rw [e]
      generalize (m - c) * ((l.length : Int) - 2 * (q : Int)) = z at ih ⊢
      split <;> split <;> omega
/-- No place is nearer to all than the middle one. -/
theorem far_med (l : List Int) (c : Int) : far (med l) l ≤ far c l := by
  rcases Int.le_total (med l) c with h | h
  · have h1 := far_up (med l) c h l
    have h2 := med_above l
    have h3 : 0 ≤ (c - med l) * ((l.length : Int) - 2 * (l.countP (fun x => decide (med l < x)) : Int)) := Int.mul_nonneg (by omega) (by omega)
    omega
  · have h1 := far_down (med l) c h l
    have h2 := med_below l
    have h3 : 0 ≤ (med l - c) * ((l.length : Int) - 2 * (l.countP (fun x => decide (x < med l)) : Int)) := Int.mul_nonneg (by omega) (by omega)
    omega
theorem far_append (m : Int) (a b : List Int) : far m (a ++ b) = far m a + far m b := by
  induction a with
  | nil => simp [far]
  | cons x a ih => simp only [List.cons_append, far, ih]; omega

theorem insI_length (x : Int) (s : List Int) : (insI x s).length = s.length + 1 := by
  have := (insI_perm x s).length_eq
  simpa using this
theorem insI_at (x : Int) : ∀ (s : List Int) (j : Nat), j ≤ s.length → (∀ y ∈ s.take j, y ≤ x) → (∀ h : j < s.length, ¬ s[j] ≤ x) → ([] ++ s.take j) ++ [x] ++ s.drop j = insI x s
  | s, 0, _, _, h2 => by
    cases s with
    | nil => rfl
    | cons y s =>
      have : ¬ y ≤ x := h2 (by simp)
      unfold insI
      rw [List.takeWhile_cons_of_neg (by simpa using this), List.dropWhile_cons_of_neg (by simpa using this)]
      rfl
  | [], j + 1, h0, _, _ => by simp at h0
  | y :: s, j + 1, h0, h1, h2 => by
    have hy : y ≤ x := h1 y (by simp)
    have ih := insI_at x s j (by simpa using h0) (fun z hz => h1 z (by simp [hz])) (fun h => h2 (by simpa using h))
    unfold insI at ih ⊢
    rw [List.takeWhile_cons_of_pos (by simpa using hy), List.dropWhile_cons_of_pos (by simpa using hy), List.cons_append, ← ih]
    simp
theorem med_rd (l : List Int) : med l = if l.length = 0 then 0 else rd (srt l) ((l.length / 2 : Nat) : Int) := by
  unfold med rd
  rw [Int.toNat_natCast]
theorem implMed (l : List Int) (hl : l.length ≤ 1048576) : impl_MedianOf.f l = some (med l) := by
  rw [med_rd]
  unfold impl_MedianOf.f
  by_cases h : l.length = 0
  · rw [if_pos h, if_pos h]
  · rw [if_neg h, if_neg h, if_pos (by omega)]

def ser (l : List Int) : Bool := l.all (inB 0 100000) && decide (l.length ≤ 16)
def spr (l : List Int) : Int := if ser l = true then far (med l) l else 0
def spc (l : List Int) (a : Int) : Int := if 1 ≤ a ∧ a ≤ (l.length : Int) - 1 then spr (l.take a.toNat) + spr (l.drop a.toNat) else spr l
/-- The best place among the next d, from i on, b the best so far. -/
def bstL (l : List Int) : Nat → Nat → Nat → Nat
  | 0, _, b => b
  | d + 1, i, b => bstL l d (i + 1) (if spc l i < spc l b then i else b)
def bst (l : List Int) : Nat := if ser l = true ∧ 2 ≤ l.length then bstL l (l.length - 2) 2 1 else 0
def hch (l : List Int) (g : Int) : Bool := decide (1 ≤ bst l ∧ 1 ≤ g ∧ g ≤ spr l - spc l (bst l))
def lat (l : List Int) (g : Int) : List Int := if hch l g = true then l.drop (bst l) else l
theorem ser_all {l : List Int} (h : ser l = true) : (∀ x ∈ l, 0 ≤ x ∧ x ≤ 100000) ∧ l.length ≤ 16 := by
  unfold ser at h
  rw [Bool.and_eq_true, List.all_eq_true] at h
  refine ⟨fun x hx => ?_, by simpa using h.2⟩
  have := h.1 x hx
  unfold inB at this
  simpa using this
theorem med_mem (l : List Int) (h : 0 < l.length) : med l ∈ l := by
  unfold med
  rw [if_neg (by omega)]
  have hl := srt_length l
  rw [← (srt_perm l).mem_iff]
  have hlt : l.length / 2 < (srt l).length := by omega
  rw [List.getD_eq_getElem?_getD, List.getElem?_eq_getElem hlt, Option.getD_some]
  exact List.getElem_mem hlt
theorem med_in {l : List Int} (h : ser l = true) : 0 ≤ med l ∧ med l ≤ 100000 := by
  rcases Nat.eq_zero_or_pos l.length with h0 | h0
  · have : med l = 0 := by unfold med; rw [if_pos h0]
    omega
  · exact (ser_all h).1 _ (med_mem l h0)
theorem far_le (m : Int) (hm : 0 ≤ m ∧ m ≤ 100000) : ∀ l : List Int, (∀ x ∈ l, 0 ≤ x ∧ x ≤ 100000) → 0 ≤ far m l ∧ far m l ≤ 100000 * l.length
  | [], _ => by simp [far]
  | x :: l, h => by
    have ih := far_le m hm l (fun y hy => h y (by simp [hy]))
    have hx := h x (by simp)
    simp only [far, List.length_cons]
    split <;> omega
theorem spr_le (l : List Int) : 0 ≤ spr l ∧ spr l ≤ 1600000 := by
  unfold spr
  by_cases h : ser l = true
  · rw [if_pos h]
    have a := ser_all h
    have b := far_le (med l) (med_in h) l a.1
    have := a.2
    omega
  · rw [if_neg h]; omega
theorem spc_le (l : List Int) (a : Int) : 0 ≤ spc l a ∧ spc l a ≤ 3200000 := by
  unfold spc
  have h1 := spr_le (l.take a.toNat)
  have h2 := spr_le (l.drop a.toNat)
  have h3 := spr_le l
  split <;> omega
theorem mx_far (x m : Int) (hx : 0 ≤ x ∧ x ≤ 100000) (hm : 0 ≤ m ∧ m ≤ 100000) : mx (wrap64 (x - m)) (wrap64 (m - x)) = if x ≤ m then m - x else x - m := by
  rw [wr (by omega) (by omega), wr (by omega) (by omega)]
  unfold mx
  split <;> split <;> omega
theorem bstL_lt (l : List Int) : ∀ (d i b : Nat), b < i → i + d = l.length → (bstL l d i b < l.length ∨ d = 0) ∧ b ≤ bstL l d i b ∧ (d = 0 → bstL l d i b = b)
  | 0, i, b, _, _ => ⟨.inr rfl, Nat.le_refl _, fun _ => rfl⟩
  | d + 1, i, b, h, hi => by
    unfold bstL
    have hb : (if spc l i < spc l b then i else b) < i + 1 := by split <;> omega
    have hb2 : b ≤ (if spc l i < spc l b then i else b) := by split <;> omega
    generalize hq : (if spc l i < spc l b then i else b) = q at hb hb2
    have ih := bstL_lt l d (i + 1) q hb (by omega)
    refine ⟨.inl ?_, by omega, fun h => by omega⟩
    rcases ih.1 with h1 | h1
    · exact h1
    · rw [ih.2.2 h1]; omega
theorem bst_lt (l : List Int) : bst l = 0 ∨ (1 ≤ bst l ∧ bst l < l.length ∧ ser l = true) := by
  unfold bst
  by_cases h : ser l = true ∧ 2 ≤ l.length
  · rw [if_pos h]
    have := bstL_lt l (l.length - 2) 2 1 (by omega) (by omega)
    refine .inr ⟨this.2.1, ?_, h.1⟩
    rcases this.1 with h1 | h1
    · exact h1
    · rw [this.2.2 h1]; omega
  · rw [if_neg h]; exact .inl rfl

theorem implIn (a l h : Int) : impl_InRange.f a l h = some (decide (l ≤ a ∧ a ≤ h)) := by
  unfold impl_InRange.f
  by_cases h1 : l ≤ a <;> simp [h1]

theorem allIn_l (l : List Int) (a b : Int) (hl : l.length ≤ 1048577) : ∀ (d i : Nat), i + d = l.length → Ev (fun k => impl_allIn.l0 k a b l l.length i) ((l.drop i).all (inB a b)) := by
  intro d
  induction d with
  | zero =>
    intro i hi
    refine Ev.step (fun k => impl_allIn.l0.eq_2 _ _ _ _ _ k) ?_
    refine Ev.neg (by omega) (Ev.some_ ?_)
    rw [List.drop_eq_nil_of_le (by omega)]; rfl
  | succ d ih =>
    intro i hi
    have hlt : i < l.length := by omega
    refine Ev.step (fun k => impl_allIn.l0.eq_2 _ _ _ _ _ k) ?_
    refine Ev.pos (by omega) ?_
    refine Ev.pos (by omega) ?_
    refine Ev.pos (by omega) ?_
    rw [rd_get l i hlt, List.drop_eq_getElem_cons hlt, List.all_cons]
    refine Ev.bnow (a := inB a b l[i]) (by rw [implIn]; rfl) ?_
    cases h : inB a b l[i] with
    | true =>
      refine Ev.pos rfl ?_
      simp only [wnx hlt (by omega)]
      exact ih (i + 1) (by omega)
    | false => exact Ev.neg (by simp) (Ev.now _)
theorem allIn (l : List Int) (a b : Int) (hl : l.length ≤ 1048577) : Ev (fun k => impl_allIn.f k l a b) (l.all (inB a b)) := by
  unfold impl_allIn.f
  exact allIn_l l a b hl l.length 0 (by omega)

theorem implSer (l : List Int) (hl : l.length ≤ 1048577) : Ev (fun k => impl_isSeries.f k l) (ser l) := by
  unfold impl_isSeries.f ser
  by_cases h : (l.length : Int) ≤ 16
  · refine Ev.pos h ?_
    refine Ev.bind (allIn l 0 100000 hl) (Ev.some_ ?_)
    have : l.length ≤ 16 := by omega
    simp [this]
  · refine Ev.neg h (Ev.some_ ?_)
    have : ¬ l.length ≤ 16 := by omega
    simp [this]
theorem implSpr_l (l : List Int) (m : Int) (hm : 0 ≤ m ∧ m ≤ 100000) (hx : ∀ x ∈ l, 0 ≤ x ∧ x ≤ 100000) (hl : l.length ≤ 16) : ∀ (d i : Nat) (s : Int), i + d = l.length → 0 ≤ s → s ≤ 100000 * i → Ev (fun k => impl_SpreadOf.l0 k s m l l.length i) (s + far m (l.drop i)) := by
  intro d
  induction d with
  | zero =>
    intro i s hi _ _
    refine Ev.step (fun k => impl_SpreadOf.l0.eq_2 _ _ _ _ _ k) ?_
    refine Ev.neg (by omega) (Ev.some_ ?_)
    rw [List.drop_eq_nil_of_le (by omega)]; simp [far]
  | succ d ih =>
    intro i s hi h0 h1
    have hlt : i < l.length := by omega
    have hb := hx l[i] (List.getElem_mem hlt)
    refine Ev.step (fun k => impl_SpreadOf.l0.eq_2 _ _ _ _ _ k) ?_
    refine Ev.pos (by omega) ?_
    refine Ev.pos (by omega) ?_
    refine Ev.pos (by omega) ?_
    rw [rd_get l i hlt, List.drop_eq_getElem_cons hlt, mx_far _ _ hb hm]
    have hq : 0 ≤ (if l[i] ≤ m then m - l[i] else l[i] - m) ∧ (if l[i] ≤ m then m - l[i] else l[i] - m) ≤ 100000 := by split <;> omega
    simp only [far]
    generalize (if l[i] ≤ m then m - l[i] else l[i] - m) = q at hq
    rw [wr (x := s + q) (by omega) (by omega)]
    simp only [wnx hlt (by omega)]
    rw [← Int.add_assoc]
    exact ih (i + 1) (s + q) (by omega) (by omega) (by omega)
theorem implSpr (l : List Int) (hl : l.length ≤ 1048576) : Ev (fun k => impl_SpreadOf.f k l) (spr l) := by
  unfold impl_SpreadOf.f spr
  refine Ev.bind (implSer l (by omega)) ?_
  by_cases h : ser l = true
  · rw [if_pos h]
    refine Ev.pos h ?_
    refine Ev.bnow (implMed l hl) ?_
    have e := implSpr_l l (med l) (med_in h) (ser_all h).1 (ser_all h).2 l.length 0 0 (by omega) (by omega) (by omega)
    simpa using e
  · rw [if_neg h]
    exact Ev.neg h (Ev.now _)

theorem implSpc (l : List Int) (a : Int) (hl : l.length ≤ 1048576) : Ev (fun k => impl_SplitCost.f k l a) (spc l a) := by
  unfold impl_SplitCost.f spc
  rw [wr (x := (l.length : Int) - 1) (by omega) (by omega)]
  refine Ev.bnow (implIn _ _ _) ?_
  by_cases h : 1 ≤ a ∧ a ≤ (l.length : Int) - 1
  · rw [if_pos h]
    refine Ev.pos (by simpa using h) ?_
    refine Ev.pos (by omega) ?_
    refine Ev.pos (by omega) ?_
    refine Ev.bind (implSpr _ (by simp; omega)) ?_
    refine Ev.bind (implSpr _ (by simp; omega)) ?_
    have h1 := spr_le (l.take a.toNat)
    have h2 := spr_le (l.drop a.toNat)
    exact Ev.some_ (wr (by omega) (by omega))
  · rw [if_neg h]
    refine Ev.neg (by simpa using h) ?_
    exact Ev.bind (implSpr l hl) (Ev.now _)

theorem implBst_l (l : List Int) (hl : l.length ≤ 1048576) : ∀ (d i b : Nat), i + d = l.length → Ev (fun k => impl_BestSplit.l0 k l b i) (bstL l d i b) := by
  intro d
  induction d with
  | zero =>
    intro i b hi
    refine Ev.step (fun k => impl_BestSplit.l0.eq_2 _ _ _ k) ?_
    exact Ev.neg (by omega) (Ev.now _)
  | succ d ih =>
    intro i b hi
    refine Ev.step (fun k => impl_BestSplit.l0.eq_2 _ _ _ k) ?_
    refine Ev.pos (by omega) ?_
    refine Ev.bind (implSpc l i hl) ?_
    refine Ev.bind (implSpc l b hl) ?_
    simp only [wnx (show i < l.length by omega) (by omega)]
    unfold bstL
    by_cases h : spc l i < spc l b
    · rw [if_pos h]
      exact Ev.pos h (ih (i + 1) i (by omega))
    · rw [if_neg h]
      exact Ev.neg h (ih (i + 1) b (by omega))
theorem implBst (l : List Int) (hl : l.length ≤ 1048576) : Ev (fun k => impl_BestSplit.f k l) (bst l) := by
  unfold impl_BestSplit.f bst
  by_cases h2 : 2 ≤ l.length
  · refine Ev.neg (by omega) ?_
    refine Ev.bind (implSer l (by omega)) ?_
    refine Ev.step (fun k => impl_BestSplit.j0.eq_2 _ _ k) ?_
    by_cases h : ser l = true
    · rw [if_pos ⟨h, h2⟩]
      refine Ev.neg (by simp [h]) ?_
      exact implBst_l l hl (l.length - 2) 2 1 (by omega)
    · rw [if_neg (fun x => h x.1)]
      exact Ev.pos (by simpa using h) (Ev.now _)
  · rw [if_neg (fun x => h2 x.2)]
    refine Ev.pos (by omega) ?_
    refine Ev.step (fun k => impl_BestSplit.j0.eq_2 _ _ k) ?_
    exact Ev.pos rfl (Ev.now _)

theorem implHch (l : List Int) (g : Int) (hl : l.length ≤ 1048576) (hg : g ≤ 9223372036854775807) : Ev (fun k => impl_HasChanged.f k l g) (hch l g) := by
  unfold impl_HasChanged.f hch
  refine Ev.bind (implBst l hl) ?_
  by_cases h1 : 1 ≤ bst l
  · refine Ev.pos (by omega) ?_
    by_cases h2 : 1 ≤ g
    · refine Ev.pos h2 ?_
      refine Ev.bind (implSpc l (bst l) hl) ?_
      refine Ev.bind (implSpr l hl) ?_
      have a := spr_le l
      have b := spc_le l (bst l)
      rw [wr (by omega) (by omega)]
      refine Ev.some_ ?_
      apply decide_eq_decide.mpr
      omega
    · refine Ev.neg h2 (Ev.some_ ?_)
      symm; apply decide_eq_false; omega
  · refine Ev.neg (by omega) (Ev.some_ ?_)
    symm; apply decide_eq_false; omega

theorem lat_len (l : List Int) (g : Int) : (lat l g).length ≤ l.length := by
  unfold lat
  split
  · rw [List.length_drop]; omega
  · exact Nat.le_refl _
theorem hch_bst {l : List Int} {g : Int} : bst l ≤ l.length := by
  rcases bst_lt l with h | h <;> omega
theorem implLat (l : List Int) (g : Int) (hl : l.length ≤ 1048576) (hg : g ≤ 9223372036854775807) : Ev (fun k => impl_LatestPart.f k l g) (lat l g) := by
  unfold impl_LatestPart.f lat
  refine Ev.bind (implHch l g hl hg) ?_
  have hb := hch_bst (l := l) (g := g)
  have hc : ∀ m : List Int, m.length ≤ 1048576 → slices_Clone_int_int.f m = some m := fun m hm => by unfold slices_Clone_int_int.f; rw [if_pos (by omega)]
  by_cases h : hch l g = true
  · rw [if_pos h]
    refine Ev.pos h ?_
    refine Ev.bind (implBst l hl) ?_
    refine Ev.pos (by omega) ?_
    refine Ev.pos (by omega) ?_
    refine Ev.bnow (hc _ (by simp; omega)) ?_
    exact Ev.some_ (by simp)
  · rw [if_neg h]
    refine Ev.neg h ?_
    exact Ev.bnow (hc _ hl) (Ev.now _)

theorem bstL_min (l : List Int) : ∀ (d i b : Nat), i + d = l.length → spc l (bstL l d i b) ≤ spc l b ∧ ∀ j, i ≤ j → j < l.length → spc l (bstL l d i b) ≤ spc l j
  | 0, i, b, hi => ⟨Int.le_refl _, fun j h1 h2 => by omega⟩
  | d + 1, i, b, hi => by
    unfold bstL
    by_cases h : spc l i < spc l b
    · rw [if_pos h]
      have ih := bstL_min l d (i + 1) i (by omega)
      refine ⟨by omega, fun j h1 h2 => ?_⟩
      by_cases e : j = i
      · subst e; exact ih.1
      · exact ih.2 j (by omega) h2
    · rw [if_neg h]
      have ih := bstL_min l d (i + 1) b (by omega)
      refine ⟨ih.1, fun j h1 h2 => ?_⟩
      by_cases e : j = i
      · subst e; omega
      · exact ih.2 j (by omega) h2
theorem bst_min (l : List Int) (h : 0 < bst l) (j : Nat) (h1 : 1 ≤ j) (h2 : j < l.length) : spc l (bst l) ≤ spc l j := by
  unfold bst at h ⊢
  by_cases hc : ser l = true ∧ 2 ≤ l.length
  · rw [if_pos hc]
    have := bstL_min l (l.length - 2) 2 1 (by omega)
    by_cases e : j = 1
    · subst e; exact this.1
    · exact this.2 j (by omega) h2
  · rw [if_neg hc] at h; omega
theorem ser_take {l : List Int} (h : ser l = true) (n : Nat) : ser (l.take n) = true ∧ ser (l.drop n) = true := by
  have a := ser_all h
  unfold ser
  simp only [Bool.and_eq_true, List.all_eq_true, decide_eq_true_eq, List.length_take, List.length_drop]
  refine ⟨⟨fun x hx => ?_, by omega⟩, ⟨fun x hx => ?_, by omega⟩⟩
  · have := a.1 x (List.mem_of_mem_take hx); unfold inB; simpa using this
  · have := a.1 x (List.mem_of_mem_drop hx); unfold inB; simpa using this
theorem spc_spr (l : List Int) (h : 0 < bst l) : spc l (bst l) ≤ spr l := by
  rcases bst_lt l with h0 | ⟨h1, h2, hs⟩
  · omega
  · unfold spc
    rw [if_pos (by omega), Int.toNat_natCast]
    have a := ser_take hs (bst l)
    unfold spr
    rw [if_pos a.1, if_pos a.2, if_pos hs]
    have b := far_med (l.take (bst l)) (med l)
    have c := far_med (l.drop (bst l)) (med l)
    have d := far_append (med l) (l.take (bst l)) (l.drop (bst l))
    rw [List.take_append_drop] at d
    omega
theorem l1_ok (l p : List Int) (hl : l.length ≤ 17) (hp : p.length ≤ l.length) (m : Int) (hb : 2 * l.countP (fun x => decide (x < m)) ≤ l.length) (ha : 2 * l.countP (fun x => decide (m < x)) ≤ l.length) : ∀ (d i x y : Nat), i + d = l.length → x ≤ i → y ≤ i →
    x + (l.drop i).countP (fun x => decide (x < m)) = l.countP (fun x => decide (x < m)) → y + (l.drop i).countP (fun x => decide (m < x)) = l.countP (fun x => decide (m < x)) → Ev (fun k => laws_FnChanges.l1 k l p m x y i) true := by
  intro d
  induction d with
  | zero =>
    intro i x y hi hx hy ex ey
    rw [List.drop_eq_nil_of_le (by omega)] at ex ey
    simp only [List.countP_nil, Nat.add_zero] at ex ey
    refine Ev.step (fun k => laws_FnChanges.l1.eq_2 _ _ _ _ _ _ k) ?_
    refine Ev.neg (by omega) ?_
    refine Ev.pos (by omega) ?_
    by_cases h0 : (l.length : Int) = 0
    · exact Ev.pos h0 (Ev.now _)
    · refine Ev.neg h0 ?_
      rw [wr (x := 2 * (x : Int)) (by omega) (by omega), wr (x := 2 * (y : Int)) (by omega) (by omega)]
      refine Ev.pos (by omega) (Ev.some_ ?_)
      exact decide_eq_true (by omega)
  | succ d ih =>
    intro i x y hi hx hy ex ey
    have hlt : i < l.length := by omega
    have hi1 := wnx hlt (by clear ex ey hb ha; omega)
    have hx1 := wnx (show x < 18 by clear ex ey hb ha hi1; omega) (by decide)
    have hy1 := wnx (show y < 18 by clear ex ey hb ha hi1 hx1; omega) (by decide)
    have hli : (i : Int) < (l.length : Int) := by clear ex ey hb ha hi1 hx1 hy1; omega
    refine Ev.step (fun k => laws_FnChanges.l1.eq_2 _ _ _ _ _ _ k) ?_
    refine Ev.pos hli ?_
    refine Ev.pos (Int.natCast_nonneg _) ?_
    rw [List.drop_eq_getElem_cons hlt, List.countP_cons] at ex ey
    simp only [rd_get l i hlt, hi1, hx1, hy1]
    by_cases c1 : l[i] < m
    · refine Ev.pos c1 ?_
      have c2 : ¬ m < l[i] := Int.not_lt.mpr (Int.le_of_lt c1)
      refine Ev.neg c2 ?_
      simp only [c1, c2, decide_true, decide_false, if_true, Bool.false_eq_true, if_false] at ex ey
      clear hi1 hx1 hy1 hli c1 c2 hb ha
      exact ih (i + 1) (x + 1) y (by omega) (by omega) (by omega) (by omega) (by omega)
    · refine Ev.neg c1 ?_
      by_cases c2 : m < l[i]
      · refine Ev.pos c2 ?_
        simp only [c1, c2, decide_true, decide_false, if_true, Bool.false_eq_true, if_false] at ex ey
        clear hi1 hx1 hy1 hli c1 c2 hb ha
        exact ih (i + 1) x (y + 1) (by omega) (by omega) (by omega) (by omega) (by omega)
      · refine Ev.neg c2 ?_
        simp only [c1, c2, decide_true, decide_false, if_true, Bool.false_eq_true, if_false] at ex ey
        clear hi1 hx1 hy1 hli c1 c2 hb ha
        exact ih (i + 1) x y (by omega) (by omega) (by omega) (by omega) (by omega)
theorem j2_ok (l : List Int) (g : Int) (hl : l.length ≤ 17) (hg : g ≤ 9223372036854775807) : Ev (fun k => laws_FnChanges.j2 k l g false) true := by
  refine Ev.step (fun k => laws_FnChanges.j2.eq_2 _ _ _ k) ?_
  refine Ev.neg (by simp) ?_
  refine Ev.bind (implLat l g (by omega) hg) ?_
  refine Ev.bind (implHch l g (by omega) hg) ?_
  have hL : hch l g = decide (((lat l g).length : Int) < (l.length : Int)) := by
    unfold lat
    by_cases h : hch l g = true
    · rw [if_pos h, h]
      symm
      apply decide_eq_true
      have h1 : 1 ≤ bst l := by unfold hch at h; simp at h; omega
      have h2 : bst l < l.length := by rcases bst_lt l with h3 | h3 <;> omega
      rw [List.length_drop]
      omega
    · rw [if_neg h]
      have : hch l g = false := by simpa using h
      rw [this]
      simp
  refine Ev.neg (by rw [← hL]; simp) ?_
  refine Ev.bnow (implMed l (by omega)) ?_
  exact l1_ok l _ hl (lat_len l g) _ (med_below l) (med_above l) l.length 0 0 0 (by omega) (by omega) (by omega) (by simp) (by simp)
theorem l0_ok (l : List Int) (g : Int) (hl : l.length ≤ 17) (hg : g ≤ 9223372036854775807) : ∀ (d i : Nat), i + d = l.length + 1 → 1 ≤ i → Ev (fun k => laws_FnChanges.l0 k l g (bst l) i) true := by
  have fin : ∀ i : Nat, Ev (fun k => laws_FnChanges.j1 k l g (bst l) i false) true := by
    intro i
    refine Ev.step (fun k => laws_FnChanges.j1.eq_2 _ _ _ _ _ k) ?_
    refine Ev.neg (by simp) ?_
    by_cases h : (bst l : Int) > 0
    · refine Ev.pos h ?_
      refine Ev.bind (implSpc l _ (by omega)) ?_
      refine Ev.bind (implSpr l (by omega)) ?_
      have a := spc_spr l (by omega)
      rw [decide_eq_false (show ¬ spc l (bst l) > spr l by omega)]
      exact j2_ok l g hl hg
    · refine Ev.neg h ?_
      exact j2_ok l g hl hg
  intro d
  induction d with
  | zero =>
    intro i hi h1
    refine Ev.step (fun k => laws_FnChanges.l0.eq_2 _ _ _ _ k) ?_
    refine Ev.neg (by omega) ?_
    exact fin i
  | succ d ih =>
    intro i hi h1
    refine Ev.step (fun k => laws_FnChanges.l0.eq_2 _ _ _ _ k) ?_
    by_cases hlt : i < l.length
    · refine Ev.pos (by omega) ?_
      by_cases h : 0 < bst l
      · rw [decide_eq_true (show (bst l : Int) > 0 by omega)]
        refine Ev.step (fun k => laws_FnChanges.j1.eq_2 _ _ _ _ _ k) ?_
        refine Ev.pos rfl ?_
        refine Ev.bind (implSpc l _ (by omega)) ?_
        refine Ev.bind (implSpc l _ (by omega)) ?_
        have a := bst_min l h i h1 hlt
        refine Ev.neg (by omega) ?_
        simp only [wnx hlt (by omega)]
        exact ih (i + 1) (by omega) (by omega)
      · rw [decide_eq_false (show ¬ (bst l : Int) > 0 by omega)]
        exact fin i
    · refine Ev.neg (by omega) ?_
      exact fin i
theorem FnChanges : laws_FnChanges.Pure := by
  intro c _ _ hw
  refine Ev.rounds (g := fun j => laws_FnChanges.f j c) ?_
  unfold laws_FnChanges.f
  refine Ev.bnow (big_eq c) ?_
  by_cases hb : (c.length : Int) > 1048576
  · exact Ev.pos (by simpa using hb) (Ev.now _)
  · refine Ev.neg (by simpa using hb) ?_
    have hc : c.length ≤ 1048576 := by omega
    obtain ⟨L, g, e, hL, hg⟩ := drawHch_ok c hc
    refine Ev.bind e ?_
    refine Ev.bind (implBst L (by omega)) ?_
    exact l0_ok L g hL hg L.length 1 (by omega) (by omega)

end Go.Proofs.Ytmlddlnmplnlaaa.Pure
