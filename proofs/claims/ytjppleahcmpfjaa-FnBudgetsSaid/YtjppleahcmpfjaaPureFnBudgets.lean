/- The law FnBudgets returns true at every list of bytes: within any time no more is taken than a full bucket and what came in this time. No condition. -/
import Derived.Test.YtjppleahcmpfjaaHFnBudgetsx4
namespace Go.Proofs.Ytjppleahcmpfjaa.Pure
open Go.RowKit Go.Proofs.Ytjppleahcmpfjaa.PFnBudgets Go.Proofs.YtjppleahcmpfjaaW.PrintWords Go.Proofs.YtjppleahcmpfjaaW.PrintLast
set_option linter.unusedSimpArgs false
set_option linter.unusedVariables false

theorem wr {x : Int} (h1 : -9223372036854775808 ≤ x) (h2 : x ≤ 9223372036854775807) : wrap64 x = x := by unfold wrap64; omega
theorem Ev.pos {α : Type} {c : Prop} [Decidable c] {g f : Nat → Option α} {r : α} (h : c) (e : Ev g r) : Ev (fun k => if c then g k else f k) r := by
  simp only [if_pos h]; exact e
theorem Ev.neg {α : Type} {c : Prop} [Decidable c] {g f : Nat → Option α} {r : α} (h : ¬ c) (e : Ev f r) : Ev (fun k => if c then g k else f k) r := by
  simp only [if_neg h]; exact e
theorem Ev.some_ {α : Type} {r r' : α} (h : r = r') : Ev (fun _ => some r) r' := h ▸ Ev.now r
theorem Ev.bnow {α β : Type} {g : Option α} {f : Nat → α → Option β} {a : α} {r : β} (h : g = some a) (k : Ev (fun n => f n a) r) : Ev (fun n => g.bind (f n)) r := by
  subst h; exact k

theorem and_le (x : Int) (m : Nat) (hm : m < 4611686018427387904) : 0 ≤ Go.bits .and .i64 x m ∧ Go.bits .and .i64 x m ≤ m := by
  simp only [Go.bits, BitVec.toNat_and, BitVec.ofInt_natCast, BitVec.toNat_ofNat]
  have h1 : (BitVec.ofInt IntKind.i64.bits x).toNat &&& m % 2 ^ IntKind.i64.bits ≤ m % 2 ^ IntKind.i64.bits := Nat.and_le_right
  have h2 : m % 2 ^ IntKind.i64.bits = m := Nat.mod_eq_of_lt (by show m < 2 ^ 64; omega)
  rw [h2] at h1 ⊢
  rw [i64_w, wr (by omega) (by omega)]
  omega
theorem new_l (l : List Int) (hl : l.length ≤ 1048576) : ∀ (d i : Nat) (h : Int), l.length - i ≤ d → i ≤ l.length → ∃ h', Ev (fun k => spec_l1New.l0 k l h i) (l, 0, h') := by
  intro d
  induction d with
  | zero =>
    intro i h hi hi2
    refine ⟨h, Ev.step (fun k => spec_l1New.l0.eq_2 _ _ _ k) ?_⟩
    exact Ev.neg (by omega) (Ev.now _)
  | succ d ih =>
    intro i h hi hi2
    by_cases h1 : (i : Int) < (l.length : Int)
    · by_cases h2 : (i : Int) < 4000
      · obtain ⟨h', e⟩ := ih (i + 1) (Go.bits .and .i64 (wrap64 ((wrap64 ((wrap64 (h * 137)) + (wrap64 (rd l i)))) + 11)) 1073741823) (by omega) (by omega)
        refine ⟨h', Ev.step (fun k => spec_l1New.l0.eq_2 _ _ _ k) (Ev.pos h1 (Ev.pos h2 (Ev.pos (by omega) ?_)))⟩
        rw [wr (x := (i : Int) + 1) (by omega) (by omega)]
        exact e
      · exact ⟨h, Ev.step (fun k => spec_l1New.l0.eq_2 _ _ _ k) (Ev.pos h1 (Ev.neg h2 (Ev.now _)))⟩
    · exact ⟨h, Ev.step (fun k => spec_l1New.l0.eq_2 _ _ _ k) (Ev.neg h1 (Ev.now _))⟩
theorem new_ok (l : List Int) (hl : l.length ≤ 1048576) : ∃ h, Ev (fun k => spec_l1New.f k l) (l, 0, h) := by
  unfold spec_l1New.f
  exact new_l l hl l.length 0 _ (by omega) (by omega)
/-- The cursor stands in the bytes. -/
def Cur (b : List Int) (i : Int) : Prop := 0 ≤ i ∧ i ≤ b.length ∧ b.length ≤ 1048576
theorem byte_ok (b : List Int) (i h : Int) (hc : Cur b i) : ∃ x i' h', spec_l1Byte.f b i h = some (x, i', h') ∧ 0 ≤ x ∧ x ≤ 255 ∧ Cur b i' := by
  obtain ⟨h0, h1, h2⟩ := hc
  unfold spec_l1Byte.f
  by_cases hi : i < (b.length : Int)
  · rw [if_pos hi, if_pos h0, wr (x := i + 1) (by omega) (by omega)]
    have a := and_le (wrap64 ((Go.bits .and .i64 (Go.bits .xor .i64 ((wrap64 ((wrap64 (h * 6364136223846793005)) + 1442695040888963407)) / 8589934592) ((wrap64 ((wrap64 (h * 6364136223846793005)) + 1442695040888963407)) / 140737488355328)) 255) + (wrap64 (rd b i)))) 255 (by decide)
    exact ⟨_, _, _, rfl, a.1, a.2, by omega, by omega, h2⟩
  · rw [if_neg hi]
    have a := and_le (Go.bits .xor .i64 ((wrap64 ((wrap64 (h * 6364136223846793005)) + 1442695040888963407)) / 8589934592) ((wrap64 ((wrap64 (h * 6364136223846793005)) + 1442695040888963407)) / 140737488355328)) 255 (by decide)
    exact ⟨_, _, _, rfl, a.1, a.2, h0, h1, h2⟩
theorem below_ok (b : List Int) (i h a : Int) (hc : Cur b i) (ha : 0 < a) (ha2 : a ≤ 256) : ∃ x i' h', spec_l1Below.f b i h a = some (x, i', h') ∧ 0 ≤ x ∧ x < a ∧ Cur b i' := by
  obtain ⟨x, i', h', e, h0, h1, hc'⟩ := byte_ok b i h hc
  refine ⟨Int.tmod x a, i', h', ?_, Int.tmod_nonneg _ h0, Int.tmod_lt_of_pos _ ha, hc'⟩
  unfold spec_l1Below.f
  rw [if_neg (by omega), if_pos ha2, e]
  simp only [Option.bind_some]
  rw [if_neg (by omega)]

theorem int_ok (b : List Int) (i h : Int) (l : List Int) (hc : Cur b i) (hl : 0 < l.length) (hl2 : l.length ≤ 256) : ∃ x i' h', spec_l1Int.f b i h l = some (x, i', h') ∧ x ∈ l ∧ Cur b i' := by
  obtain ⟨x, i', h', e, h0, h1, hc'⟩ := below_ok b i h l.length hc (by omega) (by omega)
  refine ⟨rd l x, i', h', ?_, ?_, hc'⟩
  · unfold spec_l1Int.f
    rw [e]
    simp only [Option.bind_some]
    rw [if_pos h0, if_pos h1]
  · unfold rd
    have hlt : x.toNat < l.length := by omega
    simp [List.getD, hlt]

theorem big_eq (l : List Int) : laws_big.f l = some (decide ((l.length : Int) > 1048576)) := rfl

theorem at_ok (l : List Int) (j : Nat) (hl : l.length ≤ 1048576) (hj : j ≤ 1000) (hw : ∀ x ∈ l, (Lit.int .u8 x).wf = true) : ∃ t, laws_at.f l j = some t ∧ 0 ≤ t ∧ t ≤ 255 := by
  unfold laws_at.f
  by_cases h : (j : Int) < (l.length : Int)
  · rw [if_pos h, if_pos (by omega)]
    have hlt : j < l.length := by omega
    have e : rd l (j : Int) = l[j] := by simp [rd, List.getD, hlt]
    have w := hw l[j] (List.getElem_mem hlt)
    have b : 0 ≤ l[j] ∧ l[j] ≤ 255 := by
      simp [Lit.wf, IntKind.min, IntKind.max, IntKind.bits, IntKind.signed] at w
      omega
    rw [e, wr (by omega) (by omega)]
    exact ⟨_, rfl, b.1, b.2⟩
  · rw [if_neg h, wr (x := (j : Int) * 31) (by omega) (by omega), wr (x := (l.length : Int) * 7) (by omega) (by omega), wr (by omega) (by omega)]
    refine ⟨_, rfl, Int.tmod_nonneg _ (by omega), ?_⟩
    have := Int.tmod_lt_of_pos ((j : Int) * 31 + (l.length : Int) * 7) (show (0 : Int) < 256 by omega)
    omega

theorem implIn (a l h : Int) : impl_InRange.f a l h = some (decide (l ≤ a ∧ a ≤ h)) := by
  unfold impl_InRange.f
  by_cases h1 : l ≤ a <;> simp [h1]

theorem implCeil (a b : Int) (h1 : 0 ≤ a) (h2 : a ≤ 1000000000000) (h3 : 1 ≤ b) (h4 : b ≤ 1000000000000) : impl_CeilDiv.f a b = some (wrap64 (Int.tdiv (a + b - 1) b)) := by
  unfold impl_CeilDiv.f
  simp only [implIn, Option.bind_some]
  rw [if_pos (by simp [h1, h2]), if_pos (by simp [h3, h4]), if_neg (by omega), wr (x := a + b) (by omega) (by omega), wr (x := a + b - 1) (by omega) (by omega)]

def isB (a b c d : Int) : Bool := decide (0 ≤ b ∧ b ≤ 1000 ∧ 0 ≤ c ∧ c ≤ 1000 ∧ 0 ≤ a ∧ a ≤ b ∧ 0 ≤ d ∧ d ≤ 100000)

theorem implIsB (a b c d : Int) : impl_IsBucket.f a b c d = some (isB a b c d) := by
  unfold impl_IsBucket.f isB
  simp only [implIn, Option.bind_some]
  by_cases h1 : 0 ≤ b ∧ b ≤ 1000 <;> by_cases h2 : 0 ≤ c ∧ c ≤ 1000 <;> by_cases h3 : 0 ≤ a ∧ a ≤ b <;> by_cases h4 : 0 ≤ d ∧ d ≤ 100000 <;> simp [h1, h2, h3, h4] <;> omega

def fillB (a b c d t : Int) : Int × Int × Int × Int := if isB a b c d = true ∧ d ≤ t ∧ t ≤ 100000 then (mn b (wrap64 (a + (wrap64 (c * (wrap64 (t - d)))))), b, c, t) else (a, b, c, d)
theorem implFill (a b c d t : Int) : impl_FillBucket.f a b c d t = some (fillB a b c d t) := by
  unfold impl_FillBucket.f fillB
  simp only [implIsB, implIn, Option.bind_some]
  by_cases h1 : isB a b c d = true <;> by_cases h2 : d ≤ t ∧ t ≤ 100000 <;> simp [h1, h2]

theorem isB_iff (a b c d : Int) : isB a b c d = true ↔ (0 ≤ b ∧ b ≤ 1000 ∧ 0 ≤ c ∧ c ≤ 1000 ∧ 0 ≤ a ∧ a ≤ b ∧ 0 ≤ d ∧ d ≤ 100000) := by simp [isB]
theorem mul_bd (c t : Int) (h0 : 0 ≤ c) (h1 : c ≤ 1000) (h2 : 0 ≤ t) (h3 : t ≤ 100000) : 0 ≤ c * t ∧ c * t ≤ 100000000 := by
  refine ⟨Int.mul_nonneg h0 h2, ?_⟩
  have a := Int.mul_le_mul_of_nonneg_right h1 h2
  have b := Int.mul_le_mul_of_nonneg_left h3 (show (0 : Int) ≤ 1000 by omega)
  omega
/-- The level at a time. -/
def lvl (a b c d t : Int) : Int := if b < a + c * (t - d) then b else a + c * (t - d)
theorem fill_in (a b c d t : Int) (h : isB a b c d = true) (h1 : d ≤ t) (h2 : t ≤ 100000) : fillB a b c d t = (lvl a b c d t, b, c, t) := by
  have g := (isB_iff a b c d).1 h
  have m := mul_bd c (t - d) (by omega) (by omega) (by omega) (by omega)
  unfold fillB lvl
  rw [if_pos ⟨h, h1, h2⟩, wr (x := t - d) (by omega) (by omega), wr (x := c * (t - d)) (by omega) (by omega), wr (by omega) (by omega)]
  have e : ∀ x y : Int, mn x y = if y < x then y else x := fun _ _ => rfl
  rw [e]
  by_cases h3 : b < a + c * (t - d)
  · rw [if_pos h3, if_neg (by omega)]
  · rw [if_neg h3]
    by_cases h4 : a + c * (t - d) < b
    · rw [if_pos h4]
    · rw [if_neg h4, show a + c * (t - d) = b by omega]
theorem lvl_in (a b c d t : Int) (h : isB a b c d = true) (h1 : d ≤ t) (h2 : t ≤ 100000) : 0 ≤ lvl a b c d t ∧ lvl a b c d t ≤ b ∧ lvl a b c d t ≤ a + c * (t - d) := by
  have g := (isB_iff a b c d).1 h
  have m := mul_bd c (t - d) (by omega) (by omega) (by omega) (by omega)
  unfold lvl
  split <;> omega
def okT (a b c d t n : Int) : Bool := isB a b c d && decide (d ≤ t ∧ t ≤ 100000 ∧ 0 ≤ n ∧ n ≤ 1000 ∧ n ≤ lvl a b c d t)
theorem take_eq (a b c d t n : Int) : impl_TakeFrom.f a b c d t n = some (if okT a b c d t n = true then (lvl a b c d t - n, b, c, t, true) else (a, b, c, d, false)) := by
  unfold impl_TakeFrom.f okT
  simp only [implFill, implIsB, implIn, Option.bind_some]
  by_cases h : isB a b c d = true
  · have g := (isB_iff a b c d).1 h
    by_cases h1 : d ≤ t ∧ t ≤ 100000
    · have hl := lvl_in a b c d t h h1.1 h1.2
      rw [fill_in a b c d t h h1.1 h1.2]
      by_cases h2 : 0 ≤ n ∧ n ≤ 1000
      · by_cases h3 : lvl a b c d t < n
        · have : ¬ n ≤ lvl a b c d t := by omega
          simp [h, h1, h2, h3, this]
        · have : n ≤ lvl a b c d t := by omega
          simp only [h, h1, h2, h3, this, decide_true, and_self, if_true, if_false, Bool.and_self]
          rw [wr (by omega) (by omega)]
      · have : ¬ (0 ≤ n ∧ n ≤ 1000 ∧ n ≤ lvl a b c d t) := by omega
        simp [h, h1, h2, this]
    · have : ¬ (d ≤ t ∧ t ≤ 100000 ∧ 0 ≤ n ∧ n ≤ 1000 ∧ n ≤ lvl a b c d t) := by omega
      simp [h, h1, this]
  · simp [h]
theorem most_eq (a b c d t : Int) (h : isB a b c d = true) (h0 : 0 ≤ t) (h1 : t ≤ 100000) : impl_MostIn.f a b c d t = some (b + c * t) := by
  have g := (isB_iff a b c d).1 h
  have m := mul_bd c t (by omega) (by omega) h0 h1
  unfold impl_MostIn.f
  simp only [implIsB, implIn, Option.bind_some, h, h0, h1, and_self, decide_true, if_true]
  rw [wr (x := c * t) (by omega) (by omega), wr (by omega) (by omega)]
theorem tdiv_up (x c : Int) (hx : 1 ≤ x) (hc : 1 ≤ c) : x ≤ c * Int.tdiv (x + c - 1) c ∧ 0 ≤ Int.tdiv (x + c - 1) c ∧ Int.tdiv (x + c - 1) c ≤ x := by
  rw [Int.tdiv_eq_ediv_of_nonneg (by omega)]
  have h1 := Int.mul_ediv_add_emod (x + c - 1) c
  have h2 := Int.emod_lt_of_pos (x + c - 1) (show 0 < c by omega)
  have h3 := Int.emod_nonneg (x + c - 1) (show c ≠ 0 by omega)
  refine ⟨by omega, Int.ediv_nonneg (by omega) (by omega), ?_⟩
  have h4 : (x + c - 1) / c < x + 1 := by
    apply Int.ediv_lt_of_lt_mul (by omega)
    have h5 : (x + 1) * c = x * c + c := by rw [Int.add_mul, Int.one_mul]
    have h6 := Int.mul_le_mul_of_nonneg_left hc (show 0 ≤ x by omega)
    omega
  omega
/-- What WaitFor answers: none, or a time after which n can be taken. -/
theorem wait_ok (a b c d n : Int) (h : isB a b c d = true) : ∃ w, Ev (fun k => impl_WaitFor.f k a b c d n) w ∧ (w = -1 ∨ (0 ≤ w ∧ w ≤ 1000 ∧ (d + w ≤ 100000 → n ≤ 1000 → okT a b c d (d + w) n = true))) := by
  have g := (isB_iff a b c d).1 h
  unfold impl_WaitFor.f
  simp only [implIsB, implIn, Option.bind_some, h]
  by_cases h1 : 0 ≤ n ∧ n ≤ b
  · by_cases h2 : n ≤ a
    · refine ⟨0, ?_, .inr ⟨by omega, by omega, fun hd hn => ?_⟩⟩
      · refine Ev.pos trivial (Ev.step (fun k => impl_WaitFor.j0.eq_2 _ _ _ _ _ _ k) ?_)
        exact Ev.neg (by simp [h1]) (Ev.pos h2 (Ev.now _))
      · unfold okT lvl
        simp only [h, Bool.true_and, decide_eq_true_eq]
        rw [show d + 0 - d = 0 by omega, Int.mul_zero]
        split <;> omega
    · by_cases h3 : c = 0
      · refine ⟨-1, ?_, .inl rfl⟩
        refine Ev.pos trivial (Ev.step (fun k => impl_WaitFor.j0.eq_2 _ _ _ _ _ _ k) ?_)
        exact Ev.neg (by simp [h1]) (Ev.neg h2 (Ev.pos h3 (Ev.now _)))
      · have u := tdiv_up (n - a) c (by omega) (by omega)
        refine ⟨Int.tdiv (n - a + c - 1) c, ?_, .inr ⟨u.2.1, by omega, fun hd hn => ?_⟩⟩
        · refine Ev.pos trivial (Ev.step (fun k => impl_WaitFor.j0.eq_2 _ _ _ _ _ _ k) ?_)
          refine Ev.neg (by simp [h1]) (Ev.neg h2 (Ev.neg h3 ?_))
          rw [wr (x := n - a) (by omega) (by omega)]
          refine Ev.bnow (implCeil (n - a) c (by omega) (by omega) (by omega) (by omega)) ?_
          rw [wr (by omega) (by omega)]
          exact Ev.now _
        · unfold okT lvl
          simp only [h, Bool.true_and, decide_eq_true_eq]
          rw [show d + Int.tdiv (n - a + c - 1) c - d = Int.tdiv (n - a + c - 1) c by omega]
          split <;> omega
  · refine ⟨-1, ?_, .inl rfl⟩
    refine Ev.pos trivial (Ev.step (fun k => impl_WaitFor.j0.eq_2 _ _ _ _ _ _ k) ?_)
    exact Ev.pos (by simp; omega) (Ev.now _)
theorem end_ok (a b c d n tk : Int) (h : isB a b c d = true) (ht : tk ≤ b + c * 20) (l : List Int) (i : Int) (y0 y1 y2 y3 : Int) : Ev (fun k => laws_FnBudgets.j2 k l n d tk i false a b c d y0 y1 y2 y3) true := by
  have g := (isB_iff a b c d).1 h
  refine Ev.step (fun k => laws_FnBudgets.j2.eq_2 _ _ _ _ _ _ _ _ _ _ _ _ _ _ k) ?_
  refine Ev.neg (by simp) ?_
  obtain ⟨w, ew, hw⟩ := wait_ok a b c d n h
  refine Ev.bind ew ?_
  have fin : ∀ w' : Int, Ev (fun k => laws_FnBudgets.j3 k n d tk w' false a b c d) true := by
    intro w'
    refine Ev.step (fun k => laws_FnBudgets.j3.eq_2 _ _ _ _ _ _ _ _ _ k) ?_
    refine Ev.neg (by simp) ?_
    refine Ev.bnow (most_eq a b c d 20 h (by omega) (by omega)) (Ev.some_ ?_)
    simpa using ht
  rcases hw with rfl | ⟨h0, h1, h2⟩
  · exact Ev.neg (by omega) (fin _)
  · refine Ev.pos h0 ?_
    rw [wr (x := d + w) (by omega) (by omega)]
    by_cases h3 : d + w ≤ 100000
    · refine Ev.pos h3 ?_
      by_cases h4 : n ≤ 1000
      · rw [decide_eq_true h4]
        refine Ev.step (fun k => laws_FnBudgets.j3.eq_2 _ _ _ _ _ _ _ _ _ k) ?_
        refine Ev.pos rfl ?_
        rw [wr (x := d + w) (by omega) (by omega)]
        refine Ev.bnow (take_eq a b c d (d + w) n) ?_
        rw [if_pos (h2 h3 h4)]
        refine Ev.pos rfl ?_
        refine Ev.bnow (most_eq a b c d 20 h (by omega) (by omega)) (Ev.some_ ?_)
        simpa using ht
      · rw [decide_eq_false h4]
        exact fin _
    · exact Ev.neg h3 (fin _)
def n_in (y0 b c y3 t n : Int) : Prop := y3 ≤ t ∧ t ≤ 100000 ∧ 0 ≤ n ∧ n ≤ 1000 ∧ n ≤ lvl y0 b c y3 t
theorem wnx (i : Nat) (h : i ≤ 1000) : wrap64 ((i : Int) + 1) = ((i + 1 : Nat) : Int) := by rw [wr (by omega) (by omega)]; rfl
theorem wr_tk (tk q : Int) (h0 : 0 ≤ tk) (h1 : tk ≤ 100) (h2 : 0 ≤ q) (h3 : q < 4) : wrap64 (tk + q) = tk + q := wr (by omega) (by omega)
theorem loop_ok (l : List Int) (hl : l.length ≤ 1048576) (hw : ∀ x ∈ l, (Lit.int .u8 x).wf = true) (a b c d n : Int) (h : isB a b c d = true) :
    ∀ (m i : Nat) (tk y0 y3 : Int), i + m = 20 → isB y0 b c y3 = true → d ≤ y3 → y3 ≤ d + i → 0 ≤ tk → tk ≤ 3 * i → tk + y0 ≤ a + c * (y3 - d) →
      Ev (fun k => laws_FnBudgets.l0 k l n d tk i a b c d y0 b c y3) true := by
  have g := (isB_iff a b c d).1 h
  intro m
  induction m with
  | zero =>
    intro i tk y0 y3 hi hy h1 h2 h3 h4 h5
    have gy := (isB_iff y0 b c y3).1 hy
    refine Ev.step (fun k => laws_FnBudgets.l0.eq_2 _ _ _ _ _ _ _ _ _ _ _ _ _ k) ?_
    refine Ev.neg (by omega) ?_
    refine end_ok a b c d n tk h ?_ l i _ _ _ _
    have m1 := Int.mul_le_mul_of_nonneg_left (show y3 - d ≤ 20 by omega) (show 0 ≤ c by omega)
    omega
  | succ m ih =>
    intro i tk y0 y3 hi hy h1 h2 h3 h4 h5
    have gy := (isB_iff y0 b c y3).1 hy
    refine Ev.step (fun k => laws_FnBudgets.l0.eq_2 _ _ _ _ _ _ _ _ _ _ _ _ _ k) ?_
    refine Ev.pos (by omega) ?_
    rw [wr (x := d + 20) (by omega) (by omega)]
    by_cases hd : d + 20 ≤ 100000
    · rw [decide_eq_true hd]
      refine Ev.step (fun k => laws_FnBudgets.j2.eq_2 _ _ _ _ _ _ _ _ _ _ _ _ _ _ k) ?_
      refine Ev.pos rfl ?_
      obtain ⟨t, et, t0, t1⟩ := at_ok l i hl (by omega) hw
      refine Ev.bnow et ?_
      have q0 := Int.tmod_nonneg 4 t0
      have q1 := Int.tmod_lt_of_pos t (show (0 : Int) < 4 by omega)
      obtain ⟨q, hq⟩ : ∃ q, Int.tmod t 4 = q := ⟨_, rfl⟩
      rw [hq] at q0 q1
      rw [hq, wr (x := d + (i : Int)) (by omega) (by omega)]
      refine Ev.bnow (take_eq y0 b c y3 (d + i) q) ?_
      have hk := wr_tk tk q h3 (by omega) q0 q1
      have hn : wrap64 ((i : Int) + 1) = ((i + 1 : Nat) : Int) := wnx i (by omega)
      by_cases ok : okT y0 b c y3 (d + i) q = true
      · rw [if_pos ok]
        dsimp only
        refine Ev.pos rfl ?_
        refine Ev.bnow et ?_
        simp only [hn, hq, hk]
        clear hn hk
        have ok2 : n_in y0 b c y3 (d + i) q := by
          have o := ok
          simp only [okT, hy, Bool.true_and, decide_eq_true_eq] at o
          exact o
        unfold n_in at ok2
        have lv := lvl_in y0 b c y3 (d + i) hy (by omega) (by omega)
        have e : c * (d + i - d) = c * (d + i - y3) + c * (y3 - d) := by rw [← Int.mul_add]; congr 1; omega
        clear ok et hq
        generalize lvl y0 b c y3 (d + i) = L at *
        generalize hP : c * (d + (i : Int) - d) = P at *
        generalize c * (d + (i : Int) - y3) = Q at *
        generalize c * (y3 - d) = R at *
        have hB : isB (L - q) b c (d + i) = true := (isB_iff _ _ _ _).2 (by omega)
        exact ih (i + 1) (tk + q) (L - q) (d + i) (by omega) hB (by omega) (by omega) (by omega) (by omega) (by rw [hP]; omega)
      · rw [if_neg ok]
        dsimp only
        refine Ev.neg (by simp) ?_
        simp only [hn]
        clear hn hk hq
        exact ih (i + 1) tk y0 y3 (by omega) hy (by omega) (by omega) (by omega) (by omega) (by omega)
    · rw [decide_eq_false hd]
      refine end_ok a b c d n tk h ?_ l i _ _ _ _
      have m1 := Int.mul_le_mul_of_nonneg_left (show y3 - d ≤ 20 by omega) (show 0 ≤ c by omega)
      omega
theorem j0_ok (l : List Int) (hl : l.length ≤ 1048576) (hw : ∀ x ∈ l, (Lit.int .u8 x).wf = true) (a b c d n : Int) : Ev (fun k => laws_FnBudgets.j0 k l n false a b c d) true := by
  refine Ev.step (fun k => laws_FnBudgets.j0.eq_2 _ _ _ _ _ _ _ k) ?_
  refine Ev.neg (by simp) ?_
  refine Ev.bnow (implIsB a b c d) ?_
  cases h : isB a b c d with
  | true =>
    refine Ev.pos rfl ?_
    refine loop_ok l hl hw a b c d n h 20 0 0 a d (by omega) h (by omega) (by omega) (by omega) (by omega) ?_
    rw [show d - d = 0 by omega, Int.mul_zero]; omega
  | false =>
    refine Ev.neg (by simp) ?_
    refine Ev.bnow (a := 0) (by unfold impl_MostIn.f; simp [implIsB, h]) ?_
    refine Ev.pos rfl ?_
    have e : Ev (fun k => impl_WaitFor.f k a b c d 0) (-1) := by
      unfold impl_WaitFor.f
      refine Ev.bnow (implIsB a b c d) ?_
      refine Ev.neg (by simp [h]) ?_
      refine Ev.step (fun k => impl_WaitFor.j0.eq_2 _ _ _ _ _ _ k) ?_
      exact Ev.pos rfl (Ev.now _)
    exact Ev.bind e (Ev.some_ rfl)
theorem any_ok (b : List Int) (i h : Int) (hc : Cur b i) : ∃ x y z t i' h', spec_l18Any.f b i h = some (x, y, z, t, i', h') ∧ Cur b i' := by
  unfold spec_l18Any.f
  obtain ⟨x1, i1, h1, e1, a1, b1, c1⟩ := below_ok b i h 9 hc (by omega) (by omega)
  obtain ⟨x2, i2, h2, e2, a2, b2, c2⟩ := below_ok b i1 h1 3 c1 (by omega) (by omega)
  obtain ⟨x3, i3, h3, e3, a3, b3, c3⟩ := below_ok b i2 h2 20 c2 (by omega) (by omega)
  simp only [e1, e2, e3, Option.bind_some]
  rw [wr (x := 2 + x1) (by omega) (by omega), wr (x := 2 + x1 + 1) (by omega) (by omega)]
  obtain ⟨x4, i4, h4, e4, a4, b4, c4⟩ := below_ok b i3 h3 (2 + x1 + 1) c3 (by omega) (by omega)
  obtain ⟨x5, i5, h5, e5, a5, b5, c5⟩ := below_ok b i4 h4 9 c4 (by omega) (by omega)
  simp only [e4, e5, Option.bind_some]
  obtain ⟨p1, j1, g1, f1, _, k1⟩ := int_ok b i5 h5 [(-1), 11, 9223372036854775807] c5 (by decide) (by decide)
  obtain ⟨p2, j2, g2, f2, _, k2⟩ := int_ok b i5 h5 [(-1), 1000, 1001] c5 (by decide) (by decide)
  obtain ⟨p3, j3, g3, f3, _, k3⟩ := int_ok b i5 h5 [(-1), 100000, 100001] c5 (by decide) (by decide)
  simp only [f1, f2, f3, Option.bind_some]
  split
  · exact ⟨_, _, _, _, _, _, rfl, k1⟩
  · split
    · exact ⟨_, _, _, _, _, _, rfl, k2⟩
    · split
      · exact ⟨_, _, _, _, _, _, rfl, k2⟩
      · split
        · exact ⟨_, _, _, _, _, _, rfl, k3⟩
        · exact ⟨_, _, _, _, _, _, rfl, c5⟩
theorem draw_ok (l : List Int) (hl : l.length ≤ 1048576) : ∃ a b c d t n, Ev (fun k => spec_DrawTakeFrom.f k l) (a, b, c, d, t, n) := by
  obtain ⟨h, eN⟩ := new_ok l hl
  have hc0 : Cur l 0 := ⟨by omega, by omega, hl⟩
  obtain ⟨x, y, z, t, i1, h1, e1, c1⟩ := any_ok l 0 h hc0
  obtain ⟨u, i2, h2, e2, _, _, c2⟩ := below_ok l i1 h1 6 c1 (by omega) (by omega)
  have eO : spec_l1Once.f l i1 h1 6 = some (u == 0, i2, h2) := by unfold spec_l1Once.f; rw [e2]; rfl
  obtain ⟨v, i3, h3, e3, _, c3⟩ := int_ok l i2 h2 [(-1), 0, 100000, 100001, 9223372036854775807] c2 (by decide) (by decide)
  obtain ⟨v', i3', h3', e3', _, _, c3'⟩ := below_ok l i2 h2 40 c2 (by omega) (by omega)
  have eF : ∃ q, Ev (fun k => spec_DrawFillBucket.f k l) (x, y, z, t, q) := by
    unfold spec_DrawFillBucket.f
    cases hu : (u == 0) with
    | true =>
      refine ⟨v, Ev.bind eN (Ev.bnow e1 (Ev.bnow eO ?_))⟩
      rw [hu]
      exact Ev.pos rfl (Ev.bnow e3 (Ev.now _))
    | false =>
      refine ⟨v', Ev.bind eN (Ev.bnow e1 (Ev.bnow eO ?_))⟩
      rw [hu]
      exact Ev.neg (by simp) (Ev.bnow e3' (Ev.now _))
  obtain ⟨q, eF⟩ := eF
  obtain ⟨n, i4, h4, e4, _, c4⟩ := int_ok l 0 h [0, 1, 2, 5, 11, 1001, (-1)] hc0 (by decide) (by decide)
  refine ⟨x, y, z, t, q, n, ?_⟩
  unfold spec_DrawTakeFrom.f
  exact Ev.bind eF (Ev.bind eN (Ev.bnow e4 (Ev.now _)))
theorem FnBudgets : laws_FnBudgets.Pure := by
  intro l _ _ hw
  refine Ev.rounds (g := fun j => laws_FnBudgets.f j l) ?_
  unfold laws_FnBudgets.f
  refine Ev.bnow (big_eq l) ?_
  by_cases hb : (l.length : Int) > 1048576
  · exact Ev.pos (by simpa using hb) (Ev.now _)
  · refine Ev.neg (by simpa using hb) ?_
    have hl : l.length ≤ 1048576 := by omega
    obtain ⟨a, b, c, d, t, n, eD⟩ := draw_ok l hl
    refine Ev.bind eD ?_
    refine Ev.bnow (take_eq a b c d t n) ?_
    by_cases ok : okT a b c d t n = true
    · rw [if_pos ok]
      dsimp only
      refine Ev.pos rfl ?_
      have ok2 := ok
      simp only [okT, Bool.and_eq_true, decide_eq_true_eq] at ok2
      have g := (isB_iff a b c d).1 ok2.1
      have lv := lvl_in a b c d t ok2.1 (by omega) (by omega)
      refine Ev.bnow (implIsB _ _ _ _) ?_
      refine Ev.pos (by rw [isB_iff]; omega) ?_
      refine Ev.pos rfl ?_
      exact j0_ok l hl hw a b c d n
    · rw [if_neg ok]
      dsimp only
      refine Ev.neg (by simp) ?_
      simp only [beq_self_eq_true, Bool.not_true, Bool.or_self]
      exact j0_ok l hl hw a b c d n

end Go.Proofs.Ytjppleahcmpfjaa.Pure
