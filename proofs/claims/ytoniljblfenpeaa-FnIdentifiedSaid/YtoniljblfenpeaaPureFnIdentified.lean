/- The law FnIdentified returns true at every list of bytes: the size told is the greatest at which all sets are told apart, a twin is one, and an unseen column leaves nothing told. No condition. -/
import Derived.Test.YtoniljblfenpeaaHFnIdentifiedx5
namespace Go.Proofs.Ytoniljblfenpeaa.Pure
open Go.RowKit Go.Proofs.Ytoniljblfenpeaa.PFnIdentified Go.Proofs.YtoniljblfenpeaaW.PrintWords Go.Proofs.YtoniljblfenpeaaW.PrintLast
set_option linter.unusedSimpArgs false
set_option linter.unusedVariables false

theorem wr {x : Int} (h1 : -9223372036854775808 ≤ x) (h2 : x ≤ 9223372036854775807) : wrap64 x = x := by unfold wrap64; omega
theorem Ev.pos {α : Type} {c : Prop} [Decidable c] {g f : Nat → Option α} {r : α} (h : c) (e : Ev g r) : Ev (fun k => if c then g k else f k) r := by
  simp only [if_pos h]; exact e
theorem Ev.neg {α : Type} {c : Prop} [Decidable c] {g f : Nat → Option α} {r : α} (h : ¬ c) (e : Ev f r) : Ev (fun k => if c then g k else f k) r := by
  simp only [if_neg h]; exact e
theorem Ev.some_ {α : Type} {r r' : α} (h : r = r') : Ev (fun _ => some r) r' := h ▸ Ev.now r
theorem Ev.bnow {α β : Type} {g : Option α} {f : Nat → α → Option β} {a : α} {r : β} (h : g = some a) (k : Ev (fun n => f n a) r) : Ev (fun n => g.bind (f n)) r := by
  subst h; exact k

theorem and_le (x : Int) (m : Nat) (hm : m < 4611686018427387904) : 0 ≤ Go.bits .and .i64 x m ∧ Go.bits .and .i64 x m ≤ m := by
  simp only [Go.bits, BitVec.toNat_and, BitVec.ofInt_natCast, BitVec.toNat_ofNat]
  have h1 : (BitVec.ofInt IntKind.i64.bits x).toNat &&& m % 2 ^ IntKind.i64.bits ≤ m % 2 ^ IntKind.i64.bits := Nat.and_le_right
  have h2 : m % 2 ^ IntKind.i64.bits = m := Nat.mod_eq_of_lt (by show m < 2 ^ 64; omega)
  rw [h2] at h1 ⊢
  rw [i64_w, wr (by omega) (by omega)]
  omega
theorem new_l (l : List Int) (hl : l.length ≤ 1048576) : ∀ (d i : Nat) (h : Int), l.length - i ≤ d → i ≤ l.length → ∃ h', Ev (fun k => spec_l1New.l0 k l h i) (l, 0, h') := by
  intro d
  induction d with
  | zero =>
    intro i h hi hi2
    refine ⟨h, Ev.step (fun k => spec_l1New.l0.eq_2 _ _ _ k) ?_⟩
    exact Ev.neg (by omega) (Ev.now _)
  | succ d ih =>
    intro i h hi hi2
    by_cases h1 : (i : Int) < (l.length : Int)
    · by_cases h2 : (i : Int) < 4000
      · obtain ⟨h', e⟩ := ih (i + 1) (Go.bits .and .i64 (wrap64 ((wrap64 ((wrap64 (h * 137)) + (wrap64 (rd l i)))) + 11)) 1073741823) (by omega) (by omega)
        refine ⟨h', Ev.step (fun k => spec_l1New.l0.eq_2 _ _ _ k) (Ev.pos h1 (Ev.pos h2 (Ev.pos (by omega) ?_)))⟩
        rw [wr (x := (i : Int) + 1) (by omega) (by omega)]
        exact e
      · exact ⟨h, Ev.step (fun k => spec_l1New.l0.eq_2 _ _ _ k) (Ev.pos h1 (Ev.neg h2 (Ev.now _)))⟩
    · exact ⟨h, Ev.step (fun k => spec_l1New.l0.eq_2 _ _ _ k) (Ev.neg h1 (Ev.now _))⟩
theorem new_ok (l : List Int) (hl : l.length ≤ 1048576) : ∃ h, Ev (fun k => spec_l1New.f k l) (l, 0, h) := by
  unfold spec_l1New.f
  exact new_l l hl l.length 0 _ (by omega) (by omega)
/-- The cursor stands in the bytes. -/
def Cur (b : List Int) (i : Int) : Prop := 0 ≤ i ∧ i ≤ b.length ∧ b.length ≤ 1048576
theorem byte_ok (b : List Int) (i h : Int) (hc : Cur b i) : ∃ x i' h', spec_l1Byte.f b i h = some (x, i', h') ∧ 0 ≤ x ∧ x ≤ 255 ∧ Cur b i' := by
  obtain ⟨h0, h1, h2⟩ := hc
  unfold spec_l1Byte.f
  by_cases hi : i < (b.length : Int)
  · rw [if_pos hi, if_pos h0, wr (x := i + 1) (by omega) (by omega)]
    have a := and_le (wrap64 ((Go.bits .and .i64 (Go.bits .xor .i64 ((wrap64 ((wrap64 (h * 6364136223846793005)) + 1442695040888963407)) / 8589934592) ((wrap64 ((wrap64 (h * 6364136223846793005)) + 1442695040888963407)) / 140737488355328)) 255) + (wrap64 (rd b i)))) 255 (by decide)
    exact ⟨_, _, _, rfl, a.1, a.2, by omega, by omega, h2⟩
  · rw [if_neg hi]
    have a := and_le (Go.bits .xor .i64 ((wrap64 ((wrap64 (h * 6364136223846793005)) + 1442695040888963407)) / 8589934592) ((wrap64 ((wrap64 (h * 6364136223846793005)) + 1442695040888963407)) / 140737488355328)) 255 (by decide)
    exact ⟨_, _, _, rfl, a.1, a.2, h0, h1, h2⟩
theorem below_ok (b : List Int) (i h a : Int) (hc : Cur b i) (ha : 0 < a) (ha2 : a ≤ 256) : ∃ x i' h', spec_l1Below.f b i h a = some (x, i', h') ∧ 0 ≤ x ∧ x < a ∧ Cur b i' := by
  obtain ⟨x, i', h', e, h0, h1, hc'⟩ := byte_ok b i h hc
  refine ⟨Int.tmod x a, i', h', ?_, Int.tmod_nonneg _ h0, Int.tmod_lt_of_pos _ ha, hc'⟩
  unfold spec_l1Below.f
  rw [if_neg (by omega), if_pos ha2, e]
  simp only [Option.bind_some]
  rw [if_neg (by omega)]

theorem wnx {i n : Nat} (h : i < n) (hn : n ≤ 9223372036854775807) : wrap64 ((i : Int) + 1) = ((i + 1 : Nat) : Int) := by rw [wr (by omega) (by omega)]; rfl
theorem rd_get (l : List Int) (i : Nat) (h : i < l.length) : rd l (i : Int) = l[i] := by simp [rd, List.getD, h]

theorem once_ok (b : List Int) (i h a : Int) (hc : Cur b i) (ha : 0 < a) (ha2 : a ≤ 256) : ∃ x i' h', spec_l1Once.f b i h a = some (x, i', h') ∧ Cur b i' := by
  obtain ⟨x, i', h', e, _, _, c⟩ := below_ok b i h a hc ha ha2
  refine ⟨x == 0, i', h', ?_, c⟩
  unfold spec_l1Once.f
  rw [e]; rfl

def tot (l : List (List Int)) : Nat := (l.map List.length).sum
theorem rd1 (l : List (List Int)) (i : Nat) (h : i < l.length) : rd_L1 l (i : Int) = l[i] := by simp [rd_L1, List.getD, h]
theorem tot_mem : ∀ (l : List (List Int)) (x : List Int), x ∈ l → x.length ≤ tot l := by
  intro l
  induction l with
  | nil => intro x h; cases h
  | cons y l ih =>
    intro x h
    simp only [tot, List.map_cons, List.sum_cons]
    rcases List.mem_cons.1 h with rfl | h
    · omega
    · have := ih x h; unfold tot at this; omega

theorem rdof_get (l : List Bool) (i : Nat) (h : i < l.length) : rdOf false l (i : Int) = l[i] := by simp [rdOf, List.getD, h]

theorem specIn (a l h : Int) : spec_l1In.f a l h = some (decide (l ≤ a ∧ a ≤ h)) := by
  unfold spec_l1In.f
  by_cases h1 : l ≤ a <;> simp [h1]

def fwB (row : List Int) (k : Int) : Bool := decide (0 ≤ k ∧ k < row.length ∧ rd row k = 1)
/-- whether a row fails with these links. -/
def fw (row g : List Int) : Bool := g.any (fwB row)

theorem sfw_l (row g : List Int) (hr : row.length ≤ 1048576) (hg : g.length ≤ 1048576) : ∀ (d i : Nat), i + d = g.length → Ev (fun k => spec_FailsWith.l0 k row g i) ((g.drop i).any (fwB row)) := by
  intro d
  induction d with
  | zero =>
    intro i hi
    refine Ev.step (fun k => spec_FailsWith.l0.eq_2 _ _ _ k) ?_
    refine Ev.neg (by omega) (Ev.some_ ?_)
    rw [List.drop_eq_nil_of_le (by omega)]; rfl
  | succ d ih =>
    intro i hi
    have hlt : i < g.length := by omega
    refine Ev.step (fun k => spec_FailsWith.l0.eq_2 _ _ _ k) ?_
    refine Ev.pos (by omega) ?_
    refine Ev.pos (by omega) ?_
    rw [rd_get g i hlt, List.drop_eq_getElem_cons hlt, List.any_cons, wr (x := (row.length : Int) - 1) (by omega) (by omega)]
    refine Ev.bnow (specIn _ _ _) ?_
    by_cases h : 0 ≤ g[i] ∧ g[i] ≤ (row.length : Int) - 1
    · refine Ev.pos (decide_eq_true h) ?_
      refine Ev.pos h.1 ?_
      refine Ev.pos (by omega) ?_
      by_cases h1 : rd row g[i] = 1
      · refine Ev.pos h1 (Ev.some_ ?_)
        have : fwB row g[i] = true := decide_eq_true ⟨h.1, by omega, h1⟩
        rw [this]; rfl
      · refine Ev.neg h1 ?_
        have : fwB row g[i] = false := decide_eq_false (fun x => h1 x.2.2)
        rw [this, Bool.false_or]
        simp only [wnx hlt (by omega)]
        exact ih (i + 1) (by omega)
    · refine Ev.neg (by rw [decide_eq_false h]; simp) ?_
      have : fwB row g[i] = false := decide_eq_false (fun x => h ⟨x.1, by omega⟩)
      rw [this, Bool.false_or]
      simp only [wnx hlt (by omega)]
      exact ih (i + 1) (by omega)
theorem sfw (row g : List Int) (hr : row.length ≤ 1048576) (hg : g.length ≤ 1048576) : Ev (fun k => spec_FailsWith.f k row g) (fw row g) := by
  unfold spec_FailsWith.f
  exact sfw_l row g hr hg g.length 0 (by omega)

theorem bits_r (b : List Int) (rows c : Nat) (out : List (List Int)) (ho : out.length ≤ 64) (hc : c ≤ 64) (r : Int) : ∀ (d j : Nat) (row : List Int) (i h : Int), Cur b i → j + d = c → row.length = j → ∃ row' i' h', row'.length = c ∧ Cur b i' ∧ ∀ R, Ev (fun k => spec_l5Bits.l0 k rows c (out ++ [row']) (wrap64 (r + 1)) b i' h') R → Ev (fun k => spec_l5Bits.l1 k rows c out r row j b i h) R := by
  intro d
  induction d with
  | zero =>
    intro j row i h hi hj hr
    refine ⟨row, i, h, by omega, hi, fun R e => ?_⟩
    refine Ev.step (fun k => spec_l5Bits.l1.eq_2 _ _ _ _ _ _ _ _ _ k) ?_
    refine Ev.neg (by omega) ?_
    exact Ev.pos (by omega) e
  | succ d ih =>
    intro j row i h hi hj hr
    obtain ⟨x, i', h', e, h0, h1, hc'⟩ := below_ok b i h 2 hi (by omega) (by omega)
    obtain ⟨row', i2, h2, hl, hc2, ne⟩ := ih (j + 1) (row ++ [x]) i' h' hc' (by omega) (by simp; omega)
    refine ⟨row', i2, h2, hl, hc2, fun R e2 => ?_⟩
    refine Ev.step (fun k => spec_l5Bits.l1.eq_2 _ _ _ _ _ _ _ _ _ k) ?_
    refine Ev.pos (by omega) ?_
    refine Ev.bnow e ?_
    refine Ev.pos (by omega) ?_
    simp only [wnx (show j < 65 by omega) (by omega)]
    exact ne R e2
theorem bits_l (b : List Int) (rows c : Nat) (hr : rows ≤ 64) (hc : c ≤ 64) : ∀ (d r : Nat) (out : List (List Int)) (i h : Int), Cur b i → r + d = rows → out.length = r → (∀ x ∈ out, x.length = c) → ∃ m i' h', m.length = rows ∧ (∀ x ∈ m, x.length = c) ∧ Cur b i' ∧ Ev (fun k => spec_l5Bits.l0 k rows c out r b i h) (m, i', h') := by
  intro d
  induction d with
  | zero =>
    intro r out i h hi hd ho hx
    refine ⟨out, i, h, by omega, hx, hi, ?_⟩
    refine Ev.step (fun k => spec_l5Bits.l0.eq_2 _ _ _ _ _ _ _ k) ?_
    exact Ev.neg (by omega) (Ev.now _)
  | succ d ih =>
    intro r out i h hi hd ho hx
    obtain ⟨row', i2, h2, hl, hc2, ne⟩ := bits_r b rows c out (by omega) hc r c 0 [] i h hi (by omega) rfl
    obtain ⟨m, i3, h3, hm, hx3, hc3, e3⟩ := ih (r + 1) (out ++ [row']) i2 h2 hc2 (by omega) (by simp; omega) (fun x hx' => by
      rcases List.mem_append.1 hx' with h | h
      · exact hx x h
      · rw [List.mem_singleton.1 h]; exact hl)
    refine ⟨m, i3, h3, hm, hx3, hc3, ?_⟩
    refine Ev.step (fun k => spec_l5Bits.l0.eq_2 _ _ _ _ _ _ _ k) ?_
    refine Ev.pos (by omega) ?_
    refine ne _ ?_
    simp only [wnx (show r < 65 by omega) (by omega)]
    exact e3
theorem bits_ok (b : List Int) (rows c : Int) (hr0 : 0 ≤ rows) (hr : rows ≤ 64) (hc0 : 0 ≤ c) (hc : c ≤ 64) (i h : Int) (hi : Cur b i) : ∃ m i' h', (m.length : Int) = rows ∧ (∀ x ∈ m, (x.length : Int) = c) ∧ Cur b i' ∧ Ev (fun k => spec_l5Bits.f k b i h rows c) (m, i', h') := by
  obtain ⟨r, rfl⟩ := Int.eq_ofNat_of_zero_le hr0
  obtain ⟨c, rfl⟩ := Int.eq_ofNat_of_zero_le hc0
  obtain ⟨m, i', h', h1, h2, h3, h4⟩ := bits_l b r c (by omega) (by omega) r 0 [] i h hi (by omega) rfl (by simp)
  refine ⟨m, i', h', by omega, fun x hx => by rw [h2 x hx], h3, ?_⟩
  unfold spec_l5Bits.f
  exact h4
theorem set_l (b : List Int) (c : Nat) (hc : c ≤ 64) : ∀ (d j : Nat) (s : List Int) (i h : Int), Cur b i → j + d = c → s.length ≤ j → ∃ s' i' h', s'.length ≤ c ∧ Cur b i' ∧ Ev (fun k => spec_l15Set.l0 k c s j b i h) (s', i', h') := by
  intro d
  induction d with
  | zero =>
    intro j s i h hi hd hs
    refine ⟨s, i, h, by omega, hi, ?_⟩
    refine Ev.step (fun k => spec_l15Set.l0.eq_2 _ _ _ _ _ _ k) ?_
    exact Ev.neg (by omega) (Ev.now _)
  | succ d ih =>
    intro j s i h hi hd hs
    obtain ⟨x, i', h', e, hc'⟩ := once_ok b i h 3 hi (by omega) (by omega)
    have hw := wnx (show j < 65 by omega) (by omega)
    cases x with
    | true =>
      obtain ⟨s', i2, h2, hl, hc2, e2⟩ := ih (j + 1) (s ++ [(j : Int)]) i' h' hc' (by omega) (by simp; omega)
      refine ⟨s', i2, h2, hl, hc2, ?_⟩
      refine Ev.step (fun k => spec_l15Set.l0.eq_2 _ _ _ _ _ _ k) ?_
      refine Ev.pos (by omega) ?_
      refine Ev.bnow e ?_
      refine Ev.pos rfl ?_
      refine Ev.pos (by omega) ?_
      simp only [hw]
      exact e2
    | false =>
      obtain ⟨s', i2, h2, hl, hc2, e2⟩ := ih (j + 1) s i' h' hc' (by omega) (by omega)
      refine ⟨s', i2, h2, hl, hc2, ?_⟩
      refine Ev.step (fun k => spec_l15Set.l0.eq_2 _ _ _ _ _ _ k) ?_
      refine Ev.pos (by omega) ?_
      refine Ev.bnow e ?_
      refine Ev.neg (by simp) ?_
      simp only [hw]
      exact e2
theorem set_ok (b : List Int) (c : Int) (hc0 : 0 ≤ c) (hc : c ≤ 64) (i h : Int) (hi : Cur b i) : ∃ s i' h', (s.length : Int) ≤ c ∧ Cur b i' ∧ Ev (fun k => spec_l15Set.f k b i h c) (s, i', h') := by
  obtain ⟨c, rfl⟩ := Int.eq_ofNat_of_zero_le hc0
  obtain ⟨s, i', h', h1, h2, h3⟩ := set_l b c (by omega) c 0 [] i h hi (by omega) (by simp)
  refine ⟨s, i', h', by omega, h2, ?_⟩
  unfold spec_l15Set.f
  exact h3
theorem vds_l (m : List (List Int)) (s : List Int) (hm : m.length ≤ 64) (hx : ∀ x ∈ m, x.length ≤ 64) (hs : s.length ≤ 64) : ∀ (d i : Nat) (acc : List Bool), i + d = m.length → acc.length = i → ∃ v, v.length = m.length ∧ Ev (fun k => spec_l15Verdicts.l0 k m s acc i) v := by
  intro d
  induction d with
  | zero =>
    intro i acc hi ha
    refine ⟨acc, by omega, ?_⟩
    refine Ev.step (fun k => spec_l15Verdicts.l0.eq_2 _ _ _ _ k) ?_
    exact Ev.neg (by omega) (Ev.now _)
  | succ d ih =>
    intro i acc hi ha
    have hlt : i < m.length := by omega
    have hw := wnx hlt (by omega)
    have hxi := hx m[i] (List.getElem_mem hlt)
    obtain ⟨v, h1, h2⟩ := ih (i + 1) (acc ++ [fw m[i] s]) (by omega) (by simp; omega)
    refine ⟨v, h1, ?_⟩
    refine Ev.step (fun k => spec_l15Verdicts.l0.eq_2 _ _ _ _ k) ?_
    refine Ev.pos (by omega) ?_
    refine Ev.pos (by omega) ?_
    rw [rd1 m i hlt]
    refine Ev.bind (sfw m[i] s (by omega) (by omega)) ?_
    refine Ev.pos (by omega) ?_
    simp only [hw]
    exact h2
theorem vds_ok (m : List (List Int)) (s : List Int) (hm : m.length ≤ 64) (hx : ∀ x ∈ m, x.length ≤ 64) (hs : s.length ≤ 64) : ∃ v, v.length = m.length ∧ Ev (fun k => spec_l15Verdicts.f k m s) v := by
  unfold spec_l15Verdicts.f
  exact vds_l m s hm hx hs m.length 0 [] (by omega) rfl
/-- a drawn matrix of verdicts. -/
theorem any15_ok (b : List Int) (i h : Int) (hi : Cur b i) : ∃ (m : List (List Int)) (v : List Bool) (c i' h' : Int), m.length ≤ 64 ∧ (∀ x ∈ m, x.length ≤ 64) ∧ 0 ≤ c ∧ c ≤ 6 ∧ Cur b i' ∧ Ev (fun k => spec_l15Any.f k b i h) (m, v, c, i', h') := by
  obtain ⟨x, i1, h1, e1, x0, x1, c1⟩ := below_ok b i h 6 hi (by omega) (by omega)
  obtain ⟨y, i2, h2, e2, y0, y1, c2⟩ := below_ok b i1 h1 7 c1 (by omega) (by omega)
  have hw : wrap64 (1 + x) = 1 + x := wr (by omega) (by omega)
  obtain ⟨m, i3, h3, m0, m1, c3, e3⟩ := bits_ok b y (1 + x) (by omega) (by omega) (by omega) (by omega) i2 h2 c2
  obtain ⟨s, i4, h4, s0, c4, e4⟩ := set_ok b (1 + x) (by omega) (by omega) i3 h3 c3
  have hm : ∀ z ∈ m, z.length ≤ 64 := fun z hz => by have := m1 z hz; omega
  obtain ⟨v, v0, e5⟩ := vds_ok m s (by omega) hm (by omega)
  obtain ⟨q, i5, h5, e6, q0, q1, c5⟩ := below_ok b i4 h4 9 c4 (by omega) (by omega)
  have go : ∀ (m' : List (List Int)) (v' : List Bool) (i' h' : Int), m'.length ≤ 64 → (∀ z ∈ m', z.length ≤ 64) → Cur b i' → Ev (fun k => spec_l15Any.f k b i h) (m', v', 1 + x, i', h') → ∃ (m : List (List Int)) (v : List Bool) (c i' h' : Int), m.length ≤ 64 ∧ (∀ x ∈ m, x.length ≤ 64) ∧ 0 ≤ c ∧ c ≤ 6 ∧ Cur b i' ∧ Ev (fun k => spec_l15Any.f k b i h) (m, v, c, i', h') := fun m' v' i' h' a b c d => ⟨m', v', 1 + x, i', h', a, b, by omega, by omega, c, d⟩
  have st : ∀ R, Ev (fun k => if (m.length : Int) > 0 then (some (q, i5, h5)).bind fun bt216 => (if bt216.1 = 0 then (if 0 < (v.length : Int) then (some (m, (v.set (0 : Int).toNat (!(rdOf false v 0))), 1 + x, bt216.2.1, bt216.2.2)) else (none)) else (if bt216.1 = 1 then (if 1 ≤ (v.length : Int) then (some (m, (v.drop (1 : Int).toNat), 1 + x, bt216.2.1, bt216.2.2)) else (none)) else (if bt216.1 = 2 then (if 0 < (m.length : Int) then (if 0 < ((rd_L1 m 0).length : Int) then (some ((m.set (0 : Int).toNat ((rd_L1 m 0).set (0 : Int).toNat 2)), v, 1 + x, bt216.2.1, bt216.2.2)) else (none)) else (none)) else (some (m, v, 1 + x, bt216.2.1, bt216.2.2))))) else (some (m, v, 1 + x, i4, h4))) R → Ev (fun k => spec_l15Any.f k b i h) R := by
    intro R e
    unfold spec_l15Any.f
    refine Ev.bnow e1 ?_
    refine Ev.bnow e2 ?_
    simp only [hw]
    refine Ev.bind e3 ?_
    refine Ev.bind e4 ?_
    refine Ev.bind e5 ?_
    simp only [e6]
    exact e
  by_cases hp : (m.length : Int) > 0
  · have hlt : 0 < m.length := by omega
    have hr0 := m1 m[0] (List.getElem_mem hlt)
    have hrd : rd_L1 m 0 = m[0] := rd1 m 0 hlt
    have hm0 := hm m[0] (List.getElem_mem hlt)
    by_cases a0 : q = 0
    · refine go m (v.set (0 : Int).toNat (!(rdOf false v 0))) i5 h5 (by omega) hm c5 (st _ (Ev.pos hp ?_))
      exact Ev.pos a0 (Ev.pos (by omega) (Ev.now _))
    by_cases a1 : q = 1
    · refine go m (v.drop (1 : Int).toNat) i5 h5 (by omega) hm c5 (st _ (Ev.pos hp ?_))
      exact Ev.neg a0 (Ev.pos a1 (Ev.pos (by omega) (Ev.now _)))
    by_cases a2 : q = 2
    · refine go (m.set (0 : Int).toNat ((rd_L1 m 0).set (0 : Int).toNat 2)) v i5 h5 (by rw [List.length_set]; omega) (fun z hz => ?_) c5 (st _ (Ev.pos hp ?_))
      · rcases List.mem_or_eq_of_mem_set hz with h | h
        · exact hm z h
        · rw [h, List.length_set, hrd]; exact hm0
      · refine Ev.neg a0 (Ev.neg a1 (Ev.pos a2 (Ev.pos (by omega) (Ev.pos ?_ (Ev.now _)))))
        rw [hrd]; omega
    · refine go m v i5 h5 (by omega) hm c5 (st _ (Ev.pos hp ?_))
      exact Ev.neg a0 (Ev.neg a1 (Ev.neg a2 (Ev.now _)))
  · exact go m v i4 h4 (by omega) hm c4 (st _ (Ev.neg hp (Ev.now _)))

theorem dt_ok (l : List Int) (hl : l.length ≤ 1048576) : ∃ (m : List (List Int)) (c : Int), m.length ≤ 64 ∧ (∀ x ∈ m, x.length ≤ 64) ∧ Ev (fun k => spec_DrawToldSize.f k l) (m, c) := by
  obtain ⟨h, e⟩ := new_ok l hl
  obtain ⟨m, v, c, i1, h1, m0, m1, _, _, c1, e1⟩ := any15_ok l 0 h ⟨by omega, by omega, hl⟩
  refine ⟨m, c, m0, m1, ?_⟩
  unfold spec_DrawToldSize.f
  refine Ev.bind e ?_
  exact Ev.bind e1 (Ev.now _)
theorem dtw_ok (l : List Int) (hl : l.length ≤ 1048576) : ∃ (m : List (List Int)) (s : List Int) (c : Int), m.length ≤ 64 ∧ (∀ x ∈ m, x.length ≤ 64) ∧ s.length ≤ 64 ∧ Ev (fun k => spec_DrawTwinOf.f k l) (m, s, c) := by
  obtain ⟨h, e⟩ := new_ok l hl
  obtain ⟨m, v, c, i1, h1, m0, m1, cc0, cc6, c1, e1⟩ := any15_ok l 0 h ⟨by omega, by omega, hl⟩
  obtain ⟨s, i2, h2, s0, c2, e2⟩ := set_ok l c (by omega) (by omega) i1 h1 c1
  obtain ⟨o, i3, h3, e3, c3⟩ := once_ok l i2 h2 9 c2 (by omega) (by omega)
  cases o with
  | true =>
    refine ⟨m, s, wrap64 (c + 1), m0, m1, by omega, ?_⟩
    unfold spec_DrawTwinOf.f
    refine Ev.bind e ?_
    refine Ev.bind e1 ?_
    refine Ev.bind e2 ?_
    refine Ev.bnow e3 ?_
    exact Ev.pos rfl (Ev.now _)
  | false =>
    refine ⟨m, s, c, m0, m1, by omega, ?_⟩
    unfold spec_DrawTwinOf.f
    refine Ev.bind e ?_
    refine Ev.bind e1 ?_
    refine Ev.bind e2 ?_
    refine Ev.bnow e3 ?_
    exact Ev.neg (by simp) (Ev.now _)

/-- whether every row fails with both sets alike. -/
def sv (m : List (List Int)) (a b : List Int) : Bool := !(m.any (fun row => fw row a != fw row b))

def inB (a b x : Int) : Bool := decide (a ≤ x ∧ x ≤ b)
def okV (l : List Int) : Bool := l.all (inB 0 100000) && decide (l.length ≤ 12)

/-- a matrix of so many columns. -/
def im (l : List (List Int)) (cols : Int) : Bool := decide (1 ≤ cols ∧ cols ≤ 6) && (decide (l.length ≤ 12) && l.all (fun row => decide ((row.length : Int) = cols) && row.all (inB (-2) 2)))
/-- nothing but zeros and ones. -/
def bt (l : List (List Int)) : Bool := l.all (fun row => row.all (inB 0 1))

theorem implIn (a l h : Int) : impl_InRange.f a l h = some (decide (l ≤ a ∧ a ≤ h)) := by
  unfold impl_InRange.f
  by_cases h1 : l ≤ a <;> simp [h1]

theorem allIn_l (l : List Int) (a b : Int) (hl : l.length ≤ 1048577) : ∀ (d i : Nat), i + d = l.length → Ev (fun k => impl_allIn.l0 k a b l l.length i) ((l.drop i).all (inB a b)) := by
  intro d
  induction d with
  | zero =>
    intro i hi
    refine Ev.step (fun k => impl_allIn.l0.eq_2 _ _ _ _ _ k) ?_
    refine Ev.neg (by omega) (Ev.some_ ?_)
    rw [List.drop_eq_nil_of_le (by omega)]; rfl
  | succ d ih =>
    intro i hi
    have hlt : i < l.length := by omega
    refine Ev.step (fun k => impl_allIn.l0.eq_2 _ _ _ _ _ k) ?_
    refine Ev.pos (by omega) ?_
    refine Ev.pos (by omega) ?_
    refine Ev.pos (by omega) ?_
    rw [rd_get l i hlt, List.drop_eq_getElem_cons hlt, List.all_cons]
    refine Ev.bnow (a := inB a b l[i]) (by rw [implIn]; rfl) ?_
    cases h : inB a b l[i] with
    | true =>
      refine Ev.pos rfl ?_
      simp only [wnx hlt (by omega)]
      exact ih (i + 1) (by omega)
    | false => exact Ev.neg (by simp) (Ev.now _)
theorem allIn (l : List Int) (a b : Int) (hl : l.length ≤ 1048577) : Ev (fun k => impl_allIn.f k l a b) (l.all (inB a b)) := by
  unfold impl_allIn.f
  exact allIn_l l a b hl l.length 0 (by omega)

theorem iim_l (l : List (List Int)) (cols : Int) (hl : l.length ≤ 1048576) (hm : ∀ x ∈ l, x.length ≤ 1048576) : ∀ (d i : Nat), i + d = l.length → Ev (fun k => impl_IsMatrix.l0 k cols l l.length i) ((l.drop i).all (fun row => decide ((row.length : Int) = cols) && row.all (inB (-2) 2))) := by
  intro d
  induction d with
  | zero =>
    intro i hi
    refine Ev.step (fun k => impl_IsMatrix.l0.eq_2 _ _ _ _ k) ?_
    refine Ev.neg (by omega) (Ev.some_ ?_)
    rw [List.drop_eq_nil_of_le (by omega)]; rfl
  | succ d ih =>
    intro i hi
    have hlt : i < l.length := by omega
    have hx := hm l[i] (List.getElem_mem hlt)
    refine Ev.step (fun k => impl_IsMatrix.l0.eq_2 _ _ _ _ k) ?_
    refine Ev.pos (by omega) ?_
    refine Ev.pos (by omega) ?_
    refine Ev.pos (by omega) ?_
    rw [rd1 l i hlt, List.drop_eq_getElem_cons hlt, List.all_cons]
    by_cases h : (l[i].length : Int) = cols
    · refine Ev.pos h ?_
      refine Ev.bind (allIn l[i] (-2) 2 (by omega)) ?_
      rw [decide_eq_true h, Bool.true_and]
      cases h2 : l[i].all (inB (-2) 2) with
      | true =>
        refine Ev.pos rfl ?_
        simp only [wnx hlt (by omega)]
        exact ih (i + 1) (by omega)
      | false => exact Ev.neg (by simp) (Ev.now _)
    · refine Ev.neg h (Ev.some_ ?_)
      rw [decide_eq_false h]; rfl
theorem iim (l : List (List Int)) (cols : Int) (hl : l.length ≤ 1048576) (hm : ∀ x ∈ l, x.length ≤ 1048576) : Ev (fun k => impl_IsMatrix.f k l cols) (im l cols) := by
  unfold impl_IsMatrix.f
  refine Ev.bnow (implIn _ _ _) ?_
  have e := iim_l l cols hl hm l.length 0 (by omega)
  unfold im
  by_cases h : 1 ≤ cols ∧ cols ≤ 6
  · refine Ev.pos (decide_eq_true h) ?_
    rw [decide_eq_true h, Bool.true_and]
    by_cases h2 : (l.length : Int) > 12
    · rw [decide_eq_true h2, decide_eq_false (show ¬ l.length ≤ 12 by omega)]
      exact Ev.step (fun k => impl_IsMatrix.j0.eq_2 _ _ _ k) (Ev.pos rfl (Ev.now _))
    · rw [decide_eq_false h2, decide_eq_true (show l.length ≤ 12 by omega)]
      exact Ev.step (fun k => impl_IsMatrix.j0.eq_2 _ _ _ k) (Ev.neg (by simp) e)
  · refine Ev.neg (by rw [decide_eq_false h]; simp) ?_
    rw [decide_eq_false h]
    exact Ev.step (fun k => impl_IsMatrix.j0.eq_2 _ _ _ k) (Ev.pos rfl (Ev.now _))

theorem nobit (row : List Int) (h : row.length ≤ 1048576) : Ev (fun k => noBit k row) (!(row.all (inB 0 1))) := by
  unfold noBit
  exact Ev.bind (allIn row 0 1 (by omega)) (Ev.now _)
theorem allO_ev : ∀ (l : List (List Int)), (∀ x ∈ l, x.length ≤ 1048576) → Ev (fun k => allO (noBit k) l) (!(bt l))
  | [], _ => Ev.now _
  | x :: l, h => by
    show Ev (fun k => (noBit k x).bind fun b => (allO (noBit k) l).bind fun c => some (b || c)) _
    refine Ev.bind (nobit x (h x List.mem_cons_self)) ?_
    refine Ev.bind (allO_ev l (fun y hy => h y (List.mem_cons_of_mem _ hy))) (Ev.some_ ?_)
    unfold bt
    rw [List.all_cons, Bool.not_and]
theorem ibits (l : List (List Int)) (cols : Int) (hl : l.length ≤ 1048576) (hm : ∀ x ∈ l, x.length ≤ 1048576) : Ev (fun k => impl_isBits.f k l cols) (im l cols && bt l) := by
  unfold impl_isBits.f
  refine Ev.bind (iim l cols hl hm) ?_
  cases im l cols with
  | true =>
    refine Ev.pos rfl ?_
    refine Ev.bind (allO_ev l hm) (Ev.some_ ?_)
    simp
  | false => exact Ev.neg (by simp) (Ev.now _)

/-- of the first n columns those that P takes. -/
def colsL (P : Nat → Bool) (n : Nat) : List Int := ((List.range n).filter P).map (fun c : Nat => (c : Int))
theorem colsL_succ (P : Nat → Bool) (n : Nat) : colsL P (n + 1) = colsL P n ++ (if P n = true then [(n : Int)] else []) := by
  unfold colsL
  rw [List.range_succ, List.filter_append, List.map_append]
  congr 1
  cases h : P n <;> simp [List.filter_cons, h]
theorem colsL_len (P : Nat → Bool) (n : Nat) : (colsL P n).length ≤ n := by
  unfold colsL
  rw [List.length_map]
  refine Nat.le_trans (List.length_filter_le _ _) ?_
  rw [List.length_range]
  exact Nat.le_refl _
theorem im_is {l : List (List Int)} {cols : Int} (h : im l cols = true) : 1 ≤ cols ∧ cols ≤ 6 ∧ l.length ≤ 12 ∧ ∀ row ∈ l, (row.length : Int) = cols := by
  unfold im at h
  rw [Bool.and_eq_true, Bool.and_eq_true, List.all_eq_true] at h
  obtain ⟨h1, h2, h3⟩ := h
  have h1 := of_decide_eq_true h1
  have h2 := of_decide_eq_true h2
  refine ⟨h1.1, h1.2, h2, fun row hr => ?_⟩
  have := h3 row hr
  rw [Bool.and_eq_true] at this
  exact of_decide_eq_true this.1

/-- the sets of s of c columns. -/
def setsN (c s : Nat) : List (List Int) := subsF s c c [] 0
def setsV (c s : Int) : List (List Int) := if 0 ≤ c ∧ c ≤ 6 ∧ 0 ≤ s ∧ s ≤ c then setsN c.toNat s.toNat else []
theorem isets (c s : Int) : impl_SetsOf.f c s = some (setsV c s) := by
  unfold impl_SetsOf.f setsV setsN
  by_cases h : 0 ≤ c ∧ c ≤ 6 ∧ 0 ≤ s ∧ s ≤ c
  · rw [if_pos h, if_pos h]
  · rw [if_neg h, if_neg h]
theorem setsA : (List.range 7).all (fun c => (List.range 7).all (fun s => decide ((setsN c s).length ≤ 64) && (setsN c s).all (fun x => decide (x.length = s) && x.all (fun k => decide (0 ≤ k ∧ k < (c : Int)))))) = true := by decide +kernel
theorem sets_is {c s : Nat} (hc : c ≤ 6) (hs : s ≤ 6) : (setsN c s).length ≤ 64 ∧ ∀ x ∈ setsN c s, x.length = s ∧ ∀ k ∈ x, 0 ≤ k ∧ k < (c : Int) := by
  have h := List.all_eq_true.1 (List.all_eq_true.1 setsA c (List.mem_range.2 (by omega))) s (List.mem_range.2 (by omega))
  rw [Bool.and_eq_true] at h
  refine ⟨of_decide_eq_true h.1, fun x hx => ?_⟩
  have h2 := List.all_eq_true.1 h.2 x hx
  rw [Bool.and_eq_true] at h2
  exact ⟨of_decide_eq_true h2.1, fun k hk => of_decide_eq_true (List.all_eq_true.1 h2.2 k hk)⟩
theorem setsV_is (c s : Int) : (setsV c s).length ≤ 64 ∧ ∀ x ∈ setsV c s, x.length ≤ 6 := by
  unfold setsV
  by_cases h : 0 ≤ c ∧ c ≤ 6 ∧ 0 ≤ s ∧ s ≤ c
  · rw [if_pos h]
    have := sets_is (c := c.toNat) (s := s.toNat) (by omega) (by omega)
    exact ⟨this.1, fun x hx => by have := (this.2 x hx).1; omega⟩
  · rw [if_neg h]; simp

/-- the sets of c columns of at most p of them, the smaller ones first. -/
def setsT (c p : Nat) : List (List Int) := flatR (setsN c) (p + 1)
theorem setsT_a : (List.range 7).all (fun c => (List.range 8).all (fun p => decide ((flatR (setsN c) p).length ≤ 64))) = true := by decide +kernel
theorem flat_le {c p : Nat} (hc : c ≤ 6) (hp : p ≤ 7) : (flatR (setsN c) p).length ≤ 64 := of_decide_eq_true (List.all_eq_true.1 (List.all_eq_true.1 setsT_a c (List.mem_range.2 (by omega))) p (List.mem_range.2 (by omega)))
theorem setsT_mem {c p : Nat} (hc : c ≤ 6) (hp : p ≤ 6) : ∀ x ∈ setsT c p, x.length ≤ 6 := by
  intro x hx
  unfold setsT flatR at hx
  rw [List.mem_flatten] at hx
  obtain ⟨l, hl, hx⟩ := hx
  obtain ⟨s, hs, rfl⟩ := List.mem_map.1 hl
  have hs := List.mem_range.1 hs
  have := ((sets_is hc (show s ≤ 6 by omega)).2 x hx).1
  omega
theorem isetsN {c s : Nat} (hc : c ≤ 6) (hs : s ≤ c) : impl_SetsOf.f c s = some (setsN c s) := by
  rw [isets]; unfold setsV
  rw [if_pos (by omega)]; rfl
theorem ito_l (c : Nat) (a : Int) (p : Nat) (hc : c ≤ 6) (hp : p ≤ c) (hm : mn (c : Int) a = (p : Int)) : ∀ (d i : Nat), i + d = p + 1 → Ev (fun k => impl_setsTo.l0 k c a (flatR (setsN c) i) i) (setsT c p) := by
  intro d
  induction d with
  | zero =>
    intro i hi
    refine Ev.step (fun k => impl_setsTo.l0.eq_2 _ _ _ _ k) ?_
    rw [hm]
    refine Ev.neg (by omega) (Ev.some_ ?_)
    rw [show i = p + 1 by omega]; rfl
  | succ d ih =>
    intro i hi
    have h1 := flat_le hc (show i ≤ 7 by omega)
    have h2 := (sets_is hc (show i ≤ 6 by omega)).1
    refine Ev.step (fun k => impl_setsTo.l0.eq_2 _ _ _ _ k) ?_
    rw [hm]
    refine Ev.pos (by omega) ?_
    refine Ev.bnow (isetsN hc (show i ≤ c by omega)) ?_
    refine Ev.pos (by omega) ?_
    rw [← flatR_succ]
    simp only [wnx (show i < 8 by omega) (by omega)]
    exact ih (i + 1) (by omega)
theorem ito {c : Nat} {a : Int} {p : Nat} (hc : c ≤ 6) (hp : p ≤ c) (hm : mn (c : Int) a = (p : Int)) : Ev (fun k => impl_setsTo.f k c a) (setsT c p) := by
  unfold impl_setsTo.f
  exact ito_l c a p hc hp hm (p + 1) 0 (by omega)

/-- a number for each way that the rows can fail. -/
def kyN (m : List (List Int)) (s : List Int) : Nat := failBits m s m.length
def keysN (m ss : List (List Int)) : List Nat := ss.map (kyN m)
/-- the different ones, each at its first place. -/
def addN (acc : List Nat) (x : Nat) : List Nat := if acc.contains x then acc else acc ++ [x]
def dN (xs : List Nat) : List Nat := xs.foldl addN []
theorem dN_snoc (xs : List Nat) (x : Nat) : dN (xs ++ [x]) = addN (dN xs) x := by simp [dN, List.foldl_append]
theorem dN_mem (xs : List Nat) (y : Nat) : y ∈ dN xs ↔ y ∈ xs := by
  suffices h : ∀ (zs acc : List Nat), y ∈ zs.foldl addN acc ↔ y ∈ acc ∨ y ∈ zs by simpa [dN] using h xs []
  intro zs
  induction zs with
  | nil => intro acc; simp
  | cons z zs ih =>
    intro acc
    rw [List.foldl_cons, ih]
    unfold addN
    by_cases h : acc.contains z
    · rw [if_pos h]
      have hz : z ∈ acc := by simpa using h
      rw [List.mem_cons]
      constructor
      · rintro (h1 | h1)
        · exact .inl h1
        · exact .inr (.inr h1)
      · rintro (h1 | rfl | h1)
        · exact .inl h1
        · exact .inl hz
        · exact .inr h1
    · rw [if_neg h, List.mem_append, List.mem_singleton, List.mem_cons]
      constructor
      · rintro ((h1 | h1) | h1)
        · exact .inl h1
        · exact .inr (.inl h1)
        · exact .inr (.inr h1)
      · rintro (h1 | h1 | h1)
        · exact .inl (.inl h1)
        · exact .inl (.inr h1)
        · exact .inr h1
theorem dN_len_snoc (xs : List Nat) (x : Nat) : (dN (xs ++ [x])).length = if x ∈ xs then (dN xs).length else (dN xs).length + 1 := by
  rw [dN_snoc]
  unfold addN
  by_cases h : x ∈ xs
  · rw [if_pos h, if_pos (by simpa using (dN_mem xs x).2 h)]
  · rw [if_neg h, if_neg (by simpa using fun e => h ((dN_mem xs x).1 e))]
    simp
theorem classes_eq (m ss : List (List Int)) : classesN m ss = (dN (keysN m ss)).length := by
  unfold classesN
  rw [Maps.size_setOf _ _ (by
    intro x hx
    unfold bitKeys at hx
    obtain ⟨s, _, rfl⟩ := List.mem_map.1 hx
    trivial)]
  have e : bitKeys m ss = (keysN m ss).map (fun n : Nat => Lit.int .i64 (n : Int)) := by
    unfold bitKeys keysN kyN
    rw [List.map_map]; rfl
  rw [e]
  unfold dN
  suffices h : ∀ (zs acc : List Nat), ((zs.map (fun n : Nat => Lit.int .i64 (n : Int))).foldl Maps.addKey (acc.map (fun n : Nat => Lit.int .i64 (n : Int)))) = (zs.foldl addN acc).map (fun n : Nat => Lit.int .i64 (n : Int)) by
    have := h (keysN m ss) []
    rw [List.map_nil] at this
    rw [this, List.length_map]
  intro zs
  induction zs with
  | nil => intro acc; rfl
  | cons z zs ih =>
    intro acc
    rw [List.map_cons, List.foldl_cons, List.foldl_cons]
    have hk : Maps.addKey (acc.map (fun n : Nat => Lit.int .i64 (n : Int))) (Lit.int .i64 (z : Int)) = (addN acc z).map (fun n : Nat => Lit.int .i64 (n : Int)) := by
      unfold Maps.addKey addN
      have hc : (acc.map (fun n : Nat => Lit.int .i64 (n : Int))).any (fun y => y.sameKey (Lit.int .i64 (z : Int))) = acc.contains z := by
        rw [List.any_map, Bool.eq_iff_iff, List.any_eq_true, List.contains_iff_mem]
        constructor
        · rintro ⟨y, hy, h⟩
          have : y = z := by
            simp [Lit.sameKey] at h
            omega
          rw [← this]; exact hy
        · intro hz
          exact ⟨z, hz, by simp [Lit.sameKey]⟩
      rw [hc]
      by_cases h : acc.contains z = true
      · rw [if_pos h, if_pos h]
      · rw [if_neg h, if_neg h, List.map_append]; rfl
    rw [hk]
    exact ih (addN acc z)
theorem bits_inj (m : List (List Int)) (a b : List Int) : ∀ i, i ≤ m.length → (failBits m a i = failBits m b i ↔ sv (m.take i) a b = true)
  | 0, _ => by simp [failBits, sv]
  | i + 1, hi => by
    have ih := bits_inj m a b i (by omega)
    have ha := failBits_lt m a i
    have hb := failBits_lt m b i
    have e : sv (m.take (i + 1)) a b = (sv (m.take i) a b && !(fw m[i] a != fw m[i] b)) := by
      unfold sv
      rw [List.take_succ_eq_append_getElem hi, List.any_append, Bool.not_or]; simp
    have hr : rd_L1 m (i : Int) = m[i] := rd1 m i hi
    have fa : a.any (failsB m[i]) = fw m[i] a := rfl
    have fb : b.any (failsB m[i]) = fw m[i] b := rfl
    have ea : failBits m a (i + 1) = failBits m a i + (if a.any (failsB (rd_L1 m (i : Int))) = true then 2 ^ i else 0) := rfl
    have eb : failBits m b (i + 1) = failBits m b i + (if b.any (failsB (rd_L1 m (i : Int))) = true then 2 ^ i else 0) := rfl
    rw [e, Bool.and_eq_true, ← ih, ea, eb, hr, fa, fb]
    clear ih e ea eb
    generalize failBits m a i = x at ha
    generalize failBits m b i = y at hb
    cases fw m[i] a <;> cases fw m[i] b <;> simp <;> omega
theorem ky_sv (m : List (List Int)) (a b : List Int) : (kyN m a = kyN m b) ↔ sv m a b = true := by
  have := bits_inj m a b m.length (Nat.le_refl _)
  rw [List.take_length] at this
  exact this
theorem ict (m : List (List Int)) (cols a : Int) (hl : m.length ≤ 1048576) (hm : ∀ x ∈ m, x.length ≤ 1048576) {p : Nat} (hb : (im m cols && bt m) = true) (hp : (p : Int) ≤ cols) (hc6 : cols ≤ 6) (ha : 0 ≤ a) (hmn : mn cols a = (p : Int)) (h12 : m.length ≤ 12) : Ev (fun k => impl_CountClasses.f k m cols a) ((dN (keysN m (setsT cols.toNat p))).length : Int) := by
  obtain ⟨c, rfl⟩ := Int.eq_ofNat_of_zero_le (show 0 ≤ cols by omega)
  have hl2 := flat_le (show c ≤ 6 by omega) (show p + 1 ≤ 7 by omega)
  unfold impl_CountClasses.f
  refine Ev.bind (ibits m c hl hm) ?_
  refine Ev.pos hb ?_
  refine Ev.neg (by omega) ?_
  refine Ev.bind (ito (show c ≤ 6 by omega) (show p ≤ c by omega) hmn) ?_
  refine Ev.pos ⟨h12, by unfold setsT; omega⟩ (Ev.some_ ?_)
  rw [classes_eq]; rfl
theorem ict_no (m : List (List Int)) (cols a : Int) (hl : m.length ≤ 1048576) (hm : ∀ x ∈ m, x.length ≤ 1048576) (hb : (im m cols && bt m) = false) : Ev (fun k => impl_CountClasses.f k m cols a) 0 := by
  unfold impl_CountClasses.f
  refine Ev.bind (ibits m cols hl hm) ?_
  rw [hb]
  exact Ev.neg (by simp) (Ev.now _)
theorem ict_neg (m : List (List Int)) (cols a : Int) (hl : m.length ≤ 1048576) (hm : ∀ x ∈ m, x.length ≤ 1048576) (hb : (im m cols && bt m) = true) (ha : a < 0) : Ev (fun k => impl_CountClasses.f k m cols a) 0 := by
  unfold impl_CountClasses.f
  refine Ev.bind (ibits m cols hl hm) ?_
  refine Ev.pos hb ?_
  exact Ev.pos ha (Ev.now _)
theorem any_keys (m L : List (List Int)) (s : List Int) : L.any (fun y => sv m s y) = decide (kyN m s ∈ keysN m L) := by
  rw [Bool.eq_iff_iff, List.any_eq_true, decide_eq_true_eq]
  unfold keysN
  rw [List.mem_map]
  constructor
  · rintro ⟨y, hy, h⟩; exact ⟨y, hy, ((ky_sv m s y).2 h).symm⟩
  · rintro ⟨y, hy, h⟩; exact ⟨y, hy, (ky_sv m s y).1 h.symm⟩
theorem dN_le (xs : List Nat) : (dN xs).length ≤ xs.length := by
  suffices h : ∀ (zs acc : List Nat), (zs.foldl addN acc).length ≤ acc.length + zs.length by simpa [dN] using h xs []
  intro zs
  induction zs with
  | nil => intro acc; simp
  | cons z zs ih =>
    intro acc
    rw [List.foldl_cons]
    have := ih (addN acc z)
    have h2 : (addN acc z).length ≤ acc.length + 1 := by unfold addN; split <;> simp
    simp only [List.length_cons]; omega
theorem b_not1 {b : Bool} (h : (!b) = true) : b = false := by cases b; rfl; cases h
theorem b_not2 {b : Bool} (h : (!b) = false) : b = true := by cases b; cases h; rfl
theorem mn_nat (c : Nat) (a : Int) (ha : 0 ≤ a) : ∃ p : Nat, p ≤ c ∧ mn (c : Int) a = (p : Int) := by
  unfold mn
  by_cases h : a < (c : Int)
  · exact ⟨a.toNat, by omega, by rw [if_pos h]; omega⟩
  · exact ⟨c, Nat.le_refl _, by rw [if_neg h]⟩

/-- whether a set fails alike with one ahead of it. -/
def bad (m L : List (List Int)) (i : Nat) : Bool := (L.take i).any (fun y => sv m (rd_L1 L (i : Int)) y)
def allgood (m L : List (List Int)) : Prop := ∀ i, i < L.length → bad m L i = false
theorem bad_app (m L S : List (List Int)) (i : Nat) (hi : i < L.length) : bad m (L ++ S) i = bad m L i := by
  have h1 : rd_L1 (L ++ S) (i : Int) = rd_L1 L (i : Int) := by
    rw [rd1 L i hi, rd1 (L ++ S) i (by rw [List.length_append]; omega), List.getElem_append_left hi]
  unfold bad
  rw [h1, List.take_append_of_le_length (by omega)]
theorem good_app {m L S : List (List Int)} (h : allgood m (L ++ S)) : allgood m L := fun i hi => by
  rw [← bad_app m L S i hi]; exact h i (by rw [List.length_append]; omega)
theorem good_down {m : List (List Int)} {c : Nat} : ∀ (d p : Nat), allgood m (setsT c (p + d)) → allgood m (setsT c p)
  | 0, p, h => h
  | d + 1, p, h => by
    refine good_down d p ?_
    have e : setsT c (p + (d + 1)) = setsT c (p + d) ++ setsN c (p + d + 1) := by
      unfold setsT
      rw [show p + (d + 1) + 1 = (p + d + 1) + 1 by omega, flatR_succ]
    rw [e] at h
    exact good_app h
theorem bad_key (m L : List (List Int)) (i : Nat) (hi : i < L.length) : bad m L i = decide (kyN m L[i] ∈ keysN m (L.take i)) := by
  unfold bad
  rw [rd1 L i hi, any_keys]
theorem dN_good_n (m L : List (List Int)) : ∀ n, n ≤ L.length → ((dN (keysN m (L.take n))).length = n ↔ ∀ i, i < n → bad m L i = false)
  | 0, _ => ⟨fun _ i hi => absurd hi (Nat.not_lt_zero _), fun _ => rfl⟩
  | n + 1, hn => by
    have ih := dN_good_n m L n (by omega)
    have hk : keysN m (L.take (n + 1)) = keysN m (L.take n) ++ [kyN m L[n]] := by
      unfold keysN
      rw [List.take_succ_eq_append_getElem hn, List.map_append]; rfl
    have hle : (dN (keysN m (L.take n))).length ≤ n := by
      refine Nat.le_trans (dN_le _) ?_
      unfold keysN
      rw [List.length_map, List.length_take]; omega
    have hb := bad_key m L n hn
    rw [hk, dN_len_snoc]
    by_cases h : kyN m L[n] ∈ keysN m (L.take n)
    · rw [if_pos h]
      rw [decide_eq_true h] at hb
      constructor
      · intro e; omega
      · intro e
        have := e n (Nat.lt_succ_self _)
        rw [hb] at this; cases this
    · rw [if_neg h]
      rw [decide_eq_false h] at hb
      constructor
      · intro e i hi
        by_cases q : i = n
        · subst q; exact hb
        · exact ih.1 (Nat.succ.inj e) i (by omega)
      · intro e
        rw [ih.2 (fun i hi => e i (by omega))]
theorem dN_good (m L : List (List Int)) : (dN (keysN m L)).length = L.length ↔ allgood m L := by
  have := dN_good_n m L L.length (Nat.le_refl _)
  rw [List.take_length] at this
  exact this
theorem sets_nil : (List.range 7).all (fun c => setsT c 0 == [[]]) = true := by decide +kernel
theorem good_0 (m : List (List Int)) {c : Nat} (hc : c ≤ 6) : allgood m (setsT c 0) := by
  have h := eq_of_beq (List.all_eq_true.1 sets_nil c (List.mem_range.2 (by omega)))
  rw [h]
  intro i hi
  have : i = 0 := by simpa using hi
  subst this; rfl
theorem mn_le {c p : Nat} (h : p ≤ c) : mn (c : Int) (p : Int) = (p : Int) := by
  unfold mn
  by_cases q : (p : Int) < (c : Int)
  · rw [if_pos q]
  · rw [if_neg q]; omega
/-- the size up to which all sets are told apart. -/
theorem told_ex (m : List (List Int)) (c : Nat) : ∀ (d p : Nat), p + d = c → (∀ k, k < p → allgood m (setsT c (k + 1))) → ∃ r, r ≤ c ∧ (∀ k, k < r → allgood m (setsT c (k + 1))) ∧ (r = c ∨ ¬ allgood m (setsT c (r + 1)))
  | 0, p, hp, h => ⟨p, by omega, h, .inl (by omega)⟩
  | d + 1, p, hp, h => by
    by_cases g : allgood m (setsT c (p + 1))
    · exact told_ex m c d (p + 1) (by omega) (fun k hk => by
        by_cases q : k = p
        · subst q; exact g
        · exact h k (by omega))
    · exact ⟨p, by omega, h, .inr g⟩

theorem good_at {m : List (List Int)} {c r : Nat} (hc : c ≤ 6) (h1 : ∀ k, k < r → allgood m (setsT c (k + 1))) : allgood m (setsT c r) := by
  by_cases h : r = 0
  · subst h; exact good_0 m hc
  · have := h1 (r - 1) (by omega)
    rw [show r - 1 + 1 = r by omega] at this
    exact this
theorem it_0 (m : List (List Int)) (c : Nat) (hm : m.length ≤ 1048576) (hx : ∀ x ∈ m, x.length ≤ 1048576) (hb : (im m c && bt m) = true) (hc : c ≤ 6) (h12 : m.length ≤ 12) (r : Nat) (hr : r ≤ c) (h1 : ∀ k, k < r → allgood m (setsT c (k + 1))) (h2 : r = c ∨ ¬ allgood m (setsT c (r + 1))) : ∀ (d j : Nat), j = r + d → j ≤ c → Ev (fun k => impl_ToldSize.l0 k m c j) r := by
  intro d
  induction d with
  | zero =>
    intro j hj hjc
    have hjr : j = r := by omega
    subst hjr
    refine Ev.step (fun k => impl_ToldSize.l0.eq_2 _ _ _ k) ?_
    by_cases h : (j : Int) > 0
    · refine Ev.pos h ?_
      refine Ev.bind (ict m c j hm hx hb (by omega) (by omega) (by omega) (mn_le hjc) h12) ?_
      refine Ev.bind (ito hc hjc (mn_le hjc)) ?_
      rw [Int.toNat_natCast]
      refine Ev.pos ?_ (Ev.now _)
      exact congrArg _ ((dN_good m (setsT c j)).2 (good_at hc h1))
    · refine Ev.neg h (Ev.some_ ?_)
      omega
  | succ d ih =>
    intro j hj hjc
    refine Ev.step (fun k => impl_ToldSize.l0.eq_2 _ _ _ k) ?_
    refine Ev.pos (by omega) ?_
    refine Ev.bind (ict m c j hm hx hb (by omega) (by omega) (by omega) (mn_le hjc) h12) ?_
    refine Ev.bind (ito hc hjc (mn_le hjc)) ?_
    rw [Int.toNat_natCast]
    refine Ev.neg ?_ ?_
    · intro e
      have g := (dN_good m (setsT c j)).1 (by omega)
      rcases h2 with h2 | h2
      · omega
      · have hj2 : j = (r + 1) + d := by omega
        rw [hj2] at g
        exact h2 (good_down d (r + 1) g)
    · have hw : wrap64 ((j : Int) - 1) = ((j - 1 : Nat) : Int) := by rw [wr (by omega) (by omega)]; omega
      simp only [hw]
      exact ih (j - 1) (by omega) (by omega)

theorem eq_l (a b : List Int) (ha : a.length ≤ 1048576) (hb : b.length = a.length) : ∀ (d i : Nat), i + d = a.length → Ev (fun k => slices_Equal_int_int.l0 k a b a.length i) (a.drop i == b.drop i) := by
  intro d
  induction d with
  | zero =>
    intro i hi
    refine Ev.step (fun k => slices_Equal_int_int.l0.eq_2 _ _ _ _ k) ?_
    refine Ev.neg (by omega) (Ev.some_ ?_)
    rw [List.drop_eq_nil_of_le (by omega), List.drop_eq_nil_of_le (by omega)]; rfl
  | succ d ih =>
    intro i hi
    have hlt : i < a.length := by omega
    have hltb : i < b.length := by omega
    refine Ev.step (fun k => slices_Equal_int_int.l0.eq_2 _ _ _ _ k) ?_
    refine Ev.pos (by omega) ?_
    refine Ev.pos (by omega) ?_
    refine Ev.pos (by omega) ?_
    refine Ev.pos (by omega) ?_
    rw [rd_get a i hlt, rd_get b i hltb, List.drop_eq_getElem_cons hlt, List.drop_eq_getElem_cons hltb]
    by_cases h : a[i] = b[i]
    · refine Ev.pos h ?_
      simp only [wnx hlt (by omega)]
      have e : (a[i] :: a.drop (i + 1) == b[i] :: b.drop (i + 1)) = (a.drop (i + 1) == b.drop (i + 1)) := by
        rw [List.cons_beq_cons, h, beq_self_eq_true, Bool.true_and]
      rw [e]
      exact ih (i + 1) (by omega)
    · refine Ev.neg h (Ev.some_ ?_)
      have e : (a[i] == b[i]) = false := by simpa using h
      rw [List.cons_beq_cons, e, Bool.false_and]
theorem ieq (a b : List Int) (ha : a.length ≤ 1048576) : Ev (fun k => impl_EqualInts.f k a b) (a == b) := by
  unfold impl_EqualInts.f slices_Equal_int_int.f
  have h : Ev (fun k => if (a.length : Int) = (b.length : Int) then slices_Equal_int_int.l0 k a b (a.length : Int) 0 else some false) (a == b) := by
    by_cases h : (a.length : Int) = (b.length : Int)
    · refine Ev.pos h ?_
      exact eq_l a b ha (by omega) a.length 0 (by omega)
    · refine Ev.neg h (Ev.some_ ?_)
      have : a ≠ b := fun e => h (by rw [e])
      simp [this]
  exact Ev.bind h (Ev.now _)

theorem isv (m : List (List Int)) (a b : List Int) : impl_SameVerdicts.f m a b = some (sv m a b) := rfl

theorem itw_l (m : List (List Int)) (s : List Int) (L : List (List Int)) (hL : L.length ≤ 64) (hL6 : ∀ x ∈ L, x.length ≤ 6) : ∀ (d i : Nat), i + d = L.length → ∃ x ok, Ev (fun k => impl_TwinOf.l0 k m s L L.length i) (x, ok) ∧ (ok = true → x ∈ L ∧ sv m x s = true ∧ (x == s) = false) := by
  intro d
  induction d with
  | zero =>
    intro i hi
    refine ⟨[], false, ?_, fun h => by cases h⟩
    refine Ev.step (fun k => impl_TwinOf.l0.eq_2 _ _ _ _ _ k) ?_
    exact Ev.neg (by omega) (Ev.now _)
  | succ d ih =>
    intro i hi
    have hlt : i < L.length := by omega
    have h6 := hL6 L[i] (List.getElem_mem hlt)
    obtain ⟨x, ok, e, hx⟩ := ih (i + 1) (by omega)
    have st : ∀ R, Ev (fun k => (impl_EqualInts.f k (rd_L1 L i) s).bind fun t246 => (if t246 = true then (impl_TwinOf.l0 k m s L L.length (wrap64 ((i : Int) + 1))) else ((impl_SameVerdicts.f m (rd_L1 L i) s).bind fun t247 => (if t247 = true then (some (rd_L1 L i, true)) else (impl_TwinOf.l0 k m s L L.length (wrap64 ((i : Int) + 1))))))) R → Ev (fun k => impl_TwinOf.l0 k m s L L.length i) R := by
      intro R e
      refine Ev.step (fun k => impl_TwinOf.l0.eq_2 _ _ _ _ _ k) ?_
      refine Ev.pos (by omega) ?_
      refine Ev.pos (by omega) ?_
      exact Ev.pos (by omega) e
    rw [rd1 L i hlt, wnx hlt (by omega)] at st
    cases h1 : (L[i] == s) with
    | true =>
      refine ⟨x, ok, st _ ?_, hx⟩
      refine Ev.bind (ieq L[i] s (by omega)) ?_
      exact Ev.pos h1 e
    | false =>
      cases h2 : sv m L[i] s with
      | true =>
        refine ⟨L[i], true, st _ ?_, fun _ => ⟨List.getElem_mem hlt, h2, h1⟩⟩
        refine Ev.bind (ieq L[i] s (by omega)) ?_
        refine Ev.neg (by rw [h1]; simp) ?_
        refine Ev.bnow (isv m L[i] s) ?_
        exact Ev.pos h2 (Ev.now _)
      | false =>
        refine ⟨x, ok, st _ ?_, hx⟩
        refine Ev.bind (ieq L[i] s (by omega)) ?_
        refine Ev.neg (by rw [h1]; simp) ?_
        refine Ev.bnow (isv m L[i] s) ?_
        exact Ev.neg (by rw [h2]; simp) e
theorem setsT_le {c p : Nat} (hc : c ≤ 6) (hp : p ≤ 6) : ∀ x ∈ setsT c p, x.length ≤ p := by
  intro x hx
  unfold setsT flatR at hx
  rw [List.mem_flatten] at hx
  obtain ⟨l, hl, hx⟩ := hx
  obtain ⟨s, hs, rfl⟩ := List.mem_map.1 hl
  have hs := List.mem_range.1 hs
  have := ((sets_is hc (show s ≤ 6 by omega)).2 x hx).1
  omega
theorem mn_at (c : Nat) (n : Nat) : mn (c : Int) (n : Int) = ((min c n : Nat) : Int) := by
  unfold mn
  by_cases h : (n : Int) < (c : Int)
  · rw [if_pos h]; omega
  · rw [if_neg h]; omega
theorem itw (m : List (List Int)) (s : List Int) (cols : Int) (hl : m.length ≤ 1048576) (hm : ∀ x ∈ m, x.length ≤ 1048576) : ∃ x ok, Ev (fun k => impl_TwinOf.f k m s cols) (x, ok) ∧ (ok = true → x.length ≤ 6 ∧ x.length ≤ s.length ∧ sv m x s = true ∧ (x == s) = false) := by
  by_cases hb : (im m cols && bt m) = true
  · have hb' := hb
    rw [Bool.and_eq_true] at hb'
    have hi := im_is hb'.1
    obtain ⟨c, rfl⟩ := Int.eq_ofNat_of_zero_le (show 0 ≤ cols by omega)
    have hp : min c s.length ≤ c := Nat.min_le_left _ _
    have hp2 : min c s.length ≤ s.length := Nat.min_le_right _ _
    have hmn := mn_at c s.length
    generalize min c s.length = p at hp hp2 hmn
    obtain ⟨x, ok, e, hx⟩ := itw_l m s (setsT c p) (flat_le (show c ≤ 6 by omega) (show p + 1 ≤ 7 by omega)) (setsT_mem (show c ≤ 6 by omega) (show p ≤ 6 by omega)) (setsT c p).length 0 (Nat.zero_add _)
    refine ⟨x, ok, ?_, fun h => ?_⟩
    · unfold impl_TwinOf.f
      refine Ev.bind (ibits m c hl hm) ?_
      refine Ev.pos hb ?_
      refine Ev.bind (ito (show c ≤ 6 by omega) hp hmn) ?_
      exact e
    · obtain ⟨a, b', c'⟩ := hx h
      have := setsT_le (show c ≤ 6 by omega) (show p ≤ 6 by omega) x a
      exact ⟨by omega, by omega, b', c'⟩
  · have hb0 : (im m cols && bt m) = false := by simpa using hb
    refine ⟨[], false, ?_, fun h => by cases h⟩
    unfold impl_TwinOf.f
    refine Ev.bind (ibits m cols hl hm) ?_
    rw [hb0]
    exact Ev.neg (by simp) (Ev.now _)

def unsV (l : List (List Int)) (cols : Int) : List Int := if im l cols = true then colsL (fun c => !(l.any (nzB c))) cols.toNat else []
theorem unsV_len (l : List (List Int)) (cols : Int) : (unsV l cols).length ≤ 6 := by
  unfold unsV
  by_cases h : im l cols = true
  · rw [if_pos h]
    have := im_is h
    exact Nat.le_trans (colsL_len _ _) (by omega)
  · rw [if_neg h]; simp
theorem iun (l : List (List Int)) (cols : Int) (hl : l.length ≤ 1048576) (hm : ∀ x ∈ l, x.length ≤ 1048576) : Ev (fun k => impl_Unseen.f k l cols) (unsV l cols) := by
  unfold impl_Unseen.f unsV
  refine Ev.bind (iim l cols hl hm) ?_
  by_cases h : im l cols = true
  · have hi := im_is h
    refine Ev.pos h ?_
    rw [if_pos h]
    exact Ev.pos ⟨by omega, by omega, hi.2.2.2⟩ (Ev.now _)
  · refine Ev.neg h ?_
    rw [if_neg h]
    exact Ev.now _

theorem big_eq (l : List Int) : laws_big.f l = some (decide ((l.length : Int) > 1048576)) := rfl

theorem one_col : (List.range 7).all (fun c => (List.range c).all (fun i => (setsN c 1).contains [(i : Int)])) = true := by decide +kernel
theorem uns_bad {m : List (List Int)} {c : Nat} (hv : (im m c && bt m) = true) (hu : (unsV m c).length ≠ 0) : ¬ allgood m (setsT c 1) := by
  have hv' := hv
  rw [Bool.and_eq_true] at hv'
  have hi := im_is hv'.1
  have hc : c ≤ 6 := by omega
  obtain ⟨z, hz⟩ : ∃ z, z ∈ unsV m c := by
    cases h : unsV m c with
    | nil => rw [h] at hu; exact absurd rfl hu
    | cons z t => exact ⟨z, List.mem_cons_self⟩
  unfold unsV at hz
  rw [if_pos hv'.1, Int.toNat_natCast] at hz
  unfold colsL at hz
  obtain ⟨i, hi2, rfl⟩ := List.mem_map.1 hz
  obtain ⟨hi3, hi4⟩ := List.mem_filter.1 hi2
  have hic := List.mem_range.1 hi3
  have hno : ∀ row ∈ m, rd row (i : Int) = 0 := by
    intro row hr
    have h := List.any_eq_false.1 (by simpa using hi4 : m.any (nzB i) = false) row hr
    unfold nzB at h
    simpa using h
  have h1 := List.all_eq_true.1 (List.all_eq_true.1 one_col c (List.mem_range.2 (by omega))) i (List.mem_range.2 hic)
  have h1 : [(i : Int)] ∈ setsN c 1 := by simpa using h1
  have e0 : setsT c 0 = [[]] := eq_of_beq (List.all_eq_true.1 sets_nil c (List.mem_range.2 (by omega)))
  have e1 : setsT c 1 = [[]] ++ setsN c 1 := by
    rw [← e0]
    unfold setsT
    rw [flatR_succ]
  intro hg
  obtain ⟨q, hq, hqe⟩ := List.mem_iff_getElem.1 h1
  have hlen : (setsT c 1).length = (setsN c 1).length + 1 := by rw [e1, List.length_append]; simp; omega
  have hb := hg (q + 1) (by omega)
  have hr : rd_L1 (setsT c 1) ((q + 1 : Nat) : Int) = [(i : Int)] := by
    rw [rd1 (setsT c 1) (q + 1) (by omega)]
    simp only [e1, List.singleton_append, List.getElem_cons_succ]
    exact hqe
  unfold bad at hb
  rw [hr] at hb
  have hf := List.any_eq_false.1 hb [] (by rw [e1]; simp)
  apply hf
  unfold sv
  rw [Bool.not_eq_true', List.any_eq_false]
  intro row hrow
  have h0 := hno row hrow
  have f1 : fw row [(i : Int)] = false := by
    unfold fw
    rw [List.any_cons]
    unfold fwB
    rw [decide_eq_false (by rw [h0]; omega)]; rfl
  rw [f1]
  simp [fw]
theorem id_end (l : List Int) (hl : l.length ≤ 1048576) (m : List (List Int)) (c : Nat) (hm : m.length ≤ 64) (hx : ∀ x ∈ m, x.length ≤ 64) (hv : (im m c && bt m) = true) (r : Nat) (h1 : ∀ k, k < r → allgood m (setsT c (k + 1))) : Ev (fun k => laws_FnIdentified.j1 k l m c r false) true := by
  have hx' : ∀ x ∈ m, x.length ≤ 1048576 := fun x h => by have := hx x h; omega
  have hend : ∀ {R : Bool}, R = true → Ev (fun k => (impl_Unseen.f k m c).bind fun t276 => (if (t276.length : Int) = 0 then (some true) else (some ((r : Int) == 0)))) R := by
    intro R hR
    subst hR
    refine Ev.bind (iun m c (by omega) hx') ?_
    by_cases h : ((unsV m c).length : Int) = 0
    · exact Ev.pos h (Ev.now _)
    · refine Ev.neg h (Ev.some_ ?_)
      have hb := uns_bad hv (by omega)
      by_cases q : r = 0
      · subst q; rfl
      · exact absurd (h1 0 (by omega)) hb
  obtain ⟨w, s, c', hw, hwx, hs, ed⟩ := dtw_ok l hl
  obtain ⟨x, ok, et, hok⟩ := itw w s c' (by omega) (fun x h => by have := hwx x h; omega)
  refine Ev.step (fun k => laws_FnIdentified.j1.eq_2 _ _ _ _ _ k) ?_
  refine Ev.neg (by simp) ?_
  refine Ev.bind ed ?_
  refine Ev.bind et ?_
  cases ok with
  | false => exact Ev.neg (by simp) (hend rfl)
  | true =>
    obtain ⟨a1, a2, a3, a4⟩ := hok rfl
    refine Ev.pos rfl ?_
    refine Ev.bnow (isv w x s) ?_
    refine Ev.pos a3 ?_
    refine Ev.neg (by simp only []; omega) ?_
    refine Ev.bind (ieq x s (by omega)) ?_
    refine Ev.neg (by rw [a4]; simp) ?_
    exact hend rfl
theorem id_0 (l : List Int) (hl : l.length ≤ 1048576) (m : List (List Int)) (c : Nat) (hm : m.length ≤ 64) (hx : ∀ x ∈ m, x.length ≤ 64) (hv : (im m c && bt m) = true) (r : Nat) (hr : r ≤ c) (h1 : ∀ k, k < r → allgood m (setsT c (k + 1))) (h2 : r = c ∨ ¬ allgood m (setsT c (r + 1))) : ∀ (d i : Nat), i + d = r + 1 → Ev (fun k => laws_FnIdentified.l0 k l m c r (((flatR (setsN c) i).length : Nat) : Int) i) true := by
  have hx' : ∀ x ∈ m, x.length ≤ 1048576 := fun x h => by have := hx x h; omega
  have hv' := hv
  rw [Bool.and_eq_true] at hv'
  have hi := im_is hv'.1
  have hc : c ≤ 6 := by omega
  intro d
  induction d with
  | zero =>
    intro i hi
    have hir : i = r + 1 := by omega
    subst hir
    have hT : flatR (setsN c) (r + 1) = setsT c r := rfl
    refine Ev.step (fun k => laws_FnIdentified.l0.eq_2 _ _ _ _ _ _ k) ?_
    refine Ev.neg (by omega) ?_
    rw [hT]
    refine Ev.bind (ict m c r (by omega) hx' hv (by omega) (by omega) (by omega) (mn_le hr) (by omega)) ?_
    rw [Int.toNat_natCast]
    refine Ev.pos (congrArg _ ((dN_good m (setsT c r)).2 (good_at hc h1))) ?_
    have hend := id_end l hl m c hm hx hv r h1
    by_cases h : (r : Int) < (c : Int)
    · refine Ev.pos h ?_
      have hw : wrap64 ((r : Int) + 1) = ((r + 1 : Nat) : Int) := wnx (show r < 7 by omega) (by omega)
      simp only [hw]
      refine Ev.bind (ict m c ((r + 1 : Nat) : Int) (by omega) hx' hv (by omega) (by omega) (by omega) (mn_le (by omega)) (by omega)) ?_
      refine Ev.bnow (isetsN hc (show r + 1 ≤ c by omega)) ?_
      rw [Int.toNat_natCast]
      have e1 : (setsT c (r + 1)).length = (setsT c r).length + (setsN c (r + 1)).length := by
        unfold setsT
        rw [flatR_succ (setsN c) (r + 1), List.length_append]
      have hlen := flat_le hc (show r + 1 + 1 ≤ 7 by omega)
      have hlen : (setsT c (r + 1)).length ≤ 64 := hlen
      have hle : (dN (keysN m (setsT c (r + 1)))).length ≤ (setsT c (r + 1)).length := by
        refine Nat.le_trans (dN_le _) ?_
        unfold keysN
        rw [List.length_map]; exact Nat.le_refl _
      have hne : (dN (keysN m (setsT c (r + 1)))).length ≠ (setsT c (r + 1)).length := fun e => by
        have g := (dN_good m (setsT c (r + 1))).1 e
        rcases h2 with h2 | h2
        · omega
        · exact h2 g
      rw [wr (x := ((setsT c r).length : Int) + ((setsN c (r + 1)).length : Int)) (by omega) (by omega), decide_eq_false (by omega)]
      exact hend
    · exact Ev.neg h hend
  | succ d ih =>
    intro i hi
    have f1 := flat_le hc (show i ≤ 7 by omega)
    have f2 := (sets_is hc (show i ≤ 6 by omega)).1
    have e := ih (i + 1) (by omega)
    rw [flatR_succ, List.length_append] at e
    refine Ev.step (fun k => laws_FnIdentified.l0.eq_2 _ _ _ _ _ _ k) ?_
    refine Ev.pos (by omega) ?_
    refine Ev.bnow (isetsN hc (show i ≤ c by omega)) ?_
    rw [wr (x := ((flatR (setsN c) i).length : Int) + ((setsN c i).length : Int)) (by omega) (by omega)]
    simp only [wnx (show i < 8 by omega) (by omega)]
    exact e
theorem FnIdentified : laws_FnIdentified.Pure := by
  intro l h1 h2 h3
  refine Ev.rounds (g := fun j => laws_FnIdentified.f j l) ?_
  unfold laws_FnIdentified.f
  refine Ev.bnow (big_eq l) ?_
  by_cases hb : (l.length : Int) > 1048576
  · exact Ev.pos (decide_eq_true hb) (Ev.now _)
  refine Ev.neg (by simpa using hb) ?_
  have hl : l.length ≤ 1048576 := by omega
  obtain ⟨m, cols, hm, hx, e⟩ := dt_ok l hl
  have hx' : ∀ x ∈ m, x.length ≤ 1048576 := fun x h => by have := hx x h; omega
  refine Ev.bind e ?_
  by_cases hv : (im m cols && bt m) = true
  · have hv' := hv
    rw [Bool.and_eq_true] at hv'
    have hi := im_is hv'.1
    obtain ⟨c, rfl⟩ := Int.eq_ofNat_of_zero_le (show 0 ≤ cols by omega)
    have hc : c ≤ 6 := by omega
    obtain ⟨r, hr, g1, g2⟩ := told_ex m c c 0 (Nat.zero_add _) (fun k hk => absurd hk (Nat.not_lt_zero _))
    have et : Ev (fun k => impl_ToldSize.f k m c) (r : Int) := by
      unfold impl_ToldSize.f
      refine Ev.bind (ibits m c (by omega) hx') ?_
      refine Ev.pos hv ?_
      exact it_0 m c (by omega) hx' hv hc hi.2.2.1 r hr g1 g2 (c - r) c (by omega) (Nat.le_refl _)
    refine Ev.bind et ?_
    refine Ev.neg (by omega) ?_
    exact id_0 l hl m c hm hx hv r hr g1 g2 (r + 1) 0 (Nat.zero_add _)
  · have hb0 : (im m cols && bt m) = false := by simpa using hv
    have et : Ev (fun k => impl_ToldSize.f k m cols) (-1) := by
      unfold impl_ToldSize.f
      refine Ev.bind (ibits m cols (by omega) hx') ?_
      rw [hb0]
      exact Ev.neg (by simp) (Ev.now _)
    refine Ev.bind et ?_
    refine Ev.pos (by omega) ?_
    refine Ev.bind (ict_no m cols 2 (by omega) hx' hb0) (Ev.now _)

end Go.Proofs.Ytoniljblfenpeaa.Pure
