/- The law FnExplained returns true at every list of bytes: the smallest sets of links explain what failed, are of suspects, and no smaller one does. No condition. -/
import Derived.Test.YtoniljblfenpeaaHFnExplainedx7
namespace Go.Proofs.Ytoniljblfenpeaa.Pure
open Go.RowKit Go.Proofs.Ytoniljblfenpeaa.PFnExplained Go.Proofs.YtoniljblfenpeaaW.PrintWords Go.Proofs.YtoniljblfenpeaaW.PrintLast
set_option linter.unusedSimpArgs false
set_option linter.unusedVariables false

theorem wr {x : Int} (h1 : -9223372036854775808 ≤ x) (h2 : x ≤ 9223372036854775807) : wrap64 x = x := by unfold wrap64; omega
theorem Ev.pos {α : Type} {c : Prop} [Decidable c] {g f : Nat → Option α} {r : α} (h : c) (e : Ev g r) : Ev (fun k => if c then g k else f k) r := by
  simp only [if_pos h]; exact e
theorem Ev.neg {α : Type} {c : Prop} [Decidable c] {g f : Nat → Option α} {r : α} (h : ¬ c) (e : Ev f r) : Ev (fun k => if c then g k else f k) r := by
  simp only [if_neg h]; exact e
theorem Ev.some_ {α : Type} {r r' : α} (h : r = r') : Ev (fun _ => some r) r' := h ▸ Ev.now r
theorem Ev.bnow {α β : Type} {g : Option α} {f : Nat → α → Option β} {a : α} {r : β} (h : g = some a) (k : Ev (fun n => f n a) r) : Ev (fun n => g.bind (f n)) r := by
  subst h; exact k

theorem and_le (x : Int) (m : Nat) (hm : m < 4611686018427387904) : 0 ≤ Go.bits .and .i64 x m ∧ Go.bits .and .i64 x m ≤ m := by
  simp only [Go.bits, BitVec.toNat_and, BitVec.ofInt_natCast, BitVec.toNat_ofNat]
  have h1 : (BitVec.ofInt IntKind.i64.bits x).toNat &&& m % 2 ^ IntKind.i64.bits ≤ m % 2 ^ IntKind.i64.bits := Nat.and_le_right
  have h2 : m % 2 ^ IntKind.i64.bits = m := Nat.mod_eq_of_lt (by show m < 2 ^ 64; omega)
  rw [h2] at h1 ⊢
  rw [i64_w, wr (by omega) (by omega)]
  omega
theorem new_l (l : List Int) (hl : l.length ≤ 1048576) : ∀ (d i : Nat) (h : Int), l.length - i ≤ d → i ≤ l.length → ∃ h', Ev (fun k => spec_l1New.l0 k l h i) (l, 0, h') := by
  intro d
  induction d with
  | zero =>
    intro i h hi hi2
    refine ⟨h, Ev.step (fun k => spec_l1New.l0.eq_2 _ _ _ k) ?_⟩
    exact Ev.neg (by omega) (Ev.now _)
  | succ d ih =>
    intro i h hi hi2
    by_cases h1 : (i : Int) < (l.length : Int)
    · by_cases h2 : (i : Int) < 4000
      · obtain ⟨h', e⟩ := ih (i + 1) (Go.bits .and .i64 (wrap64 ((wrap64 ((wrap64 (h * 137)) + (wrap64 (rd l i)))) + 11)) 1073741823) (by omega) (by omega)
        refine ⟨h', Ev.step (fun k => spec_l1New.l0.eq_2 _ _ _ k) (Ev.pos h1 (Ev.pos h2 (Ev.pos (by omega) ?_)))⟩
        rw [wr (x := (i : Int) + 1) (by omega) (by omega)]
        exact e
      · exact ⟨h, Ev.step (fun k => spec_l1New.l0.eq_2 _ _ _ k) (Ev.pos h1 (Ev.neg h2 (Ev.now _)))⟩
    · exact ⟨h, Ev.step (fun k => spec_l1New.l0.eq_2 _ _ _ k) (Ev.neg h1 (Ev.now _))⟩
theorem new_ok (l : List Int) (hl : l.length ≤ 1048576) : ∃ h, Ev (fun k => spec_l1New.f k l) (l, 0, h) := by
  unfold spec_l1New.f
  exact new_l l hl l.length 0 _ (by omega) (by omega)
/-- The cursor stands in the bytes. -/
def Cur (b : List Int) (i : Int) : Prop := 0 ≤ i ∧ i ≤ b.length ∧ b.length ≤ 1048576
theorem byte_ok (b : List Int) (i h : Int) (hc : Cur b i) : ∃ x i' h', spec_l1Byte.f b i h = some (x, i', h') ∧ 0 ≤ x ∧ x ≤ 255 ∧ Cur b i' := by
  obtain ⟨h0, h1, h2⟩ := hc
  unfold spec_l1Byte.f
  by_cases hi : i < (b.length : Int)
  · rw [if_pos hi, if_pos h0, wr (x := i + 1) (by omega) (by omega)]
    have a := and_le (wrap64 ((Go.bits .and .i64 (Go.bits .xor .i64 ((wrap64 ((wrap64 (h * 6364136223846793005)) + 1442695040888963407)) / 8589934592) ((wrap64 ((wrap64 (h * 6364136223846793005)) + 1442695040888963407)) / 140737488355328)) 255) + (wrap64 (rd b i)))) 255 (by decide)
    exact ⟨_, _, _, rfl, a.1, a.2, by omega, by omega, h2⟩
  · rw [if_neg hi]
    have a := and_le (Go.bits .xor .i64 ((wrap64 ((wrap64 (h * 6364136223846793005)) + 1442695040888963407)) / 8589934592) ((wrap64 ((wrap64 (h * 6364136223846793005)) + 1442695040888963407)) / 140737488355328)) 255 (by decide)
    exact ⟨_, _, _, rfl, a.1, a.2, h0, h1, h2⟩
theorem below_ok (b : List Int) (i h a : Int) (hc : Cur b i) (ha : 0 < a) (ha2 : a ≤ 256) : ∃ x i' h', spec_l1Below.f b i h a = some (x, i', h') ∧ 0 ≤ x ∧ x < a ∧ Cur b i' := by
  obtain ⟨x, i', h', e, h0, h1, hc'⟩ := byte_ok b i h hc
  refine ⟨Int.tmod x a, i', h', ?_, Int.tmod_nonneg _ h0, Int.tmod_lt_of_pos _ ha, hc'⟩
  unfold spec_l1Below.f
  rw [if_neg (by omega), if_pos ha2, e]
  simp only [Option.bind_some]
  rw [if_neg (by omega)]

theorem int_ok (b : List Int) (i h : Int) (l : List Int) (hc : Cur b i) (hl : 0 < l.length) (hl2 : l.length ≤ 256) : ∃ x i' h', spec_l1Int.f b i h l = some (x, i', h') ∧ x ∈ l ∧ Cur b i' := by
  obtain ⟨x, i', h', e, h0, h1, hc'⟩ := below_ok b i h l.length hc (by omega) (by omega)
  refine ⟨rd l x, i', h', ?_, ?_, hc'⟩
  · unfold spec_l1Int.f
    rw [e]
    simp only [Option.bind_some]
    rw [if_pos h0, if_pos h1]
  · unfold rd
    have hlt : x.toNat < l.length := by omega
    simp [List.getD, hlt]

theorem wnx {i n : Nat} (h : i < n) (hn : n ≤ 9223372036854775807) : wrap64 ((i : Int) + 1) = ((i + 1 : Nat) : Int) := by rw [wr (by omega) (by omega)]; rfl
theorem rd_get (l : List Int) (i : Nat) (h : i < l.length) : rd l (i : Int) = l[i] := by simp [rd, List.getD, h]

theorem once_ok (b : List Int) (i h a : Int) (hc : Cur b i) (ha : 0 < a) (ha2 : a ≤ 256) : ∃ x i' h', spec_l1Once.f b i h a = some (x, i', h') ∧ Cur b i' := by
  obtain ⟨x, i', h', e, _, _, c⟩ := below_ok b i h a hc ha ha2
  refine ⟨x == 0, i', h', ?_, c⟩
  unfold spec_l1Once.f
  rw [e]; rfl

def tot (l : List (List Int)) : Nat := (l.map List.length).sum
theorem rd1 (l : List (List Int)) (i : Nat) (h : i < l.length) : rd_L1 l (i : Int) = l[i] := by simp [rd_L1, List.getD, h]
theorem tot_mem : ∀ (l : List (List Int)) (x : List Int), x ∈ l → x.length ≤ tot l := by
  intro l
  induction l with
  | nil => intro x h; cases h
  | cons y l ih =>
    intro x h
    simp only [tot, List.map_cons, List.sum_cons]
    rcases List.mem_cons.1 h with rfl | h
    · omega
    · have := ih x h; unfold tot at this; omega

theorem rdof_get (l : List Bool) (i : Nat) (h : i < l.length) : rdOf false l (i : Int) = l[i] := by simp [rdOf, List.getD, h]

theorem specIn (a l h : Int) : spec_l1In.f a l h = some (decide (l ≤ a ∧ a ≤ h)) := by
  unfold spec_l1In.f
  by_cases h1 : l ≤ a <;> simp [h1]

def fwB (row : List Int) (k : Int) : Bool := decide (0 ≤ k ∧ k < row.length ∧ rd row k = 1)
/-- whether a row fails with these links. -/
def fw (row g : List Int) : Bool := g.any (fwB row)

theorem sfw_l (row g : List Int) (hr : row.length ≤ 1048576) (hg : g.length ≤ 1048576) : ∀ (d i : Nat), i + d = g.length → Ev (fun k => spec_FailsWith.l0 k row g i) ((g.drop i).any (fwB row)) := by
  intro d
  induction d with
  | zero =>
    intro i hi
    refine Ev.step (fun k => spec_FailsWith.l0.eq_2 _ _ _ k) ?_
    refine Ev.neg (by omega) (Ev.some_ ?_)
    rw [List.drop_eq_nil_of_le (by omega)]; rfl
  | succ d ih =>
    intro i hi
    have hlt : i < g.length := by omega
    refine Ev.step (fun k => spec_FailsWith.l0.eq_2 _ _ _ k) ?_
    refine Ev.pos (by omega) ?_
    refine Ev.pos (by omega) ?_
    rw [rd_get g i hlt, List.drop_eq_getElem_cons hlt, List.any_cons, wr (x := (row.length : Int) - 1) (by omega) (by omega)]
    refine Ev.bnow (specIn _ _ _) ?_
    by_cases h : 0 ≤ g[i] ∧ g[i] ≤ (row.length : Int) - 1
    · refine Ev.pos (decide_eq_true h) ?_
      refine Ev.pos h.1 ?_
      refine Ev.pos (by omega) ?_
      by_cases h1 : rd row g[i] = 1
      · refine Ev.pos h1 (Ev.some_ ?_)
        have : fwB row g[i] = true := decide_eq_true ⟨h.1, by omega, h1⟩
        rw [this]; rfl
      · refine Ev.neg h1 ?_
        have : fwB row g[i] = false := decide_eq_false (fun x => h1 x.2.2)
        rw [this, Bool.false_or]
        simp only [wnx hlt (by omega)]
        exact ih (i + 1) (by omega)
    · refine Ev.neg (by rw [decide_eq_false h]; simp) ?_
      have : fwB row g[i] = false := decide_eq_false (fun x => h ⟨x.1, by omega⟩)
      rw [this, Bool.false_or]
      simp only [wnx hlt (by omega)]
      exact ih (i + 1) (by omega)
theorem sfw (row g : List Int) (hr : row.length ≤ 1048576) (hg : g.length ≤ 1048576) : Ev (fun k => spec_FailsWith.f k row g) (fw row g) := by
  unfold spec_FailsWith.f
  exact sfw_l row g hr hg g.length 0 (by omega)

theorem bits_r (b : List Int) (rows c : Nat) (out : List (List Int)) (ho : out.length ≤ 64) (hc : c ≤ 64) (r : Int) : ∀ (d j : Nat) (row : List Int) (i h : Int), Cur b i → j + d = c → row.length = j → ∃ row' i' h', row'.length = c ∧ Cur b i' ∧ ∀ R, Ev (fun k => spec_l5Bits.l0 k rows c (out ++ [row']) (wrap64 (r + 1)) b i' h') R → Ev (fun k => spec_l5Bits.l1 k rows c out r row j b i h) R := by
  intro d
  induction d with
  | zero =>
    intro j row i h hi hj hr
    refine ⟨row, i, h, by omega, hi, fun R e => ?_⟩
    refine Ev.step (fun k => spec_l5Bits.l1.eq_2 _ _ _ _ _ _ _ _ _ k) ?_
    refine Ev.neg (by omega) ?_
    exact Ev.pos (by omega) e
  | succ d ih =>
    intro j row i h hi hj hr
    obtain ⟨x, i', h', e, h0, h1, hc'⟩ := below_ok b i h 2 hi (by omega) (by omega)
    obtain ⟨row', i2, h2, hl, hc2, ne⟩ := ih (j + 1) (row ++ [x]) i' h' hc' (by omega) (by simp; omega)
    refine ⟨row', i2, h2, hl, hc2, fun R e2 => ?_⟩
    refine Ev.step (fun k => spec_l5Bits.l1.eq_2 _ _ _ _ _ _ _ _ _ k) ?_
    refine Ev.pos (by omega) ?_
    refine Ev.bnow e ?_
    refine Ev.pos (by omega) ?_
    simp only [wnx (show j < 65 by omega) (by omega)]
    exact ne R e2
theorem bits_l (b : List Int) (rows c : Nat) (hr : rows ≤ 64) (hc : c ≤ 64) : ∀ (d r : Nat) (out : List (List Int)) (i h : Int), Cur b i → r + d = rows → out.length = r → (∀ x ∈ out, x.length = c) → ∃ m i' h', m.length = rows ∧ (∀ x ∈ m, x.length = c) ∧ Cur b i' ∧ Ev (fun k => spec_l5Bits.l0 k rows c out r b i h) (m, i', h') := by
  intro d
  induction d with
  | zero =>
    intro r out i h hi hd ho hx
    refine ⟨out, i, h, by omega, hx, hi, ?_⟩
    refine Ev.step (fun k => spec_l5Bits.l0.eq_2 _ _ _ _ _ _ _ k) ?_
    exact Ev.neg (by omega) (Ev.now _)
  | succ d ih =>
    intro r out i h hi hd ho hx
    obtain ⟨row', i2, h2, hl, hc2, ne⟩ := bits_r b rows c out (by omega) hc r c 0 [] i h hi (by omega) rfl
    obtain ⟨m, i3, h3, hm, hx3, hc3, e3⟩ := ih (r + 1) (out ++ [row']) i2 h2 hc2 (by omega) (by simp; omega) (fun x hx' => by
      rcases List.mem_append.1 hx' with h | h
      · exact hx x h
      · rw [List.mem_singleton.1 h]; exact hl)
    refine ⟨m, i3, h3, hm, hx3, hc3, ?_⟩
    refine Ev.step (fun k => spec_l5Bits.l0.eq_2 _ _ _ _ _ _ _ k) ?_
    refine Ev.pos (by omega) ?_
    refine ne _ ?_
    simp only [wnx (show r < 65 by omega) (by omega)]
    exact e3
theorem bits_ok (b : List Int) (rows c : Int) (hr0 : 0 ≤ rows) (hr : rows ≤ 64) (hc0 : 0 ≤ c) (hc : c ≤ 64) (i h : Int) (hi : Cur b i) : ∃ m i' h', (m.length : Int) = rows ∧ (∀ x ∈ m, (x.length : Int) = c) ∧ Cur b i' ∧ Ev (fun k => spec_l5Bits.f k b i h rows c) (m, i', h') := by
  obtain ⟨r, rfl⟩ := Int.eq_ofNat_of_zero_le hr0
  obtain ⟨c, rfl⟩ := Int.eq_ofNat_of_zero_le hc0
  obtain ⟨m, i', h', h1, h2, h3, h4⟩ := bits_l b r c (by omega) (by omega) r 0 [] i h hi (by omega) rfl (by simp)
  refine ⟨m, i', h', by omega, fun x hx => by rw [h2 x hx], h3, ?_⟩
  unfold spec_l5Bits.f
  exact h4
theorem set_l (b : List Int) (c : Nat) (hc : c ≤ 64) : ∀ (d j : Nat) (s : List Int) (i h : Int), Cur b i → j + d = c → s.length ≤ j → ∃ s' i' h', s'.length ≤ c ∧ Cur b i' ∧ Ev (fun k => spec_l15Set.l0 k c s j b i h) (s', i', h') := by
  intro d
  induction d with
  | zero =>
    intro j s i h hi hd hs
    refine ⟨s, i, h, by omega, hi, ?_⟩
    refine Ev.step (fun k => spec_l15Set.l0.eq_2 _ _ _ _ _ _ k) ?_
    exact Ev.neg (by omega) (Ev.now _)
  | succ d ih =>
    intro j s i h hi hd hs
    obtain ⟨x, i', h', e, hc'⟩ := once_ok b i h 3 hi (by omega) (by omega)
    have hw := wnx (show j < 65 by omega) (by omega)
    cases x with
    | true =>
      obtain ⟨s', i2, h2, hl, hc2, e2⟩ := ih (j + 1) (s ++ [(j : Int)]) i' h' hc' (by omega) (by simp; omega)
      refine ⟨s', i2, h2, hl, hc2, ?_⟩
      refine Ev.step (fun k => spec_l15Set.l0.eq_2 _ _ _ _ _ _ k) ?_
      refine Ev.pos (by omega) ?_
      refine Ev.bnow e ?_
      refine Ev.pos rfl ?_
      refine Ev.pos (by omega) ?_
      simp only [hw]
      exact e2
    | false =>
      obtain ⟨s', i2, h2, hl, hc2, e2⟩ := ih (j + 1) s i' h' hc' (by omega) (by omega)
      refine ⟨s', i2, h2, hl, hc2, ?_⟩
      refine Ev.step (fun k => spec_l15Set.l0.eq_2 _ _ _ _ _ _ k) ?_
      refine Ev.pos (by omega) ?_
      refine Ev.bnow e ?_
      refine Ev.neg (by simp) ?_
      simp only [hw]
      exact e2
theorem set_ok (b : List Int) (c : Int) (hc0 : 0 ≤ c) (hc : c ≤ 64) (i h : Int) (hi : Cur b i) : ∃ s i' h', (s.length : Int) ≤ c ∧ Cur b i' ∧ Ev (fun k => spec_l15Set.f k b i h c) (s, i', h') := by
  obtain ⟨c, rfl⟩ := Int.eq_ofNat_of_zero_le hc0
  obtain ⟨s, i', h', h1, h2, h3⟩ := set_l b c (by omega) c 0 [] i h hi (by omega) (by simp)
  refine ⟨s, i', h', by omega, h2, ?_⟩
  unfold spec_l15Set.f
  exact h3
theorem vds_l (m : List (List Int)) (s : List Int) (hm : m.length ≤ 64) (hx : ∀ x ∈ m, x.length ≤ 64) (hs : s.length ≤ 64) : ∀ (d i : Nat) (acc : List Bool), i + d = m.length → acc.length = i → ∃ v, v.length = m.length ∧ Ev (fun k => spec_l15Verdicts.l0 k m s acc i) v := by
  intro d
  induction d with
  | zero =>
    intro i acc hi ha
    refine ⟨acc, by omega, ?_⟩
    refine Ev.step (fun k => spec_l15Verdicts.l0.eq_2 _ _ _ _ k) ?_
    exact Ev.neg (by omega) (Ev.now _)
  | succ d ih =>
    intro i acc hi ha
    have hlt : i < m.length := by omega
    have hw := wnx hlt (by omega)
    have hxi := hx m[i] (List.getElem_mem hlt)
    obtain ⟨v, h1, h2⟩ := ih (i + 1) (acc ++ [fw m[i] s]) (by omega) (by simp; omega)
    refine ⟨v, h1, ?_⟩
    refine Ev.step (fun k => spec_l15Verdicts.l0.eq_2 _ _ _ _ k) ?_
    refine Ev.pos (by omega) ?_
    refine Ev.pos (by omega) ?_
    rw [rd1 m i hlt]
    refine Ev.bind (sfw m[i] s (by omega) (by omega)) ?_
    refine Ev.pos (by omega) ?_
    simp only [hw]
    exact h2
theorem vds_ok (m : List (List Int)) (s : List Int) (hm : m.length ≤ 64) (hx : ∀ x ∈ m, x.length ≤ 64) (hs : s.length ≤ 64) : ∃ v, v.length = m.length ∧ Ev (fun k => spec_l15Verdicts.f k m s) v := by
  unfold spec_l15Verdicts.f
  exact vds_l m s hm hx hs m.length 0 [] (by omega) rfl
/-- a drawn matrix of verdicts. -/
theorem any15_ok (b : List Int) (i h : Int) (hi : Cur b i) : ∃ (m : List (List Int)) (v : List Bool) (c i' h' : Int), m.length ≤ 64 ∧ (∀ x ∈ m, x.length ≤ 64) ∧ Cur b i' ∧ Ev (fun k => spec_l15Any.f k b i h) (m, v, c, i', h') := by
  obtain ⟨x, i1, h1, e1, x0, x1, c1⟩ := below_ok b i h 6 hi (by omega) (by omega)
  obtain ⟨y, i2, h2, e2, y0, y1, c2⟩ := below_ok b i1 h1 7 c1 (by omega) (by omega)
  have hw : wrap64 (1 + x) = 1 + x := wr (by omega) (by omega)
  obtain ⟨m, i3, h3, m0, m1, c3, e3⟩ := bits_ok b y (1 + x) (by omega) (by omega) (by omega) (by omega) i2 h2 c2
  obtain ⟨s, i4, h4, s0, c4, e4⟩ := set_ok b (1 + x) (by omega) (by omega) i3 h3 c3
  have hm : ∀ z ∈ m, z.length ≤ 64 := fun z hz => by have := m1 z hz; omega
  obtain ⟨v, v0, e5⟩ := vds_ok m s (by omega) hm (by omega)
  obtain ⟨q, i5, h5, e6, q0, q1, c5⟩ := below_ok b i4 h4 9 c4 (by omega) (by omega)
  have go : ∀ (m' : List (List Int)) (v' : List Bool) (i' h' : Int), m'.length ≤ 64 → (∀ z ∈ m', z.length ≤ 64) → Cur b i' → Ev (fun k => spec_l15Any.f k b i h) (m', v', 1 + x, i', h') → ∃ (m : List (List Int)) (v : List Bool) (c i' h' : Int), m.length ≤ 64 ∧ (∀ x ∈ m, x.length ≤ 64) ∧ Cur b i' ∧ Ev (fun k => spec_l15Any.f k b i h) (m, v, c, i', h') := fun m' v' i' h' a b c d => ⟨m', v', 1 + x, i', h', a, b, c, d⟩
  have st : ∀ R, Ev (fun k => if (m.length : Int) > 0 then (some (q, i5, h5)).bind fun bt216 => (if bt216.1 = 0 then (if 0 < (v.length : Int) then (some (m, (v.set (0 : Int).toNat (!(rdOf false v 0))), 1 + x, bt216.2.1, bt216.2.2)) else (none)) else (if bt216.1 = 1 then (if 1 ≤ (v.length : Int) then (some (m, (v.drop (1 : Int).toNat), 1 + x, bt216.2.1, bt216.2.2)) else (none)) else (if bt216.1 = 2 then (if 0 < (m.length : Int) then (if 0 < ((rd_L1 m 0).length : Int) then (some ((m.set (0 : Int).toNat ((rd_L1 m 0).set (0 : Int).toNat 2)), v, 1 + x, bt216.2.1, bt216.2.2)) else (none)) else (none)) else (some (m, v, 1 + x, bt216.2.1, bt216.2.2))))) else (some (m, v, 1 + x, i4, h4))) R → Ev (fun k => spec_l15Any.f k b i h) R := by
    intro R e
    unfold spec_l15Any.f
    refine Ev.bnow e1 ?_
    refine Ev.bnow e2 ?_
    simp only [hw]
    refine Ev.bind e3 ?_
    refine Ev.bind e4 ?_
    refine Ev.bind e5 ?_
    simp only [e6]
    exact e
  by_cases hp : (m.length : Int) > 0
  · have hlt : 0 < m.length := by omega
    have hr0 := m1 m[0] (List.getElem_mem hlt)
    have hrd : rd_L1 m 0 = m[0] := rd1 m 0 hlt
    have hm0 := hm m[0] (List.getElem_mem hlt)
    by_cases a0 : q = 0
    · refine go m (v.set (0 : Int).toNat (!(rdOf false v 0))) i5 h5 (by omega) hm c5 (st _ (Ev.pos hp ?_))
      exact Ev.pos a0 (Ev.pos (by omega) (Ev.now _))
    by_cases a1 : q = 1
    · refine go m (v.drop (1 : Int).toNat) i5 h5 (by omega) hm c5 (st _ (Ev.pos hp ?_))
      exact Ev.neg a0 (Ev.pos a1 (Ev.pos (by omega) (Ev.now _)))
    by_cases a2 : q = 2
    · refine go (m.set (0 : Int).toNat ((rd_L1 m 0).set (0 : Int).toNat 2)) v i5 h5 (by rw [List.length_set]; omega) (fun z hz => ?_) c5 (st _ (Ev.pos hp ?_))
      · rcases List.mem_or_eq_of_mem_set hz with h | h
        · exact hm z h
        · rw [h, List.length_set, hrd]; exact hm0
      · refine Ev.neg a0 (Ev.neg a1 (Ev.pos a2 (Ev.pos (by omega) (Ev.pos ?_ (Ev.now _)))))
        rw [hrd]; omega
    · refine go m v i5 h5 (by omega) hm c5 (st _ (Ev.pos hp ?_))
      exact Ev.neg a0 (Ev.neg a1 (Ev.neg a2 (Ev.now _)))
  · exact go m v i4 h4 (by omega) hm c4 (st _ (Ev.neg hp (Ev.now _)))
theorem av_ok (l : List Int) (hl : l.length ≤ 1048576) : ∃ (m : List (List Int)) (v : List Bool) (c : Int), m.length ≤ 64 ∧ (∀ x ∈ m, x.length ≤ 64) ∧ Ev (fun k => spec_DrawAreVerdicts.f k l) (m, v, c) := by
  obtain ⟨h, e⟩ := new_ok l hl
  obtain ⟨m, v, c, i1, h1, m0, m1, c1, e1⟩ := any15_ok l 0 h ⟨by omega, by omega, hl⟩
  obtain ⟨o, i2, h2, e2, c2⟩ := once_ok l i1 h1 8 c1 (by omega) (by omega)
  obtain ⟨z, i3, h3, e3, _, c3⟩ := int_ok l i2 h2 [0, 7, wrap64 (c + 1)] c2 (by simp) (by simp)
  cases o with
  | true =>
    refine ⟨m, v, z, m0, m1, ?_⟩
    unfold spec_DrawAreVerdicts.f
    refine Ev.bind e ?_
    refine Ev.bind e1 ?_
    refine Ev.bnow e2 ?_
    refine Ev.pos rfl ?_
    exact Ev.bnow e3 (Ev.now _)
  | false =>
    refine ⟨m, v, c, m0, m1, ?_⟩
    unfold spec_DrawAreVerdicts.f
    refine Ev.bind e ?_
    refine Ev.bind e1 ?_
    refine Ev.bnow e2 ?_
    exact Ev.neg (by simp) (Ev.now _)
theorem ds_ok (l : List Int) (hl : l.length ≤ 1048576) : ∃ (m : List (List Int)) (v : List Bool) (c : Int), m.length ≤ 64 ∧ (∀ x ∈ m, x.length ≤ 64) ∧ Ev (fun k => spec_DrawSmallestSets.f k l) (m, v, c) := by
  obtain ⟨m, v, c, h1, h2, e⟩ := av_ok l hl
  refine ⟨m, v, c, h1, h2, ?_⟩
  unfold spec_DrawSmallestSets.f
  exact Ev.bind e (Ev.now _)

def inB (a b x : Int) : Bool := decide (a ≤ x ∧ x ≤ b)
def okV (l : List Int) : Bool := l.all (inB 0 100000) && decide (l.length ≤ 12)

/-- a matrix of so many columns. -/
def im (l : List (List Int)) (cols : Int) : Bool := decide (1 ≤ cols ∧ cols ≤ 6) && (decide (l.length ≤ 12) && l.all (fun row => decide ((row.length : Int) = cols) && row.all (inB (-2) 2)))
/-- nothing but zeros and ones. -/
def bt (l : List (List Int)) : Bool := l.all (fun row => row.all (inB 0 1))

/-- of the first n columns those that P takes. -/
def colsL (P : Nat → Bool) (n : Nat) : List Int := ((List.range n).filter P).map (fun c : Nat => (c : Int))
theorem colsL_succ (P : Nat → Bool) (n : Nat) : colsL P (n + 1) = colsL P n ++ (if P n = true then [(n : Int)] else []) := by
  unfold colsL
  rw [List.range_succ, List.filter_append, List.map_append]
  congr 1
  cases h : P n <;> simp [List.filter_cons, h]
theorem colsL_len (P : Nat → Bool) (n : Nat) : (colsL P n).length ≤ n := by
  unfold colsL
  rw [List.length_map]
  refine Nat.le_trans (List.length_filter_le _ _) ?_
  rw [List.length_range]
  exact Nat.le_refl _
theorem im_is {l : List (List Int)} {cols : Int} (h : im l cols = true) : 1 ≤ cols ∧ cols ≤ 6 ∧ l.length ≤ 12 ∧ ∀ row ∈ l, (row.length : Int) = cols := by
  unfold im at h
  rw [Bool.and_eq_true, Bool.and_eq_true, List.all_eq_true] at h
  obtain ⟨h1, h2, h3⟩ := h
  have h1 := of_decide_eq_true h1
  have h2 := of_decide_eq_true h2
  refine ⟨h1.1, h1.2, h2, fun row hr => ?_⟩
  have := h3 row hr
  rw [Bool.and_eq_true] at this
  exact of_decide_eq_true this.1

/-- the sets of s of c columns. -/
def setsN (c s : Nat) : List (List Int) := subsF s c c [] 0
def setsV (c s : Int) : List (List Int) := if 0 ≤ c ∧ c ≤ 6 ∧ 0 ≤ s ∧ s ≤ c then setsN c.toNat s.toNat else []
theorem isets (c s : Int) : impl_SetsOf.f c s = some (setsV c s) := by
  unfold impl_SetsOf.f setsV setsN
  by_cases h : 0 ≤ c ∧ c ≤ 6 ∧ 0 ≤ s ∧ s ≤ c
  · rw [if_pos h, if_pos h]
  · rw [if_neg h, if_neg h]
theorem setsA : (List.range 7).all (fun c => (List.range 7).all (fun s => decide ((setsN c s).length ≤ 64) && (setsN c s).all (fun x => decide (x.length = s) && x.all (fun k => decide (0 ≤ k ∧ k < (c : Int)))))) = true := by decide +kernel
theorem sets_is {c s : Nat} (hc : c ≤ 6) (hs : s ≤ 6) : (setsN c s).length ≤ 64 ∧ ∀ x ∈ setsN c s, x.length = s ∧ ∀ k ∈ x, 0 ≤ k ∧ k < (c : Int) := by
  have h := List.all_eq_true.1 (List.all_eq_true.1 setsA c (List.mem_range.2 (by omega))) s (List.mem_range.2 (by omega))
  rw [Bool.and_eq_true] at h
  refine ⟨of_decide_eq_true h.1, fun x hx => ?_⟩
  have h2 := List.all_eq_true.1 h.2 x hx
  rw [Bool.and_eq_true] at h2
  exact ⟨of_decide_eq_true h2.1, fun k hk => of_decide_eq_true (List.all_eq_true.1 h2.2 k hk)⟩
theorem setsV_is (c s : Int) : (setsV c s).length ≤ 64 ∧ ∀ x ∈ setsV c s, x.length ≤ 6 := by
  unfold setsV
  by_cases h : 0 ≤ c ∧ c ≤ 6 ∧ 0 ≤ s ∧ s ≤ c
  · rw [if_pos h]
    have := sets_is (c := c.toNat) (s := s.toNat) (by omega) (by omega)
    exact ⟨this.1, fun x hx => by have := (this.2 x hx).1; omega⟩
  · rw [if_neg h]; simp

theorem setsB : (List.range 7).all (fun c => (List.range 6).all (fun s => (setsN c (s + 1)).all (fun x => (List.range (s + 1)).all (fun j => (setsN c s).contains (x.eraseIdx j))))) = true := by decide +kernel
theorem sets_erase {c s : Nat} (hc : c ≤ 6) (hs : s < 6) {x : List Int} (hx : x ∈ setsN c (s + 1)) {j : Nat} (hj : j < s + 1) : x.eraseIdx j ∈ setsN c s := by
  have h := List.all_eq_true.1 (List.all_eq_true.1 (List.all_eq_true.1 (List.all_eq_true.1 setsB c (List.mem_range.2 (by omega))) s (List.mem_range.2 (by omega))) x hx) j (List.mem_range.2 hj)
  simpa using h
def allBits : Nat → List (List Bool)
  | 0 => [[]]
  | n + 1 => ((allBits n).map (fun b => true :: b)) ++ ((allBits n).map (fun b => false :: b))
theorem mem_allBits : ∀ l : List Bool, l ∈ allBits l.length
  | [] => by simp [allBits]
  | b :: l => by
    have ih := mem_allBits l
    simp only [List.length_cons, allBits, List.mem_append, List.mem_map]
    cases b
    · exact .inr ⟨l, ih, rfl⟩
    · exact .inl ⟨l, ih, rfl⟩
theorem setsC : (List.range 7).all (fun c => (allBits c).all (fun b => (setsN c (colsL (fun i => b.getD i false) c).length).contains (colsL (fun i => b.getD i false) c))) = true := by decide +kernel
theorem cols_set (P : Nat → Bool) {c : Nat} (hc : c ≤ 6) : colsL P c ∈ setsN c (colsL P c).length := by
  have hb := mem_allBits ((List.range c).map P)
  rw [List.length_map, List.length_range] at hb
  have h := List.all_eq_true.1 (List.all_eq_true.1 setsC c (List.mem_range.2 (by omega))) _ hb
  have e : colsL (fun i => ((List.range c).map P).getD i false) c = colsL P c := by
    unfold colsL
    congr 1
    apply List.filter_congr
    intro i hi
    have := List.mem_range.1 hi
    simp [List.getD, this]
  rw [e] at h
  simpa using h
theorem cols_mem (P : Nat → Bool) (c : Nat) (k : Int) : k ∈ colsL P c ↔ ∃ i, i < c ∧ P i = true ∧ k = (i : Int) := by
  unfold colsL
  simp only [List.mem_map, List.mem_filter, List.mem_range]
  constructor
  · rintro ⟨i, ⟨h1, h2⟩, h3⟩; exact ⟨i, h1, h2, h3.symm⟩
  · rintro ⟨i, h1, h2, h3⟩; exact ⟨i, ⟨h1, h2⟩, h3.symm⟩

theorem ifw (row g : List Int) : impl_FailsWith.f row g = some (fw row g) := rfl

theorem implIn (a l h : Int) : impl_InRange.f a l h = some (decide (l ≤ a ∧ a ≤ h)) := by
  unfold impl_InRange.f
  by_cases h1 : l ≤ a <;> simp [h1]

theorem allIn_l (l : List Int) (a b : Int) (hl : l.length ≤ 1048577) : ∀ (d i : Nat), i + d = l.length → Ev (fun k => impl_allIn.l0 k a b l l.length i) ((l.drop i).all (inB a b)) := by
  intro d
  induction d with
  | zero =>
    intro i hi
    refine Ev.step (fun k => impl_allIn.l0.eq_2 _ _ _ _ _ k) ?_
    refine Ev.neg (by omega) (Ev.some_ ?_)
    rw [List.drop_eq_nil_of_le (by omega)]; rfl
  | succ d ih =>
    intro i hi
    have hlt : i < l.length := by omega
    refine Ev.step (fun k => impl_allIn.l0.eq_2 _ _ _ _ _ k) ?_
    refine Ev.pos (by omega) ?_
    refine Ev.pos (by omega) ?_
    refine Ev.pos (by omega) ?_
    rw [rd_get l i hlt, List.drop_eq_getElem_cons hlt, List.all_cons]
    refine Ev.bnow (a := inB a b l[i]) (by rw [implIn]; rfl) ?_
    cases h : inB a b l[i] with
    | true =>
      refine Ev.pos rfl ?_
      simp only [wnx hlt (by omega)]
      exact ih (i + 1) (by omega)
    | false => exact Ev.neg (by simp) (Ev.now _)
theorem allIn (l : List Int) (a b : Int) (hl : l.length ≤ 1048577) : Ev (fun k => impl_allIn.f k l a b) (l.all (inB a b)) := by
  unfold impl_allIn.f
  exact allIn_l l a b hl l.length 0 (by omega)

theorem iim_l (l : List (List Int)) (cols : Int) (hl : l.length ≤ 1048576) (hm : ∀ x ∈ l, x.length ≤ 1048576) : ∀ (d i : Nat), i + d = l.length → Ev (fun k => impl_IsMatrix.l0 k cols l l.length i) ((l.drop i).all (fun row => decide ((row.length : Int) = cols) && row.all (inB (-2) 2))) := by
  intro d
  induction d with
  | zero =>
    intro i hi
    refine Ev.step (fun k => impl_IsMatrix.l0.eq_2 _ _ _ _ k) ?_
    refine Ev.neg (by omega) (Ev.some_ ?_)
    rw [List.drop_eq_nil_of_le (by omega)]; rfl
  | succ d ih =>
    intro i hi
    have hlt : i < l.length := by omega
    have hx := hm l[i] (List.getElem_mem hlt)
    refine Ev.step (fun k => impl_IsMatrix.l0.eq_2 _ _ _ _ k) ?_
    refine Ev.pos (by omega) ?_
    refine Ev.pos (by omega) ?_
    refine Ev.pos (by omega) ?_
    rw [rd1 l i hlt, List.drop_eq_getElem_cons hlt, List.all_cons]
    by_cases h : (l[i].length : Int) = cols
    · refine Ev.pos h ?_
      refine Ev.bind (allIn l[i] (-2) 2 (by omega)) ?_
      rw [decide_eq_true h, Bool.true_and]
      cases h2 : l[i].all (inB (-2) 2) with
      | true =>
        refine Ev.pos rfl ?_
        simp only [wnx hlt (by omega)]
        exact ih (i + 1) (by omega)
      | false => exact Ev.neg (by simp) (Ev.now _)
    · refine Ev.neg h (Ev.some_ ?_)
      rw [decide_eq_false h]; rfl
theorem iim (l : List (List Int)) (cols : Int) (hl : l.length ≤ 1048576) (hm : ∀ x ∈ l, x.length ≤ 1048576) : Ev (fun k => impl_IsMatrix.f k l cols) (im l cols) := by
  unfold impl_IsMatrix.f
  refine Ev.bnow (implIn _ _ _) ?_
  have e := iim_l l cols hl hm l.length 0 (by omega)
  unfold im
  by_cases h : 1 ≤ cols ∧ cols ≤ 6
  · refine Ev.pos (decide_eq_true h) ?_
    rw [decide_eq_true h, Bool.true_and]
    by_cases h2 : (l.length : Int) > 12
    · rw [decide_eq_true h2, decide_eq_false (show ¬ l.length ≤ 12 by omega)]
      exact Ev.step (fun k => impl_IsMatrix.j0.eq_2 _ _ _ k) (Ev.pos rfl (Ev.now _))
    · rw [decide_eq_false h2, decide_eq_true (show l.length ≤ 12 by omega)]
      exact Ev.step (fun k => impl_IsMatrix.j0.eq_2 _ _ _ k) (Ev.neg (by simp) e)
  · refine Ev.neg (by rw [decide_eq_false h]; simp) ?_
    rw [decide_eq_false h]
    exact Ev.step (fun k => impl_IsMatrix.j0.eq_2 _ _ _ k) (Ev.pos rfl (Ev.now _))

theorem nobit (row : List Int) (h : row.length ≤ 1048576) : Ev (fun k => noBit k row) (!(row.all (inB 0 1))) := by
  unfold noBit
  exact Ev.bind (allIn row 0 1 (by omega)) (Ev.now _)
theorem allO_ev : ∀ (l : List (List Int)), (∀ x ∈ l, x.length ≤ 1048576) → Ev (fun k => allO (noBit k) l) (!(bt l))
  | [], _ => Ev.now _
  | x :: l, h => by
    show Ev (fun k => (noBit k x).bind fun b => (allO (noBit k) l).bind fun c => some (b || c)) _
    refine Ev.bind (nobit x (h x List.mem_cons_self)) ?_
    refine Ev.bind (allO_ev l (fun y hy => h y (List.mem_cons_of_mem _ hy))) (Ev.some_ ?_)
    unfold bt
    rw [List.all_cons, Bool.not_and]
theorem ibits (l : List (List Int)) (cols : Int) (hl : l.length ≤ 1048576) (hm : ∀ x ∈ l, x.length ≤ 1048576) : Ev (fun k => impl_isBits.f k l cols) (im l cols && bt l) := by
  unfold impl_isBits.f
  refine Ev.bind (iim l cols hl hm) ?_
  cases im l cols with
  | true =>
    refine Ev.pos rfl ?_
    refine Ev.bind (allO_ev l hm) (Ev.some_ ?_)
    simp
  | false => exact Ev.neg (by simp) (Ev.now _)

theorem sim_r (l : List (List Int)) (cols : Int) (i : Nat) (hlt : i < l.length) (hl : l.length ≤ 1048576) (hx : l[i].length ≤ 1048576) (hc : (l[i].length : Int) = cols) {r : Bool} (nx : Ev (fun k => spec_IsMatrix.l0 k l cols ((i + 1 : Nat) : Int)) r) :
    ∀ (d j : Nat), j + d = l[i].length → Ev (fun k => spec_IsMatrix.l1 k l cols i j) (((l[i].drop j).all (inB (-2) 2)) && r) := by
  intro d
  induction d with
  | zero =>
    intro j hj
    refine Ev.step (fun k => spec_IsMatrix.l1.eq_2 _ _ _ _ k) ?_
    refine Ev.neg (by omega) ?_
    rw [List.drop_eq_nil_of_le (by omega)]
    simp only [wnx hlt (by omega), List.all_nil, Bool.true_and]
    exact nx
  | succ d ih =>
    intro j hj
    have hlt2 : j < l[i].length := by omega
    refine Ev.step (fun k => spec_IsMatrix.l1.eq_2 _ _ _ _ k) ?_
    refine Ev.pos (by omega) ?_
    refine Ev.pos (by omega) ?_
    refine Ev.pos (by omega) ?_
    refine Ev.pos (by omega) ?_
    rw [rd1 l i hlt]
    refine Ev.pos (by omega) ?_
    rw [rd_get l[i] j hlt2, List.drop_eq_getElem_cons hlt2, List.all_cons]
    refine Ev.bnow (a := inB (-2) 2 l[i][j]) (by rw [specIn]; rfl) ?_
    cases h : inB (-2) 2 l[i][j] with
    | true =>
      refine Ev.pos rfl ?_
      simp only [wnx hlt2 (by omega), Bool.true_and]
      exact ih (j + 1) (by omega)
    | false => exact Ev.neg (by simp) (Ev.now _)
theorem sim_l (l : List (List Int)) (cols : Int) (hl : l.length ≤ 1048576) (hm : ∀ x ∈ l, x.length ≤ 1048576) : ∀ (d i : Nat), i + d = l.length → Ev (fun k => spec_IsMatrix.l0 k l cols i) ((l.drop i).all (fun row => decide ((row.length : Int) = cols) && row.all (inB (-2) 2))) := by
  intro d
  induction d with
  | zero =>
    intro i hi
    refine Ev.step (fun k => spec_IsMatrix.l0.eq_2 _ _ _ k) ?_
    refine Ev.neg (by omega) (Ev.some_ ?_)
    rw [List.drop_eq_nil_of_le (by omega)]; rfl
  | succ d ih =>
    intro i hi
    have hlt : i < l.length := by omega
    have hx := hm l[i] (List.getElem_mem hlt)
    refine Ev.step (fun k => spec_IsMatrix.l0.eq_2 _ _ _ k) ?_
    refine Ev.pos (by omega) ?_
    refine Ev.pos (by omega) ?_
    rw [rd1 l i hlt, List.drop_eq_getElem_cons hlt, List.all_cons]
    by_cases h : (l[i].length : Int) = cols
    · refine Ev.pos h ?_
      rw [decide_eq_true h, Bool.true_and]
      exact sim_r l cols i hlt hl hx h (ih (i + 1) (by omega)) l[i].length 0 (by omega)
    · refine Ev.neg h (Ev.some_ ?_)
      rw [decide_eq_false h]; rfl
theorem sim (l : List (List Int)) (cols : Int) (hl : l.length ≤ 1048576) (hm : ∀ x ∈ l, x.length ≤ 1048576) : Ev (fun k => spec_IsMatrix.f k l cols) (im l cols) := by
  unfold spec_IsMatrix.f
  refine Ev.bnow (specIn _ _ _) ?_
  have e := sim_l l cols hl hm l.length 0 (by omega)
  unfold im
  by_cases h : 1 ≤ cols ∧ cols ≤ 6
  · refine Ev.pos (decide_eq_true h) ?_
    rw [decide_eq_true h, Bool.true_and]
    by_cases h2 : (l.length : Int) > 12
    · rw [decide_eq_true h2, decide_eq_false (show ¬ l.length ≤ 12 by omega)]
      exact Ev.step (fun k => spec_IsMatrix.j0.eq_2 _ _ _ k) (Ev.pos rfl (Ev.now _))
    · rw [decide_eq_false h2, decide_eq_true (show l.length ≤ 12 by omega)]
      exact Ev.step (fun k => spec_IsMatrix.j0.eq_2 _ _ _ k) (Ev.neg (by simp) e)
  · refine Ev.neg (by rw [decide_eq_false h]; simp) ?_
    rw [decide_eq_false h]
    exact Ev.step (fun k => spec_IsMatrix.j0.eq_2 _ _ _ k) (Ev.pos rfl (Ev.now _))

theorem sbt_r (l : List (List Int)) (i : Nat) (hlt : i < l.length) (hl : l.length ≤ 1048576) (hx : l[i].length ≤ 1048576) {r : Bool} (nx : Ev (fun k => spec_l15Bits.l0 k l ((i + 1 : Nat) : Int)) r) :
    ∀ (d j : Nat), j + d = l[i].length → Ev (fun k => spec_l15Bits.l1 k l i j) (((l[i].drop j).all (inB 0 1)) && r) := by
  intro d
  induction d with
  | zero =>
    intro j hj
    refine Ev.step (fun k => spec_l15Bits.l1.eq_2 _ _ _ k) ?_
    refine Ev.pos (by omega) ?_
    refine Ev.pos (by omega) ?_
    rw [rd1 l i hlt]
    refine Ev.neg (by omega) ?_
    rw [List.drop_eq_nil_of_le (by omega)]
    simp only [wnx hlt (by omega), List.all_nil, Bool.true_and]
    exact nx
  | succ d ih =>
    intro j hj
    have hlt2 : j < l[i].length := by omega
    refine Ev.step (fun k => spec_l15Bits.l1.eq_2 _ _ _ k) ?_
    refine Ev.pos (by omega) ?_
    refine Ev.pos (by omega) ?_
    rw [rd1 l i hlt]
    refine Ev.pos (by omega) ?_
    refine Ev.pos (by omega) ?_
    rw [rd_get l[i] j hlt2, List.drop_eq_getElem_cons hlt2, List.all_cons]
    refine Ev.bnow (a := inB 0 1 l[i][j]) (by rw [specIn]; rfl) ?_
    cases h : inB 0 1 l[i][j] with
    | true =>
      refine Ev.pos rfl ?_
      simp only [wnx hlt2 (by omega), Bool.true_and]
      exact ih (j + 1) (by omega)
    | false => exact Ev.neg (by simp) (Ev.now _)
theorem sbt_l (l : List (List Int)) (hl : l.length ≤ 1048576) (hm : ∀ x ∈ l, x.length ≤ 1048576) : ∀ (d i : Nat), i + d = l.length → Ev (fun k => spec_l15Bits.l0 k l i) (bt (l.drop i)) := by
  intro d
  induction d with
  | zero =>
    intro i hi
    refine Ev.step (fun k => spec_l15Bits.l0.eq_2 _ _ k) ?_
    refine Ev.neg (by omega) (Ev.some_ ?_)
    rw [List.drop_eq_nil_of_le (by omega)]; rfl
  | succ d ih =>
    intro i hi
    have hlt : i < l.length := by omega
    have hx := hm l[i] (List.getElem_mem hlt)
    refine Ev.step (fun k => spec_l15Bits.l0.eq_2 _ _ k) ?_
    refine Ev.pos (by omega) ?_
    rw [List.drop_eq_getElem_cons hlt]
    exact sbt_r l i hlt hl hx (ih (i + 1) (by omega)) l[i].length 0 (by omega)
theorem sbt (l : List (List Int)) (hl : l.length ≤ 1048576) (hm : ∀ x ∈ l, x.length ≤ 1048576) : Ev (fun k => spec_l15Bits.f k l) (bt l) := by
  unfold spec_l15Bits.f
  exact sbt_l l hl hm l.length 0 (by omega)

def verd (l : List (List Int)) (b : List Bool) (cols : Int) : Bool := (im l cols && bt l) && ((b.length : Int) == (l.length : Int))
theorem specVerd (l : List (List Int)) (b : List Bool) (cols : Int) (hl : l.length ≤ 1048576) (hm : ∀ x ∈ l, x.length ≤ 1048576) : Ev (fun k => spec_AreVerdicts.f k l b cols) (verd l b cols) := by
  unfold spec_AreVerdicts.f verd
  refine Ev.bind (sim l cols hl hm) ?_
  cases im l cols with
  | true =>
    refine Ev.pos rfl ?_
    refine Ev.bind (sbt l hl hm) ?_
    cases bt l with
    | true => exact Ev.pos rfl (Ev.now _)
    | false => exact Ev.neg (by simp) (Ev.now _)
  | false => exact Ev.neg (by simp) (Ev.now _)
theorem implVerd (l : List (List Int)) (b : List Bool) (cols : Int) (hl : l.length ≤ 1048576) (hm : ∀ x ∈ l, x.length ≤ 1048576) : Ev (fun k => impl_AreVerdicts.f k l b cols) (verd l b cols) := by
  unfold impl_AreVerdicts.f verd
  refine Ev.bind (ibits l cols hl hm) ?_
  cases im l cols && bt l with
  | true => exact Ev.pos rfl (Ev.now _)
  | false => exact Ev.neg (by simp) (Ev.now _)
theorem verd_is {l : List (List Int)} {b : List Bool} {cols : Int} (h : verd l b cols = true) : im l cols = true ∧ b.length = l.length ∧ ∀ row ∈ l, ∀ x ∈ row, x = 0 ∨ x = 1 := by
  unfold verd bt at h
  rw [Bool.and_eq_true, Bool.and_eq_true, List.all_eq_true] at h
  obtain ⟨⟨h1, h2⟩, h3⟩ := h
  refine ⟨h1, by have := eq_of_beq h3; omega, fun row hr x hx => ?_⟩
  have h4 := h2 row hr
  rw [List.all_eq_true] at h4
  have h5 := h4 x hx
  unfold inB at h5
  have := of_decide_eq_true h5
  omega

/-- whether the links explain what failed. -/
def ex (l : List (List Int)) (b : List Bool) (x : List Int) : Bool := ((b.length : Int) == (l.length : Int)) && (l.zip b).all (fun z => fw z.1 x == z.2)
theorem zip_at' (l : List (List Int)) (b : List Bool) (i : Nat) (h1 : i < l.length) (h2 : b.length = l.length) : (l.zip b).drop i = (l[i], b[i]'(by omega)) :: (l.zip b).drop (i + 1) := by
  have hz : i < (l.zip b).length := by rw [List.length_zip]; omega
  rw [List.drop_eq_getElem_cons hz]
  simp
theorem iex_l (l : List (List Int)) (b : List Bool) (x : List Int) (hl : l.length ≤ 1048576) (hb : b.length = l.length) : ∀ (d i : Nat), i + d = l.length → Ev (fun k => impl_Explains.l0 k b x l l.length i) (((l.zip b).drop i).all (fun z => fw z.1 x == z.2)) := by
  intro d
  induction d with
  | zero =>
    intro i hi
    refine Ev.step (fun k => impl_Explains.l0.eq_2 _ _ _ _ _ k) ?_
    refine Ev.neg (by omega) (Ev.some_ ?_)
    rw [List.drop_eq_nil_of_le (by rw [List.length_zip]; omega)]; rfl
  | succ d ih =>
    intro i hi
    have hlt : i < l.length := by omega
    refine Ev.step (fun k => impl_Explains.l0.eq_2 _ _ _ _ _ k) ?_
    refine Ev.pos (by omega) ?_
    refine Ev.pos (by omega) ?_
    refine Ev.pos (by omega) ?_
    rw [rd1 l i hlt, rdof_get b i (by omega), zip_at' l b i hlt hb, List.all_cons]
    refine Ev.bnow (ifw _ _) ?_
    refine Ev.pos (by omega) ?_
    simp only [wnx hlt (by omega)]
    by_cases h : fw l[i] x = b[i]
    · refine Ev.neg (by simp [h]) ?_
      rw [h]
      simpa using ih (i + 1) (by omega)
    · refine Ev.pos (by simpa using h) (Ev.some_ ?_)
      have : (fw l[i] x == b[i]) = false := by simpa using h
      rw [this]; rfl
theorem iex (l : List (List Int)) (b : List Bool) (x : List Int) (hl : l.length ≤ 1048576) : Ev (fun k => impl_Explains.f k l b x) (ex l b x) := by
  unfold impl_Explains.f ex
  by_cases h : (b.length : Int) = (l.length : Int)
  · refine Ev.pos h ?_
    rw [show ((b.length : Int) == (l.length : Int)) = true by simpa using h, Bool.true_and]
    exact iex_l l b x hl (by omega) l.length 0 (by omega)
  · refine Ev.neg h (Ev.some_ ?_)
    rw [show ((b.length : Int) == (l.length : Int)) = false by simpa using h, Bool.false_and]
/-- the first sizes' sets that explain. -/
def smL (l : List (List Int)) (b : List Bool) (n : Nat) : Nat → Nat → List (List Int)
  | 0, _ => []
  | d + 1, s => if 0 < ((setsV n s).filter (ex l b)).length then (setsV n s).filter (ex l b) else smL l b n d (s + 1)
def smV (l : List (List Int)) (b : List Bool) (cols : Int) : List (List Int) := if verd l b cols = true then smL l b cols.toNat (cols.toNat + 1) 0 else []
theorem ism_1 (l : List (List Int)) (b : List Bool) (n s : Nat) (hn : n ≤ 6) (hl : l.length ≤ 1048576) (T : List (List Int)) (hT : T.length ≤ 64) (r : List (List Int)) : ∀ (d i : Nat) (acc : List (List Int)), i + d = T.length → acc.length ≤ i →
    (0 < (acc ++ (T.drop i).filter (ex l b)).length → r = acc ++ (T.drop i).filter (ex l b)) → ((acc ++ (T.drop i).filter (ex l b)).length = 0 → Ev (fun k => impl_SmallestSets.l0 k l b n ((n : Int) + 1) (wrap64 ((s : Int) + 1))) r) →
    Ev (fun k => impl_SmallestSets.l1 k l b n acc ((n : Int) + 1) s T T.length i) r := by
  intro d
  induction d with
  | zero =>
    intro i acc hi ha e1 e2
    rw [List.drop_eq_nil_of_le (by omega), List.filter_nil, List.append_nil] at e1 e2
    refine Ev.step (fun k => impl_SmallestSets.l1.eq_2 _ _ _ _ _ _ _ _ _ k) ?_
    refine Ev.neg (by omega) ?_
    by_cases h : (acc.length : Int) > 0
    · exact Ev.pos h (Ev.some_ (e1 (by omega)).symm)
    · exact Ev.neg h (e2 (by omega))
  | succ d ih =>
    intro i acc hi ha e1 e2
    have hlt : i < T.length := by omega
    rw [List.drop_eq_getElem_cons hlt, List.filter_cons] at e1 e2
    refine Ev.step (fun k => impl_SmallestSets.l1.eq_2 _ _ _ _ _ _ _ _ _ k) ?_
    refine Ev.pos (by omega) ?_
    refine Ev.pos (by omega) ?_
    refine Ev.pos (by omega) ?_
    rw [rd1 T i hlt]
    refine Ev.bind (iex l b _ hl) ?_
    simp only [wnx hlt (by omega)]
    by_cases h : ex l b T[i] = true
    · refine Ev.pos h ?_
      refine Ev.pos (by omega) ?_
      rw [if_pos h] at e1 e2
      refine ih (i + 1) (acc ++ [T[i]]) (by omega) (by simp; omega) (fun h0 => ?_) (fun h0 => ?_)
      · rw [List.append_assoc] at h0 ⊢; exact e1 h0
      · rw [List.append_assoc] at h0; exact e2 h0
    · refine Ev.neg h ?_
      rw [if_neg h] at e1 e2
      exact ih (i + 1) acc (by omega) (by omega) e1 e2
theorem ism_0 (l : List (List Int)) (b : List Bool) (n : Nat) (hn : n ≤ 6) (hl : l.length ≤ 1048576) : ∀ (d s : Nat), s + d = n + 1 → Ev (fun k => impl_SmallestSets.l0 k l b n ((n : Int) + 1) s) (smL l b n d s) := by
  intro d
  induction d with
  | zero =>
    intro s hs
    refine Ev.step (fun k => impl_SmallestSets.l0.eq_2 _ _ _ _ _ k) ?_
    exact Ev.neg (by omega) (Ev.now _)
  | succ d ih =>
    intro s hs
    refine Ev.step (fun k => impl_SmallestSets.l0.eq_2 _ _ _ _ _ k) ?_
    refine Ev.pos (by omega) ?_
    refine Ev.bnow (isets n s) ?_
    have hT := setsV_is n s
    have hw : wrap64 ((s : Int) + 1) = ((s + 1 : Nat) : Int) := wnx (show s < 8 by omega) (by omega)
    have e := ih (s + 1) (by omega)
    unfold smL
    refine ism_1 l b n s hn hl (setsV n s) hT.1 _ (setsV n s).length 0 [] (by omega) (by simp) (fun h => ?_) (fun h => ?_)
    · rw [List.drop_zero, List.nil_append] at h ⊢
      rw [if_pos h]
    · rw [List.drop_zero, List.nil_append] at h
      rw [if_neg (by omega), hw]
      exact e
theorem ism (l : List (List Int)) (b : List Bool) (cols : Int) (hl : l.length ≤ 1048576) (hm : ∀ x ∈ l, x.length ≤ 1048576) : Ev (fun k => impl_SmallestSets.f k l b cols) (smV l b cols) := by
  unfold impl_SmallestSets.f smV
  refine Ev.bind (implVerd l b cols hl hm) ?_
  by_cases h : verd l b cols = true
  · have hi := im_is (verd_is h).1
    refine Ev.pos h ?_
    rw [if_pos h]
    obtain ⟨n, rfl⟩ := Int.eq_ofNat_of_zero_le (show 0 ≤ cols by omega)
    rw [wr (x := (n : Int) + 1) (by omega) (by omega)]
    exact ism_0 l b n (by omega) hl (n + 1) 0 (by omega)
  · refine Ev.neg h ?_
    rw [if_neg h]
    exact Ev.now _
theorem smL_is (l : List (List Int)) (b : List Bool) (n : Nat) : ∀ (d s : Nat), (smL l b n d s = [] ∧ ∀ j, s ≤ j → j < s + d → (setsV n j).filter (ex l b) = []) ∨ ∃ j, s ≤ j ∧ j < s + d ∧ smL l b n d s = (setsV n j).filter (ex l b) ∧ 0 < (smL l b n d s).length ∧ ∀ i, s ≤ i → i < j → (setsV n i).filter (ex l b) = []
  | 0, s => .inl ⟨rfl, fun j h1 h2 => by omega⟩
  | d + 1, s => by
    unfold smL
    by_cases h : 0 < ((setsV n s).filter (ex l b)).length
    · rw [if_pos h]
      exact .inr ⟨s, Nat.le_refl _, by omega, rfl, h, fun i h1 h2 => by omega⟩
    · rw [if_neg h]
      have h0 : (setsV n s).filter (ex l b) = [] := List.eq_nil_of_length_eq_zero (by omega)
      rcases smL_is l b n d (s + 1) with ⟨h1, h2⟩ | ⟨j, h1, h2, h3, h4, h5⟩
      · refine .inl ⟨h1, fun j a c => ?_⟩
        by_cases e : j = s
        · subst e; exact h0
        · exact h2 j (by omega) (by omega)
      · refine .inr ⟨j, by omega, by omega, h3, h4, fun i a c => ?_⟩
        by_cases e : i = s
        · subst e; exact h0
        · exact h5 i (by omega) c

def sP (c : Nat) (z : List Int × Bool) : Bool := z.2 && (rd z.1 (c : Int) == 1)
def sN (c : Nat) (z : List Int × Bool) : Bool := z.2 || (rd z.1 (c : Int) == 0)
def sQ (c : Nat) (z : List Int × Bool) : Bool := !z.2 && (rd z.1 (c : Int) == 1)
/-- whether the column is used by a row that failed, and by none that did not. -/
def susK (l : List (List Int)) (b : List Bool) (c : Nat) : Bool := (l.zip b).any (sP c) && (l.zip b).all (sN c)
def susV (l : List (List Int)) (b : List Bool) (cols : Int) : List Int := if verd l b cols = true then colsL (susK l b) cols.toNat else []
theorem susV_len (l : List (List Int)) (b : List Bool) (cols : Int) : (susV l b cols).length ≤ 6 := by
  unfold susV
  by_cases h : verd l b cols = true
  · rw [if_pos h]
    have := im_is (verd_is h).1
    exact Nat.le_trans (colsL_len _ _) (by omega)
  · rw [if_neg h]; simp
theorem zip_at (l : List (List Int)) (b : List Bool) (i : Nat) (h1 : i < l.length) (h2 : b.length = l.length) : (l.zip b).drop i = (l[i], b[i]'(by omega)) :: (l.zip b).drop (i + 1) := by
  have hz : i < (l.zip b).length := by rw [List.length_zip]; omega
  rw [List.drop_eq_getElem_cons hz]
  simp
theorem zip_end (l : List (List Int)) (b : List Bool) (i : Nat) (h1 : l.length ≤ i) : (l.zip b).drop i = [] := List.drop_eq_nil_of_le (by rw [List.length_zip]; omega)
theorem isu_1 (l : List (List Int)) (b : List Bool) (n : Nat) (hl : l.length ≤ 12) (hb : b.length = l.length) (hr : ∀ row ∈ l, (row.length : Int) = (n : Int)) (acc : List Int) (hacc : acc.length ≤ 6) (c : Nat) (hc : c < n) (hn : n ≤ 6) (r : List Int) : ∀ (d i : Nat) (p q : Bool), i + d = l.length →
    (((p || ((l.zip b).drop i).any (sP c)) && !(q || ((l.zip b).drop i).any (sQ c))) = true → Ev (fun k => impl_Suspects.l0 k l b (acc ++ [(c : Int)]) n ((c + 1 : Nat) : Int)) r) → (((p || ((l.zip b).drop i).any (sP c)) && !(q || ((l.zip b).drop i).any (sQ c))) = false → Ev (fun k => impl_Suspects.l0 k l b acc n ((c + 1 : Nat) : Int)) r) →
    Ev (fun k => impl_Suspects.l1 k l b acc c p q n c l l.length i) r := by
  have hcw := wnx hc (by omega)
  intro d
  induction d with
  | zero =>
    intro i p q hi e1 e2
    refine Ev.step (fun k => impl_Suspects.l1.eq_2 _ _ _ _ _ _ _ _ _ _ _ k) ?_
    refine Ev.neg (by omega) ?_
    rw [zip_end l b i (by omega)] at e1 e2
    rw [hcw]
    cases p with
    | true =>
      refine Ev.pos rfl ?_
      cases q with
      | true => exact Ev.pos rfl (e2 rfl)
      | false => exact Ev.neg (by simp) (Ev.pos (by omega) (e1 rfl))
    | false => exact Ev.neg (by simp) (e2 (by simp))
  | succ d ih =>
    intro i p q hi e1 e2
    have hlt : i < l.length := by omega
    have hltb : i < b.length := by omega
    have hrow := hr l[i] (List.getElem_mem hlt)
    have hiw := wnx hlt (by omega)
    have hz := zip_at l b i hlt hb
    have hbr := rdof_get b i hltb
    have key : ∀ p' q' : Bool, p' = (p || sP c (l[i], b[i])) → q' = (q || sQ c (l[i], b[i])) → Ev (fun k => impl_Suspects.l1 k l b acc c p' q' n c l l.length ((i + 1 : Nat) : Int)) r := by
      intro p' q' hp hq
      rw [hz, List.any_cons, List.any_cons, ← Bool.or_assoc, ← Bool.or_assoc, ← hp, ← hq] at e1 e2
      exact ih (i + 1) p' q' (by omega) e1 e2
    clear e1 e2 ih
    refine Ev.step (fun k => impl_Suspects.l1.eq_2 _ _ _ _ _ _ _ _ _ _ _ k) ?_
    refine Ev.pos (by omega) ?_
    refine Ev.pos (by omega) ?_
    refine Ev.pos (by omega) ?_
    rw [hiw, hbr, rd1 l i hlt]
    generalize hbi : b[i] = bi at key
    unfold sP sQ at key
    dsimp only at key
    cases p with
    | true =>
      refine Ev.pos rfl ?_
      cases q with
      | true => exact Ev.pos rfl (key _ _ (by simp) (by simp))
      | false =>
        refine Ev.neg (by simp) ?_
        refine Ev.pos (by omega) ?_
        refine Ev.pos (by omega) ?_
        by_cases h : rd l[i] (c : Int) = 1
        · exact Ev.pos h (Ev.pos (by omega) (key _ _ (by simp) (by simp [h])))
        · exact Ev.neg h (key _ _ (by simp) (by simp [h]))
    | false =>
      refine Ev.neg (by simp) ?_
      refine Ev.pos (by omega) ?_
      refine Ev.pos (by omega) ?_
      by_cases h : rd l[i] (c : Int) = 1
      · refine Ev.pos h ?_
        refine Ev.pos (by omega) ?_
        cases q with
        | true => exact Ev.pos rfl (key _ _ (by simp [h]) (by simp))
        | false => exact Ev.neg (by simp) (key _ _ (by simp [h]) (by simp [h]))
      · refine Ev.neg h ?_
        cases q with
        | true => exact Ev.pos rfl (key _ _ (by simp [h]) (by simp))
        | false => exact Ev.neg (by simp) (key _ _ (by simp [h]) (by simp [h]))
theorem susK_q (l : List (List Int)) (b : List Bool) (n : Nat) (c : Nat) (hc : c < n) (hr : ∀ row ∈ l, (row.length : Int) = (n : Int)) (hx : ∀ row ∈ l, ∀ x ∈ row, x = 0 ∨ x = 1) : susK l b c = ((l.zip b).any (sP c) && !((l.zip b).any (sQ c))) := by
  unfold susK
  congr 1
  rw [Bool.eq_iff_iff, List.all_eq_true, Bool.not_eq_true', List.any_eq_false]
  refine forall_congr' (fun z => forall_congr' (fun hz => ?_))
  have hm : z.1 ∈ l := by
    obtain ⟨a, b'⟩ := z
    exact (List.of_mem_zip hz).1
  have hlen := hr z.1 hm
  have hlt : c < z.1.length := by omega
  have h01 := hx z.1 hm (rd z.1 (c : Int)) (by rw [rd_get z.1 c hlt]; exact List.getElem_mem hlt)
  unfold sN sQ
  rcases h01 with h | h <;> rw [h] <;> cases z.2 <;> simp
theorem isu_0 (l : List (List Int)) (b : List Bool) (n : Nat) (hl : l.length ≤ 12) (hv : verd l b n = true) (hr : ∀ row ∈ l, (row.length : Int) = (n : Int)) (hn : n ≤ 6) : ∀ (d c : Nat), c + d = n → Ev (fun k => impl_Suspects.l0 k l b (colsL (susK l b) c) n c) (colsL (susK l b) n) := by
  intro d
  induction d with
  | zero =>
    intro c hc
    refine Ev.step (fun k => impl_Suspects.l0.eq_2 _ _ _ _ _ k) ?_
    refine Ev.neg (by omega) (Ev.some_ ?_)
    rw [show c = n by omega]
  | succ d ih =>
    intro c hc
    have hs := colsL_succ (susK l b) c
    have hq := susK_q l b n c (by omega) hr (verd_is hv).2.2
    have e := ih (c + 1) (by omega)
    rw [hs] at e
    refine Ev.step (fun k => impl_Suspects.l0.eq_2 _ _ _ _ _ k) ?_
    refine Ev.pos (by omega) ?_
    refine isu_1 l b n hl (verd_is hv).2.1 hr _ (Nat.le_trans (colsL_len _ _) (by omega)) c (by omega) hn _ l.length 0 false false (by omega) (fun h => ?_) (fun h => ?_)
    · rw [Bool.false_or, Bool.false_or, List.drop_zero, ← hq] at h
      rw [h] at e
      simpa using e
    · rw [Bool.false_or, Bool.false_or, List.drop_zero, ← hq] at h
      rw [h] at e
      simpa using e
theorem isu (l : List (List Int)) (b : List Bool) (cols : Int) (hl : l.length ≤ 1048576) (hm : ∀ x ∈ l, x.length ≤ 1048576) : Ev (fun k => impl_Suspects.f k l b cols) (susV l b cols) := by
  unfold impl_Suspects.f susV
  refine Ev.bind (implVerd l b cols hl hm) ?_
  by_cases h : verd l b cols = true
  · have hi := im_is (verd_is h).1
    refine Ev.pos h ?_
    rw [if_pos h]
    obtain ⟨n, rfl⟩ := Int.eq_ofNat_of_zero_le (show 0 ≤ cols by omega)
    exact isu_0 l b n hi.2.2.1 h hi.2.2.2 (by omega) n 0 (by omega)
  · refine Ev.neg h ?_
    rw [if_neg h]
    exact Ev.now _

theorem any_erase (P : Int → Bool) : ∀ (x : List Int) (p : Nat) (h : p < x.length), x.any P = (P x[p] || (x.eraseIdx p).any P)
  | [], p, h => by simp at h
  | a :: x, 0, h => by simp
  | a :: x, p + 1, h => by
    have hp : p < x.length := by simpa using h
    have ih := any_erase P x p hp
    rw [List.eraseIdx_cons_succ, List.any_cons, List.any_cons, ih, List.getElem_cons_succ]
    cases P a <;> cases P (x[p]'hp) <;> simp
theorem ex_is {l : List (List Int)} {b : List Bool} {x : List Int} (h : ex l b x = true) : ∀ z ∈ l.zip b, fw z.1 x = z.2 := by
  unfold ex at h
  rw [Bool.and_eq_true, List.all_eq_true] at h
  exact fun z hz => eq_of_beq (h.2 z hz)
theorem ex_of {l : List (List Int)} {b : List Bool} {x : List Int} (hb : b.length = l.length) (h : ∀ z ∈ l.zip b, fw z.1 x = z.2) : ex l b x = true := by
  unfold ex
  rw [Bool.and_eq_true, List.all_eq_true]
  exact ⟨by simp [hb], fun z hz => by simp [h z hz]⟩
theorem filt {l : List (List Int)} {b : List Bool} {n s : Nat} {x : List Int} (hs : s ≤ n) (hn : n ≤ 6) (hx : x ∈ setsN n s) (h : (setsV n s).filter (ex l b) = []) : ex l b x = false := by
  have e : setsV (n : Int) (s : Int) = setsN n s := by
    unfold setsV
    rw [if_pos (by omega), Int.toNat_natCast, Int.toNat_natCast]
  rw [e] at h
  have := List.filter_eq_nil_iff.1 h x hx
  simpa using this
theorem mem_T {l : List (List Int)} {b : List Bool} {n s : Nat} {x : List Int} (hs : s ≤ n) (hn : n ≤ 6) (h : x ∈ (setsV n s).filter (ex l b)) : x ∈ setsN n s ∧ ex l b x = true := by
  have e : setsV (n : Int) (s : Int) = setsN n s := by
    unfold setsV
    rw [if_pos (by omega), Int.toNat_natCast, Int.toNat_natCast]
  rw [e] at h
  exact List.mem_filter.1 h
theorem fwB_nat {row : List Int} {k : Int} {n : Nat} (hr : (row.length : Int) = n) (h0 : 0 ≤ k) (h1 : k < (n : Int)) : fwB row k = decide (rd row ((k.toNat : Nat) : Int) = 1) := by
  unfold fwB
  rw [Int.toNat_of_nonneg h0]
  by_cases h : rd row k = 1
  · rw [decide_eq_true h, decide_eq_true ⟨h0, by omega, h⟩]
  · rw [decide_eq_false h, decide_eq_false (fun x => h x.2.2)]
/-- whoever is in a smallest set is suspect. -/
theorem small_sus {l : List (List Int)} {b : List Bool} {n : Nat} (hv : verd l b n = true) {j : Nat} (hj : j ≤ n) (hno : ∀ i, i < j → (setsV n i).filter (ex l b) = []) {x : List Int} (hx : x ∈ (setsV n j).filter (ex l b)) {k : Int} (hk : k ∈ x) : k ∈ susV l b n := by
  obtain ⟨him, hbl, hbits⟩ := verd_is hv
  obtain ⟨hn1, hn6, hl12, hrow⟩ := im_is him
  have hn : n ≤ 6 := by omega
  obtain ⟨hxs, hxe⟩ := mem_T hj hn hx
  have hex := ex_is hxe
  obtain ⟨hlen, hmem⟩ := (sets_is hn (show j ≤ 6 by omega)).2 x hxs
  obtain ⟨k0, k1⟩ := hmem k hk
  unfold susV
  rw [if_pos hv, Int.toNat_natCast, cols_mem]
  refine ⟨k.toNat, by omega, ?_, by omega⟩
  unfold susK
  rw [Bool.and_eq_true]
  constructor
  · obtain ⟨p, hp, hpk⟩ := List.getElem_of_mem hk
    obtain ⟨s, rfl⟩ : ∃ s, j = s + 1 := ⟨j - 1, by omega⟩
    have hy := sets_erase hn (by omega) hxs (show p < s + 1 by omega)
    have hye := filt (show s ≤ n by omega) hn hy (hno s (by omega))
    by_cases hc : (l.zip b).any (sP k.toNat) = true
    · exact hc
    · exfalso
      have hc' : ∀ z ∈ l.zip b, ¬ sP k.toNat z = true := by
        intro z hz hs
        exact hc (List.any_eq_true.2 ⟨z, hz, hs⟩)
      have : ex l b (x.eraseIdx p) = true := by
        refine ex_of hbl (fun z hz => ?_)
        have h1 := hex z hz
        have h2 := hc' z hz
        have hm : z.1 ∈ l := by
          obtain ⟨a, b'⟩ := z
          exact (List.of_mem_zip hz).1
        have h3 := fwB_nat (hrow z.1 hm) k0 k1
        have h4 : fw z.1 x = (fwB z.1 k || fw z.1 (x.eraseIdx p)) := by
          have := any_erase (fwB z.1) x p hp
          rw [hpk] at this
          exact this
        unfold sP at h2
        rw [h1] at h4
        by_cases h5 : rd z.1 ((k.toNat : Nat) : Int) = 1
        · have hz2 : z.2 = false := by
            cases hz2 : z.2 with
            | false => rfl
            | true => exfalso; rw [hz2] at h2; exact h2 (by rw [h5]; rfl)
          rw [h3, decide_eq_true h5, Bool.true_or, hz2] at h4
          exact absurd h4 (by simp)
        · rw [h3, decide_eq_false h5, Bool.false_or] at h4
          exact h4.symm
      rw [this] at hye
      exact absurd hye (by simp)
  · rw [List.all_eq_true]
    intro z hz
    have h1 := hex z hz
    have hm : z.1 ∈ l := by
      obtain ⟨a, b'⟩ := z
      exact (List.of_mem_zip hz).1
    have h3 := fwB_nat (hrow z.1 hm) k0 k1
    unfold sN
    cases hz2 : z.2 with
    | true => rfl
    | false =>
      rw [hz2] at h1
      have h4 : fwB z.1 k = false := by
        have := List.any_eq_false.1 h1 k hk
        simpa using this
      rw [h3] at h4
      have h5 := of_decide_eq_false h4
      have hr := hrow z.1 hm
      have hlt : k.toNat < z.1.length := by omega
      have h01 := hbits z.1 hm (rd z.1 ((k.toNat : Nat) : Int)) (by rw [rd_get z.1 _ hlt]; exact List.getElem_mem hlt)
      have : rd z.1 ((k.toNat : Nat) : Int) = 0 := by
        rcases h01 with h | h
        · exact h
        · exact absurd h h5
      rw [this]; rfl
/-- a set of suspects that holds an explaining set explains. -/
theorem sus_ex {l : List (List Int)} {b : List Bool} {n : Nat} (hv : verd l b n = true) {x : List Int} (hx : ex l b x = true) (hs : ∀ k ∈ x, k ∈ susV l b n) : ex l b (susV l b n) = true := by
  obtain ⟨him, hbl, hbits⟩ := verd_is hv
  obtain ⟨hn1, hn6, hl12, hrow⟩ := im_is him
  have hex := ex_is hx
  refine ex_of hbl (fun z hz => ?_)
  have h1 := hex z hz
  have hm : z.1 ∈ l := by
    obtain ⟨a, b'⟩ := z
    exact (List.of_mem_zip hz).1
  cases hz2 : z.2 with
  | true =>
    rw [hz2] at h1
    obtain ⟨k, hk, hf⟩ := List.any_eq_true.1 h1
    exact List.any_eq_true.2 ⟨k, hs k hk, hf⟩
  | false =>
    refine List.any_eq_false.2 (fun k hk => ?_)
    have hk' := hk
    unfold susV at hk'
    rw [if_pos hv, Int.toNat_natCast, cols_mem] at hk'
    obtain ⟨i, hi, hsk, rfl⟩ := hk'
    have h3 := fwB_nat (k := (i : Int)) (hrow z.1 hm) (by omega) (by omega)
    unfold susK at hsk
    rw [Bool.and_eq_true] at hsk
    have h4 := List.all_eq_true.1 hsk.2 z hz
    unfold sN at h4
    rw [hz2, Bool.false_or] at h4
    have h5 := eq_of_beq h4
    rw [h3, Int.toNat_natCast, decide_eq_false (by omega)]
    simp
/-- there is a smallest set just where the suspects explain. -/
theorem some_sus {l : List (List Int)} {b : List Bool} {n : Nat} (hv : verd l b n = true) : (smV l b n = [] ∧ ex l b (susV l b n) = false) ∨ (∃ j, j ≤ n ∧ smV l b n = (setsV n j).filter (ex l b) ∧ 0 < (smV l b n).length ∧ (∀ i, i < j → (setsV n i).filter (ex l b) = []) ∧ ex l b (susV l b n) = true) := by
  obtain ⟨him, hbl, hbits⟩ := verd_is hv
  obtain ⟨hn1, hn6, hl12, hrow⟩ := im_is him
  have hn : n ≤ 6 := by omega
  have e : smV l b n = smL l b n (n + 1) 0 := by
    unfold smV
    rw [if_pos hv, Int.toNat_natCast]
  rw [e]
  rcases smL_is l b n (n + 1) 0 with ⟨h1, h2⟩ | ⟨j, h1, h2, h3, h4, h5⟩
  · refine .inl ⟨h1, ?_⟩
    have hs : susV l b n = colsL (susK l b) n := by
      unfold susV
      rw [if_pos hv, Int.toNat_natCast]
    have hl := colsL_len (susK l b) n
    have hc := cols_set (susK l b) hn
    rw [hs]
    exact filt hl hn hc (h2 _ (by omega) (by omega))
  · refine .inr ⟨j, by omega, h3, h4, fun i hi => h5 i (by omega) hi, ?_⟩
    have hm : (smL l b n (n + 1) 0)[0] ∈ (setsV n j).filter (ex l b) := by
      rw [← h3]; exact List.getElem_mem h4
    exact sus_ex hv (mem_T (show j ≤ n by omega) hn hm).2 (fun k hk => small_sus hv (by omega) (fun i hi => h5 i (by omega) hi) hm hk)

theorem cont_l (l : List Int) (a : Int) (hl : l.length ≤ 1048576) : ∀ (d i : Nat), i + d = l.length → Ev (fun k => laws_contains.l0 k l a i) ((l.drop i).contains a) := by
  intro d
  induction d with
  | zero =>
    intro i hi
    refine Ev.step (fun k => laws_contains.l0.eq_2 _ _ _ k) ?_
    refine Ev.neg (by omega) (Ev.some_ ?_)
    rw [List.drop_eq_nil_of_le (by omega)]; rfl
  | succ d ih =>
    intro i hi
    have hlt : i < l.length := by omega
    refine Ev.step (fun k => laws_contains.l0.eq_2 _ _ _ k) ?_
    refine Ev.pos (by omega) ?_
    refine Ev.pos (by omega) ?_
    rw [rd_get l i hlt, List.drop_eq_getElem_cons hlt, List.contains_cons]
    by_cases h : l[i] = a
    · refine Ev.pos h (Ev.some_ ?_)
      simp [h]
    · refine Ev.neg h ?_
      simp only [wnx hlt (by omega)]
      have : (a == l[i]) = false := by simpa using fun e => h e.symm
      rw [this, Bool.false_or]
      exact ih (i + 1) (by omega)
theorem cont (l : List Int) (a : Int) (hl : l.length ≤ 1048576) : Ev (fun k => laws_contains.f k l a) (l.contains a) := by
  unfold laws_contains.f
  exact cont_l l a hl l.length 0 (by omega)

theorem big_eq (l : List Int) : laws_big.f l = some (decide ((l.length : Int) > 1048576)) := rfl

theorem law_l1 (l : List (List Int)) (b : List Bool) (c : Int) (L : List (List Int)) (s : List Int) (i : Nat) (hi : i < L.length) (hL : L.length ≤ 64) (hx : L[i].length ≤ 6) (hs : s.length ≤ 6) (hk : ∀ k ∈ L[i], k ∈ s) (e : Ev (fun k => laws_FnExplained.l0 k l b c L s ((i + 1 : Nat) : Int)) true) : ∀ (d j : Nat), j + d = L[i].length → Ev (fun k => laws_FnExplained.l1 k l b c L s i j) true := by
  have hiw := wnx hi (by omega)
  intro d
  induction d with
  | zero =>
    intro j hj
    refine Ev.step (fun k => laws_FnExplained.l1.eq_2 _ _ _ _ _ _ _ k) ?_
    refine Ev.pos (by omega) ?_
    refine Ev.pos (by omega) ?_
    rw [rd1 L i hi]
    refine Ev.neg (by omega) ?_
    simp only [hiw]
    exact e
  | succ d ih =>
    intro j hj
    have hlt : j < L[i].length := by omega
    have hjw := wnx hlt (by omega)
    refine Ev.step (fun k => laws_FnExplained.l1.eq_2 _ _ _ _ _ _ _ k) ?_
    refine Ev.pos (by omega) ?_
    refine Ev.pos (by omega) ?_
    rw [rd1 L i hi]
    refine Ev.pos (by omega) ?_
    refine Ev.pos (by omega) ?_
    rw [rd_get L[i] j hlt]
    refine Ev.bind (cont s _ (by omega)) ?_
    refine Ev.pos ?_ ?_
    · rw [List.contains_iff_mem]; exact hk _ (List.getElem_mem hlt)
    · simp only [hjw]
      exact ih (j + 1) (by omega)
theorem law_l0 (l : List (List Int)) (b : List Bool) (c : Int) (L : List (List Int)) (s : List Int) (hl : l.length ≤ 64) (hL : L.length ≤ 64) (hs : s.length ≤ 6) (q : Nat) (hq : q ≤ 6) (hx : ∀ x ∈ L, x.length = q ∧ ex l b x = true ∧ ∀ k ∈ x, k ∈ s) (e : Ev (fun k => laws_FnExplained.l2 k l b c L s 0) true) : ∀ (d i : Nat), i + d = L.length → Ev (fun k => laws_FnExplained.l0 k l b c L s i) true := by
  intro d
  induction d with
  | zero =>
    intro i hi
    refine Ev.step (fun k => laws_FnExplained.l0.eq_2 _ _ _ _ _ _ k) ?_
    exact Ev.neg (by omega) e
  | succ d ih =>
    intro i hi
    have hlt : i < L.length := by omega
    have h1 := hx L[i] (List.getElem_mem hlt)
    have h0 := hx (L[0]'(by omega)) (List.getElem_mem _)
    have r0 : rd_L1 L 0 = L[0]'(by omega) := rd1 L 0 (by omega)
    refine Ev.step (fun k => laws_FnExplained.l0.eq_2 _ _ _ _ _ _ k) ?_
    refine Ev.pos (by omega) ?_
    refine Ev.pos (by omega) ?_
    rw [rd1 L i hlt, r0]
    refine Ev.bind (iex l b _ (by omega)) ?_
    refine Ev.pos h1.2.1 ?_
    refine Ev.pos (by omega) ?_
    refine Ev.step (fun k => laws_FnExplained.j1.eq_2 _ _ _ _ _ _ _ k) ?_
    refine Ev.neg ?_ ?_
    · rw [h1.1, h0.1]; simp
    · exact law_l1 l b c L s i hlt hL (by omega) hs h1.2.2 (ih (i + 1) (by omega)) L[i].length 0 (by omega)
theorem law_l3 (l : List (List Int)) (b : List Bool) (n : Nat) (L : List (List Int)) (s : List Int) (q : Nat) (hq : q < 64) (hl : l.length ≤ 64) (T : List (List Int)) (hT : T.length ≤ 64) (hx : ∀ x ∈ T, ex l b x = false) (e : Ev (fun k => laws_FnExplained.l2 k l b n L s ((q + 1 : Nat) : Int)) true) : ∀ (d i : Nat), i + d = T.length → Ev (fun k => laws_FnExplained.l3 k l b n L s q T i) true := by
  have hqw := wnx hq (by omega)
  intro d
  induction d with
  | zero =>
    intro i hi
    refine Ev.step (fun k => laws_FnExplained.l3.eq_2 _ _ _ _ _ _ _ _ k) ?_
    refine Ev.neg (by omega) ?_
    simp only [hqw]
    exact e
  | succ d ih =>
    intro i hi
    have hlt : i < T.length := by omega
    have h1 := hx T[i] (List.getElem_mem hlt)
    refine Ev.step (fun k => laws_FnExplained.l3.eq_2 _ _ _ _ _ _ _ _ k) ?_
    refine Ev.pos (by omega) ?_
    refine Ev.pos (by omega) ?_
    rw [rd1 T i hlt]
    refine Ev.bind (iex l b _ (by omega)) ?_
    refine Ev.neg (by rw [h1]; simp) ?_
    simp only [wnx hlt (by omega)]
    exact ih (i + 1) (by omega)
theorem law_end (l : List (List Int)) (b : List Bool) (n : Nat) (L : List (List Int)) (s : List Int) (q : Int) (hl : l.length ≤ 64) (he : decide ((L.length : Int) > 0) = ex l b s) : Ev (fun k => laws_FnExplained.j4 k l b n L s q false) true := by
  refine Ev.step (fun k => laws_FnExplained.j4.eq_2 _ _ _ _ _ _ _ k) ?_
  refine Ev.neg (by simp) ?_
  refine Ev.bind (iex l b _ (by omega)) (Ev.some_ ?_)
  rw [he]; simp
theorem law_l2 (l : List (List Int)) (b : List Bool) (n : Nat) (L : List (List Int)) (s : List Int) (hl : l.length ≤ 64) (h0 : 0 < L.length) (q : Nat) (hq : L[0].length = q) (hq6 : q ≤ 6) (hT : ∀ i, i < q → (setsV n i).filter (ex l b) = []) (he : decide ((L.length : Int) > 0) = ex l b s) : ∀ (d i : Nat), i + d = q → Ev (fun k => laws_FnExplained.l2 k l b n L s i) true := by
  have r0 : rd_L1 L 0 = L[0] := rd1 L 0 (by omega)
  intro d
  induction d with
  | zero =>
    intro i hi
    refine Ev.step (fun k => laws_FnExplained.l2.eq_2 _ _ _ _ _ _ k) ?_
    refine Ev.pos (by omega) ?_
    refine Ev.pos (by omega) ?_
    rw [r0, decide_eq_false (by omega)]
    exact law_end l b n L s i hl he
  | succ d ih =>
    intro i hi
    refine Ev.step (fun k => laws_FnExplained.l2.eq_2 _ _ _ _ _ _ k) ?_
    refine Ev.pos (by omega) ?_
    refine Ev.pos (by omega) ?_
    rw [r0, decide_eq_true (by omega)]
    refine Ev.step (fun k => laws_FnExplained.j4.eq_2 _ _ _ _ _ _ _ k) ?_
    refine Ev.pos rfl ?_
    refine Ev.bnow (isets n i) ?_
    refine law_l3 l b n L s i (by omega) hl _ (setsV_is n i).1 (fun x hx => ?_) (ih (i + 1) (by omega)) (setsV n i).length 0 (by omega)
    have := List.filter_eq_nil_iff.1 (hT i (by omega)) x hx
    simpa using this
theorem FnExplained : laws_FnExplained.Pure := by
  intro l0 h1 h2 h3
  refine Ev.rounds (g := fun j => laws_FnExplained.f j l0) ?_
  unfold laws_FnExplained.f
  refine Ev.bnow (big_eq l0) ?_
  by_cases hb : (l0.length : Int) > 1048576
  · exact Ev.pos (decide_eq_true hb) (Ev.now _)
  refine Ev.neg (by simpa using hb) ?_
  obtain ⟨l, b, c, hl, hm, e⟩ := ds_ok l0 (by omega)
  have hm' : ∀ x ∈ l, x.length ≤ 1048576 := fun x hx => by have := hm x hx; omega
  have hv : ∀ v, v = verd l b c → ¬ (v != v) = true := by intro v _; simp
  refine Ev.bind e ?_
  refine Ev.bind (ism l b c (by omega) hm') ?_
  refine Ev.bind (isu l b c (by omega) hm') ?_
  refine Ev.bind (implVerd l b c (by omega) hm') ?_
  refine Ev.bind (specVerd l b c (by omega) hm') ?_
  refine Ev.neg (hv _ rfl) ?_
  refine Ev.bind (implVerd l b c (by omega) hm') ?_
  have hs6 := susV_len l b c
  by_cases h : verd l b c = true
  · refine Ev.pos h ?_
    have hi := im_is (verd_is h).1
    obtain ⟨n, rfl⟩ := Int.eq_ofNat_of_zero_le (show 0 ≤ c by omega)
    have hn : n ≤ 6 := by omega
    rcases some_sus h with ⟨hE, hx⟩ | ⟨j, hj, hE, hpos, hno, hx⟩
    · rw [hE]
      have hz : Ev (fun k => laws_FnExplained.l2 k l b n [] (susV l b n) 0) true := by
        refine Ev.step (fun k => laws_FnExplained.l2.eq_2 _ _ _ _ _ _ k) ?_
        refine Ev.neg (by simp) ?_
        exact law_end l b n [] _ 0 hl (by rw [hx]; simp)
      exact law_l0 l b n [] _ hl (by simp) hs6 0 (by omega) (by simp) hz 0 0 (by simp)
    · have hT := setsV_is n j
      have hmm : ∀ x ∈ smV l b n, x.length = j ∧ ex l b x = true ∧ ∀ k ∈ x, k ∈ susV l b n := by
        intro x hxm
        rw [hE] at hxm
        have hxx := mem_T hj hn hxm
        exact ⟨((sets_is hn (show j ≤ 6 by omega)).2 x hxx.1).1, hxx.2, fun k hk => small_sus h hj hno hxm hk⟩
      have hL : (smV l b n).length ≤ 64 := by
        rw [hE]; exact Nat.le_trans (List.length_filter_le _ _) hT.1
      have hz := law_l2 l b n (smV l b n) (susV l b n) hl hpos j (hmm _ (List.getElem_mem hpos)).1 (by omega) hno (by rw [hx]; exact decide_eq_true (by omega)) j 0 (by omega)
      exact law_l0 l b n _ _ hl hL hs6 j (by omega) hmm hz (smV l b n).length 0 (by omega)
  · refine Ev.neg h ?_
    have e1 : smV l b c = [] := by unfold smV; rw [if_neg h]
    have e2 : susV l b c = [] := by unfold susV; rw [if_neg h]
    rw [e1, e2]
    exact Ev.pos rfl (Ev.now _)

end Go.Proofs.Ytoniljblfenpeaa.Pure
