/- The law FnPlanned returns true at every code: no plan of the drawn guesses and rows is shorter than the least one, none probes a row twice, and the best row is the best. No condition. -/
import Derived.Test.YtbbfgkjhnfcjiaaHFnPlannedx6
namespace Go.Proofs.Ytbbfgkjhnfcjiaa.Pure
open Go.RowKit Go.Proofs.Ytbbfgkjhnfcjiaa.PFnPlanned Go.Proofs.YtbbfgkjhnfcjiaaW.PrintWords Go.Proofs.YtbbfgkjhnfcjiaaW.PrintLast
set_option linter.unusedSimpArgs false
set_option linter.unusedVariables false

theorem big_eq (l : List Int) : laws_big.f l = some (decide ((l.length : Int) > 1048576)) := rfl

theorem wr {x : Int} (h1 : -9223372036854775808 ≤ x) (h2 : x ≤ 9223372036854775807) : wrap64 x = x := by unfold wrap64; omega
theorem Ev.pos {α : Type} {c : Prop} [Decidable c] {g f : Nat → Option α} {r : α} (h : c) (e : Ev g r) : Ev (fun k => if c then g k else f k) r := by
  simp only [if_pos h]; exact e
theorem Ev.neg {α : Type} {c : Prop} [Decidable c] {g f : Nat → Option α} {r : α} (h : ¬ c) (e : Ev f r) : Ev (fun k => if c then g k else f k) r := by
  simp only [if_neg h]; exact e
theorem Ev.some_ {α : Type} {r r' : α} (h : r = r') : Ev (fun _ => some r) r' := h ▸ Ev.now r
theorem Ev.bnow {α β : Type} {g : Option α} {f : Nat → α → Option β} {a : α} {r : β} (h : g = some a) (k : Ev (fun n => f n a) r) : Ev (fun n => g.bind (f n)) r := by
  subst h; exact k

theorem and_le (x : Int) (m : Nat) (hm : m < 4611686018427387904) : 0 ≤ Go.bits .and .i64 x m ∧ Go.bits .and .i64 x m ≤ m := by
  simp only [Go.bits, BitVec.toNat_and, BitVec.ofInt_natCast, BitVec.toNat_ofNat]
  have h1 : (BitVec.ofInt IntKind.i64.bits x).toNat &&& m % 2 ^ IntKind.i64.bits ≤ m % 2 ^ IntKind.i64.bits := Nat.and_le_right
  have h2 : m % 2 ^ IntKind.i64.bits = m := Nat.mod_eq_of_lt (by show m < 2 ^ 64; omega)
  rw [h2] at h1 ⊢
  rw [i64_w, wr (by omega) (by omega)]
  omega
theorem new_l (l : List Int) (hl : l.length ≤ 1048576) : ∀ (d i : Nat) (h : Int), l.length - i ≤ d → i ≤ l.length → ∃ h', Ev (fun k => spec_l1New.l0 k l h i) (l, 0, h') := by
  intro d
  induction d with
  | zero =>
    intro i h hi hi2
    refine ⟨h, Ev.step (fun k => spec_l1New.l0.eq_2 _ _ _ k) ?_⟩
    exact Ev.neg (by omega) (Ev.now _)
  | succ d ih =>
    intro i h hi hi2
    by_cases h1 : (i : Int) < (l.length : Int)
    · by_cases h2 : (i : Int) < 4000
      · obtain ⟨h', e⟩ := ih (i + 1) (Go.bits .and .i64 (wrap64 ((wrap64 ((wrap64 (h * 137)) + (wrap64 (rd l i)))) + 11)) 1073741823) (by omega) (by omega)
        refine ⟨h', Ev.step (fun k => spec_l1New.l0.eq_2 _ _ _ k) (Ev.pos h1 (Ev.pos h2 (Ev.pos (by omega) ?_)))⟩
        rw [wr (x := (i : Int) + 1) (by omega) (by omega)]
        exact e
      · exact ⟨h, Ev.step (fun k => spec_l1New.l0.eq_2 _ _ _ k) (Ev.pos h1 (Ev.neg h2 (Ev.now _)))⟩
    · exact ⟨h, Ev.step (fun k => spec_l1New.l0.eq_2 _ _ _ k) (Ev.neg h1 (Ev.now _))⟩
theorem new_ok (l : List Int) (hl : l.length ≤ 1048576) : ∃ h, Ev (fun k => spec_l1New.f k l) (l, 0, h) := by
  unfold spec_l1New.f
  exact new_l l hl l.length 0 _ (by omega) (by omega)
/-- The cursor stands in the bytes. -/
def Cur (b : List Int) (i : Int) : Prop := 0 ≤ i ∧ i ≤ b.length ∧ b.length ≤ 1048576
theorem byte_ok (b : List Int) (i h : Int) (hc : Cur b i) : ∃ x i' h', spec_l1Byte.f b i h = some (x, i', h') ∧ 0 ≤ x ∧ x ≤ 255 ∧ Cur b i' := by
  obtain ⟨h0, h1, h2⟩ := hc
  unfold spec_l1Byte.f
  by_cases hi : i < (b.length : Int)
  · rw [if_pos hi, if_pos h0, wr (x := i + 1) (by omega) (by omega)]
    have a := and_le (wrap64 ((Go.bits .and .i64 (Go.bits .xor .i64 ((wrap64 ((wrap64 (h * 6364136223846793005)) + 1442695040888963407)) / 8589934592) ((wrap64 ((wrap64 (h * 6364136223846793005)) + 1442695040888963407)) / 140737488355328)) 255) + (wrap64 (rd b i)))) 255 (by decide)
    exact ⟨_, _, _, rfl, a.1, a.2, by omega, by omega, h2⟩
  · rw [if_neg hi]
    have a := and_le (Go.bits .xor .i64 ((wrap64 ((wrap64 (h * 6364136223846793005)) + 1442695040888963407)) / 8589934592) ((wrap64 ((wrap64 (h * 6364136223846793005)) + 1442695040888963407)) / 140737488355328)) 255 (by decide)
    exact ⟨_, _, _, rfl, a.1, a.2, h0, h1, h2⟩
theorem below_ok (b : List Int) (i h a : Int) (hc : Cur b i) (ha : 0 < a) (ha2 : a ≤ 256) : ∃ x i' h', spec_l1Below.f b i h a = some (x, i', h') ∧ 0 ≤ x ∧ x < a ∧ Cur b i' := by
  obtain ⟨x, i', h', e, h0, h1, hc'⟩ := byte_ok b i h hc
  refine ⟨Int.tmod x a, i', h', ?_, Int.tmod_nonneg _ h0, Int.tmod_lt_of_pos _ ha, hc'⟩
  unfold spec_l1Below.f
  rw [if_neg (by omega), if_pos ha2, e]
  simp only [Option.bind_some]
  rw [if_neg (by omega)]

theorem wnx {i n : Nat} (h : i < n) (hn : n ≤ 9223372036854775807) : wrap64 ((i : Int) + 1) = ((i + 1 : Nat) : Int) := by rw [wr (by omega) (by omega)]; rfl
theorem rd_get (l : List Int) (i : Nat) (h : i < l.length) : rd l (i : Int) = l[i] := by simp [rd, List.getD, h]

theorem once_ok (b : List Int) (i h a : Int) (hc : Cur b i) (ha : 0 < a) (ha2 : a ≤ 256) : ∃ x i' h', spec_l1Once.f b i h a = some (x, i', h') ∧ Cur b i' := by
  obtain ⟨x, i', h', e, _, _, c⟩ := below_ok b i h a hc ha ha2
  refine ⟨x == 0, i', h', ?_, c⟩
  unfold spec_l1Once.f
  rw [e]; rfl

def tot (l : List (List Int)) : Nat := (l.map List.length).sum
theorem rd1 (l : List (List Int)) (i : Nat) (h : i < l.length) : rd_L1 l (i : Int) = l[i] := by simp [rd_L1, List.getD, h]
theorem tot_mem : ∀ (l : List (List Int)) (x : List Int), x ∈ l → x.length ≤ tot l := by
  intro l
  induction l with
  | nil => intro x h; cases h
  | cons y l ih =>
    intro x h
    simp only [tot, List.map_cons, List.sum_cons]
    rcases List.mem_cons.1 h with rfl | h
    · omega
    · have := ih x h; unfold tot at this; omega

theorem bits_r (b : List Int) (rows c : Nat) (out : List (List Int)) (ho : out.length ≤ 64) (hc : c ≤ 64) (r : Int) : ∀ (d j : Nat) (row : List Int) (i h : Int), Cur b i → j + d = c → row.length = j → ∃ row' i' h', row'.length = c ∧ Cur b i' ∧ ∀ R, Ev (fun k => spec_l5Bits.l0 k rows c (out ++ [row']) (wrap64 (r + 1)) b i' h') R → Ev (fun k => spec_l5Bits.l1 k rows c out r row j b i h) R := by
  intro d
  induction d with
  | zero =>
    intro j row i h hi hj hr
    refine ⟨row, i, h, by omega, hi, fun R e => ?_⟩
    refine Ev.step (fun k => spec_l5Bits.l1.eq_2 _ _ _ _ _ _ _ _ _ k) ?_
    refine Ev.neg (by omega) ?_
    exact Ev.pos (by omega) e
  | succ d ih =>
    intro j row i h hi hj hr
    obtain ⟨x, i', h', e, h0, h1, hc'⟩ := below_ok b i h 2 hi (by omega) (by omega)
    obtain ⟨row', i2, h2, hl, hc2, ne⟩ := ih (j + 1) (row ++ [x]) i' h' hc' (by omega) (by simp; omega)
    refine ⟨row', i2, h2, hl, hc2, fun R e2 => ?_⟩
    refine Ev.step (fun k => spec_l5Bits.l1.eq_2 _ _ _ _ _ _ _ _ _ k) ?_
    refine Ev.pos (by omega) ?_
    refine Ev.bnow e ?_
    refine Ev.pos (by omega) ?_
    simp only [wnx (show j < 65 by omega) (by omega)]
    exact ne R e2
theorem bits_l (b : List Int) (rows c : Nat) (hr : rows ≤ 64) (hc : c ≤ 64) : ∀ (d r : Nat) (out : List (List Int)) (i h : Int), Cur b i → r + d = rows → out.length = r → (∀ x ∈ out, x.length = c) → ∃ m i' h', m.length = rows ∧ (∀ x ∈ m, x.length = c) ∧ Cur b i' ∧ Ev (fun k => spec_l5Bits.l0 k rows c out r b i h) (m, i', h') := by
  intro d
  induction d with
  | zero =>
    intro r out i h hi hd ho hx
    refine ⟨out, i, h, by omega, hx, hi, ?_⟩
    refine Ev.step (fun k => spec_l5Bits.l0.eq_2 _ _ _ _ _ _ _ k) ?_
    exact Ev.neg (by omega) (Ev.now _)
  | succ d ih =>
    intro r out i h hi hd ho hx
    obtain ⟨row', i2, h2, hl, hc2, ne⟩ := bits_r b rows c out (by omega) hc r c 0 [] i h hi (by omega) rfl
    obtain ⟨m, i3, h3, hm, hx3, hc3, e3⟩ := ih (r + 1) (out ++ [row']) i2 h2 hc2 (by omega) (by simp; omega) (fun x hx' => by
      rcases List.mem_append.1 hx' with h | h
      · exact hx x h
      · rw [List.mem_singleton.1 h]; exact hl)
    refine ⟨m, i3, h3, hm, hx3, hc3, ?_⟩
    refine Ev.step (fun k => spec_l5Bits.l0.eq_2 _ _ _ _ _ _ _ k) ?_
    refine Ev.pos (by omega) ?_
    refine ne _ ?_
    simp only [wnx (show r < 65 by omega) (by omega)]
    exact e3
theorem bits_ok (b : List Int) (rows c : Int) (hr0 : 0 ≤ rows) (hr : rows ≤ 64) (hc0 : 0 ≤ c) (hc : c ≤ 64) (i h : Int) (hi : Cur b i) : ∃ m i' h', (m.length : Int) = rows ∧ (∀ x ∈ m, (x.length : Int) = c) ∧ Cur b i' ∧ Ev (fun k => spec_l5Bits.f k b i h rows c) (m, i', h') := by
  obtain ⟨r, rfl⟩ := Int.eq_ofNat_of_zero_le hr0
  obtain ⟨c, rfl⟩ := Int.eq_ofNat_of_zero_le hc0
  obtain ⟨m, i', h', h1, h2, h3, h4⟩ := bits_l b r c (by omega) (by omega) r 0 [] i h hi (by omega) rfl (by simp)
  refine ⟨m, i', h', by omega, fun x hx => by rw [h2 x hx], h3, ?_⟩
  unfold spec_l5Bits.f
  exact h4

theorem s16_fin : (List.range 6).all (fun c => (List.range 3).all (fun p => match spec_l16Sets.f 2000 (c : Int) (p : Int) with | some L => decide (L.length ≤ 64) && L.all (fun x => decide (x.length ≤ 64)) | none => false)) = true := by decide +kernel
theorem s16_small {c p : Int} (hc0 : 0 ≤ c) (hc : c ≤ 5) (hp0 : 0 ≤ p) (hp : p ≤ 2) : ∃ L, Ev (fun k => spec_l16Sets.f k c p) L ∧ L.length ≤ 64 ∧ ∀ x ∈ L, x.length ≤ 64 := by
  obtain ⟨c, rfl⟩ := Int.eq_ofNat_of_zero_le hc0
  obtain ⟨p, rfl⟩ := Int.eq_ofNat_of_zero_le hp0
  have h := List.all_eq_true.1 s16_fin c (List.mem_range.2 (by omega))
  have h := List.all_eq_true.1 h p (List.mem_range.2 (by omega))
  try dsimp only at h
  cases e : spec_l16Sets.f 2000 (c : Int) (p : Int) with
  | none => rw [e] at h; cases h
  | some L =>
    rw [e] at h
    try dsimp only at h
    obtain ⟨h1, h2⟩ := Bool.and_eq_true_iff.1 h
    exact ⟨L, Ev.of (fun k => spec_l16Sets.mono _ _ k) e, of_decide_eq_true h1, fun x hx => of_decide_eq_true (List.all_eq_true.1 h2 x hx)⟩

theorem l17_ok (b : List Int) (i h : Int) (hi : Cur b i) : ∃ (g m : List (List Int)) (i' h' : Int), g.length ≤ 64 ∧ (∀ x ∈ g, x.length ≤ 64) ∧ 1 ≤ m.length ∧ m.length ≤ 5 ∧ (∀ x ∈ m, x.length ≤ 64) ∧ Cur b i' ∧ Ev (fun k => spec_l17Draw.f k b i h) (g, m, i', h') := by
  obtain ⟨x, i1, h1, e1, x0, x1, c1⟩ := below_ok b i h 4 hi (by omega) (by omega)
  obtain ⟨y, i2, h2, e2, y0, y1, c2⟩ := below_ok b i1 h1 5 c1 (by omega) (by omega)
  have hx : wrap64 (2 + x) = 2 + x := wr (by omega) (by omega)
  have hy : wrap64 (1 + y) = 1 + y := wr (by omega) (by omega)
  obtain ⟨m, i3, h3, m0, m1, c3, e3⟩ := bits_ok b (1 + y) (2 + x) (by omega) (by omega) (by omega) (by omega) i2 h2 c2
  obtain ⟨z, i4, h4, e4, z0, z1, c4⟩ := below_ok b i3 h3 2 c3 (by omega) (by omega)
  have hz : wrap64 (1 + z) = 1 + z := wr (by omega) (by omega)
  obtain ⟨g, e5, g0, g1⟩ := s16_small (c := 2 + x) (p := 1 + z) (by omega) (by omega) (by omega) (by omega)
  refine ⟨g, m, i4, h4, g0, g1, by omega, by omega, fun r hr => by have := m1 r hr; omega, c4, ?_⟩
  unfold spec_l17Draw.f
  refine Ev.bnow e1 ?_
  refine Ev.bnow e2 ?_
  simp only [hx, hy]
  refine Ev.bind e3 ?_
  refine Ev.bnow e4 ?_
  simp only [hz]
  exact Ev.bind e5 (Ev.now _)
theorem cut_small (m : List (List Int)) (h : ∀ x ∈ m, x.length ≤ 64) : (cutTo m).length ≤ 4 ∧ ∀ x ∈ cutTo m, x.length ≤ 64 := by
  unfold cutTo
  exact ⟨by rw [List.length_drop]; omega, fun x hx => h x (List.mem_of_mem_drop hx)⟩
theorem pad_small (m : List (List Int)) (h0 : m.length ≤ 4) (h : ∀ x ∈ m, x.length ≤ 64) : (padTo m).length ≤ 7 ∧ ∀ x ∈ padTo m, x.length ≤ 64 := by
  unfold padTo
  refine ⟨by rw [List.length_append, List.length_replicate]; omega, fun x hx => ?_⟩
  rcases List.mem_append.1 hx with hx | hx
  · exact h x hx
  · have e := List.eq_of_mem_replicate hx
    by_cases hp : 0 < m.length
    · have e2 : rd_L1 m 0 = m[0] := rd1 m 0 hp
      rw [e, e2]
      exact h _ (List.getElem_mem hp)
    · have : m = [] := List.eq_nil_of_length_eq_zero (by omega)
      rw [e, this]
      simp [rd_L1]
theorem draw_ok (l : List Int) (hl : l.length ≤ 1048576) : ∃ (g m : List (List Int)), g.length ≤ 64 ∧ (∀ x ∈ g, x.length ≤ 64) ∧ m.length ≤ 7 ∧ (∀ x ∈ m, x.length ≤ 64) ∧ Ev (fun k => spec_DrawLeastDepth.f k l) (g, m) := by
  obtain ⟨h, e⟩ := new_ok l hl
  obtain ⟨g, m, i1, h1, g0, g1, m0, m5, m1, c1, e1⟩ := l17_ok l 0 h ⟨by omega, by omega, hl⟩
  obtain ⟨o, i2, h2, e2, c2⟩ := once_ok l i1 h1 9 c1 (by omega) (by omega)
  have hc := cut_small m m1
  have hp := pad_small (cutTo m) hc.1 hc.2
  refine ⟨g, if o = true then padTo (cutTo m) else cutTo m, g0, g1, ?_, ?_, ?_⟩
  · split <;> omega
  · split
    · exact hp.2
    · exact hc.2
  · unfold spec_DrawLeastDepth.f
    refine Ev.bind e ?_
    refine Ev.bind e1 ?_
    refine Ev.bnow e2 ?_
    exact Ev.pos m0 (Ev.now _)

def fwB (row : List Int) (k : Int) : Bool := decide (0 ≤ k ∧ k < row.length ∧ rd row k = 1)
/-- whether a row fails with these links. -/
def fw (row g : List Int) : Bool := g.any (fwB row)

/-- The guesses of one verdict. -/
def av (row : List Int) (b : Bool) (l : List (List Int)) : List (List Int) := l.filter (fun g => fw row g == b)
theorem av_cons (row g : List Int) (b : Bool) (l : List (List Int)) : av row b (g :: l) = if (fw row g == b) = true then g :: av row b l else av row b l := by
  unfold av; rw [List.filter_cons]
theorem av_len (row : List Int) (b : Bool) (l : List (List Int)) : (av row b l).length ≤ l.length := List.length_filter_le _ _
theorem av_sum (row : List Int) : ∀ (l : List (List Int)), (av row true l).length + (av row false l).length = l.length := by
  intro l
  induction l with
  | nil => rfl
  | cons g l ih =>
    rw [av_cons, av_cons]
    cases fw row g <;> simp <;> omega
/-- The greater part that a verdict leaves. -/
def wl (l : List (List Int)) (row : List Int) : Nat := max (av row true l).length (l.length - (av row true l).length)

/-- The first row that leaves the least, told from row i on. -/
def bst (l : List (List Int)) : List (List Int) → Nat → Int → Nat → Int
  | [], _, b, _ => b
  | row :: m, i, b, n => if wl l row < n then bst l m (i + 1) i (wl l row) else bst l m (i + 1) b n
theorem bst_ok (l m0 : List (List Int)) : ∀ (m : List (List Int)) (i : Nat) (b : Int) (n : Nat), m = m0.drop i → n ≤ l.length → i ≤ m0.length →
    (∀ k : Nat, b = k → ∃ h : k < m0.length, wl l m0[k] < l.length) → ∀ k : Nat, bst l m i b n = k → ∃ h : k < m0.length, wl l m0[k] < l.length := by
  intro m
  induction m with
  | nil => intro i b n _ _ _ hb k hk; exact hb k hk
  | cons row m ih =>
    intro i b n hm hn hi hb k hk
    have hlt : i < m0.length := by
      rcases Nat.lt_or_ge i m0.length with h | h
      · exact h
      · rw [List.drop_eq_nil_of_le h] at hm; cases hm
    rw [List.drop_eq_getElem_cons hlt] at hm
    obtain ⟨rfl, hm2⟩ := List.cons.inj hm
    unfold bst at hk
    split at hk
    · rename_i h
      exact ih (i + 1) i _ hm2 (by omega) hlt (fun k' hk' => by
        obtain rfl : i = k' := by omega
        exact ⟨hlt, by omega⟩) k hk
    · exact ih (i + 1) b n hm2 hn hlt hb k hk
theorem bst_row (l m : List (List Int)) (k : Nat) (h : bst l m 0 (-1) l.length = k) : ∃ h : k < m.length, wl l m[k] < l.length :=
  bst_ok l m m 0 (-1) l.length rfl (Nat.le_refl _) (Nat.zero_le _) (fun k hk => by omega) k h
theorem bst_ge (l : List (List Int)) : ∀ (m : List (List Int)) (i : Nat) (b : Int) (n : Nat), -1 ≤ b → -1 ≤ bst l m i b n := by
  intro m
  induction m with
  | nil => intro i b n h; exact h
  | cons row m ih =>
    intro i b n h
    unfold bst
    split
    · exact ih _ _ _ (by omega)
    · exact ih _ _ _ h

theorem ifw (row g : List Int) : impl_FailsWith.f row g = some (fw row g) := rfl

theorem iav_l (row : List Int) (b : Bool) (l : List (List Int)) (hl : l.length ≤ 1048576) (hm : ∀ x ∈ l, x.length ≤ 1048576) : ∀ (d i : Nat) (acc : List (List Int)), i + d = l.length → acc.length ≤ i → Ev (fun k => impl_AfterVerdict.l0 k row b acc l l.length i) (acc ++ av row b (l.drop i)) := by
  intro d
  induction d with
  | zero =>
    intro i acc hi ha
    refine Ev.step (fun k => impl_AfterVerdict.l0.eq_2 _ _ _ _ _ _ k) ?_
    refine Ev.neg (by omega) (Ev.some_ ?_)
    rw [List.drop_eq_nil_of_le (by omega)]; simp [av]
  | succ d ih =>
    intro i acc hi ha
    have hlt : i < l.length := by omega
    have hx := hm l[i] (List.getElem_mem hlt)
    refine Ev.step (fun k => impl_AfterVerdict.l0.eq_2 _ _ _ _ _ _ k) ?_
    refine Ev.pos (by omega) ?_
    refine Ev.pos (by omega) ?_
    refine Ev.pos (by omega) ?_
    rw [rd1 l i hlt, List.drop_eq_getElem_cons hlt, av_cons]
    refine Ev.bnow (ifw _ _) ?_
    simp only [wnx hlt (by omega)]
    by_cases h : (fw row l[i] == b) = true
    · refine Ev.pos h ?_
      refine Ev.pos (by simp; omega) ?_
      refine Ev.pos (by omega) ?_
      rw [if_pos h]
      have e := ih (i + 1) (acc ++ [l[i]]) (by omega) (by simp; omega)
      rw [List.append_assoc] at e
      exact e
    · refine Ev.neg h ?_
      rw [if_neg h]
      exact ih (i + 1) acc (by omega) (by omega)
theorem iav (row : List Int) (b : Bool) (l : List (List Int)) (hl : l.length ≤ 1048576) (hm : ∀ x ∈ l, x.length ≤ 1048576) : Ev (fun k => impl_AfterVerdict.f k l row b) (av row b l) := by
  unfold impl_AfterVerdict.f
  exact iav_l row b l hl hm l.length 0 [] (by omega) (by simp)

theorem iwl (l : List (List Int)) (row : List Int) (hl : l.length ≤ 1048576) (hm : ∀ x ∈ l, x.length ≤ 1048576) : Ev (fun k => impl_WorstLeft.f k l row) (wl l row) := by
  unfold impl_WorstLeft.f
  have h := av_len row true l
  refine Ev.bind (iav row true l hl hm) (Ev.some_ ?_)
  rw [wr (by omega) (by omega)]
  unfold mx wl
  split <;> omega

theorem ibr_l (l m : List (List Int)) (hl : l.length ≤ 1048576) (hm : ∀ x ∈ l, x.length ≤ 1048576) (h2 : m.length ≤ 1048576) : ∀ (d i : Nat) (b : Int) (n : Nat), i + d = m.length → Ev (fun k => impl_BestRow.l0 k l b n m m.length i) (bst l (m.drop i) i b n) := by
  intro d
  induction d with
  | zero =>
    intro i b n hi
    refine Ev.step (fun k => impl_BestRow.l0.eq_2 _ _ _ _ _ _ k) ?_
    refine Ev.neg (by omega) (Ev.some_ ?_)
    rw [List.drop_eq_nil_of_le (by omega)]; rfl
  | succ d ih =>
    intro i b n hi
    have hlt : i < m.length := by omega
    refine Ev.step (fun k => impl_BestRow.l0.eq_2 _ _ _ _ _ _ k) ?_
    refine Ev.pos (by omega) ?_
    refine Ev.pos (by omega) ?_
    refine Ev.pos (by omega) ?_
    rw [rd1 m i hlt, List.drop_eq_getElem_cons hlt]
    refine Ev.bind (iwl l m[i] hl hm) ?_
    simp only [wnx hlt (by omega), bst]
    by_cases h : wl l m[i] < n
    · refine Ev.pos (by omega) ?_
      rw [if_pos h]
      exact ih (i + 1) i _ (by omega)
    · refine Ev.neg (by omega) ?_
      rw [if_neg h]
      exact ih (i + 1) b n (by omega)
theorem ibr (l m : List (List Int)) (hl : l.length ≤ 1048576) (hm : ∀ x ∈ l, x.length ≤ 1048576) (h2 : m.length ≤ 1048576) : Ev (fun k => impl_BestRow.f k l m) (bst l m 0 (-1) l.length) := by
  unfold impl_BestRow.f
  exact ibr_l l m hl hm h2 m.length 0 (-1) l.length (by omega)

/-- A row's turn in the least plan, told on lists. -/
def lstep (g : List (List Int) → Int) (l : List (List Int)) (out : Int) (row : List Int) : Int :=
  if wl l row = l.length then out else if out = 0 ∨ 1 + mx (g (av row true l)) (g (av row false l)) < out then 1 + mx (g (av row true l)) (g (av row false l)) else out
/-- The least depth, told on lists. -/
def ld (m : List (List Int)) : Nat → List (List Int) → Int
  | 0, _ => 0
  | k + 1, l => m.foldl (lstep (ld m k) l) 0
theorem wl_full (l : List (List Int)) (row : List Int) : wl l row = l.length ↔ ((av row true l).length = 0 ∨ (av row false l).length = 0) := by
  have := av_sum row l
  unfold wl
  omega
theorem lstep_le {g : List (List Int) → Int} {l : List (List Int)} {b : Int} (hg : ∀ x, 0 ≤ g x ∧ g x ≤ b) {out : Int} (h0 : 0 ≤ out) (h1 : out ≤ b + 1) (row : List Int) : 0 ≤ lstep g l out row ∧ lstep g l out row ≤ b + 1 := by
  have a := hg (av row true l)
  have c := hg (av row false l)
  unfold lstep mx
  split
  · exact ⟨h0, h1⟩
  · split <;> split <;> omega
theorem lfold_le {g : List (List Int) → Int} {l : List (List Int)} {b : Int} (hg : ∀ x, 0 ≤ g x ∧ g x ≤ b) : ∀ (m : List (List Int)) (out : Int), 0 ≤ out → out ≤ b + 1 → 0 ≤ m.foldl (lstep g l) out ∧ m.foldl (lstep g l) out ≤ b + 1
  | [], out, h0, h1 => ⟨h0, h1⟩
  | row :: m, out, h0, h1 => by
    have h := lstep_le (l := l) hg h0 h1 row
    exact lfold_le hg m _ h.1 h.2
theorem ld_le (m : List (List Int)) : ∀ (k : Nat) (l : List (List Int)), 0 ≤ ld m k l ∧ ld m k l ≤ k
  | 0, _ => by unfold ld; omega
  | k + 1, l => by
    have h := lfold_le (l := l) (b := k) (fun x => ld_le m k x) m 0 (by omega) (by omega)
    unfold ld
    omega
/-- The guesses whose bits are set. -/
def sel : List (List Int) → Nat → List (List Int)
  | [], _ => []
  | x :: l, v => if v % 2 = 1 then x :: sel l (v / 2) else sel l (v / 2)
/-- The guesses that fail with a row, one bit each, the first one's the lowest. -/
def fbits (row : List Int) : List (List Int) → Nat
  | [] => 0
  | g :: l => (if fw row g = true then 1 else 0) + 2 * fbits row l
theorem fbits_snoc (row g : List Int) : ∀ l : List (List Int), fbits row (l ++ [g]) = fbits row l + (if fw row g = true then 2 ^ l.length else 0)
  | [] => by simp [fbits]
  | x :: l => by
    simp only [List.cons_append, fbits, fbits_snoc row g l, List.length_cons, Nat.pow_succ]
    by_cases h : fw row g = true
    · simp only [if_pos h]; omega
    · simp only [if_neg h]; omega
theorem failMask_take (row : List Int) (gs : List (List Int)) : ∀ i, i ≤ gs.length → failMask row gs i = fbits row (gs.take i)
  | 0, _ => by simp [failMask, fbits]
  | i + 1, h => by
    have hi : i < gs.length := by omega
    have h1 : (gs.take i).length = i := by rw [List.length_take]; omega
    unfold failMask
    rw [failMask_take row gs i (by omega), List.take_succ_eq_append_getElem hi, fbits_snoc, rd1 gs i hi, h1]
    rfl
theorem failMask_is (row : List Int) (gs : List (List Int)) : failMask row gs gs.length = fbits row gs := by
  rw [failMask_take row gs gs.length (Nat.le_refl _), List.take_length]
theorem and_half (v f : Nat) : (v &&& f) / 2 = v / 2 &&& f / 2 := Nat.and_div_two
theorem and_low (v f : Nat) : (v &&& f) % 2 = v % 2 * (f % 2) := by
  have h := Nat.and_mod_two_pow (a := v) (b := f) (n := 1)
  simp only [Nat.pow_one] at h
  rw [h]
  have h1 : v % 2 = 0 ∨ v % 2 = 1 := by omega
  have h2 : f % 2 = 0 ∨ f % 2 = 1 := by omega
  rcases h1 with h1 | h1 <;> rcases h2 with h2 | h2 <;> rw [h1, h2] <;> rfl
theorem fbits_low (row g : List Int) (l : List (List Int)) : fbits row (g :: l) % 2 = (if fw row g = true then 1 else 0) := by
  unfold fbits; split <;> omega
theorem fbits_half (row g : List Int) (l : List (List Int)) : fbits row (g :: l) / 2 = fbits row l := by
  show ((if fw row g = true then 1 else 0) + 2 * fbits row l) / 2 = _
  split <;> omega
theorem sel_yes (row : List Int) : ∀ (l : List (List Int)) (v : Nat), sel l (v &&& fbits row l) = av row true (sel l v)
  | [], v => rfl
  | g :: l, v => by
    have ih := sel_yes row l (v / 2)
    have h1 := and_half v (fbits row (g :: l))
    have h2 := and_low v (fbits row (g :: l))
    rw [fbits_half] at h1
    rw [fbits_low] at h2
    simp only [sel]
    rw [h1, h2, ih]
    by_cases hv : v % 2 = 1
    · rw [hv, if_pos (rfl : 1 = 1), av_cons]
      cases hf : fw row g <;> simp
    · have hv : v % 2 = 0 := by omega
      rw [hv]; simp
theorem sel_no (row : List Int) : ∀ (l : List (List Int)) (v : Nat), sel l (v - (v &&& fbits row l)) = av row false (sel l v)
  | [], v => rfl
  | g :: l, v => by
    have ih := sel_no row l (v / 2)
    have h1 := and_half v (fbits row (g :: l))
    have h2 := and_low v (fbits row (g :: l))
    rw [fbits_half] at h1
    rw [fbits_low] at h2
    have hA : v / 2 &&& fbits row l ≤ v / 2 := Nat.and_le_left
    simp only [sel]
    generalize v &&& fbits row (g :: l) = A at h1 h2 ⊢
    generalize (v / 2 &&& fbits row l) = A' at h1 hA ih
    cases hf : fw row g with
    | true =>
      rw [hf] at h2
      have h2 : A % 2 = v % 2 := by simpa using h2
      have e1 : (v - A) / 2 = v / 2 - A' := by omega
      have e2 : (v - A) % 2 = 0 := by omega
      rw [e1, e2, ih, if_neg (by omega)]
      by_cases hv : v % 2 = 1
      · rw [if_pos hv, av_cons, hf]; simp
      · rw [if_neg hv]
    | false =>
      rw [hf] at h2
      have h2 : A % 2 = 0 := by simpa using h2
      have e1 : (v - A) / 2 = v / 2 - A' := by omega
      have e2 : (v - A) % 2 = v % 2 := by omega
      rw [e1, e2, ih]
      by_cases hv : v % 2 = 1
      · rw [if_pos hv, if_pos hv, av_cons, hf]; simp
      · rw [if_neg hv, if_neg hv]
theorem sel_none : ∀ (l : List (List Int)) (v : Nat), v < 2 ^ l.length → ((sel l v).length = 0 ↔ v = 0)
  | [], v, h => by simp at h; simp [sel, h]
  | g :: l, v, h => by
    rw [List.length_cons, Nat.pow_succ] at h
    have ih := sel_none l (v / 2) (by omega)
    simp only [sel]
    split
    · simp only [List.length_cons]; omega
    · rw [ih]; omega
theorem sel_all : ∀ (l : List (List Int)), sel l (2 ^ l.length - 1) = l
  | [] => rfl
  | g :: l => by
    have h := Nat.two_pow_pos l.length
    have e1 : (2 ^ (g :: l).length - 1) % 2 = 1 := by rw [List.length_cons, Nat.pow_succ]; omega
    have e2 : (2 ^ (g :: l).length - 1) / 2 = 2 ^ l.length - 1 := by rw [List.length_cons, Nat.pow_succ]; omega
    simp only [sel]
    rw [e1, e2, if_pos rfl, sel_all l]
theorem pd_ld_fold {G : Nat → Int} {g : List (List Int) → Int} {l : List (List Int)} {v : Nat} (hv : v < 2 ^ l.length) (hG : ∀ u, u < 2 ^ l.length → G u = g (sel l u)) (hg : ∀ x, 0 ≤ g x) : ∀ (m : List (List Int)) (a b : Int), b = mx a 0 → (a = -1 ∨ 1 ≤ a) →
    m.foldl (lstep g (sel l v)) b = mx ((m.map (fun row => failMask row l l.length)).foldl (pstep G v) a) 0
  | [], a, b, hb, _ => hb
  | row :: m, a, b, hb, ha => by
    simp only [List.map_cons, List.foldl_cons]
    have hA : v &&& fbits row l ≤ v := Nat.and_le_left
    have n1 := sel_none l (v &&& fbits row l) (by omega)
    have n2 := sel_none l (v - (v &&& fbits row l)) (by omega)
    have q1 := hG (v &&& fbits row l) (by omega)
    have q2 := hG (v - (v &&& fbits row l)) (by omega)
    rw [sel_yes] at n1 q1
    rw [sel_no] at n2 q2
    have p1 := hg (av row true (sel l v))
    have p2 := hg (av row false (sel l v))
    have key : lstep g (sel l v) b row = mx (pstep G v a (failMask row l l.length)) 0 ∧ (pstep G v a (failMask row l l.length) = -1 ∨ 1 ≤ pstep G v a (failMask row l l.length)) := by
      rw [failMask_is]
      unfold lstep pstep
      rw [q1, q2]
      by_cases hz : v &&& fbits row l = 0 ∨ v - (v &&& fbits row l) = 0
      · rw [if_pos hz, if_pos ((wl_full _ _).2 (by rcases hz with hz | hz; exact .inl (n1.2 hz); exact .inr (n2.2 hz)))]
        exact ⟨hb, ha⟩
      · rw [if_neg hz, if_neg (fun h => hz (by rcases (wl_full _ _).1 h with h | h; exact .inl (n1.1 h); exact .inr (n2.1 h)))]
        have hn : 1 ≤ 1 + mx (g (av row true (sel l v))) (g (av row false (sel l v))) := by unfold mx; split <;> omega
        generalize 1 + mx (g (av row true (sel l v))) (g (av row false (sel l v))) = n at hn ⊢
        have hab : (b = 0 ∨ n < b) ↔ (a < 0 ∨ n < a) := by
          subst hb; unfold mx; rcases ha with ha | ha <;> split <;> omega
        by_cases hc : a < 0 ∨ n < a
        · rw [if_pos hc, if_pos (hab.2 hc)]
          refine ⟨?_, .inr hn⟩
          unfold mx; split <;> omega
        · rw [if_neg hc, if_neg (fun x => hc (hab.1 x))]
          exact ⟨hb, ha⟩
    exact pd_ld_fold hv hG hg m _ _ key.1 key.2
theorem pd_ld (m l : List (List Int)) : ∀ (k v : Nat), v < 2 ^ l.length → pd (masks l m) k v = ld m k (sel l v)
  | 0, _, _ => rfl
  | k + 1, v, hv => by
    unfold pd ld
    exact (pd_ld_fold hv (fun u hu => pd_ld m l k u hu) (fun x => (ld_le m k x).1) m (-1) 0 rfl (.inl rfl)).symm
theorem pd_all (m l : List (List Int)) : pd (masks l m) (2 ^ l.length - 1) (2 ^ l.length - 1) = ld m (2 ^ l.length - 1) l := by
  have h := Nat.two_pow_pos l.length
  rw [pd_ld m l _ _ (by omega), sel_all]

theorem bst_min (l m0 : List (List Int)) : ∀ (m : List (List Int)) (i : Nat) (b : Int) (n : Nat), m = m0.drop i → i ≤ m0.length → (∀ (j : Nat) (h : j < m0.length), j < i → n ≤ wl l m0[j]) → (b < 0 → n = l.length) → (∀ k : Nat, b = k → ∃ h : k < m0.length, wl l m0[k] = n) →
    (bst l m i b n < 0 → ∀ (j : Nat) (h : j < m0.length), l.length ≤ wl l m0[j]) ∧ (∀ k : Nat, bst l m i b n = k → ∃ h : k < m0.length, ∀ (j : Nat) (h' : j < m0.length), wl l m0[k] ≤ wl l m0[j]) := by
  intro m
  induction m with
  | nil =>
    intro i b n hm hi hj hb hk
    have hle : m0.length ≤ i := List.drop_eq_nil_iff.1 hm.symm
    unfold bst
    refine ⟨fun h j hj' => ?_, fun k h => ?_⟩
    · have := hj j hj' (by omega)
      have := hb h
      omega
    · obtain ⟨h1, h2⟩ := hk k h
      exact ⟨h1, fun j hj' => by have := hj j hj' (by omega); omega⟩
  | cons row m ih =>
    intro i b n hm hi hj hb hk
    have hlt : i < m0.length := by
      rcases Nat.lt_or_ge i m0.length with h | h
      · exact h
      · rw [List.drop_eq_nil_of_le h] at hm; cases hm
    rw [List.drop_eq_getElem_cons hlt] at hm
    obtain ⟨rfl, hm2⟩ := List.cons.inj hm
    unfold bst
    by_cases h : wl l m0[i] < n
    · rw [if_pos h]
      refine ih (i + 1) i (wl l m0[i]) hm2 hlt (fun j hj' hji => ?_) (fun hq => by omega) (fun k hk' => ?_)
      · by_cases e : j = i
        · subst e; exact Nat.le_refl _
        · have := hj j hj' (by omega)
          omega
      · obtain rfl : i = k := by omega
        exact ⟨hlt, rfl⟩
    · rw [if_neg h]
      refine ih (i + 1) b n hm2 hlt (fun j hj' hji => ?_) hb hk
      by_cases e : j = i
      · subst e; omega
      · exact hj j hj' (by omega)
theorem bst_none (l m : List (List Int)) (h : bst l m 0 (-1) l.length < 0) : ∀ row ∈ m, l.length ≤ wl l row := by
  have hh := (bst_min l m m 0 (-1) l.length rfl (Nat.zero_le _) (fun j _ hj => by omega) (fun _ => rfl) (fun k hk => by omega)).1 h
  intro row hr
  obtain ⟨j, hj, rfl⟩ := List.mem_iff_getElem.1 hr
  exact hh j hj
theorem bst_best (l m : List (List Int)) (k : Nat) (h : bst l m 0 (-1) l.length = k) : ∃ h : k < m.length, ∀ row ∈ m, wl l m[k] ≤ wl l row := by
  obtain ⟨h1, h2⟩ := (bst_min l m m 0 (-1) l.length rfl (Nat.zero_le _) (fun j _ hj => by omega) (fun _ => rfl) (fun k hk => by omega)).2 k h
  refine ⟨h1, fun row hr => ?_⟩
  obtain ⟨j, hj, rfl⟩ := List.mem_iff_getElem.1 hr
  exact h2 j hj

/-- The rows that divide a list. -/
def dvb (l : List (List Int)) (row : List Int) : Bool := decide (wl l row ≠ l.length)
def dv (m l : List (List Int)) : Nat := m.countP (dvb l)
theorem countP_less {p q : List Int → Bool} (h : ∀ x, p x = true → q x = true) : ∀ (l : List (List Int)), (∃ x ∈ l, q x = true ∧ p x = false) → l.countP p + 1 ≤ l.countP q
  | [], hx => by obtain ⟨x, hx, _⟩ := hx; cases hx
  | y :: l, hx => by
    have hm : l.countP p ≤ l.countP q := List.countP_mono_left (fun x _ => h x)
    rw [List.countP_cons, List.countP_cons]
    obtain ⟨x, hx, h1, h2⟩ := hx
    rcases List.mem_cons.1 hx with rfl | hx
    · rw [h1, h2]; simp; omega
    · have ih := countP_less h l ⟨x, hx, h1, h2⟩
      cases hp : p y with
      | true => rw [h y hp]; simp; omega
      | false => simp; omega
theorem av_sub_len (row r : List Int) (b c : Bool) (l : List (List Int)) : (av row c (av r b l)).length ≤ (av row c l).length := by
  unfold av
  exact (List.Sublist.filter _ List.filter_sublist).length_le
theorem av_none (r : List Int) (b : Bool) (l : List (List Int)) : av r (!b) (av r b l) = [] := by
  unfold av
  rw [List.filter_filter]
  apply List.filter_eq_nil_iff.2
  intro x _
  cases b <;> cases fw r x <;> simp
theorem dvb_is (l : List (List Int)) (row : List Int) : dvb l row = true ↔ 0 < (av row true l).length ∧ 0 < (av row false l).length := by
  have h := wl_full l row
  unfold dvb
  rw [decide_eq_true_iff, Ne, h]
  omega
theorem dv_less (m l : List (List Int)) (k : Nat) (hk : k < m.length) (h : wl l m[k] < l.length) (b : Bool) : dv m (av m[k] b l) + 1 ≤ dv m l := by
  refine countP_less (fun x hx => ?_) m ⟨m[k], List.getElem_mem hk, by unfold dvb; exact decide_eq_true (by omega), ?_⟩
  · rw [dvb_is] at hx ⊢
    have h1 := av_sub_len x m[k] b true l
    have h2 := av_sub_len x m[k] b false l
    omega
  · have hn : ¬ (dvb (av m[k] b l) m[k] = true) := by
      rw [dvb_is]
      have e := av_none m[k] b l
      cases b with
      | true => simp only [Bool.not_true] at e; rw [e]; simp
      | false => simp only [Bool.not_false] at e; rw [e]; simp
    exact Bool.eq_false_iff.2 hn
theorem lfold_min {g : List (List Int) → Int} {l : List (List Int)} (hg : ∀ x, 0 ≤ g x) : ∀ (m : List (List Int)) (out : Int), 0 ≤ out →
    0 ≤ m.foldl (lstep g l) out ∧ (0 < out → 0 < m.foldl (lstep g l) out ∧ m.foldl (lstep g l) out ≤ out) ∧ ∀ row ∈ m, wl l row ≠ l.length → 0 < m.foldl (lstep g l) out ∧ m.foldl (lstep g l) out ≤ 1 + mx (g (av row true l)) (g (av row false l))
  | [], out, h0 => ⟨h0, fun h => ⟨h, Int.le_refl _⟩, fun row hr => by cases hr⟩
  | row :: m, out, h0 => by
    rw [List.foldl_cons]
    have p1 := hg (av row true l)
    have p2 := hg (av row false l)
    have hn : 1 ≤ 1 + mx (g (av row true l)) (g (av row false l)) := by unfold mx; split <;> omega
    have key : 0 ≤ lstep g l out row ∧ (0 < out → 0 < lstep g l out row ∧ lstep g l out row ≤ out) ∧ (wl l row ≠ l.length → 0 < lstep g l out row ∧ lstep g l out row ≤ 1 + mx (g (av row true l)) (g (av row false l))) := by
      unfold lstep
      generalize 1 + mx (g (av row true l)) (g (av row false l)) = n at hn ⊢
      by_cases hw : wl l row = l.length
      · rw [if_pos hw]
        exact ⟨h0, fun h => ⟨h, Int.le_refl _⟩, fun h => absurd hw h⟩
      · rw [if_neg hw]
        split <;> refine ⟨by omega, fun h => by omega, fun _ => by omega⟩
    obtain ⟨a0, a1, a2⟩ := lfold_min hg m (lstep g l out row) key.1
    refine ⟨a0, fun h => ?_, fun r hr hw => ?_⟩
    · have h1 := key.2.1 h
      have h2 := a1 h1.1
      exact ⟨h2.1, by omega⟩
    · rcases List.mem_cons.1 hr with rfl | hr
      · have h1 := key.2.2 hw
        have h2 := a1 h1.1
        exact ⟨h2.1, by omega⟩
      · exact a2 r hr hw
theorem lfold_none {g : List (List Int) → Int} {l : List (List Int)} : ∀ (m : List (List Int)) (out : Int), (∀ row ∈ m, wl l row = l.length) → m.foldl (lstep g l) out = out
  | [], _, _ => rfl
  | row :: m, out, h => by
    rw [List.foldl_cons, show lstep g l out row = out from by unfold lstep; rw [if_pos (h row List.mem_cons_self)]]
    exact lfold_none m out (fun r hr => h r (List.mem_cons_of_mem _ hr))
theorem wl_le (l : List (List Int)) (row : List Int) : wl l row ≤ l.length := by
  have := av_sum row l
  unfold wl
  omega
theorem ld_none (m l : List (List Int)) (h : ∀ row ∈ m, l.length ≤ wl l row) : ∀ k, ld m k l = 0
  | 0 => rfl
  | k + 1 => by
    unfold ld
    exact lfold_none m 0 (fun row hr => Nat.le_antisymm (wl_le l row) (h row hr))
theorem ld_row (m l : List (List Int)) (i : Nat) (hi : i < m.length) (h : wl l m[i] < l.length) (v u : Int) (hv : ∀ k, ld m k (av m[i] true l) ≤ v) (hu : ∀ k, ld m k (av m[i] false l) ≤ u) : ∀ k, ld m k l ≤ 1 + mx v u
  | 0 => by
    have h1 := hv 0
    have h2 := hu 0
    unfold ld at h1 h2 ⊢
    unfold mx; split <;> omega
  | k + 1 => by
    have h1 := hv k
    have h2 := hu k
    have h3 := (lfold_min (g := ld m k) (l := l) (fun x => (ld_le m k x).1) m 0 (by omega)).2.2 m[i] (List.getElem_mem hi) (by omega)
    have h4 := h3.2
    show m.foldl (lstep (ld m k) l) 0 ≤ 1 + mx v u
    revert h4
    generalize m.foldl (lstep (ld m k) l) 0 = r
    intro h4
    unfold mx at h4 ⊢
    split at h4 <;> split <;> omega

/-- What the greedy plan's number is known to be. -/
def GP (m l : List (List Int)) (v : Int) : Prop := l.length ≤ 22 → m.length ≤ 12 → 0 ≤ v ∧ v ≤ dv m l ∧ ∀ k, ld m k l ≤ v
theorem igd0 (m : List (List Int)) (h2 : m.length ≤ 1048576) (l : List (List Int)) (hl : l.length ≤ 1048576) (hm : ∀ x ∈ l, x.length ≤ 1048576)
    (hr : ∀ k : Nat, bst l m 0 (-1) l.length = k → ∃ h : k < m.length, (∃ v, Ev (fun j => impl_GreedyDepth.f j (av m[k] true l) m) v ∧ GP m (av m[k] true l) v) ∧ (∃ v, Ev (fun j => impl_GreedyDepth.f j (av m[k] false l) m) v ∧ GP m (av m[k] false l) v)) : ∃ v, Ev (fun j => impl_GreedyDepth.f j l m) v ∧ GP m l v := by
  by_cases c1 : 22 < l.length
  · refine ⟨-1, ?_, fun h => by omega⟩
    refine Ev.step (fun k => impl_GreedyDepth.f.eq_2 _ _ k) (Ev.pos (by omega) ?_)
    exact Ev.step (fun k => impl_GreedyDepth.j0.eq_2 _ _ _ k) (Ev.pos rfl (Ev.now _))
  by_cases c2 : 12 < m.length
  · refine ⟨-1, ?_, fun _ h => by omega⟩
    refine Ev.step (fun k => impl_GreedyDepth.f.eq_2 _ _ k) (Ev.neg (by omega) ?_)
    rw [show decide ((m.length : Int) > 12) = true from decide_eq_true (by omega)]
    exact Ev.step (fun k => impl_GreedyDepth.j0.eq_2 _ _ _ k) (Ev.pos rfl (Ev.now _))
  have top : ∀ v, Ev (fun j => impl_GreedyDepth.j0 j l m false) v → Ev (fun j => impl_GreedyDepth.f j l m) v := by
    intro v e
    refine Ev.step (fun k => impl_GreedyDepth.f.eq_2 _ _ k) (Ev.neg (by omega) ?_)
    rw [show decide ((m.length : Int) > 12) = false from decide_eq_false (by omega)]
    exact e
  have hge := bst_ge l m 0 (-1) l.length (by omega)
  have ei := ibr l m hl hm h2
  have hnone := bst_none l m
  have hrow := bst_row l m
  generalize bst l m 0 (-1) l.length = b at hge ei hr hnone hrow
  by_cases h0 : b < 0
  · refine ⟨0, top 0 ?_, fun _ _ => ⟨by omega, by omega, fun k => by rw [ld_none m l (hnone h0) k]; omega⟩⟩
    exact Ev.step (fun k => impl_GreedyDepth.j0.eq_2 _ _ _ k) (Ev.neg (by simp) (Ev.bind ei (Ev.pos h0 (Ev.now _))))
  · obtain ⟨k, rfl⟩ := Int.eq_ofNat_of_zero_le (show 0 ≤ b by omega)
    obtain ⟨hk, ⟨v, iv, gv⟩, ⟨u, iu, gu⟩⟩ := hr k rfl
    obtain ⟨_, hw⟩ := hrow k rfl
    have l1 := av_len m[k] true l
    have l2 := av_len m[k] false l
    obtain ⟨v0, v1, v2⟩ := gv (by omega) (by omega)
    obtain ⟨u0, u1, u2⟩ := gu (by omega) (by omega)
    have d1 := dv_less m l k hk hw true
    have d2 := dv_less m l k hk hw false
    have dle : dv m l ≤ m.length := List.countP_le_length
    have hmx : wrap64 (1 + mx v u) = 1 + mx v u := by apply wr <;> unfold mx <;> split <;> omega
    refine ⟨1 + mx v u, top _ ?_, fun _ _ => ⟨?_, ?_, ld_row m l k hk hw v u v2 u2⟩⟩
    · refine Ev.step (fun k => impl_GreedyDepth.j0.eq_2 _ _ _ k) ?_
      refine Ev.neg (by simp) ?_
      refine Ev.bind ei ?_
      refine Ev.neg (by omega) ?_
      refine Ev.pos (by omega) ?_
      refine Ev.pos (by omega) ?_
      rw [rd1 m k hk]
      refine Ev.bind (iav m[k] true l hl hm) ?_
      refine Ev.bind iv ?_
      refine Ev.bind (iav m[k] false l hl hm) ?_
      refine Ev.bind iu ?_
      exact Ev.some_ hmx
    · unfold mx; split <;> omega
    · unfold mx; split <;> omega
theorem igreedy (m : List (List Int)) (h2 : m.length ≤ 1048576) : ∀ (n : Nat) (l : List (List Int)), l.length ≤ n → l.length ≤ 1048576 → (∀ x ∈ l, x.length ≤ 1048576) → ∃ v, Ev (fun j => impl_GreedyDepth.f j l m) v ∧ GP m l v := by
  intro n
  induction n with
  | zero =>
    intro l hn hl hm
    have e : l = [] := List.eq_nil_of_length_eq_zero (by omega)
    subst e
    exact igd0 m h2 [] (by simp) (by simp) (fun k hk => by
      obtain ⟨h, h'⟩ := bst_row [] m k hk
      simp at h')
  | succ n ih =>
    intro l hn hl hm
    refine igd0 m h2 l hl hm (fun k hk => ?_)
    obtain ⟨h, h'⟩ := bst_row l m k hk
    have a1 := av_len m[k] true l
    have a2 := av_len m[k] false l
    have a3 := av_sum m[k] l
    unfold wl at h'
    have sub : ∀ b, ∀ x ∈ av m[k] b l, x.length ≤ 1048576 := fun b x hx => hm x (List.mem_filter.1 hx).1
    exact ⟨h, ih (av m[k] true l) (by omega) (by omega) (sub _), ih (av m[k] false l) (by omega) (by omega) (sub _)⟩

theorem planned_l (g m : List (List Int)) (hl : g.length ≤ 64) (hg : ∀ x ∈ g, x.length ≤ 64) (hm : m.length ≤ 7) (hr : ∀ x ∈ m, x.length ≤ 64) : ∀ (d i : Nat), i + d = m.length → Ev (fun k => laws_FnPlanned.l0 k g m (bst g m 0 (-1) g.length) i) true := by
  have h1 : g.length ≤ 1048576 := by omega
  have h2 : ∀ x ∈ g, x.length ≤ 1048576 := fun x hx => by have := hg x hx; omega
  have hge := bst_ge g m 0 (-1) g.length (by omega)
  have hnone := bst_none g m
  have hbest := bst_best g m
  have hrow := bst_row g m
  generalize bst g m 0 (-1) g.length = b at hge hnone hbest hrow ⊢
  intro d
  induction d with
  | zero =>
    intro i hi
    refine Ev.step (fun k => laws_FnPlanned.l0.eq_2 _ _ _ _ k) ?_
    refine Ev.neg (by omega) ?_
    by_cases h0 : b < 0
    · exact Ev.pos h0 (Ev.now _)
    · obtain ⟨k, rfl⟩ := Int.eq_ofNat_of_zero_le (show 0 ≤ b by omega)
      obtain ⟨hk, hw⟩ := hrow k rfl
      refine Ev.neg (by omega) ?_
      refine Ev.pos (by omega) ?_
      refine Ev.pos (by omega) ?_
      rw [rd1 m k hk]
      refine Ev.bind (iwl g m[k] h1 h2) (Ev.some_ ?_)
      exact decide_eq_true (by omega)
  | succ d ih =>
    intro i hi
    have hlt : i < m.length := by omega
    have hs := av_sum m[i] g
    have next : Ev (fun k => laws_FnPlanned.l0 k g m b (wrap64 ((i : Int) + 1))) true := by
      simp only [wnx hlt (by omega)]
      exact ih (i + 1) (by omega)
    refine Ev.step (fun k => laws_FnPlanned.l0.eq_2 _ _ _ _ k) ?_
    refine Ev.pos (by omega) ?_
    refine Ev.pos (by omega) ?_
    rw [rd1 m i hlt]
    refine Ev.bind (iav m[i] true g h1 h2) ?_
    refine Ev.bind (iav m[i] false g h1 h2) ?_
    refine Ev.pos (by rw [wr (by omega) (by omega)]; omega) ?_
    refine Ev.bind (iwl g m[i] h1 h2) ?_
    refine Ev.bnow (a := mx ((av m[i] true g).length : Int) ((av m[i] false g).length : Int)) rfl ?_
    refine Ev.pos (by unfold mx wl; split <;> omega) ?_
    by_cases h0 : b < 0
    · have hw := hnone h0 m[i] (List.getElem_mem hlt)
      refine Ev.neg (by omega) ?_
      refine Ev.pos h0 ?_
      refine Ev.bind (iwl g m[i] h1 h2) ?_
      refine Ev.neg (by omega) ?_
      exact next
    · obtain ⟨k, rfl⟩ := Int.eq_ofNat_of_zero_le (show 0 ≤ b by omega)
      obtain ⟨hk, hw⟩ := hbest k rfl
      have hwi := hw m[i] (List.getElem_mem hlt)
      refine Ev.pos (by omega) ?_
      refine Ev.bind (iwl g m[i] h1 h2) ?_
      refine Ev.pos (by omega) ?_
      refine Ev.pos (by omega) ?_
      rw [rd1 m k hk]
      refine Ev.bind (iwl g m[k] h1 h2) ?_
      refine Ev.neg (by omega) ?_
      refine Ev.neg (by omega) ?_
      exact next
theorem FnPlanned : laws_FnPlanned.Pure := by
  intro l hl hl2 hw
  refine Ev.rounds (g := fun k => laws_FnPlanned.f k l) ?_
  unfold laws_FnPlanned.f
  refine Ev.bnow (big_eq l) ?_
  by_cases hb : (l.length : Int) > 1048576
  · exact Ev.pos (decide_eq_true hb) (Ev.now _)
  refine Ev.neg (by rw [decide_eq_false hb]; simp) ?_
  obtain ⟨g, m, g0, g1, m0, m1, e⟩ := draw_ok l (by omega)
  refine Ev.bind e ?_
  have h2 : ∀ x ∈ g, x.length ≤ 1048576 := fun x hx => by have := g1 x hx; omega
  obtain ⟨v, ev, gv⟩ := igreedy m (by omega) g.length g (Nat.le_refl _) (by omega) h2
  obtain ⟨u, eu, hu⟩ : ∃ u, impl_LeastDepth.f g m = some u ∧ (0 ≤ u → g.length ≤ 22 ∧ u ≤ v) := by
    refine ⟨_, rfl, ?_⟩
    by_cases hc : 22 < g.length ∨ 6 < m.length
    · rw [if_pos hc]
      intro h; omega
    · rw [if_neg hc, pd_all]
      intro _
      exact ⟨by omega, (gv (by omega) (by omega)).2.2 _⟩
  have dle : dv m g ≤ m.length := List.countP_le_length
  have fin : Ev (fun k => laws_FnPlanned.j0 k g m false) true := by
    refine Ev.step (fun k => laws_FnPlanned.j0.eq_2 _ _ _ k) ?_
    refine Ev.neg (by simp) ?_
    refine Ev.bind (ibr g m (by omega) h2 (by omega)) ?_
    exact planned_l g m g0 g1 m0 m1 m.length 0 (by omega)
  refine Ev.bnow eu ?_
  refine Ev.bind ev ?_
  by_cases c0 : u ≥ 0
  · have hu2 := hu c0
    have hv := gv hu2.1 (by omega)
    refine Ev.pos c0 ?_
    refine Ev.pos hv.1 ?_
    refine Ev.neg (by omega) ?_
    rw [show decide (v > (m.length : Int)) = false from decide_eq_false (by omega)]
    exact fin
  · exact Ev.neg c0 fin

end Go.Proofs.Ytbbfgkjhnfcjiaa.Pure
