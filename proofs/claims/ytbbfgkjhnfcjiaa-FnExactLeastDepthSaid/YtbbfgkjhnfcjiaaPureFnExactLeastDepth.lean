/- The law FnExactLeastDepth returns true at every two lists of rows: the program's LeastDepth answers as the reference's. No condition. -/
import Derived.Test.YtbbfgkjhnfcjiaaHFnExactLeastDepthx4
namespace Go.Proofs.Ytbbfgkjhnfcjiaa.Pure
open Go.RowKit Go.Proofs.Ytbbfgkjhnfcjiaa.PFnExactLeastDepth Go.Proofs.YtbbfgkjhnfcjiaaW.PrintWords Go.Proofs.YtbbfgkjhnfcjiaaW.PrintLast
set_option linter.unusedSimpArgs false
set_option linter.unusedVariables false

theorem wr {x : Int} (h1 : -9223372036854775808 ≤ x) (h2 : x ≤ 9223372036854775807) : wrap64 x = x := by unfold wrap64; omega
theorem Ev.pos {α : Type} {c : Prop} [Decidable c] {g f : Nat → Option α} {r : α} (h : c) (e : Ev g r) : Ev (fun k => if c then g k else f k) r := by
  simp only [if_pos h]; exact e
theorem Ev.neg {α : Type} {c : Prop} [Decidable c] {g f : Nat → Option α} {r : α} (h : ¬ c) (e : Ev f r) : Ev (fun k => if c then g k else f k) r := by
  simp only [if_neg h]; exact e
theorem Ev.some_ {α : Type} {r r' : α} (h : r = r') : Ev (fun _ => some r) r' := h ▸ Ev.now r
theorem Ev.bnow {α β : Type} {g : Option α} {f : Nat → α → Option β} {a : α} {r : β} (h : g = some a) (k : Ev (fun n => f n a) r) : Ev (fun n => g.bind (f n)) r := by
  subst h; exact k

theorem wnx {i n : Nat} (h : i < n) (hn : n ≤ 9223372036854775807) : wrap64 ((i : Int) + 1) = ((i + 1 : Nat) : Int) := by rw [wr (by omega) (by omega)]; rfl
theorem rd_get (l : List Int) (i : Nat) (h : i < l.length) : rd l (i : Int) = l[i] := by simp [rd, List.getD, h]

theorem toInt_l (l : List Int) (hl : l.length ≤ 1048576) : ∀ (d i : Nat) (acc : List Int), i + d = l.length → acc.length = l.length → (∀ j, j < i → acc[j]? = l[j]?) → Ev (fun k => laws_toIntS.l0 k l acc i) l := by
  intro d
  induction d with
  | zero =>
    intro i acc hi ha hj
    refine Ev.step (fun k => laws_toIntS.l0.eq_2 _ _ _ k) ?_
    refine Ev.neg (by omega) (Ev.some_ ?_)
    apply List.ext_getElem?
    intro j
    by_cases h : j < i
    · exact hj j h
    · rw [List.getElem?_eq_none (by omega), List.getElem?_eq_none (by omega)]
  | succ d ih =>
    intro i acc hi ha hj
    refine Ev.step (fun k => laws_toIntS.l0.eq_2 _ _ _ k) ?_
    refine Ev.pos (by omega) ?_
    refine Ev.pos (by omega) ?_
    refine Ev.pos (by omega) ?_
    simp only [wnx (show i < l.length by omega) (by omega), Int.toNat_natCast]
    refine ih (i + 1) _ (by omega) (by simp; omega) ?_
    intro j hj2
    by_cases h : j = i
    · subst h
      have hlt : j < l.length := by omega
      rw [List.getElem?_set_self (by omega), rd_get l j hlt, List.getElem?_eq_getElem hlt]
    · rw [List.getElem?_set_ne (by omega)]
      exact hj j (by omega)
theorem toInts (l : List Int) (hl : l.length ≤ 1048576) : Ev (fun k => laws_toIntS.f k l) l := by
  unfold laws_toIntS.f
  refine Ev.pos (by omega) ?_
  refine Ev.pos (by omega) ?_
  exact toInt_l l hl l.length 0 _ (by omega) (by simp) (by intro j hj; omega)

theorem eqInt_l (l : List Int) (hl : l.length ≤ 1048576) : ∀ (d i : Nat), i + d = l.length → Ev (fun k => laws_eqIntS.l0 k l l i) true := by
  intro d
  induction d with
  | zero =>
    intro i hi
    refine Ev.step (fun k => laws_eqIntS.l0.eq_2 _ _ _ k) ?_
    exact Ev.neg (by omega) (Ev.now _)
  | succ d ih =>
    intro i hi
    refine Ev.step (fun k => laws_eqIntS.l0.eq_2 _ _ _ k) ?_
    refine Ev.pos (by omega) ?_
    refine Ev.pos (by omega) ?_
    refine Ev.pos (by omega) ?_
    refine Ev.pos rfl ?_
    simp only [wnx (show i < l.length by omega) (by omega)]
    exact ih (i + 1) (by omega)
theorem eqInts (l : List Int) (hl : l.length ≤ 1048576) : Ev (fun k => laws_eqIntS.f k l l) true := by
  unfold laws_eqIntS.f
  exact Ev.pos rfl (eqInt_l l hl l.length 0 (by omega))

def tot (l : List (List Int)) : Nat := (l.map List.length).sum
theorem rd1 (l : List (List Int)) (i : Nat) (h : i < l.length) : rd_L1 l (i : Int) = l[i] := by simp [rd_L1, List.getD, h]
theorem tot_mem : ∀ (l : List (List Int)) (x : List Int), x ∈ l → x.length ≤ tot l := by
  intro l
  induction l with
  | nil => intro x h; cases h
  | cons y l ih =>
    intro x h
    simp only [tot, List.map_cons, List.sum_cons]
    rcases List.mem_cons.1 h with rfl | h
    · omega
    · have := ih x h; unfold tot at this; omega

theorem szSS_l (l : List (List Int)) (hl : l.length ≤ 1048576) (hm : ∀ x ∈ l, x.length ≤ maxLen) : ∀ (d i : Nat) (q : Int), i + d = l.length → 0 ≤ q → q ≤ 1048576 → ∃ t, Ev (fun k => laws_szIntSS.l0 k l q i) t ∧ (t < 0 ∨ (t = q - tot (l.drop i) ∧ 0 ≤ t)) := by
  intro d
  induction d with
  | zero =>
    intro i q hi h0 h1
    refine ⟨q, Ev.step (fun k => laws_szIntSS.l0.eq_2 _ _ _ k) (Ev.neg (by omega) (Ev.now _)), .inr ?_⟩
    rw [List.drop_eq_nil_of_le (by omega)]
    simp [tot]; omega
  | succ d ih =>
    intro i q hi h0 h1
    have hlt : i < l.length := by omega
    have hx := hm l[i] (List.getElem_mem hlt)
    unfold maxLen at hx
    have e0 : laws_szIntS.f l[i] q = some (if q - (l[i].length : Int) < 0 then -1 else q - (l[i].length : Int)) := by
      unfold laws_szIntS.f
      rw [wr (x := q - (l[i].length : Int)) (by omega) (by omega)]
      split <;> rfl
    by_cases h : q - (l[i].length : Int) < 0
    · rw [if_pos h] at e0
      refine ⟨-1, Ev.step (fun k => laws_szIntSS.l0.eq_2 _ _ _ k) (Ev.pos (by omega) (Ev.pos (by omega) ?_)), .inl (by omega)⟩
      rw [rd1 l i hlt]
      exact Ev.bnow e0 (Ev.pos (by omega) (Ev.now _))
    · rw [if_neg h] at e0
      obtain ⟨t, et, ht⟩ := ih (i + 1) (q - (l[i].length : Int)) (by omega) (by omega) (by omega)
      refine ⟨t, Ev.step (fun k => laws_szIntSS.l0.eq_2 _ _ _ k) (Ev.pos (by omega) (Ev.pos (by omega) ?_)), ?_⟩
      · rw [rd1 l i hlt]
        refine Ev.bnow e0 (Ev.neg h ?_)
        simp only [wnx hlt (by omega)]
        exact et
      · rcases ht with ht | ⟨ht, h2⟩
        · exact .inl ht
        · refine .inr ⟨?_, h2⟩
          have : tot (l.drop i) = l[i].length + tot (l.drop (i + 1)) := by
            rw [List.drop_eq_getElem_cons hlt]; simp only [tot, List.map_cons, List.sum_cons]
          omega
theorem szSS (l : List (List Int)) (q : Int) (h0 : 0 ≤ q) (h1 : q ≤ 1048576) (hl : l.length ≤ maxLen) (hm : ∀ x ∈ l, x.length ≤ maxLen) : ∃ t, Ev (fun k => laws_szIntSS.f k l q) t ∧ (t < 0 ∨ (t = q - l.length - tot l ∧ 0 ≤ t)) := by
  unfold maxLen at hl
  unfold laws_szIntSS.f
  rw [wr (x := q - (l.length : Int)) (by omega) (by omega)]
  by_cases h : q - (l.length : Int) < 0
  · exact ⟨-1, Ev.pos h (Ev.now _), .inl (by omega)⟩
  · obtain ⟨t, et, ht⟩ := szSS_l l (by omega) hm l.length 0 (q - (l.length : Int)) (by omega) (by omega) (by omega)
    exact ⟨t, Ev.neg h et, ht⟩
theorem toSS_l (l : List (List Int)) (hl : l.length ≤ 1048576) (hm : ∀ x ∈ l, x.length ≤ 1048576) : ∀ (d i : Nat) (acc : List (List Int)), i + d = l.length → acc.length = l.length → (∀ j, j < i → acc[j]? = l[j]?) → Ev (fun k => laws_toIntSS.l0 k l acc i) l := by
  intro d
  induction d with
  | zero =>
    intro i acc hi ha hj
    refine Ev.step (fun k => laws_toIntSS.l0.eq_2 _ _ _ k) ?_
    refine Ev.neg (by omega) (Ev.some_ ?_)
    apply List.ext_getElem?
    intro j
    by_cases h : j < i
    · exact hj j h
    · rw [List.getElem?_eq_none (by omega), List.getElem?_eq_none (by omega)]
  | succ d ih =>
    intro i acc hi ha hj
    have hlt : i < l.length := by omega
    refine Ev.step (fun k => laws_toIntSS.l0.eq_2 _ _ _ k) ?_
    refine Ev.pos (by omega) ?_
    refine Ev.pos (by omega) ?_
    rw [rd1 l i hlt]
    refine Ev.bind (toInts l[i] (hm _ (List.getElem_mem hlt))) ?_
    refine Ev.pos (by omega) ?_
    simp only [wnx (show i < l.length by omega) (by omega), Int.toNat_natCast]
    refine ih (i + 1) _ (by omega) (by simp; omega) ?_
    intro j hj2
    by_cases h : j = i
    · subst h
      rw [List.getElem?_set_self (by omega), List.getElem?_eq_getElem hlt]
    · rw [List.getElem?_set_ne (by omega)]
      exact hj j (by omega)
theorem toSS (l : List (List Int)) (hl : l.length ≤ 1048576) (hm : ∀ x ∈ l, x.length ≤ 1048576) : Ev (fun k => laws_toIntSS.f k l) l := by
  unfold laws_toIntSS.f
  refine Ev.pos (by omega) ?_
  refine Ev.pos (by omega) ?_
  exact toSS_l l hl hm l.length 0 _ (by omega) (by simp) (by intro j hj; omega)
theorem eqSS_l (l : List (List Int)) (hl : l.length ≤ 1048576) (hm : ∀ x ∈ l, x.length ≤ 1048576) : ∀ (d i : Nat), i + d = l.length → Ev (fun k => laws_eqIntSS.l0 k l l i) true := by
  intro d
  induction d with
  | zero =>
    intro i hi
    refine Ev.step (fun k => laws_eqIntSS.l0.eq_2 _ _ _ k) ?_
    exact Ev.neg (by omega) (Ev.now _)
  | succ d ih =>
    intro i hi
    have hlt : i < l.length := by omega
    refine Ev.step (fun k => laws_eqIntSS.l0.eq_2 _ _ _ k) ?_
    refine Ev.pos (by omega) ?_
    refine Ev.pos (by omega) ?_
    refine Ev.pos (by omega) ?_
    rw [rd1 l i hlt]
    refine Ev.bind (eqInts l[i] (hm _ (List.getElem_mem hlt))) ?_
    refine Ev.pos rfl ?_
    simp only [wnx (show i < l.length by omega) (by omega)]
    exact ih (i + 1) (by omega)
theorem eqSS (l : List (List Int)) (hl : l.length ≤ 1048576) (hm : ∀ x ∈ l, x.length ≤ 1048576) : Ev (fun k => laws_eqIntSS.f k l l) true := by
  unfold laws_eqIntSS.f
  exact Ev.pos rfl (eqSS_l l hl hm l.length 0 (by omega))

def fwB (row : List Int) (k : Int) : Bool := decide (0 ≤ k ∧ k < row.length ∧ rd row k = 1)
/-- whether a row fails with these links. -/
def fw (row g : List Int) : Bool := g.any (fwB row)

/-- The guesses of one verdict. -/
def av (row : List Int) (b : Bool) (l : List (List Int)) : List (List Int) := l.filter (fun g => fw row g == b)
theorem av_cons (row g : List Int) (b : Bool) (l : List (List Int)) : av row b (g :: l) = if (fw row g == b) = true then g :: av row b l else av row b l := by
  unfold av; rw [List.filter_cons]
theorem av_len (row : List Int) (b : Bool) (l : List (List Int)) : (av row b l).length ≤ l.length := List.length_filter_le _ _
theorem av_sum (row : List Int) : ∀ (l : List (List Int)), (av row true l).length + (av row false l).length = l.length := by
  intro l
  induction l with
  | nil => rfl
  | cons g l ih =>
    rw [av_cons, av_cons]
    cases fw row g <;> simp <;> omega
/-- The greater part that a verdict leaves. -/
def wl (l : List (List Int)) (row : List Int) : Nat := max (av row true l).length (l.length - (av row true l).length)

/-- A row's turn in the least plan, told on lists. -/
def lstep (g : List (List Int) → Int) (l : List (List Int)) (out : Int) (row : List Int) : Int :=
  if wl l row = l.length then out else if out = 0 ∨ 1 + mx (g (av row true l)) (g (av row false l)) < out then 1 + mx (g (av row true l)) (g (av row false l)) else out
/-- The least depth, told on lists. -/
def ld (m : List (List Int)) : Nat → List (List Int) → Int
  | 0, _ => 0
  | k + 1, l => m.foldl (lstep (ld m k) l) 0
theorem wl_full (l : List (List Int)) (row : List Int) : wl l row = l.length ↔ ((av row true l).length = 0 ∨ (av row false l).length = 0) := by
  have := av_sum row l
  unfold wl
  omega
theorem lstep_le {g : List (List Int) → Int} {l : List (List Int)} {b : Int} (hg : ∀ x, 0 ≤ g x ∧ g x ≤ b) {out : Int} (h0 : 0 ≤ out) (h1 : out ≤ b + 1) (row : List Int) : 0 ≤ lstep g l out row ∧ lstep g l out row ≤ b + 1 := by
  have a := hg (av row true l)
  have c := hg (av row false l)
  unfold lstep mx
  split
  · exact ⟨h0, h1⟩
  · split <;> split <;> omega
theorem lfold_le {g : List (List Int) → Int} {l : List (List Int)} {b : Int} (hg : ∀ x, 0 ≤ g x ∧ g x ≤ b) : ∀ (m : List (List Int)) (out : Int), 0 ≤ out → out ≤ b + 1 → 0 ≤ m.foldl (lstep g l) out ∧ m.foldl (lstep g l) out ≤ b + 1
  | [], out, h0, h1 => ⟨h0, h1⟩
  | row :: m, out, h0, h1 => by
    have h := lstep_le (l := l) hg h0 h1 row
    exact lfold_le hg m _ h.1 h.2
theorem ld_le (m : List (List Int)) : ∀ (k : Nat) (l : List (List Int)), 0 ≤ ld m k l ∧ ld m k l ≤ k
  | 0, _ => by unfold ld; omega
  | k + 1, l => by
    have h := lfold_le (l := l) (b := k) (fun x => ld_le m k x) m 0 (by omega) (by omega)
    unfold ld
    omega
/-- The guesses whose bits are set. -/
def sel : List (List Int) → Nat → List (List Int)
  | [], _ => []
  | x :: l, v => if v % 2 = 1 then x :: sel l (v / 2) else sel l (v / 2)
/-- The guesses that fail with a row, one bit each, the first one's the lowest. -/
def fbits (row : List Int) : List (List Int) → Nat
  | [] => 0
  | g :: l => (if fw row g = true then 1 else 0) + 2 * fbits row l
theorem fbits_snoc (row g : List Int) : ∀ l : List (List Int), fbits row (l ++ [g]) = fbits row l + (if fw row g = true then 2 ^ l.length else 0)
  | [] => by simp [fbits]
  | x :: l => by
    simp only [List.cons_append, fbits, fbits_snoc row g l, List.length_cons, Nat.pow_succ]
    by_cases h : fw row g = true
    · simp only [if_pos h]; omega
    · simp only [if_neg h]; omega
theorem failMask_take (row : List Int) (gs : List (List Int)) : ∀ i, i ≤ gs.length → failMask row gs i = fbits row (gs.take i)
  | 0, _ => by simp [failMask, fbits]
  | i + 1, h => by
    have hi : i < gs.length := by omega
    have h1 : (gs.take i).length = i := by rw [List.length_take]; omega
    unfold failMask
    rw [failMask_take row gs i (by omega), List.take_succ_eq_append_getElem hi, fbits_snoc, rd1 gs i hi, h1]
    rfl
theorem failMask_is (row : List Int) (gs : List (List Int)) : failMask row gs gs.length = fbits row gs := by
  rw [failMask_take row gs gs.length (Nat.le_refl _), List.take_length]
theorem and_half (v f : Nat) : (v &&& f) / 2 = v / 2 &&& f / 2 := Nat.and_div_two
theorem and_low (v f : Nat) : (v &&& f) % 2 = v % 2 * (f % 2) := by
  have h := Nat.and_mod_two_pow (a := v) (b := f) (n := 1)
  simp only [Nat.pow_one] at h
  rw [h]
  have h1 : v % 2 = 0 ∨ v % 2 = 1 := by omega
  have h2 : f % 2 = 0 ∨ f % 2 = 1 := by omega
  rcases h1 with h1 | h1 <;> rcases h2 with h2 | h2 <;> rw [h1, h2] <;> rfl
theorem fbits_low (row g : List Int) (l : List (List Int)) : fbits row (g :: l) % 2 = (if fw row g = true then 1 else 0) := by
  unfold fbits; split <;> omega
theorem fbits_half (row g : List Int) (l : List (List Int)) : fbits row (g :: l) / 2 = fbits row l := by
  show ((if fw row g = true then 1 else 0) + 2 * fbits row l) / 2 = _
  split <;> omega
theorem sel_yes (row : List Int) : ∀ (l : List (List Int)) (v : Nat), sel l (v &&& fbits row l) = av row true (sel l v)
  | [], v => rfl
  | g :: l, v => by
    have ih := sel_yes row l (v / 2)
    have h1 := and_half v (fbits row (g :: l))
    have h2 := and_low v (fbits row (g :: l))
    rw [fbits_half] at h1
    rw [fbits_low] at h2
    simp only [sel]
    rw [h1, h2, ih]
    by_cases hv : v % 2 = 1
    · rw [hv, if_pos (rfl : 1 = 1), av_cons]
      cases hf : fw row g <;> simp
    · have hv : v % 2 = 0 := by omega
      rw [hv]; simp
theorem sel_no (row : List Int) : ∀ (l : List (List Int)) (v : Nat), sel l (v - (v &&& fbits row l)) = av row false (sel l v)
  | [], v => rfl
  | g :: l, v => by
    have ih := sel_no row l (v / 2)
    have h1 := and_half v (fbits row (g :: l))
    have h2 := and_low v (fbits row (g :: l))
    rw [fbits_half] at h1
    rw [fbits_low] at h2
    have hA : v / 2 &&& fbits row l ≤ v / 2 := Nat.and_le_left
    simp only [sel]
    generalize v &&& fbits row (g :: l) = A at h1 h2 ⊢
    generalize (v / 2 &&& fbits row l) = A' at h1 hA ih
    cases hf : fw row g with
    | true =>
      rw [hf] at h2
      have h2 : A % 2 = v % 2 := by simpa using h2
      have e1 : (v - A) / 2 = v / 2 - A' := by omega
      have e2 : (v - A) % 2 = 0 := by omega
      rw [e1, e2, ih, if_neg (by omega)]
      by_cases hv : v % 2 = 1
      · rw [if_pos hv, av_cons, hf]; simp
      · rw [if_neg hv]
    | false =>
      rw [hf] at h2
      have h2 : A % 2 = 0 := by simpa using h2
      have e1 : (v - A) / 2 = v / 2 - A' := by omega
      have e2 : (v - A) % 2 = v % 2 := by omega
      rw [e1, e2, ih]
      by_cases hv : v % 2 = 1
      · rw [if_pos hv, if_pos hv, av_cons, hf]; simp
      · rw [if_neg hv, if_neg hv]
theorem sel_none : ∀ (l : List (List Int)) (v : Nat), v < 2 ^ l.length → ((sel l v).length = 0 ↔ v = 0)
  | [], v, h => by simp at h; simp [sel, h]
  | g :: l, v, h => by
    rw [List.length_cons, Nat.pow_succ] at h
    have ih := sel_none l (v / 2) (by omega)
    simp only [sel]
    split
    · simp only [List.length_cons]; omega
    · rw [ih]; omega
theorem sel_all : ∀ (l : List (List Int)), sel l (2 ^ l.length - 1) = l
  | [] => rfl
  | g :: l => by
    have h := Nat.two_pow_pos l.length
    have e1 : (2 ^ (g :: l).length - 1) % 2 = 1 := by rw [List.length_cons, Nat.pow_succ]; omega
    have e2 : (2 ^ (g :: l).length - 1) / 2 = 2 ^ l.length - 1 := by rw [List.length_cons, Nat.pow_succ]; omega
    simp only [sel]
    rw [e1, e2, if_pos rfl, sel_all l]
theorem pd_ld_fold {G : Nat → Int} {g : List (List Int) → Int} {l : List (List Int)} {v : Nat} (hv : v < 2 ^ l.length) (hG : ∀ u, u < 2 ^ l.length → G u = g (sel l u)) (hg : ∀ x, 0 ≤ g x) : ∀ (m : List (List Int)) (a b : Int), b = mx a 0 → (a = -1 ∨ 1 ≤ a) →
    m.foldl (lstep g (sel l v)) b = mx ((m.map (fun row => failMask row l l.length)).foldl (pstep G v) a) 0
  | [], a, b, hb, _ => hb
  | row :: m, a, b, hb, ha => by
    simp only [List.map_cons, List.foldl_cons]
    have hA : v &&& fbits row l ≤ v := Nat.and_le_left
    have n1 := sel_none l (v &&& fbits row l) (by omega)
    have n2 := sel_none l (v - (v &&& fbits row l)) (by omega)
    have q1 := hG (v &&& fbits row l) (by omega)
    have q2 := hG (v - (v &&& fbits row l)) (by omega)
    rw [sel_yes] at n1 q1
    rw [sel_no] at n2 q2
    have p1 := hg (av row true (sel l v))
    have p2 := hg (av row false (sel l v))
    have key : lstep g (sel l v) b row = mx (pstep G v a (failMask row l l.length)) 0 ∧ (pstep G v a (failMask row l l.length) = -1 ∨ 1 ≤ pstep G v a (failMask row l l.length)) := by
      rw [failMask_is]
      unfold lstep pstep
      rw [q1, q2]
      by_cases hz : v &&& fbits row l = 0 ∨ v - (v &&& fbits row l) = 0
      · rw [if_pos hz, if_pos ((wl_full _ _).2 (by rcases hz with hz | hz; exact .inl (n1.2 hz); exact .inr (n2.2 hz)))]
        exact ⟨hb, ha⟩
      · rw [if_neg hz, if_neg (fun h => hz (by rcases (wl_full _ _).1 h with h | h; exact .inl (n1.1 h); exact .inr (n2.1 h)))]
        have hn : 1 ≤ 1 + mx (g (av row true (sel l v))) (g (av row false (sel l v))) := by unfold mx; split <;> omega
        generalize 1 + mx (g (av row true (sel l v))) (g (av row false (sel l v))) = n at hn ⊢
        have hab : (b = 0 ∨ n < b) ↔ (a < 0 ∨ n < a) := by
          subst hb; unfold mx; rcases ha with ha | ha <;> split <;> omega
        by_cases hc : a < 0 ∨ n < a
        · rw [if_pos hc, if_pos (hab.2 hc)]
          refine ⟨?_, .inr hn⟩
          unfold mx; split <;> omega
        · rw [if_neg hc, if_neg (fun x => hc (hab.1 x))]
          exact ⟨hb, ha⟩
    exact pd_ld_fold hv hG hg m _ _ key.1 key.2
theorem pd_ld (m l : List (List Int)) : ∀ (k v : Nat), v < 2 ^ l.length → pd (masks l m) k v = ld m k (sel l v)
  | 0, _, _ => rfl
  | k + 1, v, hv => by
    unfold pd ld
    exact (pd_ld_fold hv (fun u hu => pd_ld m l k u hu) (fun x => (ld_le m k x).1) m (-1) 0 rfl (.inl rfl)).symm
theorem pd_all (m l : List (List Int)) : pd (masks l m) (2 ^ l.length - 1) (2 ^ l.length - 1) = ld m (2 ^ l.length - 1) l := by
  have h := Nat.two_pow_pos l.length
  rw [pd_ld m l _ _ (by omega), sel_all]

theorem specIn (a l h : Int) : spec_l1In.f a l h = some (decide (l ≤ a ∧ a ≤ h)) := by
  unfold spec_l1In.f
  by_cases h1 : l ≤ a <;> simp [h1]

theorem sfw_l (row g : List Int) (hr : row.length ≤ 1048576) (hg : g.length ≤ 1048576) : ∀ (d i : Nat), i + d = g.length → Ev (fun k => spec_FailsWith.l0 k row g i) ((g.drop i).any (fwB row)) := by
  intro d
  induction d with
  | zero =>
    intro i hi
    refine Ev.step (fun k => spec_FailsWith.l0.eq_2 _ _ _ k) ?_
    refine Ev.neg (by omega) (Ev.some_ ?_)
    rw [List.drop_eq_nil_of_le (by omega)]; rfl
  | succ d ih =>
    intro i hi
    have hlt : i < g.length := by omega
    refine Ev.step (fun k => spec_FailsWith.l0.eq_2 _ _ _ k) ?_
    refine Ev.pos (by omega) ?_
    refine Ev.pos (by omega) ?_
    rw [rd_get g i hlt, List.drop_eq_getElem_cons hlt, List.any_cons, wr (x := (row.length : Int) - 1) (by omega) (by omega)]
    refine Ev.bnow (specIn _ _ _) ?_
    by_cases h : 0 ≤ g[i] ∧ g[i] ≤ (row.length : Int) - 1
    · refine Ev.pos (decide_eq_true h) ?_
      refine Ev.pos h.1 ?_
      refine Ev.pos (by omega) ?_
      by_cases h1 : rd row g[i] = 1
      · refine Ev.pos h1 (Ev.some_ ?_)
        have : fwB row g[i] = true := decide_eq_true ⟨h.1, by omega, h1⟩
        rw [this]; rfl
      · refine Ev.neg h1 ?_
        have : fwB row g[i] = false := decide_eq_false (fun x => h1 x.2.2)
        rw [this, Bool.false_or]
        simp only [wnx hlt (by omega)]
        exact ih (i + 1) (by omega)
    · refine Ev.neg (by rw [decide_eq_false h]; simp) ?_
      have : fwB row g[i] = false := decide_eq_false (fun x => h ⟨x.1, by omega⟩)
      rw [this, Bool.false_or]
      simp only [wnx hlt (by omega)]
      exact ih (i + 1) (by omega)
theorem sfw (row g : List Int) (hr : row.length ≤ 1048576) (hg : g.length ≤ 1048576) : Ev (fun k => spec_FailsWith.f k row g) (fw row g) := by
  unfold spec_FailsWith.f
  exact sfw_l row g hr hg g.length 0 (by omega)

theorem sav_l (row : List Int) (b : Bool) (l : List (List Int)) (hr : row.length ≤ 1048576) (hl : l.length ≤ 1048576) (hm : ∀ x ∈ l, x.length ≤ 1048576) : ∀ (d i : Nat) (acc : List (List Int)), i + d = l.length → acc.length ≤ i → Ev (fun k => spec_AfterVerdict.l0 k l row b acc i) (acc ++ av row b (l.drop i)) := by
  intro d
  induction d with
  | zero =>
    intro i acc hi ha
    refine Ev.step (fun k => spec_AfterVerdict.l0.eq_2 _ _ _ _ _ k) ?_
    refine Ev.neg (by omega) (Ev.some_ ?_)
    rw [List.drop_eq_nil_of_le (by omega)]; simp [av]
  | succ d ih =>
    intro i acc hi ha
    have hlt : i < l.length := by omega
    have hx := hm l[i] (List.getElem_mem hlt)
    refine Ev.step (fun k => spec_AfterVerdict.l0.eq_2 _ _ _ _ _ k) ?_
    refine Ev.pos (by omega) ?_
    refine Ev.pos (by omega) ?_
    rw [rd1 l i hlt, List.drop_eq_getElem_cons hlt, av_cons]
    refine Ev.bind (sfw row l[i] hr hx) ?_
    simp only [wnx hlt (by omega)]
    by_cases h : (fw row l[i] == b) = true
    · refine Ev.pos h ?_
      refine Ev.bnow rfl ?_
      refine Ev.pos (by simp; omega) ?_
      refine Ev.pos (by omega) ?_
      rw [if_pos h]
      have e := ih (i + 1) (acc ++ [l[i]]) (by omega) (by simp; omega)
      rw [List.append_assoc] at e
      exact e
    · refine Ev.neg h ?_
      rw [if_neg h]
      exact ih (i + 1) acc (by omega) (by omega)
theorem sav (row : List Int) (b : Bool) (l : List (List Int)) (hr : row.length ≤ 1048576) (hl : l.length ≤ 1048576) (hm : ∀ x ∈ l, x.length ≤ 1048576) : Ev (fun k => spec_AfterVerdict.f k l row b) (av row b l) := by
  unfold spec_AfterVerdict.f
  exact sav_l row b l hr hl hm l.length 0 [] (by omega) (by simp)

theorem specMax (a b : Int) : spec_Max.f a b = some (mx a b) := by
  unfold spec_Max.f mx
  repeat' split
  all_goals first | rfl | (congr 1; omega)

theorem swl_l (l : List (List Int)) (row : List Int) (hr : row.length ≤ 1048576) (hl : l.length ≤ 1048576) (hm : ∀ x ∈ l, x.length ≤ 1048576) : ∀ (d i n : Nat), i + d = l.length → n ≤ i → n + (av row true (l.drop i)).length = (av row true l).length → Ev (fun k => spec_WorstLeft.l0 k l row n i) (wl l row) := by
  intro d
  induction d with
  | zero =>
    intro i n hi hn ht
    refine Ev.step (fun k => spec_WorstLeft.l0.eq_2 _ _ _ _ k) ?_
    refine Ev.neg (by omega) ?_
    rw [List.drop_eq_nil_of_le (by omega)] at ht
    simp [av] at ht
    have ht : n = (av row true l).length := by simpa [av] using ht
    rw [wr (x := (l.length : Int) - n) (by omega) (by omega)]
    refine Ev.bnow (specMax _ _) (Ev.some_ ?_)
    unfold mx wl
    split <;> omega
  | succ d ih =>
    intro i n hi hn ht
    have hlt : i < l.length := by omega
    refine Ev.step (fun k => spec_WorstLeft.l0.eq_2 _ _ _ _ k) ?_
    refine Ev.pos (by omega) ?_
    refine Ev.pos (by omega) ?_
    rw [rd1 l i hlt]
    rw [List.drop_eq_getElem_cons hlt, av_cons] at ht
    refine Ev.bind (sfw row l[i] hr (hm _ (List.getElem_mem hlt))) ?_
    simp only [wnx hlt (by omega), wr (x := (n : Int) + 1) (by omega) (by omega)]
    cases h : fw row l[i] with
    | true =>
      refine Ev.pos rfl ?_
      rw [h] at ht
      simp at ht
      exact ih (i + 1) (n + 1) (by omega) (by omega) (by omega)
    | false =>
      refine Ev.neg (by simp) ?_
      rw [h] at ht
      simp at ht
      exact ih (i + 1) n (by omega) (by omega) ht
theorem swl (l : List (List Int)) (row : List Int) (hr : row.length ≤ 1048576) (hl : l.length ≤ 1048576) (hm : ∀ x ∈ l, x.length ≤ 1048576) : Ev (fun k => spec_WorstLeft.f k l row) (wl l row) := by
  unfold spec_WorstLeft.f
  exact swl_l l row hr hl hm l.length 0 0 (by omega) (by omega) (by simp)

theorem sld_l (m l : List (List Int)) (g : List (List Int) → Int) (h2 : m.length ≤ 1048576) (h3 : ∀ x ∈ m, x.length ≤ 1048576) (hl : l.length ≤ 1048576) (hm : ∀ x ∈ l, x.length ≤ 1048576) (hg : ∀ x, 0 ≤ g x ∧ g x ≤ 4194304)
    (ih : ∀ (row : List Int) (b : Bool), (av row b l).length < l.length → Ev (fun j => spec_LeastDepth.f j (av row b l) m) (g (av row b l))) : ∀ (d i : Nat) (out : Int), i + d = m.length → Ev (fun j => spec_LeastDepth.l0 j l m out i) ((m.drop i).foldl (lstep g l) out) := by
  intro d
  induction d with
  | zero =>
    intro i out hi
    refine Ev.step (fun k => spec_LeastDepth.l0.eq_2 _ _ _ _ k) ?_
    refine Ev.neg (by omega) (Ev.some_ ?_)
    rw [List.drop_eq_nil_of_le (by omega)]; rfl
  | succ d ihd =>
    intro i out hi
    have hlt : i < m.length := by omega
    have hr := h3 _ (List.getElem_mem hlt)
    refine Ev.step (fun k => spec_LeastDepth.l0.eq_2 _ _ _ _ k) ?_
    refine Ev.pos (by omega) ?_
    refine Ev.pos (by omega) ?_
    rw [rd1 m i hlt, List.drop_eq_getElem_cons hlt, List.foldl_cons]
    refine Ev.bind (swl l m[i] hr hl hm) ?_
    simp only [wnx hlt (by omega)]
    unfold lstep
    by_cases h : wl l m[i] = l.length
    · refine Ev.pos (by omega) ?_
      rw [if_pos h]
      exact ihd (i + 1) out (by omega)
    · refine Ev.neg (by omega) ?_
      rw [if_neg h]
      have hd : ¬ ((av m[i] true l).length = 0 ∨ (av m[i] false l).length = 0) := fun q => h ((wl_full _ _).2 q)
      have hs := av_sum m[i] l
      refine Ev.bind (sav m[i] true l hr hl hm) ?_
      refine Ev.bind (ih m[i] true (by omega)) ?_
      refine Ev.bind (sav m[i] false l hr hl hm) ?_
      refine Ev.bind (ih m[i] false (by omega)) ?_
      refine Ev.bnow (specMax _ _) ?_
      have b1 := hg (av m[i] true l)
      have b2 := hg (av m[i] false l)
      have hw : wrap64 (1 + mx (g (av m[i] true l)) (g (av m[i] false l))) = 1 + mx (g (av m[i] true l)) (g (av m[i] false l)) := by
        apply wr <;> unfold mx <;> split <;> omega
      simp only [hw]
      by_cases h0 : out = 0
      · refine Ev.pos h0 ?_
        rw [if_pos (.inl h0)]
        exact ihd (i + 1) _ (by omega)
      · refine Ev.neg h0 ?_
        by_cases h1 : 1 + mx (g (av m[i] true l)) (g (av m[i] false l)) < out
        · refine Ev.pos h1 ?_
          rw [if_pos (.inr h1)]
          exact ihd (i + 1) _ (by omega)
        · refine Ev.neg h1 ?_
          rw [if_neg (not_or.mpr ⟨h0, h1⟩)]
          exact ihd (i + 1) _ (by omega)
theorem lfold_nil (g : List (List Int) → Int) : ∀ (m : List (List Int)) (out : Int), m.foldl (lstep g []) out = out
  | [], _ => rfl
  | row :: m, out => by
    rw [List.foldl_cons, show lstep g [] out row = out from by unfold lstep; rw [if_pos ((wl_full _ _).2 (.inl rfl))]]
    exact lfold_nil g m out
theorem sld (m : List (List Int)) (h2 : m.length ≤ 6) (h3 : ∀ x ∈ m, x.length ≤ 1048576) : ∀ (k : Nat) (l : List (List Int)), l.length ≤ k → k ≤ 4194304 → l.length ≤ 22 → (∀ x ∈ l, x.length ≤ 1048576) → Ev (fun j => spec_LeastDepth.f j l m) (ld m k l) := by
  have top : ∀ (l : List (List Int)) (r : Int), l.length ≤ 22 → Ev (fun j => spec_LeastDepth.l0 j l m 0 0) r → Ev (fun j => spec_LeastDepth.f j l m) r := by
    intro l r hl e
    refine Ev.step (fun k => spec_LeastDepth.f.eq_2 _ _ k) ?_
    refine Ev.neg (by omega) ?_
    rw [show decide ((m.length : Int) > 6) = false from decide_eq_false (by omega)]
    refine Ev.step (fun k => spec_LeastDepth.j0.eq_2 _ _ _ k) ?_
    exact Ev.neg (by simp) e
  intro k
  induction k with
  | zero =>
    intro l hk _ hl hm
    have e : l = [] := List.eq_nil_of_length_eq_zero (by omega)
    subst e
    refine top [] _ (by simp) ?_
    have h := sld_l m [] (fun _ => 0) (by omega) h3 (by simp) (by simp) (fun _ => by omega) (fun _ _ hq => by simp at hq) m.length 0 0 (by omega)
    rw [List.drop_zero, lfold_nil] at h
    exact h
  | succ k ih =>
    intro l hk hk2 hl hm
    refine top l _ hl ?_
    have h := sld_l m l (ld m k) (by omega) h3 (by omega) hm (fun x => by have := ld_le m k x; omega) (fun row b hq => ih (av row b l) (by omega) (by omega) (by omega) (fun x hx => hm x (List.mem_filter.1 hx).1)) m.length 0 0 (by omega)
    rw [List.drop_zero] at h
    exact h

theorem FnExactLeastDepth : ∀ (l0 : List (List Int)) (l1 : List (List Int)), (l0.length ≤ maxLen ∧ ∀ x_ ∈ l0, (x_.length ≤ maxLen ∧ ∀ y_ ∈ x_, (Lit.int .i64 y_).wf = true)) → (l1.length ≤ maxLen ∧ ∀ x_ ∈ l1, (x_.length ≤ maxLen ∧ ∀ y_ ∈ x_, (Lit.int .i64 y_).wf = true)) → ∃ k, laws_FnExactLeastDepth.f k l0 l1 = some true := by
  intro l m ⟨h1, h2⟩ ⟨h3, h4⟩
  refine Ev.rounds (g := fun j => laws_FnExactLeastDepth.f j l m) ?_
  unfold laws_FnExactLeastDepth.f
  obtain ⟨q, eq, hq⟩ := szSS l 1048576 (by omega) (by omega) h1 (fun x hx => (h2 x hx).1)
  refine Ev.bind eq ?_
  by_cases h0 : q < 0
  · exact Ev.pos h0 (Ev.now _)
  refine Ev.neg h0 ?_
  obtain ⟨p, ep, hp⟩ := szSS m q (by omega) (by omega) h3 (fun x hx => (h4 x hx).1)
  refine Ev.bind ep ?_
  by_cases h0' : p < 0
  · exact Ev.pos h0' (Ev.now _)
  refine Ev.neg h0' ?_
  have hl : l.length ≤ 1048576 := by omega
  have hm : ∀ x ∈ l, x.length ≤ 1048576 := fun x hx => by have := tot_mem l x hx; omega
  have kl : m.length ≤ 1048576 := by omega
  have km : ∀ x ∈ m, x.length ≤ 1048576 := fun x hx => by have := tot_mem m x hx; omega
  clear hq hp eq ep
  have main : ∃ v, impl_LeastDepth.f l m = some v ∧ Ev (fun k => spec_LeastDepth.f k l m) v := by
    unfold impl_LeastDepth.f
    by_cases c1 : 22 < l.length
    · rw [if_pos (.inl c1)]
      refine ⟨_, rfl, ?_⟩
      refine Ev.step (fun k => spec_LeastDepth.f.eq_2 _ _ k) ?_
      refine Ev.pos (by omega) ?_
      exact Ev.step (fun k => spec_LeastDepth.j0.eq_2 _ _ _ k) (Ev.pos rfl (Ev.now _))
    by_cases c2 : 6 < m.length
    · rw [if_pos (.inr c2)]
      refine ⟨_, rfl, ?_⟩
      refine Ev.step (fun k => spec_LeastDepth.f.eq_2 _ _ k) ?_
      refine Ev.neg (by omega) ?_
      rw [show decide ((m.length : Int) > 6) = true from decide_eq_true (by omega)]
      exact Ev.step (fun k => spec_LeastDepth.j0.eq_2 _ _ _ k) (Ev.pos rfl (Ev.now _))
    rw [if_neg (by omega)]
    refine ⟨_, rfl, ?_⟩
    rw [pd_all]
    have h22 : 2 ^ l.length ≤ 2 ^ 22 := Nat.pow_le_pow_right (by decide) (by omega)
    have hlt := @Nat.lt_two_pow_self l.length
    exact sld m (by omega) km _ l (by omega) (by omega) (by omega) hm
  obtain ⟨v, ei, es⟩ := main
  refine Ev.bind (toSS l hl hm) ?_
  refine Ev.bind (toSS m kl km) ?_
  refine Ev.bind es ?_
  refine Ev.bind (toSS l hl hm) ?_
  refine Ev.bind (toSS m kl km) ?_
  refine Ev.bnow ei ?_
  refine Ev.pos rfl ?_
  refine Ev.bind (toSS l hl hm) ?_
  refine Ev.bind (eqSS l hl hm) ?_
  refine Ev.pos rfl ?_
  refine Ev.bind (toSS m kl km) ?_
  refine Ev.bind (eqSS m kl km) ?_
  exact Ev.pos rfl (Ev.now _)

end Go.Proofs.Ytbbfgkjhnfcjiaa.Pure
