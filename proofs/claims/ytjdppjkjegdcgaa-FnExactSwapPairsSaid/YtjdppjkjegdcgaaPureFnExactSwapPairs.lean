/- The law FnExactSwapPairs returns true at every list of pairs: the program's SwapPairs answers as the reference's, in memory of its own. No condition. -/
import Derived.Test.YtjdppjkjegdcgaaHFnExactSwapPairsx2
namespace Go.Proofs.Ytjdppjkjegdcgaa.Pure
open Go.RowKit Go.Proofs.Ytjdppjkjegdcgaa.PFnExactSwapPairs Go.Proofs.YtjdppjkjegdcgaaW.PrintWords Go.Proofs.YtjdppjkjegdcgaaW.PrintLast
set_option linter.unusedSimpArgs false
set_option linter.unusedVariables false

theorem wr {x : Int} (h1 : -9223372036854775808 ≤ x) (h2 : x ≤ 9223372036854775807) : wrap64 x = x := by unfold wrap64; omega
theorem Ev.pos {α : Type} {c : Prop} [Decidable c] {g f : Nat → Option α} {r : α} (h : c) (e : Ev g r) : Ev (fun k => if c then g k else f k) r := by
  simp only [if_pos h]; exact e
theorem Ev.neg {α : Type} {c : Prop} [Decidable c] {g f : Nat → Option α} {r : α} (h : ¬ c) (e : Ev f r) : Ev (fun k => if c then g k else f k) r := by
  simp only [if_neg h]; exact e
theorem Ev.some_ {α : Type} {r r' : α} (h : r = r') : Ev (fun _ => some r) r' := h ▸ Ev.now r
theorem Ev.bnow {α β : Type} {g : Option α} {f : Nat → α → Option β} {a : α} {r : β} (h : g = some a) (k : Ev (fun n => f n a) r) : Ev (fun n => g.bind (f n)) r := by
  subst h; exact k

def cv (x : S52) : S44 := ⟨x.f0, x.f1⟩
theorem wnext {i n : Nat} (h : i < n) (hn : n ≤ 9223372036854775807) : wrap64 ((i : Int) + 1) = ((i + 1 : Nat) : Int) := by rw [wr (by omega) (by omega)]; rfl
theorem toPair_l (l : List S52) (hl : l.length ≤ 1048576) : ∀ (d i : Nat) (acc : List S44), i + d = l.length → acc.length = l.length → (∀ j, j < i → acc[j]? = (l.map cv)[j]?) → Ev (fun k => laws_toPairS.l0 k l acc i) (l.map cv) := by
  intro d
  induction d with
  | zero =>
    intro i acc hi ha hj
    refine Ev.step (fun k => laws_toPairS.l0.eq_2 _ _ _ k) ?_
    refine Ev.neg (by omega) (Ev.some_ ?_)
    apply List.ext_getElem?
    intro j
    by_cases h : j < i
    · exact hj j h
    · rw [List.getElem?_eq_none (by omega), List.getElem?_eq_none (by simp; omega)]
  | succ d ih =>
    intro i acc hi ha hj
    refine Ev.step (fun k => laws_toPairS.l0.eq_2 _ _ _ k) ?_
    refine Ev.pos (by omega) ?_
    refine Ev.pos (by omega) ?_
    refine Ev.bnow (by unfold laws_toPair.f; rfl) ?_
    refine Ev.pos (by omega) ?_
    simp only [wnext (show i < l.length by omega) (by omega), Int.toNat_natCast]
    refine ih (i + 1) _ (by omega) (by simp; omega) ?_
    intro j hj2
    by_cases h : j = i
    · subst h
      have hlt : j < l.length := by omega
      rw [List.getElem?_set_self (by omega)]
      simp [rd_T52, cv, hlt, List.getD]
    · rw [List.getElem?_set_ne (by omega)]
      exact hj j (by omega)
theorem toPairs (l : List S52) (hl : l.length ≤ 1048576) : Ev (fun k => laws_toPairS.f k l) (l.map cv) := by
  unfold laws_toPairS.f
  refine Ev.pos (by omega) ?_
  refine Ev.pos (by omega) ?_
  exact toPair_l l hl l.length 0 _ (by omega) (by simp) (by intro j hj; omega)
theorem eqPair_l (l : List S44) (hl : l.length ≤ 1048576) : ∀ (d i : Nat), i + d = l.length → Ev (fun k => laws_eqPairS.l0 k l l i) true := by
  intro d
  induction d with
  | zero =>
    intro i hi
    refine Ev.step (fun k => laws_eqPairS.l0.eq_2 _ _ _ k) ?_
    exact Ev.neg (by omega) (Ev.now _)
  | succ d ih =>
    intro i hi
    refine Ev.step (fun k => laws_eqPairS.l0.eq_2 _ _ _ k) ?_
    refine Ev.pos (by omega) ?_
    refine Ev.pos (by omega) ?_
    refine Ev.pos (by omega) ?_
    refine Ev.bnow (a := true) (by unfold laws_eqPair.f; simp) ?_
    refine Ev.pos rfl ?_
    simp only [wnext (show i < l.length by omega) (by omega)]
    exact ih (i + 1) (by omega)
theorem eqPairs (l : List S44) (hl : l.length ≤ 1048576) : Ev (fun k => laws_eqPairS.f k l l) true := by
  unfold laws_eqPairS.f
  exact Ev.pos rfl (eqPair_l l hl l.length 0 (by omega))
theorem szPairs (l : List S52) (hl : l.length ≤ maxLen) : ∃ t, laws_szPairS.f l 1048576 = some t ∧ (t < 0 ∨ l.length ≤ 1048576) := by
  unfold maxLen at hl
  unfold laws_szPairS.f
  rw [wr (x := 1048576 - (l.length : Int)) (by omega) (by omega)]
  split
  · exact ⟨-1, rfl, .inl (by omega)⟩
  · exact ⟨_, rfl, .inr (by omega)⟩

/-- Pairs numbered from a on. -/
def mkP : Nat → Int → List S44
  | 0, _ => []
  | n + 1, a => ⟨a, a + 1⟩ :: mkP n (a + 2)
theorem mkP_len : ∀ (n : Nat) (a : Int), (mkP n a).length = n := by
  intro n
  induction n with
  | zero => intro a; rfl
  | succ n ih => intro a; simp [mkP, ih]
theorem rdT (pre rest : List S44) (x : S44) : rd_T44 (pre ++ x :: rest) (pre.length : Int) = x := by
  simp [rd_T44, List.getD]
theorem set_at {α : Type} (pre rest : List α) (x y : α) : (pre ++ x :: rest).set pre.length y = pre ++ y :: rest := by simp
theorem markP_l : ∀ (rest pre : List S44) (a : Int), 0 ≤ a → a + 2 * rest.length ≤ 1000000000000 → pre.length + rest.length ≤ 1048576 → Ev (fun k => laws_markPairS.l0 k (pre ++ rest) a pre.length) (a + 2 * rest.length, pre ++ mkP rest.length a) := by
  intro rest
  induction rest with
  | nil =>
    intro pre a h0 h1 h2
    refine Ev.step (fun k => laws_markPairS.l0.eq_2 _ _ _ k) ?_
    refine Ev.neg (by simp) (Ev.some_ ?_)
    simp [mkP]
  | cons x rest ih =>
    intro pre a h0 h1 h2
    rw [List.length_cons] at h1 h2
    refine Ev.step (fun k => laws_markPairS.l0.eq_2 _ _ _ k) ?_
    refine Ev.pos (by simp; omega) ?_
    refine Ev.pos (by omega) ?_
    refine Ev.bnow rfl ?_
    simp only [Int.toNat_natCast, set_at, rdT, wnext (show pre.length < 1048577 by omega) (by omega), wr (x := a + 1) (by omega) (by omega), wr (x := a + 1 + 1) (by omega) (by omega)]
    have e := ih (pre ++ [⟨a, a + 1⟩]) (a + 2) (by omega) (by omega) (by simp; omega)
    rw [List.append_assoc, List.append_assoc, List.length_append] at e
    simp only [List.length_cons, List.length_nil, List.cons_append, List.nil_append] at e
    rw [show a + 1 + 1 = a + 2 by omega]
    simp only [List.length_cons, mkP]
    rw [show a + 2 * ((rest.length + 1 : Nat) : Int) = a + 2 + 2 * (rest.length : Int) by omega]
    exact e
theorem markP (l : List S44) (hl : l.length ≤ 1048576) : Ev (fun k => laws_markPairS.f k l 1) (1 + 2 * l.length, mkP l.length 1) := by
  unfold laws_markPairS.f
  have e := markP_l l [] 1 (by omega) (by omega) (by simp; omega)
  simpa using e
theorem heldP_l : ∀ (n : Nat) (pre : List S44) (a : Int), 0 ≤ a → a + 2 * n ≤ 1000000000000 → pre.length + n ≤ 1048576 → Ev (fun k => laws_heldPairS.l0 k (pre ++ mkP n a) a pre.length) (a + 2 * n) := by
  intro n
  induction n with
  | zero =>
    intro pre a h0 h1 h2
    refine Ev.step (fun k => laws_heldPairS.l0.eq_2 _ _ _ k) ?_
    refine Ev.neg (by simp [mkP]) (Ev.some_ (by simp))
  | succ n ih =>
    intro pre a h0 h1 h2
    refine Ev.step (fun k => laws_heldPairS.l0.eq_2 _ _ _ k) ?_
    refine Ev.pos (by simp [mkP]; omega) ?_
    refine Ev.pos (by omega) ?_
    simp only [mkP, rdT]
    refine Ev.pos trivial ?_
    simp only [wnext (show pre.length < 1048577 by omega) (by omega), wr (x := a + 1) (by omega) (by omega), wr (x := a + 1 + 1) (by omega) (by omega)]
    refine Ev.pos trivial ?_
    have e := ih (pre ++ [⟨a, a + 1⟩]) (a + 2) (by omega) (by omega) (by simp; omega)
    rw [List.append_assoc, List.length_append] at e
    simp only [List.length_cons, List.length_nil, List.cons_append, List.nil_append] at e
    rw [show a + 1 + 1 = a + 2 by omega, show a + 2 * ((n + 1 : Nat) : Int) = a + 2 + 2 * (n : Int) by omega]
    exact e
theorem heldP (n : Nat) (hn : n ≤ 1048576) : Ev (fun k => laws_heldPairS.f k (mkP n 1) 1) (1 + 2 * n) := by
  unfold laws_heldPairS.f
  have e := heldP_l n [] 1 (by omega) (by omega) (by simp; omega)
  simpa using e

def sw (x : S44) : S44 := ⟨x.f1, x.f0⟩
theorem specSwap_l (l : List S44) (hl : l.length ≤ 1048576) : ∀ (d i : Nat) (acc : List S44), i + d = l.length → acc.length = i → Ev (fun k => spec_SwapPairs.l0 k l acc i) (acc ++ (l.drop i).map sw) := by
  intro d
  induction d with
  | zero =>
    intro i acc hi ha
    refine Ev.step (fun k => spec_SwapPairs.l0.eq_2 _ _ _ k) ?_
    refine Ev.neg (by omega) (Ev.some_ ?_)
    rw [List.drop_eq_nil_of_le (by omega)]; simp
  | succ d ih =>
    intro i acc hi ha
    have hlt : i < l.length := by omega
    refine Ev.step (fun k => spec_SwapPairs.l0.eq_2 _ _ _ k) ?_
    refine Ev.pos (by omega) ?_
    refine Ev.pos (by omega) ?_
    refine Ev.pos (by omega) ?_
    have hr : rd_T44 l (i : Int) = l[i] := by simp [rd_T44, hlt, List.getD]
    simp only [wnext hlt (by omega), hr]
    have e := ih (i + 1) (acc ++ [sw l[i]]) (by omega) (by simp; omega)
    rw [List.drop_eq_getElem_cons hlt, List.map_cons]
    rw [List.append_assoc] at e
    exact e
theorem specSwap (l : List S44) (hl : l.length ≤ 1048576) : Ev (fun k => spec_SwapPairs.f k l) (l.map sw) := by
  unfold spec_SwapPairs.f
  have e := specSwap_l l hl l.length 0 [] (by omega) rfl
  simpa using e

theorem implSwap_l (l : List S44) (hl : l.length ≤ 1048576) : ∀ (d i : Nat) (acc : List S44), i + d = l.length → acc.length = l.length → (∀ j, j < i → acc[j]? = (l.map sw)[j]?) → Ev (fun k => impl_SwapPairs.l0 k acc l l.length i) (l.map sw) := by
  intro d
  induction d with
  | zero =>
    intro i acc hi ha hj
    refine Ev.step (fun k => impl_SwapPairs.l0.eq_2 _ _ _ _ k) ?_
    refine Ev.neg (by omega) (Ev.some_ ?_)
    apply List.ext_getElem?
    intro j
    by_cases h : j < i
    · exact hj j h
    · rw [List.getElem?_eq_none (by omega), List.getElem?_eq_none (by simp; omega)]
  | succ d ih =>
    intro i acc hi ha hj
    have hlt : i < l.length := by omega
    refine Ev.step (fun k => impl_SwapPairs.l0.eq_2 _ _ _ _ k) ?_
    refine Ev.pos (by omega) ?_
    refine Ev.pos (by omega) ?_
    refine Ev.pos (by omega) ?_
    refine Ev.pos (by omega) ?_
    have hr : rd_T44 l (i : Int) = l[i] := by simp [rd_T44, hlt, List.getD]
    simp only [wnext hlt (by omega), Int.toNat_natCast, hr]
    refine ih (i + 1) _ (by omega) (by simp; omega) ?_
    intro j hj2
    by_cases h : j = i
    · subst h
      rw [List.getElem?_set_self (by omega)]
      simp [sw, hlt]
    · rw [List.getElem?_set_ne (by omega)]
      exact hj j (by omega)
theorem implSwap (l : List S44) (hl : l.length ≤ 1048576) : Ev (fun k => impl_SwapPairs.f k l) (l.map sw) := by
  unfold impl_SwapPairs.f
  refine Ev.bnow (a := l) (by unfold impl_Pair.f; rw [if_pos (by omega)]) ?_
  exact implSwap_l l hl l.length 0 l (by omega) rfl (by intro j hj; omega)

theorem FnExactSwapPairs : ∀ (l0 : List S52), (l0.length ≤ maxLen ∧ ∀ x_ ∈ l0, ((Lit.int .i64 x_.f0).wf = true ∧ (Lit.int .i64 x_.f1).wf = true)) → ∃ k, laws_FnExactSwapPairs.f k l0 = some true := by
  intro l ⟨hl, _⟩
  refine Ev.rounds (g := fun j => laws_FnExactSwapPairs.f j l) ?_
  unfold laws_FnExactSwapPairs.f
  obtain ⟨t, ht, h⟩ := szPairs l hl
  refine Ev.bnow ht ?_
  by_cases h0 : t < 0
  · exact Ev.pos h0 (Ev.now _)
  · have hl2 : l.length ≤ 1048576 := by omega
    have hl3 : (l.map cv).length ≤ 1048576 := by simpa using hl2
    have hl4 : ((l.map cv).map sw).length ≤ 1048576 := by simpa using hl2
    refine Ev.neg h0 ?_
    refine Ev.bind (toPairs l hl2) ?_
    refine Ev.bind (specSwap _ hl3) ?_
    refine Ev.bind (toPairs l hl2) ?_
    refine Ev.bind (implSwap _ hl3) ?_
    refine Ev.bind (eqPairs _ hl4) ?_
    refine Ev.pos rfl ?_
    refine Ev.bind (toPairs l hl2) ?_
    refine Ev.bind (eqPairs _ hl3) ?_
    refine Ev.pos rfl ?_
    refine Ev.bind (markP _ hl3) ?_
    dsimp only
    refine Ev.neg (by omega) ?_
    refine Ev.bind (eqPairs _ hl4) ?_
    refine Ev.step (fun k => laws_FnExactSwapPairs.j0.eq_2 _ _ _ _ k) ?_
    refine Ev.neg (by simp) ?_
    refine Ev.bind (markP _ hl4) ?_
    refine Ev.bind (heldP _ hl4) ?_
    refine Ev.neg (by omega) ?_
    refine Ev.pos rfl ?_
    refine Ev.bind (toPairs l hl2) ?_
    refine Ev.bind (implSwap _ hl3) ?_
    refine Ev.bind (eqPairs _ hl4) ?_
    refine Ev.pos rfl ?_
    refine Ev.bind (heldP _ hl4) ?_
    refine Ev.neg (by omega) ?_
    exact Ev.pos rfl (Ev.now _)

end Go.Proofs.Ytjdppjkjegdcgaa.Pure
