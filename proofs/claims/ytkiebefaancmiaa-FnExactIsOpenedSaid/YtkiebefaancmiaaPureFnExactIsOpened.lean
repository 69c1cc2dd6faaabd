/- The law FnExactIsOpened returns true at every claim: the program's IsOpened answers as the reference's. No condition. -/
import Derived.Test.YtkiebefaancmiaaPFnExactIsOpenedx3
namespace Go.Proofs.Ytkiebefaancmiaa.Pure
open Go.RowKit Go.Proofs.Ytkiebefaancmiaa.PFnExactIsOpened Go.Proofs.YtkiebefaancmiaaW.PrintWords Go.Proofs.YtkiebefaancmiaaW.PrintLast
set_option linter.unusedSimpArgs false
set_option linter.unusedVariables false

theorem wr {x : Int} (h1 : -9223372036854775808 ≤ x) (h2 : x ≤ 9223372036854775807) : wrap64 x = x := by unfold wrap64; omega
theorem Ev.pos {α : Type} {c : Prop} [Decidable c] {g f : Nat → Option α} {r : α} (h : c) (e : Ev g r) : Ev (fun k => if c then g k else f k) r := by
  simp only [if_pos h]; exact e
theorem Ev.neg {α : Type} {c : Prop} [Decidable c] {g f : Nat → Option α} {r : α} (h : ¬ c) (e : Ev f r) : Ev (fun k => if c then g k else f k) r := by
  simp only [if_neg h]; exact e
theorem Ev.some_ {α : Type} {r r' : α} (h : r = r') : Ev (fun _ => some r) r' := h ▸ Ev.now r
theorem Ev.bnow {α β : Type} {g : Option α} {f : Nat → α → Option β} {a : α} {r : β} (h : g = some a) (k : Ev (fun n => f n a) r) : Ev (fun n => g.bind (f n)) r := by
  subst h; exact k

theorem wnx {i n : Nat} (h : i < n) (hn : n ≤ 9223372036854775807) : wrap64 ((i : Int) + 1) = ((i + 1 : Nat) : Int) := by rw [wr (by omega) (by omega)]; rfl
theorem rd_get (l : List Int) (i : Nat) (h : i < l.length) : rd l (i : Int) = l[i] := by simp [rd, List.getD, h]

theorem toInt_l (l : List Int) (hl : l.length ≤ 1048576) : ∀ (d i : Nat) (acc : List Int), i + d = l.length → acc.length = l.length → (∀ j, j < i → acc[j]? = l[j]?) → Ev (fun k => laws_toIntS.l0 k l acc i) l := by
  intro d
  induction d with
  | zero =>
    intro i acc hi ha hj
    refine Ev.step (fun k => laws_toIntS.l0.eq_2 _ _ _ k) ?_
    refine Ev.neg (by omega) (Ev.some_ ?_)
    apply List.ext_getElem?
    intro j
    by_cases h : j < i
    · exact hj j h
    · rw [List.getElem?_eq_none (by omega), List.getElem?_eq_none (by omega)]
  | succ d ih =>
    intro i acc hi ha hj
    refine Ev.step (fun k => laws_toIntS.l0.eq_2 _ _ _ k) ?_
    refine Ev.pos (by omega) ?_
    refine Ev.pos (by omega) ?_
    refine Ev.pos (by omega) ?_
    simp only [wnx (show i < l.length by omega) (by omega), Int.toNat_natCast]
    refine ih (i + 1) _ (by omega) (by simp; omega) ?_
    intro j hj2
    by_cases h : j = i
    · subst h
      have hlt : j < l.length := by omega
      rw [List.getElem?_set_self (by omega), rd_get l j hlt, List.getElem?_eq_getElem hlt]
    · rw [List.getElem?_set_ne (by omega)]
      exact hj j (by omega)
theorem toInts (l : List Int) (hl : l.length ≤ 1048576) : Ev (fun k => laws_toIntS.f k l) l := by
  unfold laws_toIntS.f
  refine Ev.pos (by omega) ?_
  refine Ev.pos (by omega) ?_
  exact toInt_l l hl l.length 0 _ (by omega) (by simp) (by intro j hj; omega)

theorem eqInt_l (l : List Int) (hl : l.length ≤ 1048576) : ∀ (d i : Nat), i + d = l.length → Ev (fun k => laws_eqIntS.l0 k l l i) true := by
  intro d
  induction d with
  | zero =>
    intro i hi
    refine Ev.step (fun k => laws_eqIntS.l0.eq_2 _ _ _ k) ?_
    exact Ev.neg (by omega) (Ev.now _)
  | succ d ih =>
    intro i hi
    refine Ev.step (fun k => laws_eqIntS.l0.eq_2 _ _ _ k) ?_
    refine Ev.pos (by omega) ?_
    refine Ev.pos (by omega) ?_
    refine Ev.pos (by omega) ?_
    refine Ev.pos rfl ?_
    simp only [wnx (show i < l.length by omega) (by omega)]
    exact ih (i + 1) (by omega)
theorem eqInts (l : List Int) (hl : l.length ≤ 1048576) : Ev (fun k => laws_eqIntS.f k l l) true := by
  unfold laws_eqIntS.f
  exact Ev.pos rfl (eqInt_l l hl l.length 0 (by omega))

theorem toCl (t s : Int) (l : List Int) (hl : l.length ≤ 1048576) : Ev (fun k => laws_toClaim.f k t s l) (t, s, l) := by
  unfold laws_toClaim.f
  exact Ev.bind (toInts l hl) (Ev.now _)
theorem eqCl (t s : Int) (l : List Int) (hl : l.length ≤ 1048576) : Ev (fun k => laws_eqClaim.f k t s l t s l) true := by
  unfold laws_eqClaim.f
  exact Ev.pos rfl (Ev.pos rfl (Ev.bind (eqInts l hl) (Ev.pos rfl (Ev.now _))))
theorem szInts (l : List Int) (q : Int) (hq : 0 ≤ q) (hq2 : q ≤ 1048576) (hl : l.length ≤ maxLen) : ∃ t, laws_szIntS.f l q = some t ∧ (t < 0 ∨ ((l.length : Int) ≤ q ∧ 0 ≤ t ∧ t ≤ q)) := by
  unfold maxLen at hl
  unfold laws_szIntS.f
  rw [wr (x := q - (l.length : Int)) (by omega) (by omega)]
  split
  · exact ⟨-1, rfl, .inl (by omega)⟩
  · exact ⟨_, rfl, .inr (by omega)⟩
theorem szCl (a b : Int) (l : List Int) (q : Int) (hq : 0 ≤ q) (hq2 : q ≤ 1048576) (hl : l.length ≤ maxLen) : ∃ t, laws_szClaim.f a b l q = some t ∧ (t < 0 ∨ ((l.length : Int) ≤ q ∧ 0 ≤ t ∧ t ≤ q)) := by
  obtain ⟨t, ht, h⟩ := szInts l q hq hq2 hl
  unfold laws_szClaim.f
  rw [ht]
  simp only [Option.bind_some]
  split
  · exact ⟨-1, rfl, .inl (by omega)⟩
  · exact ⟨t, rfl, h⟩

def inB (a b x : Int) : Bool := decide (a ≤ x ∧ x ≤ b)
def okV (l : List Int) : Bool := l.all (inB 0 100000) && decide (l.length ≤ 12)

def modI (v : Int) : Int := Int.tmod (wrap64 (Int.tmod v 2147483647 + 2147483647)) 2147483647
def stepH (h v : Int) : Int := Int.tmod (wrap64 (wrap64 (wrap64 (h * 1000003) + modI v) + 13)) 2147483647
def hashF (l : List Int) : Int := l.foldl stepH 11

def comI (s : Int) (l : List Int) : Int := if inB 1 100000 s = true ∧ okV l = true then mx 1 (hashF (s :: l)) else 0
theorem comI_nn (s : Int) (l : List Int) : 0 ≤ comI s l := by
  unfold comI
  split
  · have e : ∀ x y : Int, mx x y = if x < y then y else x := fun _ _ => rfl
    rw [e]; split <;> omega
  · omega
def opens (t s : Int) (l : List Int) : Bool := decide (0 < t) && (comI s l == t)

theorem implIn (a l h : Int) : impl_InRange.f a l h = some (decide (l ≤ a ∧ a ≤ h)) := by
  unfold impl_InRange.f
  by_cases h1 : l ≤ a <;> simp [h1]

theorem implMod (v : Int) : impl_Mod.f v 2147483647 = some (modI v) := by
  unfold impl_Mod.f
  simp only [implIn, Option.bind_some]
  rw [if_pos (by decide), if_neg (by decide)]; rfl
theorem implHash_l (l : List Int) (hl : l.length ≤ 1048577) : ∀ (d i : Nat) (h : Int), i + d = l.length → Ev (fun k => impl_Hash.l0 k h l l.length i) ((l.drop i).foldl stepH h) := by
  intro d
  induction d with
  | zero =>
    intro i h hi
    refine Ev.step (fun k => impl_Hash.l0.eq_2 _ _ _ _ k) ?_
    refine Ev.neg (by omega) (Ev.some_ ?_)
    rw [List.drop_eq_nil_of_le (by omega)]; rfl
  | succ d ih =>
    intro i h hi
    have hlt : i < l.length := by omega
    refine Ev.step (fun k => impl_Hash.l0.eq_2 _ _ _ _ k) ?_
    refine Ev.pos (by omega) ?_
    refine Ev.pos (by omega) ?_
    refine Ev.pos (by omega) ?_
    rw [rd_get l i hlt, List.drop_eq_getElem_cons hlt]
    refine Ev.bnow (implMod _) ?_
    simp only [wnx hlt (by omega)]
    exact ih (i + 1) _ (by omega)
theorem implHash (l : List Int) (hl : l.length ≤ 1048577) : Ev (fun k => impl_Hash.f k l) (hashF l) := by
  unfold impl_Hash.f
  exact implHash_l l hl l.length 0 11 (by omega)

theorem allIn_l (l : List Int) (a b : Int) (hl : l.length ≤ 1048577) : ∀ (d i : Nat), i + d = l.length → Ev (fun k => impl_allIn.l0 k a b l l.length i) ((l.drop i).all (inB a b)) := by
  intro d
  induction d with
  | zero =>
    intro i hi
    refine Ev.step (fun k => impl_allIn.l0.eq_2 _ _ _ _ _ k) ?_
    refine Ev.neg (by omega) (Ev.some_ ?_)
    rw [List.drop_eq_nil_of_le (by omega)]; rfl
  | succ d ih =>
    intro i hi
    have hlt : i < l.length := by omega
    refine Ev.step (fun k => impl_allIn.l0.eq_2 _ _ _ _ _ k) ?_
    refine Ev.pos (by omega) ?_
    refine Ev.pos (by omega) ?_
    refine Ev.pos (by omega) ?_
    rw [rd_get l i hlt, List.drop_eq_getElem_cons hlt, List.all_cons]
    refine Ev.bnow (a := inB a b l[i]) (by rw [implIn]; rfl) ?_
    cases h : inB a b l[i] with
    | true =>
      refine Ev.pos rfl ?_
      simp only [wnx hlt (by omega)]
      exact ih (i + 1) (by omega)
    | false => exact Ev.neg (by simp) (Ev.now _)
theorem allIn (l : List Int) (a b : Int) (hl : l.length ≤ 1048577) : Ev (fun k => impl_allIn.f k l a b) (l.all (inB a b)) := by
  unfold impl_allIn.f
  exact allIn_l l a b hl l.length 0 (by omega)

theorem implCom (s : Int) (l : List Int) (hl : l.length ≤ 1048576) : Ev (fun k => impl_CommitTo.f k s l) (comI s l) := by
  unfold impl_CommitTo.f comI okV
  refine Ev.bnow (a := inB 1 100000 s) (by rw [implIn]; rfl) ?_
  cases h1 : inB 1 100000 s with
  | false =>
    rw [if_neg (by simp)]
    refine Ev.neg (by simp) ?_
    refine Ev.step (fun k => impl_CommitTo.j0.eq_2 _ _ _ k) ?_
    exact Ev.pos rfl (Ev.now _)
  | true =>
    refine Ev.pos rfl ?_
    by_cases h : (l.length : Int) > 12
    · refine Ev.pos h ?_
      have : ¬ l.length ≤ 12 := by omega
      rw [if_neg (by simp [this])]
      refine Ev.step (fun k => impl_CommitTo.j0.eq_2 _ _ _ k) ?_
      exact Ev.pos rfl (Ev.now _)
    · refine Ev.neg h ?_
      have : l.length ≤ 12 := by omega
      refine Ev.bind (allIn l 0 100000 (by omega)) ?_
      refine Ev.step (fun k => impl_CommitTo.j0.eq_2 _ _ _ k) ?_
      cases ha : l.all (inB 0 100000) with
      | true =>
        rw [if_pos (by simp [this])]
        refine Ev.neg (by simp) ?_
        refine Ev.bnow rfl ?_
        refine Ev.pos (by simp; omega) ?_
        refine Ev.bind (implHash (s :: l) (by simp; omega)) ?_
        exact Ev.bnow rfl (Ev.now _)
      | false =>
        rw [if_neg (by simp)]
        exact Ev.pos rfl (Ev.now _)

theorem implOpens (t s : Int) (l : List Int) (hl : l.length ≤ 1048576) : Ev (fun k => impl_OpensTo.f k t s l) (opens t s l) := by
  unfold impl_OpensTo.f opens
  by_cases h : t > 0
  · have h' : 0 < t := h
    refine Ev.pos h (Ev.bind (implCom s l hl) (Ev.some_ ?_))
    simp [h']
  · have h' : ¬ 0 < t := h
    refine Ev.neg h (Ev.some_ ?_)
    simp [h']

theorem specIn (a l h : Int) : spec_l1In.f a l h = some (decide (l ≤ a ∧ a ≤ h)) := by
  unfold spec_l1In.f
  by_cases h1 : l ≤ a <;> simp [h1]

theorem specMod (v : Int) : spec_Mod.f v 2147483647 = some (modI v) := by
  unfold spec_Mod.f
  simp only [specIn, Option.bind_some]
  rw [if_pos (by decide), if_neg (by decide)]; rfl
theorem specHash_l (l : List Int) (hl : l.length ≤ 1048577) : ∀ (d i : Nat) (h : Int), i + d = l.length → Ev (fun k => spec_Hash.l0 k l h i) ((l.drop i).foldl stepH h) := by
  intro d
  induction d with
  | zero =>
    intro i h hi
    refine Ev.step (fun k => spec_Hash.l0.eq_2 _ _ _ k) ?_
    refine Ev.neg (by omega) (Ev.some_ ?_)
    rw [List.drop_eq_nil_of_le (by omega)]; rfl
  | succ d ih =>
    intro i h hi
    have hlt : i < l.length := by omega
    refine Ev.step (fun k => spec_Hash.l0.eq_2 _ _ _ k) ?_
    refine Ev.pos (by omega) ?_
    refine Ev.pos (by omega) ?_
    rw [rd_get l i hlt, List.drop_eq_getElem_cons hlt]
    refine Ev.bnow (specMod _) ?_
    simp only [wnx hlt (by omega)]
    exact ih (i + 1) _ (by omega)
theorem specHash (l : List Int) (hl : l.length ≤ 1048577) : Ev (fun k => spec_Hash.f k l) (hashF l) := by
  unfold spec_Hash.f
  exact specHash_l l hl l.length 0 11 (by omega)

theorem specOk_l (l : List Int) (hl : l.length ≤ 1048577) : ∀ (d i : Nat), i + d = l.length → Ev (fun k => spec_l22Ok.l0 k l i) ((l.drop i).all (inB 0 100000) && decide (l.length ≤ 12)) := by
  intro d
  induction d with
  | zero =>
    intro i hi
    refine Ev.step (fun k => spec_l22Ok.l0.eq_2 _ _ k) ?_
    refine Ev.neg (by omega) (Ev.some_ ?_)
    rw [List.drop_eq_nil_of_le (by omega)]
    simp only [List.all_nil, Bool.true_and]
    apply decide_eq_decide.mpr; omega
  | succ d ih =>
    intro i hi
    have hlt : i < l.length := by omega
    refine Ev.step (fun k => spec_l22Ok.l0.eq_2 _ _ k) ?_
    refine Ev.pos (by omega) ?_
    refine Ev.pos (by omega) ?_
    rw [rd_get l i hlt, List.drop_eq_getElem_cons hlt, List.all_cons]
    refine Ev.bnow (a := inB 0 100000 l[i]) (by unfold spec_l9Stamp.f; rw [specIn]; rfl) ?_
    cases h : inB 0 100000 l[i] with
    | true =>
      refine Ev.pos rfl ?_
      simp only [wnx hlt (by omega)]
      exact ih (i + 1) (by omega)
    | false => exact Ev.neg (by simp) (Ev.now _)
theorem specOk (l : List Int) (hl : l.length ≤ 1048577) : Ev (fun k => spec_l22Ok.f k l) (okV l) := by
  unfold spec_l22Ok.f
  exact specOk_l l hl l.length 0 (by omega)

theorem specMax (a b : Int) : spec_Max.f a b = some (mx a b) := by
  unfold spec_Max.f mx
  repeat' split
  all_goals first | rfl | (congr 1; omega)

theorem specCom (s : Int) (l : List Int) (hl : l.length ≤ 1048576) : Ev (fun k => spec_CommitTo.f k s l) (comI s l) := by
  unfold spec_CommitTo.f comI
  refine Ev.bnow (a := inB 1 100000 s) (by rw [specIn]; rfl) ?_
  cases h1 : inB 1 100000 s with
  | false =>
    rw [if_neg (by simp)]
    refine Ev.neg (by simp) ?_
    refine Ev.step (fun k => spec_CommitTo.j0.eq_2 _ _ _ k) ?_
    exact Ev.pos rfl (Ev.now _)
  | true =>
    refine Ev.pos rfl ?_
    refine Ev.bind (specOk l (by omega)) ?_
    refine Ev.step (fun k => spec_CommitTo.j0.eq_2 _ _ _ k) ?_
    cases ha : okV l with
    | true =>
      rw [if_pos (by simp)]
      refine Ev.neg (by simp) ?_
      refine Ev.bnow rfl ?_
      refine Ev.pos (by simp; omega) ?_
      refine Ev.bind (specHash (s :: l) (by simp; omega)) ?_
      exact Ev.bnow (specMax _ _) (Ev.now _)
    | false =>
      rw [if_neg (by simp)]
      exact Ev.pos rfl (Ev.now _)

theorem specOpens (t s : Int) (l : List Int) (hl : l.length ≤ 1048576) : Ev (fun k => spec_OpensTo.f k t s l) (opens t s l) := by
  unfold spec_OpensTo.f opens
  by_cases h : t > 0
  · have h' : 0 < t := h
    refine Ev.pos h (Ev.bind (specCom s l hl) (Ev.some_ ?_))
    simp [h']
  · have h' : ¬ 0 < t := h
    refine Ev.neg h (Ev.some_ ?_)
    simp [h']

theorem FnExactIsOpened : ∀ (a0_0 : Int) (a0_1 : Int) (l0_2 : List Int), (Lit.int .i64 a0_0).wf = true → (Lit.int .i64 a0_1).wf = true → (l0_2.length ≤ maxLen ∧ ∀ x_ ∈ l0_2, (Lit.int .i64 x_).wf = true) → ∃ k, laws_FnExactIsOpened.f k a0_0 a0_1 l0_2 = some true := by
  intro t s l _ _ ⟨hl, _⟩
  refine Ev.rounds (g := fun j => laws_FnExactIsOpened.f j t s l) ?_
  unfold laws_FnExactIsOpened.f
  obtain ⟨q, e, h⟩ := szCl t s l 1048576 (by omega) (by omega) hl
  refine Ev.bnow e ?_
  by_cases h0 : q < 0
  · exact Ev.pos h0 (Ev.now _)
  · refine Ev.neg h0 ?_
    have hl2 : l.length ≤ 1048576 := by omega
    refine Ev.bind (toCl t s l hl2) ?_
    refine Ev.bind (a := opens t s l) (by unfold spec_IsOpened.f; exact Ev.bind (specOpens t s l hl2) (Ev.now _)) ?_
    refine Ev.bind (toCl t s l hl2) ?_
    refine Ev.bind (a := opens t s l) (by unfold impl_IsOpened.f; exact Ev.bind (implOpens t s l hl2) (Ev.now _)) ?_
    refine Ev.neg (by simp) ?_
    refine Ev.bind (toCl t s l hl2) ?_
    refine Ev.bind (eqCl t s l hl2) ?_
    exact Ev.pos rfl (Ev.now _)

end Go.Proofs.Ytkiebefaancmiaa.Pure
