/- The law FnExactJudgeClaims returns true at every two claims, witness and margin: the program's JudgeClaims answers as the reference's. No condition. -/
import Derived.Test.YtkiebefaancmiaaHFnExactJudgeClaimsx7
namespace Go.Proofs.Ytkiebefaancmiaa.Pure
open Go.RowKit Go.Proofs.Ytkiebefaancmiaa.PFnExactJudgeClaims Go.Proofs.YtkiebefaancmiaaW.PrintWords Go.Proofs.YtkiebefaancmiaaW.PrintLast
set_option linter.unusedSimpArgs false
set_option linter.unusedVariables false

theorem wr {x : Int} (h1 : -9223372036854775808 ≤ x) (h2 : x ≤ 9223372036854775807) : wrap64 x = x := by unfold wrap64; omega
theorem Ev.pos {α : Type} {c : Prop} [Decidable c] {g f : Nat → Option α} {r : α} (h : c) (e : Ev g r) : Ev (fun k => if c then g k else f k) r := by
  simp only [if_pos h]; exact e
theorem Ev.neg {α : Type} {c : Prop} [Decidable c] {g f : Nat → Option α} {r : α} (h : ¬ c) (e : Ev f r) : Ev (fun k => if c then g k else f k) r := by
  simp only [if_neg h]; exact e
theorem Ev.some_ {α : Type} {r r' : α} (h : r = r') : Ev (fun _ => some r) r' := h ▸ Ev.now r
theorem Ev.bnow {α β : Type} {g : Option α} {f : Nat → α → Option β} {a : α} {r : β} (h : g = some a) (k : Ev (fun n => f n a) r) : Ev (fun n => g.bind (f n)) r := by
  subst h; exact k

theorem wnx {i n : Nat} (h : i < n) (hn : n ≤ 9223372036854775807) : wrap64 ((i : Int) + 1) = ((i + 1 : Nat) : Int) := by rw [wr (by omega) (by omega)]; rfl
theorem rd_get (l : List Int) (i : Nat) (h : i < l.length) : rd l (i : Int) = l[i] := by simp [rd, List.getD, h]

theorem toInt_l (l : List Int) (hl : l.length ≤ 1048576) : ∀ (d i : Nat) (acc : List Int), i + d = l.length → acc.length = l.length → (∀ j, j < i → acc[j]? = l[j]?) → Ev (fun k => laws_toIntS.l0 k l acc i) l := by
  intro d
  induction d with
  | zero =>
    intro i acc hi ha hj
    refine Ev.step (fun k => laws_toIntS.l0.eq_2 _ _ _ k) ?_
    refine Ev.neg (by omega) (Ev.some_ ?_)
    apply List.ext_getElem?
    intro j
    by_cases h : j < i
    · exact hj j h
    · rw [List.getElem?_eq_none (by omega), List.getElem?_eq_none (by omega)]
  | succ d ih =>
    intro i acc hi ha hj
    refine Ev.step (fun k => laws_toIntS.l0.eq_2 _ _ _ k) ?_
    refine Ev.pos (by omega) ?_
    refine Ev.pos (by omega) ?_
    refine Ev.pos (by omega) ?_
    simp only [wnx (show i < l.length by omega) (by omega), Int.toNat_natCast]
    refine ih (i + 1) _ (by omega) (by simp; omega) ?_
    intro j hj2
    by_cases h : j = i
    · subst h
      have hlt : j < l.length := by omega
      rw [List.getElem?_set_self (by omega), rd_get l j hlt, List.getElem?_eq_getElem hlt]
    · rw [List.getElem?_set_ne (by omega)]
      exact hj j (by omega)
theorem toInts (l : List Int) (hl : l.length ≤ 1048576) : Ev (fun k => laws_toIntS.f k l) l := by
  unfold laws_toIntS.f
  refine Ev.pos (by omega) ?_
  refine Ev.pos (by omega) ?_
  exact toInt_l l hl l.length 0 _ (by omega) (by simp) (by intro j hj; omega)

theorem eqInt_l (l : List Int) (hl : l.length ≤ 1048576) : ∀ (d i : Nat), i + d = l.length → Ev (fun k => laws_eqIntS.l0 k l l i) true := by
  intro d
  induction d with
  | zero =>
    intro i hi
    refine Ev.step (fun k => laws_eqIntS.l0.eq_2 _ _ _ k) ?_
    exact Ev.neg (by omega) (Ev.now _)
  | succ d ih =>
    intro i hi
    refine Ev.step (fun k => laws_eqIntS.l0.eq_2 _ _ _ k) ?_
    refine Ev.pos (by omega) ?_
    refine Ev.pos (by omega) ?_
    refine Ev.pos (by omega) ?_
    refine Ev.pos rfl ?_
    simp only [wnx (show i < l.length by omega) (by omega)]
    exact ih (i + 1) (by omega)
theorem eqInts (l : List Int) (hl : l.length ≤ 1048576) : Ev (fun k => laws_eqIntS.f k l l) true := by
  unfold laws_eqIntS.f
  exact Ev.pos rfl (eqInt_l l hl l.length 0 (by omega))

theorem toCl (t s : Int) (l : List Int) (hl : l.length ≤ 1048576) : Ev (fun k => laws_toClaim.f k t s l) (t, s, l) := by
  unfold laws_toClaim.f
  exact Ev.bind (toInts l hl) (Ev.now _)
theorem eqCl (t s : Int) (l : List Int) (hl : l.length ≤ 1048576) : Ev (fun k => laws_eqClaim.f k t s l t s l) true := by
  unfold laws_eqClaim.f
  exact Ev.pos rfl (Ev.pos rfl (Ev.bind (eqInts l hl) (Ev.pos rfl (Ev.now _))))
theorem szInts (l : List Int) (q : Int) (hq : 0 ≤ q) (hq2 : q ≤ 1048576) (hl : l.length ≤ maxLen) : ∃ t, laws_szIntS.f l q = some t ∧ (t < 0 ∨ ((l.length : Int) ≤ q ∧ 0 ≤ t ∧ t ≤ q)) := by
  unfold maxLen at hl
  unfold laws_szIntS.f
  rw [wr (x := q - (l.length : Int)) (by omega) (by omega)]
  split
  · exact ⟨-1, rfl, .inl (by omega)⟩
  · exact ⟨_, rfl, .inr (by omega)⟩
theorem szCl (a b : Int) (l : List Int) (q : Int) (hq : 0 ≤ q) (hq2 : q ≤ 1048576) (hl : l.length ≤ maxLen) : ∃ t, laws_szClaim.f a b l q = some t ∧ (t < 0 ∨ ((l.length : Int) ≤ q ∧ 0 ≤ t ∧ t ≤ q)) := by
  obtain ⟨t, ht, h⟩ := szInts l q hq hq2 hl
  unfold laws_szClaim.f
  rw [ht]
  simp only [Option.bind_some]
  split
  · exact ⟨-1, rfl, .inl (by omega)⟩
  · exact ⟨t, rfl, h⟩

def inB (a b x : Int) : Bool := decide (a ≤ x ∧ x ≤ b)
def okV (l : List Int) : Bool := l.all (inB 0 100000) && decide (l.length ≤ 12)

/-- The sum, from s on. -/
def sumL (s : Int) (l : List Int) : Int := l.foldl (fun t x => wrap64 (t + x)) s
def totI (l : List Int) : Int := if okV l = true then sumL 0 l else -1

def farL (m : Int) : List Int → List Int → Nat
  | x :: a, y :: b => (if mx (wrap64 (x - y)) (wrap64 (y - x)) > m then 1 else 0) + farL m a b
  | _, _ => 0
def farI (a b : List Int) (m : Int) : Int := if inB 0 100000 m = true ∧ okV a = true ∧ okV b = true then (farL m a b : Int) else 0
theorem sumL_nn : ∀ (l : List Int) (s : Int), l.all (inB 0 100000) = true → 0 ≤ s → s + l.length * 100000 ≤ 1000000000000 → 0 ≤ sumL s l := by
  intro l
  induction l with
  | nil => intro s _ h _; exact h
  | cons x l ih =>
    intro s ha h0 h1
    rw [List.all_cons, Bool.and_eq_true] at ha
    have hx : 0 ≤ x ∧ x ≤ 100000 := by simpa [inB] using ha.1
    rw [List.length_cons] at h1
    show 0 ≤ sumL (wrap64 (s + x)) l
    rw [wr (by omega) (by omega)]
    exact ih (s + x) ha.2 (by omega) (by omega)
theorem tot_neg (l : List Int) : (totI l == -1) = !okV l := by
  unfold totI
  cases h : okV l with
  | false => simp
  | true =>
    rw [if_pos rfl]
    have h2 := h
    simp only [okV, Bool.and_eq_true, decide_eq_true_eq] at h2
    have := sumL_nn l 0 h2.1 (by omega) (by omega)
    simp; omega
theorem farL_le (m : Int) : ∀ (a b : List Int), farL m a b ≤ a.length := by
  intro a
  induction a with
  | nil => intro b; simp [farL]
  | cons x a ih =>
    intro b
    cases b with
    | nil => simp [farL]
    | cons y b => have := ih b; simp only [farL, List.length_cons]; split <;> omega
theorem farI_nn (a b : List Int) (m : Int) : 0 ≤ farI a b m ∧ farI a b m ≤ 12 := by
  unfold farI
  split
  · rename_i h
    have h2 := h.2.1
    simp only [okV, Bool.and_eq_true, decide_eq_true_eq] at h2
    have := farL_le m a b
    omega
  · omega

def modI (v : Int) : Int := Int.tmod (wrap64 (Int.tmod v 2147483647 + 2147483647)) 2147483647
def stepH (h v : Int) : Int := Int.tmod (wrap64 (wrap64 (wrap64 (h * 1000003) + modI v) + 13)) 2147483647
def hashF (l : List Int) : Int := l.foldl stepH 11

def comI (s : Int) (l : List Int) : Int := if inB 1 100000 s = true ∧ okV l = true then mx 1 (hashF (s :: l)) else 0
theorem comI_nn (s : Int) (l : List Int) : 0 ≤ comI s l := by
  unfold comI
  split
  · have e : ∀ x y : Int, mx x y = if x < y then y else x := fun _ _ => rfl
    rw [e]; split <;> omega
  · omega
def opens (t s : Int) (l : List Int) : Bool := decide (0 < t) && (comI s l == t)

def both (a b : Bool) : Int := if a = true then (if b = true then 3 else 1) else (if b = true then 2 else 0)
def judgI (ta sa : Int) (la : List Int) (tb sb : Int) (lb w : List Int) (m : Int) : Int :=
  if opens ta sa la = false ∨ opens tb sb lb = false then both (!opens ta sa la) (!opens tb sb lb)
  else if la.length = w.length ∧ lb.length = w.length ∧ okV w = true ∧ inB 0 100000 m = true then both (decide (2 * farI la w m > w.length)) (decide (2 * farI lb w m > w.length)) else 4

theorem implIn (a l h : Int) : impl_InRange.f a l h = some (decide (l ≤ a ∧ a ≤ h)) := by
  unfold impl_InRange.f
  by_cases h1 : l ≤ a <;> simp [h1]

theorem implMod (v : Int) : impl_Mod.f v 2147483647 = some (modI v) := by
  unfold impl_Mod.f
  simp only [implIn, Option.bind_some]
  rw [if_pos (by decide), if_neg (by decide)]; rfl
theorem implHash_l (l : List Int) (hl : l.length ≤ 1048577) : ∀ (d i : Nat) (h : Int), i + d = l.length → Ev (fun k => impl_Hash.l0 k h l l.length i) ((l.drop i).foldl stepH h) := by
  intro d
  induction d with
  | zero =>
    intro i h hi
    refine Ev.step (fun k => impl_Hash.l0.eq_2 _ _ _ _ k) ?_
    refine Ev.neg (by omega) (Ev.some_ ?_)
    rw [List.drop_eq_nil_of_le (by omega)]; rfl
  | succ d ih =>
    intro i h hi
    have hlt : i < l.length := by omega
    refine Ev.step (fun k => impl_Hash.l0.eq_2 _ _ _ _ k) ?_
    refine Ev.pos (by omega) ?_
    refine Ev.pos (by omega) ?_
    refine Ev.pos (by omega) ?_
    rw [rd_get l i hlt, List.drop_eq_getElem_cons hlt]
    refine Ev.bnow (implMod _) ?_
    simp only [wnx hlt (by omega)]
    exact ih (i + 1) _ (by omega)
theorem implHash (l : List Int) (hl : l.length ≤ 1048577) : Ev (fun k => impl_Hash.f k l) (hashF l) := by
  unfold impl_Hash.f
  exact implHash_l l hl l.length 0 11 (by omega)

theorem allIn_l (l : List Int) (a b : Int) (hl : l.length ≤ 1048577) : ∀ (d i : Nat), i + d = l.length → Ev (fun k => impl_allIn.l0 k a b l l.length i) ((l.drop i).all (inB a b)) := by
  intro d
  induction d with
  | zero =>
    intro i hi
    refine Ev.step (fun k => impl_allIn.l0.eq_2 _ _ _ _ _ k) ?_
    refine Ev.neg (by omega) (Ev.some_ ?_)
    rw [List.drop_eq_nil_of_le (by omega)]; rfl
  | succ d ih =>
    intro i hi
    have hlt : i < l.length := by omega
    refine Ev.step (fun k => impl_allIn.l0.eq_2 _ _ _ _ _ k) ?_
    refine Ev.pos (by omega) ?_
    refine Ev.pos (by omega) ?_
    refine Ev.pos (by omega) ?_
    rw [rd_get l i hlt, List.drop_eq_getElem_cons hlt, List.all_cons]
    refine Ev.bnow (a := inB a b l[i]) (by rw [implIn]; rfl) ?_
    cases h : inB a b l[i] with
    | true =>
      refine Ev.pos rfl ?_
      simp only [wnx hlt (by omega)]
      exact ih (i + 1) (by omega)
    | false => exact Ev.neg (by simp) (Ev.now _)
theorem allIn (l : List Int) (a b : Int) (hl : l.length ≤ 1048577) : Ev (fun k => impl_allIn.f k l a b) (l.all (inB a b)) := by
  unfold impl_allIn.f
  exact allIn_l l a b hl l.length 0 (by omega)

theorem implCom (s : Int) (l : List Int) (hl : l.length ≤ 1048576) : Ev (fun k => impl_CommitTo.f k s l) (comI s l) := by
  unfold impl_CommitTo.f comI okV
  refine Ev.bnow (a := inB 1 100000 s) (by rw [implIn]; rfl) ?_
  cases h1 : inB 1 100000 s with
  | false =>
    rw [if_neg (by simp)]
    refine Ev.neg (by simp) ?_
    refine Ev.step (fun k => impl_CommitTo.j0.eq_2 _ _ _ k) ?_
    exact Ev.pos rfl (Ev.now _)
  | true =>
    refine Ev.pos rfl ?_
    by_cases h : (l.length : Int) > 12
    · refine Ev.pos h ?_
      have : ¬ l.length ≤ 12 := by omega
      rw [if_neg (by simp [this])]
      refine Ev.step (fun k => impl_CommitTo.j0.eq_2 _ _ _ k) ?_
      exact Ev.pos rfl (Ev.now _)
    · refine Ev.neg h ?_
      have : l.length ≤ 12 := by omega
      refine Ev.bind (allIn l 0 100000 (by omega)) ?_
      refine Ev.step (fun k => impl_CommitTo.j0.eq_2 _ _ _ k) ?_
      cases ha : l.all (inB 0 100000) with
      | true =>
        rw [if_pos (by simp [this])]
        refine Ev.neg (by simp) ?_
        refine Ev.bnow rfl ?_
        refine Ev.pos (by simp; omega) ?_
        refine Ev.bind (implHash (s :: l) (by simp; omega)) ?_
        exact Ev.bnow rfl (Ev.now _)
      | false =>
        rw [if_neg (by simp)]
        exact Ev.pos rfl (Ev.now _)

theorem implOpens (t s : Int) (l : List Int) (hl : l.length ≤ 1048576) : Ev (fun k => impl_OpensTo.f k t s l) (opens t s l) := by
  unfold impl_OpensTo.f opens
  by_cases h : t > 0
  · have h' : 0 < t := h
    refine Ev.pos h (Ev.bind (implCom s l hl) (Ev.some_ ?_))
    simp [h']
  · have h' : ¬ 0 < t := h
    refine Ev.neg h (Ev.some_ ?_)
    simp [h']

theorem implTot_l (l : List Int) (hl : l.length ≤ 1048576) : ∀ (d i : Nat) (s : Int), i + d = l.length → Ev (fun k => impl_TotalOf.l0 k s l l.length i) (sumL s (l.drop i)) := by
  intro d
  induction d with
  | zero =>
    intro i s hi
    refine Ev.step (fun k => impl_TotalOf.l0.eq_2 _ _ _ _ k) ?_
    refine Ev.neg (by omega) (Ev.some_ ?_)
    rw [List.drop_eq_nil_of_le (by omega)]; rfl
  | succ d ih =>
    intro i s hi
    have hlt : i < l.length := by omega
    refine Ev.step (fun k => impl_TotalOf.l0.eq_2 _ _ _ _ k) ?_
    refine Ev.pos (by omega) ?_
    refine Ev.pos (by omega) ?_
    refine Ev.pos (by omega) ?_
    rw [rd_get l i hlt, List.drop_eq_getElem_cons hlt]
    simp only [wnx hlt (by omega)]
    exact ih (i + 1) _ (by omega)
theorem implTot (l : List Int) (hl : l.length ≤ 1048576) : Ev (fun k => impl_TotalOf.f k l) (totI l) := by
  unfold impl_TotalOf.f totI okV
  by_cases h : (l.length : Int) > 12
  · refine Ev.pos h ?_
    have : ¬ l.length ≤ 12 := by omega
    rw [if_neg (by simp [this])]
    refine Ev.step (fun k => impl_TotalOf.j0.eq_2 _ _ k) ?_
    exact Ev.pos rfl (Ev.now _)
  · refine Ev.neg h ?_
    have : l.length ≤ 12 := by omega
    refine Ev.bind (allIn l 0 100000 (by omega)) ?_
    refine Ev.step (fun k => impl_TotalOf.j0.eq_2 _ _ k) ?_
    cases ha : l.all (inB 0 100000) with
    | true =>
      rw [if_pos (by simp [this])]
      refine Ev.neg (by simp) ?_
      exact implTot_l l hl l.length 0 0 (by omega)
    | false =>
      rw [if_neg (by simp)]
      exact Ev.pos rfl (Ev.now _)

theorem implFar_l (a b : List Int) (m : Int) (hl : a.length ≤ 1048576) (hl2 : b.length ≤ 1048576) : ∀ (d i c : Nat), i + d = min a.length b.length → c ≤ i → Ev (fun k => impl_CountFar.l0 k a b m c (mn a.length b.length) i) ((c + farL m (a.drop i) (b.drop i) : Nat) : Int) := by
  have hm : mn (a.length : Int) (b.length : Int) = ((min a.length b.length : Nat) : Int) := by unfold mn; split <;> omega
  rw [hm]
  intro d
  induction d with
  | zero =>
    intro i c hi hc
    refine Ev.step (fun k => impl_CountFar.l0.eq_2 _ _ _ _ _ _ k) ?_
    refine Ev.neg (by omega) (Ev.some_ ?_)
    by_cases h : a.length ≤ i
    · rw [List.drop_eq_nil_of_le h]; simp [farL]
    · have e : b.drop i = [] := List.drop_eq_nil_of_le (by omega)
      have e2 : ∀ l, farL m l [] = 0 := fun l => by cases l <;> rfl
      rw [e, e2]; rfl
  | succ d ih =>
    intro i c hi hc
    have h1 : i < a.length := by omega
    have h2 : i < b.length := by omega
    refine Ev.step (fun k => impl_CountFar.l0.eq_2 _ _ _ _ _ _ k) ?_
    refine Ev.pos (by omega) ?_
    refine Ev.pos (by omega) ?_
    refine Ev.pos (by omega) ?_
    refine Ev.pos (by omega) ?_
    rw [rd_get a i h1, rd_get b i h2, List.drop_eq_getElem_cons h1, List.drop_eq_getElem_cons h2]
    simp only [wnx h1 (by omega), wnx (show c < a.length by omega) (by omega), farL]
    by_cases h : mx (wrap64 (a[i] - b[i])) (wrap64 (b[i] - a[i])) > m
    · refine Ev.pos h ?_
      rw [if_pos h, ← Nat.add_assoc]
      exact ih (i + 1) (c + 1) (by omega) (by omega)
    · refine Ev.neg h ?_
      rw [if_neg h, Nat.zero_add]
      exact ih (i + 1) c (by omega) (by omega)
theorem implFar (a b : List Int) (m : Int) (hl : a.length ≤ 1048576) (hl2 : b.length ≤ 1048576) : Ev (fun k => impl_CountFar.f k a b m) (farI a b m) := by
  unfold impl_CountFar.f farI
  have z : Ev (fun k => impl_CountFar.j0 k a b m true) 0 := Ev.step (fun k => impl_CountFar.j0.eq_2 _ _ _ _ k) (Ev.pos rfl (Ev.now _))
  refine Ev.bnow (a := inB 0 100000 m) (by rw [implIn]; rfl) ?_
  cases hm : inB 0 100000 m with
  | false => rw [if_neg (by simp)]; exact Ev.neg (by simp) z
  | true =>
    refine Ev.pos rfl ?_
    refine Ev.bind (implTot a hl) ?_
    have ta := tot_neg a
    cases ha : okV a with
    | false =>
      rw [if_neg (by simp)]
      rw [ha] at ta
      exact Ev.pos (by simpa using ta) z
    | true =>
      rw [ha] at ta
      refine Ev.neg (by simpa using ta) ?_
      refine Ev.bind (implTot b hl2) ?_
      rw [tot_neg b]
      cases hb : okV b with
      | false => rw [if_neg (by simp)]; exact z
      | true =>
        rw [if_pos (by simp)]
        refine Ev.step (fun k => impl_CountFar.j0.eq_2 _ _ _ _ k) ?_
        refine Ev.neg (by simp) ?_
        have e := implFar_l a b m hl hl2 (min a.length b.length) 0 0 (by omega) (by omega)
        simpa using e

theorem implBoth (a b : Bool) : impl_both.f a b = some (both a b) := by cases a <;> cases b <;> rfl
theorem implIsOp (t s : Int) (l : List Int) (hl : l.length ≤ 1048576) : Ev (fun k => impl_IsOpened.f k t s l) (opens t s l) := by
  unfold impl_IsOpened.f
  exact Ev.bind (implOpens t s l hl) (Ev.now _)
theorem both_zero (a b : Bool) : both a b = 0 ↔ (a = false ∧ b = false) := by cases a <;> cases b <;> simp [both]
theorem implJudge (ta sa : Int) (la : List Int) (tb sb : Int) (lb w : List Int) (m : Int) (h1 : la.length ≤ 1048576) (h2 : lb.length ≤ 1048576) (h3 : w.length ≤ 1048576) :
    Ev (fun k => impl_JudgeClaims.f k ta sa la tb sb lb w m) (judgI ta sa la tb sb lb w m) := by
  unfold impl_JudgeClaims.f judgI
  refine Ev.bind (implIsOp ta sa la h1) ?_
  refine Ev.bind (implIsOp tb sb lb h2) ?_
  refine Ev.bnow (implBoth _ _) ?_
  have z : Ev (fun k => impl_JudgeClaims.j0 k w m w.length true ta sa la tb sb lb) 4 := Ev.step (fun k => impl_JudgeClaims.j0.eq_2 _ _ _ _ _ _ _ _ _ _ k) (Ev.pos rfl (Ev.now _))
  by_cases hb : both (!opens ta sa la) (!opens tb sb lb) = 0
  · have hb2 := (both_zero _ _).1 hb
    simp only [Bool.not_eq_false'] at hb2
    rw [if_neg (by simp [hb2])]
    refine Ev.pos hb ?_
    by_cases ea : la.length = w.length
    · refine Ev.pos (by omega) ?_
      by_cases eb : lb.length = w.length
      · refine Ev.pos (by omega) ?_
        refine Ev.bind (implTot w h3) ?_
        have tw := tot_neg w
        cases ow : okV w with
        | false =>
          rw [ow] at tw
          rw [if_neg (by simp)]
          exact Ev.pos (by simpa using tw) z
        | true =>
          rw [ow] at tw
          refine Ev.neg (by simpa using tw) ?_
          refine Ev.bnow (a := inB 0 100000 m) (by rw [implIn]; rfl) ?_
          cases hm : inB 0 100000 m with
          | false =>
            rw [if_neg (by simp)]
            exact z
          | true =>
            rw [if_pos (by simp [ea, eb])]
            refine Ev.step (fun k => impl_JudgeClaims.j0.eq_2 _ _ _ _ _ _ _ _ _ _ k) ?_
            refine Ev.neg (by simp) ?_
            refine Ev.bind (implFar la w m h1 h3) ?_
            refine Ev.bind (implFar lb w m h2 h3) ?_
            have b1 := farI_nn la w m
            have b2 := farI_nn lb w m
            rw [wr (x := 2 * farI la w m) (by omega) (by omega), wr (x := 2 * farI lb w m) (by omega) (by omega)]
            refine Ev.bnow (implBoth _ _) (Ev.now _)
      · rw [if_neg (by simp [eb])]
        exact Ev.neg (by omega) z
    · rw [if_neg (by simp [ea])]
      exact Ev.neg (by omega) z
  · have hb2 : opens ta sa la = false ∨ opens tb sb lb = false := by
      cases h : opens ta sa la with
      | false => exact .inl rfl
      | true =>
        cases h' : opens tb sb lb with
        | false => exact .inr rfl
        | true => rw [h, h'] at hb; exact absurd rfl hb
    rw [if_pos hb2]
    exact Ev.neg hb (Ev.now _)

theorem specIn (a l h : Int) : spec_l1In.f a l h = some (decide (l ≤ a ∧ a ≤ h)) := by
  unfold spec_l1In.f
  by_cases h1 : l ≤ a <;> simp [h1]

theorem specMod (v : Int) : spec_Mod.f v 2147483647 = some (modI v) := by
  unfold spec_Mod.f
  simp only [specIn, Option.bind_some]
  rw [if_pos (by decide), if_neg (by decide)]; rfl
theorem specHash_l (l : List Int) (hl : l.length ≤ 1048577) : ∀ (d i : Nat) (h : Int), i + d = l.length → Ev (fun k => spec_Hash.l0 k l h i) ((l.drop i).foldl stepH h) := by
  intro d
  induction d with
  | zero =>
    intro i h hi
    refine Ev.step (fun k => spec_Hash.l0.eq_2 _ _ _ k) ?_
    refine Ev.neg (by omega) (Ev.some_ ?_)
    rw [List.drop_eq_nil_of_le (by omega)]; rfl
  | succ d ih =>
    intro i h hi
    have hlt : i < l.length := by omega
    refine Ev.step (fun k => spec_Hash.l0.eq_2 _ _ _ k) ?_
    refine Ev.pos (by omega) ?_
    refine Ev.pos (by omega) ?_
    rw [rd_get l i hlt, List.drop_eq_getElem_cons hlt]
    refine Ev.bnow (specMod _) ?_
    simp only [wnx hlt (by omega)]
    exact ih (i + 1) _ (by omega)
theorem specHash (l : List Int) (hl : l.length ≤ 1048577) : Ev (fun k => spec_Hash.f k l) (hashF l) := by
  unfold spec_Hash.f
  exact specHash_l l hl l.length 0 11 (by omega)

theorem specOk_l (l : List Int) (hl : l.length ≤ 1048577) : ∀ (d i : Nat), i + d = l.length → Ev (fun k => spec_l22Ok.l0 k l i) ((l.drop i).all (inB 0 100000) && decide (l.length ≤ 12)) := by
  intro d
  induction d with
  | zero =>
    intro i hi
    refine Ev.step (fun k => spec_l22Ok.l0.eq_2 _ _ k) ?_
    refine Ev.neg (by omega) (Ev.some_ ?_)
    rw [List.drop_eq_nil_of_le (by omega)]
    simp only [List.all_nil, Bool.true_and]
    apply decide_eq_decide.mpr; omega
  | succ d ih =>
    intro i hi
    have hlt : i < l.length := by omega
    refine Ev.step (fun k => spec_l22Ok.l0.eq_2 _ _ k) ?_
    refine Ev.pos (by omega) ?_
    refine Ev.pos (by omega) ?_
    rw [rd_get l i hlt, List.drop_eq_getElem_cons hlt, List.all_cons]
    refine Ev.bnow (a := inB 0 100000 l[i]) (by unfold spec_l9Stamp.f; rw [specIn]; rfl) ?_
    cases h : inB 0 100000 l[i] with
    | true =>
      refine Ev.pos rfl ?_
      simp only [wnx hlt (by omega)]
      exact ih (i + 1) (by omega)
    | false => exact Ev.neg (by simp) (Ev.now _)
theorem specOk (l : List Int) (hl : l.length ≤ 1048577) : Ev (fun k => spec_l22Ok.f k l) (okV l) := by
  unfold spec_l22Ok.f
  exact specOk_l l hl l.length 0 (by omega)

theorem specMax (a b : Int) : spec_Max.f a b = some (mx a b) := by
  unfold spec_Max.f mx
  repeat' split
  all_goals first | rfl | (congr 1; omega)

theorem specCom (s : Int) (l : List Int) (hl : l.length ≤ 1048576) : Ev (fun k => spec_CommitTo.f k s l) (comI s l) := by
  unfold spec_CommitTo.f comI
  refine Ev.bnow (a := inB 1 100000 s) (by rw [specIn]; rfl) ?_
  cases h1 : inB 1 100000 s with
  | false =>
    rw [if_neg (by simp)]
    refine Ev.neg (by simp) ?_
    refine Ev.step (fun k => spec_CommitTo.j0.eq_2 _ _ _ k) ?_
    exact Ev.pos rfl (Ev.now _)
  | true =>
    refine Ev.pos rfl ?_
    refine Ev.bind (specOk l (by omega)) ?_
    refine Ev.step (fun k => spec_CommitTo.j0.eq_2 _ _ _ k) ?_
    cases ha : okV l with
    | true =>
      rw [if_pos (by simp)]
      refine Ev.neg (by simp) ?_
      refine Ev.bnow rfl ?_
      refine Ev.pos (by simp; omega) ?_
      refine Ev.bind (specHash (s :: l) (by simp; omega)) ?_
      exact Ev.bnow (specMax _ _) (Ev.now _)
    | false =>
      rw [if_neg (by simp)]
      exact Ev.pos rfl (Ev.now _)

theorem specOpens (t s : Int) (l : List Int) (hl : l.length ≤ 1048576) : Ev (fun k => spec_OpensTo.f k t s l) (opens t s l) := by
  unfold spec_OpensTo.f opens
  by_cases h : t > 0
  · have h' : 0 < t := h
    refine Ev.pos h (Ev.bind (specCom s l hl) (Ev.some_ ?_))
    simp [h']
  · have h' : ¬ 0 < t := h
    refine Ev.neg h (Ev.some_ ?_)
    simp [h']

theorem specFar_l (a b : List Int) (m : Int) (hl : a.length ≤ 1048576) (hl2 : b.length ≤ 1048576) : ∀ (d i c : Nat), i + d = min a.length b.length → c ≤ i → Ev (fun k => spec_CountFar.l0 k a b m c i) ((c + farL m (a.drop i) (b.drop i) : Nat) : Int) := by
  intro d
  induction d with
  | zero =>
    intro i c hi hc
    refine Ev.step (fun k => spec_CountFar.l0.eq_2 _ _ _ _ _ k) ?_
    have fin : Ev (fun k => spec_CountFar.j2 k a b m c i false) ((c + farL m (a.drop i) (b.drop i) : Nat) : Int) := by
      refine Ev.step (fun k => spec_CountFar.j2.eq_2 _ _ _ _ _ _ k) ?_
      refine Ev.neg (by simp) (Ev.some_ ?_)
      by_cases h : a.length ≤ i
      · rw [List.drop_eq_nil_of_le h]; simp [farL]
      · have e : b.drop i = [] := List.drop_eq_nil_of_le (by omega)
        have e2 : ∀ l, farL m l [] = 0 := fun l => by cases l <;> rfl
        rw [e, e2]; rfl
    by_cases h : (i : Int) < (a.length : Int)
    · refine Ev.pos h ?_
      rw [decide_eq_false (show ¬ (i : Int) < (b.length : Int) by omega)]
      exact fin
    · exact Ev.neg h fin
  | succ d ih =>
    intro i c hi hc
    have h1 : i < a.length := by omega
    have h2 : i < b.length := by omega
    refine Ev.step (fun k => spec_CountFar.l0.eq_2 _ _ _ _ _ k) ?_
    refine Ev.pos (by omega) ?_
    rw [decide_eq_true (show (i : Int) < (b.length : Int) by omega)]
    refine Ev.step (fun k => spec_CountFar.j2.eq_2 _ _ _ _ _ _ k) ?_
    refine Ev.pos rfl ?_
    refine Ev.pos (by omega) ?_
    refine Ev.pos (by omega) ?_
    refine Ev.pos (by omega) ?_
    refine Ev.bnow (specMax _ _) ?_
    rw [rd_get a i h1, rd_get b i h2, List.drop_eq_getElem_cons h1, List.drop_eq_getElem_cons h2]
    simp only [wnx h1 (by omega), wnx (show c < a.length by omega) (by omega), farL]
    by_cases h : mx (wrap64 (a[i] - b[i])) (wrap64 (b[i] - a[i])) > m
    · refine Ev.pos h ?_
      rw [if_pos h, ← Nat.add_assoc]
      exact ih (i + 1) (c + 1) (by omega) (by omega)
    · refine Ev.neg h ?_
      rw [if_neg h, Nat.zero_add]
      exact ih (i + 1) c (by omega) (by omega)
theorem specFar (a b : List Int) (m : Int) (hl : a.length ≤ 1048576) (hl2 : b.length ≤ 1048576) : Ev (fun k => spec_CountFar.f k a b m) (farI a b m) := by
  unfold spec_CountFar.f farI
  have z : Ev (fun k => spec_CountFar.j0 k a b m 0 true) 0 := Ev.step (fun k => spec_CountFar.j0.eq_2 _ _ _ _ _ k) (Ev.pos rfl (Ev.now _))
  refine Ev.bnow (a := inB 0 100000 m) (by unfold spec_l9Stamp.f; rw [specIn]; rfl) ?_
  cases hm : inB 0 100000 m with
  | false => rw [if_neg (by simp)]; exact Ev.neg (by simp) z
  | true =>
    refine Ev.pos rfl ?_
    refine Ev.bind (specOk a (by omega)) ?_
    cases ha : okV a with
    | false => rw [if_neg (by simp)]; exact Ev.neg (by simp) z
    | true =>
      refine Ev.pos rfl ?_
      refine Ev.bind (specOk b (by omega)) ?_
      cases hb : okV b with
      | false => rw [if_neg (by simp)]; exact z
      | true =>
        rw [if_pos (by simp)]
        refine Ev.step (fun k => spec_CountFar.j0.eq_2 _ _ _ _ _ k) ?_
        refine Ev.neg (by simp) ?_
        have e := specFar_l a b m hl hl2 (min a.length b.length) 0 0 (by omega) (by omega)
        simpa using e

theorem specCode (a b : Bool) : spec_l23Code.f a b = some (both a b) := by cases a <;> cases b <;> rfl
theorem specIsOp (t s : Int) (l : List Int) (hl : l.length ≤ 1048576) : Ev (fun k => spec_IsOpened.f k t s l) (opens t s l) := by
  unfold spec_IsOpened.f
  exact Ev.bind (specOpens t s l hl) (Ev.now _)
theorem specJudge (ta sa : Int) (la : List Int) (tb sb : Int) (lb w : List Int) (m : Int) (h1 : la.length ≤ 1048576) (h2 : lb.length ≤ 1048576) (h3 : w.length ≤ 1048576) :
    Ev (fun k => spec_JudgeClaims.f k ta sa la tb sb lb w m) (judgI ta sa la tb sb lb w m) := by
  have no : Ev (fun k => spec_JudgeClaims.j0 k w m true ta sa la tb sb lb) (both (!opens ta sa la) (!opens tb sb lb)) := by
    refine Ev.step (fun k => spec_JudgeClaims.j0.eq_2 _ _ _ _ _ _ _ _ _ k) ?_
    refine Ev.pos rfl ?_
    exact Ev.bind (specIsOp ta sa la h1) (Ev.bind (specIsOp tb sb lb h2) (Ev.bnow (specCode _ _) (Ev.now _)))
  have z : Ev (fun k => spec_JudgeClaims.j1 k w m w.length true ta sa la tb sb lb) 4 := Ev.step (fun k => spec_JudgeClaims.j1.eq_2 _ _ _ _ _ _ _ _ _ _ k) (Ev.pos rfl (Ev.now _))
  unfold spec_JudgeClaims.f judgI
  refine Ev.bind (specIsOp ta sa la h1) ?_
  cases oa : opens ta sa la with
  | false =>
    rw [oa] at no
    rw [if_pos (.inl rfl)]
    exact Ev.neg (by simp) no
  | true =>
    rw [oa] at no
    refine Ev.pos rfl ?_
    refine Ev.bind (specIsOp tb sb lb h2) ?_
    cases ob : opens tb sb lb with
    | false =>
      rw [ob] at no
      rw [if_pos (.inr rfl)]
      exact no
    | true =>
      rw [if_neg (by simp)]
      refine Ev.step (fun k => spec_JudgeClaims.j0.eq_2 _ _ _ _ _ _ _ _ _ k) ?_
      refine Ev.neg (by simp) ?_
      by_cases ea : la.length = w.length
      · refine Ev.pos (by omega) ?_
        by_cases eb : lb.length = w.length
        · refine Ev.pos (by omega) ?_
          refine Ev.bind (specOk w (by omega)) ?_
          cases ow : okV w with
          | false =>
            rw [if_neg (by simp)]
            exact Ev.neg (by simp) z
          | true =>
            refine Ev.pos rfl ?_
            refine Ev.bnow (a := inB 0 100000 m) (by unfold spec_l9Stamp.f; rw [specIn]; rfl) ?_
            cases hm : inB 0 100000 m with
            | false =>
              rw [if_neg (by simp)]
              exact z
            | true =>
              rw [if_pos (by simp [ea, eb])]
              refine Ev.step (fun k => spec_JudgeClaims.j1.eq_2 _ _ _ _ _ _ _ _ _ _ k) ?_
              refine Ev.neg (by simp) ?_
              refine Ev.bind (specFar la w m h1 h3) ?_
              refine Ev.bind (specFar lb w m h2 h3) ?_
              have b1 := farI_nn la w m
              have b2 := farI_nn lb w m
              rw [wr (x := 2 * farI la w m) (by omega) (by omega), wr (x := 2 * farI lb w m) (by omega) (by omega)]
              refine Ev.bnow (specCode _ _) (Ev.now _)
        · rw [if_neg (by simp [eb])]
          exact Ev.neg (by omega) z
      · rw [if_neg (by simp [ea])]
        exact Ev.neg (by omega) z

theorem FnExactJudgeClaims : ∀ (a0_0 : Int) (a0_1 : Int) (l0_2 : List Int) (a1_0 : Int) (a1_1 : Int) (l1_2 : List Int) (l2 : List Int) (a3 : Int), (Lit.int .i64 a0_0).wf = true → (Lit.int .i64 a0_1).wf = true → (l0_2.length ≤ maxLen ∧ ∀ x_ ∈ l0_2, (Lit.int .i64 x_).wf = true) → (Lit.int .i64 a1_0).wf = true → (Lit.int .i64 a1_1).wf = true → (l1_2.length ≤ maxLen ∧ ∀ x_ ∈ l1_2, (Lit.int .i64 x_).wf = true) → (l2.length ≤ maxLen ∧ ∀ x_ ∈ l2, (Lit.int .i64 x_).wf = true) → (Lit.int .i64 a3).wf = true → ∃ k, laws_FnExactJudgeClaims.f k a0_0 a0_1 l0_2 a1_0 a1_1 l1_2 l2 a3 = some true := by
  intro ta sa la tb sb lb w m _ _ ⟨hla, _⟩ _ _ ⟨hlb, _⟩ _ _
  refine Ev.rounds (g := fun j => laws_FnExactJudgeClaims.f j ta sa la tb sb lb w m) ?_
  unfold laws_FnExactJudgeClaims.f
  by_cases h : (w.length : Int) > 1048576
  · exact Ev.pos h (Ev.now _)
  refine Ev.neg h ?_
  obtain ⟨q, eq, hq⟩ := szCl ta sa la 1048576 (by omega) (by omega) hla
  refine Ev.bnow eq ?_
  by_cases h0 : q < 0
  · exact Ev.pos h0 (Ev.now _)
  refine Ev.neg h0 ?_
  obtain ⟨q2, eq2, hq2⟩ := szCl tb sb lb q (by omega) (by omega) hlb
  refine Ev.bnow eq2 ?_
  by_cases h1 : q2 < 0
  · exact Ev.pos h1 (Ev.now _)
  refine Ev.neg h1 ?_
  have a : la.length ≤ 1048576 := by omega
  have b : lb.length ≤ 1048576 := by omega
  have c : w.length ≤ 1048576 := by omega
  refine Ev.bind (toCl ta sa la a) ?_
  refine Ev.bind (toCl tb sb lb b) ?_
  refine Ev.bind (toInts w c) ?_
  refine Ev.bind (specJudge ta sa la tb sb lb w m a b c) ?_
  refine Ev.bind (toCl ta sa la a) ?_
  refine Ev.bind (toCl tb sb lb b) ?_
  refine Ev.bind (toInts w c) ?_
  refine Ev.bind (implJudge ta sa la tb sb lb w m a b c) ?_
  refine Ev.pos rfl ?_
  refine Ev.bind (toCl ta sa la a) ?_
  refine Ev.bind (eqCl ta sa la a) ?_
  refine Ev.pos rfl ?_
  refine Ev.bind (toCl tb sb lb b) ?_
  refine Ev.bind (eqCl tb sb lb b) ?_
  refine Ev.pos rfl ?_
  refine Ev.bind (toInts w c) ?_
  refine Ev.bind (eqInts w c) ?_
  exact Ev.pos rfl (Ev.now _)

end Go.Proofs.Ytkiebefaancmiaa.Pure
