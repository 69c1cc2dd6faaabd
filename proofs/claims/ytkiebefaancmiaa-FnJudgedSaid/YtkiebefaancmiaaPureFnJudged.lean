/- The law FnJudged returns true at every list of bytes: judging does not depend on who is called customer, and nobody is wrong who agrees with the witness. No condition. -/
import Derived.Test.YtkiebefaancmiaaHFnJudgedx7
namespace Go.Proofs.Ytkiebefaancmiaa.Pure
open Go.RowKit Go.Proofs.Ytkiebefaancmiaa.PFnJudged Go.Proofs.YtkiebefaancmiaaW.PrintWords Go.Proofs.YtkiebefaancmiaaW.PrintLast
set_option linter.unusedSimpArgs false
set_option linter.unusedVariables false

theorem wr {x : Int} (h1 : -9223372036854775808 ≤ x) (h2 : x ≤ 9223372036854775807) : wrap64 x = x := by unfold wrap64; omega
theorem Ev.pos {α : Type} {c : Prop} [Decidable c] {g f : Nat → Option α} {r : α} (h : c) (e : Ev g r) : Ev (fun k => if c then g k else f k) r := by
  simp only [if_pos h]; exact e
theorem Ev.neg {α : Type} {c : Prop} [Decidable c] {g f : Nat → Option α} {r : α} (h : ¬ c) (e : Ev f r) : Ev (fun k => if c then g k else f k) r := by
  simp only [if_neg h]; exact e
theorem Ev.some_ {α : Type} {r r' : α} (h : r = r') : Ev (fun _ => some r) r' := h ▸ Ev.now r
theorem Ev.bnow {α β : Type} {g : Option α} {f : Nat → α → Option β} {a : α} {r : β} (h : g = some a) (k : Ev (fun n => f n a) r) : Ev (fun n => g.bind (f n)) r := by
  subst h; exact k

theorem and_le (x : Int) (m : Nat) (hm : m < 4611686018427387904) : 0 ≤ Go.bits .and .i64 x m ∧ Go.bits .and .i64 x m ≤ m := by
  simp only [Go.bits, BitVec.toNat_and, BitVec.ofInt_natCast, BitVec.toNat_ofNat]
  have h1 : (BitVec.ofInt IntKind.i64.bits x).toNat &&& m % 2 ^ IntKind.i64.bits ≤ m % 2 ^ IntKind.i64.bits := Nat.and_le_right
  have h2 : m % 2 ^ IntKind.i64.bits = m := Nat.mod_eq_of_lt (by show m < 2 ^ 64; omega)
  rw [h2] at h1 ⊢
  rw [i64_w, wr (by omega) (by omega)]
  omega
theorem new_l (l : List Int) (hl : l.length ≤ 1048576) : ∀ (d i : Nat) (h : Int), l.length - i ≤ d → i ≤ l.length → ∃ h', Ev (fun k => spec_l1New.l0 k l h i) (l, 0, h') := by
  intro d
  induction d with
  | zero =>
    intro i h hi hi2
    refine ⟨h, Ev.step (fun k => spec_l1New.l0.eq_2 _ _ _ k) ?_⟩
    exact Ev.neg (by omega) (Ev.now _)
  | succ d ih =>
    intro i h hi hi2
    by_cases h1 : (i : Int) < (l.length : Int)
    · by_cases h2 : (i : Int) < 4000
      · obtain ⟨h', e⟩ := ih (i + 1) (Go.bits .and .i64 (wrap64 ((wrap64 ((wrap64 (h * 137)) + (wrap64 (rd l i)))) + 11)) 1073741823) (by omega) (by omega)
        refine ⟨h', Ev.step (fun k => spec_l1New.l0.eq_2 _ _ _ k) (Ev.pos h1 (Ev.pos h2 (Ev.pos (by omega) ?_)))⟩
        rw [wr (x := (i : Int) + 1) (by omega) (by omega)]
        exact e
      · exact ⟨h, Ev.step (fun k => spec_l1New.l0.eq_2 _ _ _ k) (Ev.pos h1 (Ev.neg h2 (Ev.now _)))⟩
    · exact ⟨h, Ev.step (fun k => spec_l1New.l0.eq_2 _ _ _ k) (Ev.neg h1 (Ev.now _))⟩
theorem new_ok (l : List Int) (hl : l.length ≤ 1048576) : ∃ h, Ev (fun k => spec_l1New.f k l) (l, 0, h) := by
  unfold spec_l1New.f
  exact new_l l hl l.length 0 _ (by omega) (by omega)
/-- The cursor stands in the bytes. -/
def Cur (b : List Int) (i : Int) : Prop := 0 ≤ i ∧ i ≤ b.length ∧ b.length ≤ 1048576
theorem byte_ok (b : List Int) (i h : Int) (hc : Cur b i) : ∃ x i' h', spec_l1Byte.f b i h = some (x, i', h') ∧ 0 ≤ x ∧ x ≤ 255 ∧ Cur b i' := by
  obtain ⟨h0, h1, h2⟩ := hc
  unfold spec_l1Byte.f
  by_cases hi : i < (b.length : Int)
  · rw [if_pos hi, if_pos h0, wr (x := i + 1) (by omega) (by omega)]
    have a := and_le (wrap64 ((Go.bits .and .i64 (Go.bits .xor .i64 ((wrap64 ((wrap64 (h * 6364136223846793005)) + 1442695040888963407)) / 8589934592) ((wrap64 ((wrap64 (h * 6364136223846793005)) + 1442695040888963407)) / 140737488355328)) 255) + (wrap64 (rd b i)))) 255 (by decide)
    exact ⟨_, _, _, rfl, a.1, a.2, by omega, by omega, h2⟩
  · rw [if_neg hi]
    have a := and_le (Go.bits .xor .i64 ((wrap64 ((wrap64 (h * 6364136223846793005)) + 1442695040888963407)) / 8589934592) ((wrap64 ((wrap64 (h * 6364136223846793005)) + 1442695040888963407)) / 140737488355328)) 255 (by decide)
    exact ⟨_, _, _, rfl, a.1, a.2, h0, h1, h2⟩
theorem below_ok (b : List Int) (i h a : Int) (hc : Cur b i) (ha : 0 < a) (ha2 : a ≤ 256) : ∃ x i' h', spec_l1Below.f b i h a = some (x, i', h') ∧ 0 ≤ x ∧ x < a ∧ Cur b i' := by
  obtain ⟨x, i', h', e, h0, h1, hc'⟩ := byte_ok b i h hc
  refine ⟨Int.tmod x a, i', h', ?_, Int.tmod_nonneg _ h0, Int.tmod_lt_of_pos _ ha, hc'⟩
  unfold spec_l1Below.f
  rw [if_neg (by omega), if_pos ha2, e]
  simp only [Option.bind_some]
  rw [if_neg (by omega)]

theorem int_ok (b : List Int) (i h : Int) (l : List Int) (hc : Cur b i) (hl : 0 < l.length) (hl2 : l.length ≤ 256) : ∃ x i' h', spec_l1Int.f b i h l = some (x, i', h') ∧ x ∈ l ∧ Cur b i' := by
  obtain ⟨x, i', h', e, h0, h1, hc'⟩ := below_ok b i h l.length hc (by omega) (by omega)
  refine ⟨rd l x, i', h', ?_, ?_, hc'⟩
  · unfold spec_l1Int.f
    rw [e]
    simp only [Option.bind_some]
    rw [if_pos h0, if_pos h1]
  · unfold rd
    have hlt : x.toNat < l.length := by omega
    simp [List.getD, hlt]

theorem wnx {i n : Nat} (h : i < n) (hn : n ≤ 9223372036854775807) : wrap64 ((i : Int) + 1) = ((i + 1 : Nat) : Int) := by rw [wr (by omega) (by omega)]; rfl
theorem rd_get (l : List Int) (i : Nat) (h : i < l.length) : rd l (i : Int) = l[i] := by simp [rd, List.getD, h]

theorem once_ok (b : List Int) (i h a : Int) (hc : Cur b i) (ha : 0 < a) (ha2 : a ≤ 256) : ∃ x i' h', spec_l1Once.f b i h a = some (x, i', h') ∧ Cur b i' := by
  obtain ⟨x, i', h', e, _, _, c⟩ := below_ok b i h a hc ha ha2
  refine ⟨x == 0, i', h', ?_, c⟩
  unfold spec_l1Once.f
  rw [e]; rfl
theorem raw_ok (b : List Int) (i h : Int) (hc : Cur b i) : ∃ x i' h', spec_l9Raw.f b i h = some (x, i', h') ∧ Cur b i' := by
  unfold spec_l9Raw.f
  obtain ⟨x, i1, h1, e1, c1⟩ := once_ok b i h 6 hc (by omega) (by omega)
  rw [e1]
  simp only [Option.bind_some]
  obtain ⟨p, j, g, f, _, k⟩ := int_ok b i1 h1 [(-1), 0, 100000, 100001, (-100000), (-100001), 9223372036854775807, (-9223372036854775808)] c1 (by decide) (by decide)
  obtain ⟨p2, j2, g2, f2, _, _, k2⟩ := below_ok b i1 h1 60 c1 (by omega) (by omega)
  rw [f, f2]
  simp only [Option.bind_some]
  split
  · exact ⟨_, _, _, rfl, k⟩
  · exact ⟨_, _, _, rfl, k2⟩
theorem vals_l (b : List Int) (n : Nat) (hn : n ≤ 13) : ∀ (d m : Nat) (l : List Int) (i h : Int), m + d = n → l.length = m → Cur b i → ∃ l' i' h', Ev (fun k => spec_l22Values.l0 k l n m b i h) (l', i', h') ∧ l'.length ≤ 13 ∧ Cur b i' := by
  intro d
  induction d with
  | zero =>
    intro m l i h hm hl hc
    obtain ⟨x, i1, h1, e1, c1⟩ := once_ok b i h 8 hc (by omega) (by omega)
    obtain ⟨y, i2, h2, e2, c2⟩ := raw_ok b i1 h1 c1
    by_cases h0 : (n : Int) > 0
    · cases x with
      | true =>
        refine ⟨l.set 0 y, i2, h2, Ev.step (fun k => spec_l22Values.l0.eq_2 _ _ _ _ _ _ k) (Ev.neg (by omega) (Ev.pos h0 (Ev.bnow e1 (Ev.pos rfl (Ev.bnow e2 (Ev.pos (by omega) (Ev.now _))))))), by simp; omega, c2⟩
      | false =>
        exact ⟨l, i1, h1, Ev.step (fun k => spec_l22Values.l0.eq_2 _ _ _ _ _ _ k) (Ev.neg (by omega) (Ev.pos h0 (Ev.bnow e1 (Ev.neg (by simp) (Ev.now _))))), by omega, c1⟩
    · exact ⟨l, i, h, Ev.step (fun k => spec_l22Values.l0.eq_2 _ _ _ _ _ _ k) (Ev.neg (by omega) (Ev.neg h0 (Ev.now _))), by omega, hc⟩
  | succ d ih =>
    intro m l i h hm hl hc
    obtain ⟨x, i1, h1, e1, _, _, c1⟩ := below_ok b i h 50 hc (by omega) (by omega)
    obtain ⟨l', i', h', e, hl', c'⟩ := ih (m + 1) (l ++ [x]) i1 h1 (by omega) (by simp; omega) c1
    refine ⟨l', i', h', Ev.step (fun k => spec_l22Values.l0.eq_2 _ _ _ _ _ _ k) (Ev.pos (by omega) (Ev.bnow e1 (Ev.pos (by omega) ?_))), hl', c'⟩
    simp only [wnx (show m < n by omega) (by omega)]
    exact e
theorem vals_ok (b : List Int) (i h : Int) (hc : Cur b i) : ∃ l i' h', Ev (fun k => spec_l22Values.f k b i h) (l, i', h') ∧ l.length ≤ 13 ∧ Cur b i' := by
  unfold spec_l22Values.f
  obtain ⟨x, i1, h1, e1, x0, x1, c1⟩ := below_ok b i h 6 hc (by omega) (by omega)
  obtain ⟨y, i2, h2, e2, c2⟩ := once_ok b i1 h1 9 c1 (by omega) (by omega)
  obtain ⟨z, i3, h3, e3, z0, z1, c3⟩ := below_ok b i2 h2 2 c2 (by omega) (by omega)
  cases y with
  | true =>
    obtain ⟨n, hn⟩ := Int.eq_ofNat_of_zero_le (show 0 ≤ 12 + z by omega)
    obtain ⟨l', i', h', e, hl', c'⟩ := vals_l b n (by omega) n 0 [] i3 h3 (by omega) rfl c3
    refine ⟨l', i', h', Ev.bnow rfl (Ev.bnow e1 (Ev.bnow e2 (Ev.pos rfl (Ev.bnow e3 ?_)))), hl', c'⟩
    refine Ev.step (fun k => spec_l22Values.j0.eq_2 _ _ _ _ _ k) ?_
    rw [wr (x := 12 + z) (by omega) (by omega), hn]
    exact e
  | false =>
    obtain ⟨n, hn⟩ := Int.eq_ofNat_of_zero_le x0
    obtain ⟨l', i', h', e, hl', c'⟩ := vals_l b n (by omega) n 0 [] i2 h2 (by omega) rfl c2
    refine ⟨l', i', h', Ev.bnow rfl (Ev.bnow e1 (Ev.bnow e2 (Ev.neg (by simp) ?_))), hl', c'⟩
    refine Ev.step (fun k => spec_l22Values.j0.eq_2 _ _ _ _ _ k) ?_
    simp only [hn]
    exact e

theorem big_eq (l : List Int) : laws_big.f l = some (decide ((l.length : Int) > 1048576)) := rfl

def inB (a b x : Int) : Bool := decide (a ≤ x ∧ x ≤ b)
def okV (l : List Int) : Bool := l.all (inB 0 100000) && decide (l.length ≤ 12)

/-- The sum, from s on. -/
def sumL (s : Int) (l : List Int) : Int := l.foldl (fun t x => wrap64 (t + x)) s
def totI (l : List Int) : Int := if okV l = true then sumL 0 l else -1

def farL (m : Int) : List Int → List Int → Nat
  | x :: a, y :: b => (if mx (wrap64 (x - y)) (wrap64 (y - x)) > m then 1 else 0) + farL m a b
  | _, _ => 0
def farI (a b : List Int) (m : Int) : Int := if inB 0 100000 m = true ∧ okV a = true ∧ okV b = true then (farL m a b : Int) else 0
theorem sumL_nn : ∀ (l : List Int) (s : Int), l.all (inB 0 100000) = true → 0 ≤ s → s + l.length * 100000 ≤ 1000000000000 → 0 ≤ sumL s l := by
  intro l
  induction l with
  | nil => intro s _ h _; exact h
  | cons x l ih =>
    intro s ha h0 h1
    rw [List.all_cons, Bool.and_eq_true] at ha
    have hx : 0 ≤ x ∧ x ≤ 100000 := by simpa [inB] using ha.1
    rw [List.length_cons] at h1
    show 0 ≤ sumL (wrap64 (s + x)) l
    rw [wr (by omega) (by omega)]
    exact ih (s + x) ha.2 (by omega) (by omega)
theorem tot_neg (l : List Int) : (totI l == -1) = !okV l := by
  unfold totI
  cases h : okV l with
  | false => simp
  | true =>
    rw [if_pos rfl]
    have h2 := h
    simp only [okV, Bool.and_eq_true, decide_eq_true_eq] at h2
    have := sumL_nn l 0 h2.1 (by omega) (by omega)
    simp; omega
theorem farL_le (m : Int) : ∀ (a b : List Int), farL m a b ≤ a.length := by
  intro a
  induction a with
  | nil => intro b; simp [farL]
  | cons x a ih =>
    intro b
    cases b with
    | nil => simp [farL]
    | cons y b => have := ih b; simp only [farL, List.length_cons]; split <;> omega
theorem farI_nn (a b : List Int) (m : Int) : 0 ≤ farI a b m ∧ farI a b m ≤ 12 := by
  unfold farI
  split
  · rename_i h
    have h2 := h.2.1
    simp only [okV, Bool.and_eq_true, decide_eq_true_eq] at h2
    have := farL_le m a b
    omega
  · omega

def modI (v : Int) : Int := Int.tmod (wrap64 (Int.tmod v 2147483647 + 2147483647)) 2147483647
def stepH (h v : Int) : Int := Int.tmod (wrap64 (wrap64 (wrap64 (h * 1000003) + modI v) + 13)) 2147483647
def hashF (l : List Int) : Int := l.foldl stepH 11

def comI (s : Int) (l : List Int) : Int := if inB 1 100000 s = true ∧ okV l = true then mx 1 (hashF (s :: l)) else 0
theorem comI_nn (s : Int) (l : List Int) : 0 ≤ comI s l := by
  unfold comI
  split
  · have e : ∀ x y : Int, mx x y = if x < y then y else x := fun _ _ => rfl
    rw [e]; split <;> omega
  · omega
def opens (t s : Int) (l : List Int) : Bool := decide (0 < t) && (comI s l == t)

def both (a b : Bool) : Int := if a = true then (if b = true then 3 else 1) else (if b = true then 2 else 0)
def judgI (ta sa : Int) (la : List Int) (tb sb : Int) (lb w : List Int) (m : Int) : Int :=
  if opens ta sa la = false ∨ opens tb sb lb = false then both (!opens ta sa la) (!opens tb sb lb)
  else if la.length = w.length ∧ lb.length = w.length ∧ okV w = true ∧ inB 0 100000 m = true then both (decide (2 * farI la w m > w.length)) (decide (2 * farI lb w m > w.length)) else 4

theorem implIn (a l h : Int) : impl_InRange.f a l h = some (decide (l ≤ a ∧ a ≤ h)) := by
  unfold impl_InRange.f
  by_cases h1 : l ≤ a <;> simp [h1]

theorem implMod (v : Int) : impl_Mod.f v 2147483647 = some (modI v) := by
  unfold impl_Mod.f
  simp only [implIn, Option.bind_some]
  rw [if_pos (by decide), if_neg (by decide)]; rfl
theorem implHash_l (l : List Int) (hl : l.length ≤ 1048577) : ∀ (d i : Nat) (h : Int), i + d = l.length → Ev (fun k => impl_Hash.l0 k h l l.length i) ((l.drop i).foldl stepH h) := by
  intro d
  induction d with
  | zero =>
    intro i h hi
    refine Ev.step (fun k => impl_Hash.l0.eq_2 _ _ _ _ k) ?_
    refine Ev.neg (by omega) (Ev.some_ ?_)
    rw [List.drop_eq_nil_of_le (by omega)]; rfl
  | succ d ih =>
    intro i h hi
    have hlt : i < l.length := by omega
    refine Ev.step (fun k => impl_Hash.l0.eq_2 _ _ _ _ k) ?_
    refine Ev.pos (by omega) ?_
    refine Ev.pos (by omega) ?_
    refine Ev.pos (by omega) ?_
    rw [rd_get l i hlt, List.drop_eq_getElem_cons hlt]
    refine Ev.bnow (implMod _) ?_
    simp only [wnx hlt (by omega)]
    exact ih (i + 1) _ (by omega)
theorem implHash (l : List Int) (hl : l.length ≤ 1048577) : Ev (fun k => impl_Hash.f k l) (hashF l) := by
  unfold impl_Hash.f
  exact implHash_l l hl l.length 0 11 (by omega)

theorem allIn_l (l : List Int) (a b : Int) (hl : l.length ≤ 1048577) : ∀ (d i : Nat), i + d = l.length → Ev (fun k => impl_allIn.l0 k a b l l.length i) ((l.drop i).all (inB a b)) := by
  intro d
  induction d with
  | zero =>
    intro i hi
    refine Ev.step (fun k => impl_allIn.l0.eq_2 _ _ _ _ _ k) ?_
    refine Ev.neg (by omega) (Ev.some_ ?_)
    rw [List.drop_eq_nil_of_le (by omega)]; rfl
  | succ d ih =>
    intro i hi
    have hlt : i < l.length := by omega
    refine Ev.step (fun k => impl_allIn.l0.eq_2 _ _ _ _ _ k) ?_
    refine Ev.pos (by omega) ?_
    refine Ev.pos (by omega) ?_
    refine Ev.pos (by omega) ?_
    rw [rd_get l i hlt, List.drop_eq_getElem_cons hlt, List.all_cons]
    refine Ev.bnow (a := inB a b l[i]) (by rw [implIn]; rfl) ?_
    cases h : inB a b l[i] with
    | true =>
      refine Ev.pos rfl ?_
      simp only [wnx hlt (by omega)]
      exact ih (i + 1) (by omega)
    | false => exact Ev.neg (by simp) (Ev.now _)
theorem allIn (l : List Int) (a b : Int) (hl : l.length ≤ 1048577) : Ev (fun k => impl_allIn.f k l a b) (l.all (inB a b)) := by
  unfold impl_allIn.f
  exact allIn_l l a b hl l.length 0 (by omega)

theorem implCom (s : Int) (l : List Int) (hl : l.length ≤ 1048576) : Ev (fun k => impl_CommitTo.f k s l) (comI s l) := by
  unfold impl_CommitTo.f comI okV
  refine Ev.bnow (a := inB 1 100000 s) (by rw [implIn]; rfl) ?_
  cases h1 : inB 1 100000 s with
  | false =>
    rw [if_neg (by simp)]
    refine Ev.neg (by simp) ?_
    refine Ev.step (fun k => impl_CommitTo.j0.eq_2 _ _ _ k) ?_
    exact Ev.pos rfl (Ev.now _)
  | true =>
    refine Ev.pos rfl ?_
    by_cases h : (l.length : Int) > 12
    · refine Ev.pos h ?_
      have : ¬ l.length ≤ 12 := by omega
      rw [if_neg (by simp [this])]
      refine Ev.step (fun k => impl_CommitTo.j0.eq_2 _ _ _ k) ?_
      exact Ev.pos rfl (Ev.now _)
    · refine Ev.neg h ?_
      have : l.length ≤ 12 := by omega
      refine Ev.bind (allIn l 0 100000 (by omega)) ?_
      refine Ev.step (fun k => impl_CommitTo.j0.eq_2 _ _ _ k) ?_
      cases ha : l.all (inB 0 100000) with
      | true =>
        rw [if_pos (by simp [this])]
        refine Ev.neg (by simp) ?_
        refine Ev.bnow rfl ?_
        refine Ev.pos (by simp; omega) ?_
        refine Ev.bind (implHash (s :: l) (by simp; omega)) ?_
        exact Ev.bnow rfl (Ev.now _)
      | false =>
        rw [if_neg (by simp)]
        exact Ev.pos rfl (Ev.now _)

theorem implOpens (t s : Int) (l : List Int) (hl : l.length ≤ 1048576) : Ev (fun k => impl_OpensTo.f k t s l) (opens t s l) := by
  unfold impl_OpensTo.f opens
  by_cases h : t > 0
  · have h' : 0 < t := h
    refine Ev.pos h (Ev.bind (implCom s l hl) (Ev.some_ ?_))
    simp [h']
  · have h' : ¬ 0 < t := h
    refine Ev.neg h (Ev.some_ ?_)
    simp [h']

theorem implTot_l (l : List Int) (hl : l.length ≤ 1048576) : ∀ (d i : Nat) (s : Int), i + d = l.length → Ev (fun k => impl_TotalOf.l0 k s l l.length i) (sumL s (l.drop i)) := by
  intro d
  induction d with
  | zero =>
    intro i s hi
    refine Ev.step (fun k => impl_TotalOf.l0.eq_2 _ _ _ _ k) ?_
    refine Ev.neg (by omega) (Ev.some_ ?_)
    rw [List.drop_eq_nil_of_le (by omega)]; rfl
  | succ d ih =>
    intro i s hi
    have hlt : i < l.length := by omega
    refine Ev.step (fun k => impl_TotalOf.l0.eq_2 _ _ _ _ k) ?_
    refine Ev.pos (by omega) ?_
    refine Ev.pos (by omega) ?_
    refine Ev.pos (by omega) ?_
    rw [rd_get l i hlt, List.drop_eq_getElem_cons hlt]
    simp only [wnx hlt (by omega)]
    exact ih (i + 1) _ (by omega)
theorem implTot (l : List Int) (hl : l.length ≤ 1048576) : Ev (fun k => impl_TotalOf.f k l) (totI l) := by
  unfold impl_TotalOf.f totI okV
  by_cases h : (l.length : Int) > 12
  · refine Ev.pos h ?_
    have : ¬ l.length ≤ 12 := by omega
    rw [if_neg (by simp [this])]
    refine Ev.step (fun k => impl_TotalOf.j0.eq_2 _ _ k) ?_
    exact Ev.pos rfl (Ev.now _)
  · refine Ev.neg h ?_
    have : l.length ≤ 12 := by omega
    refine Ev.bind (allIn l 0 100000 (by omega)) ?_
    refine Ev.step (fun k => impl_TotalOf.j0.eq_2 _ _ k) ?_
    cases ha : l.all (inB 0 100000) with
    | true =>
      rw [if_pos (by simp [this])]
      refine Ev.neg (by simp) ?_
      exact implTot_l l hl l.length 0 0 (by omega)
    | false =>
      rw [if_neg (by simp)]
      exact Ev.pos rfl (Ev.now _)

theorem implFar_l (a b : List Int) (m : Int) (hl : a.length ≤ 1048576) (hl2 : b.length ≤ 1048576) : ∀ (d i c : Nat), i + d = min a.length b.length → c ≤ i → Ev (fun k => impl_CountFar.l0 k a b m c (mn a.length b.length) i) ((c + farL m (a.drop i) (b.drop i) : Nat) : Int) := by
  have hm : mn (a.length : Int) (b.length : Int) = ((min a.length b.length : Nat) : Int) := by unfold mn; split <;> omega
  rw [hm]
  intro d
  induction d with
  | zero =>
    intro i c hi hc
    refine Ev.step (fun k => impl_CountFar.l0.eq_2 _ _ _ _ _ _ k) ?_
    refine Ev.neg (by omega) (Ev.some_ ?_)
    by_cases h : a.length ≤ i
    · rw [List.drop_eq_nil_of_le h]; simp [farL]
    · have e : b.drop i = [] := List.drop_eq_nil_of_le (by omega)
      have e2 : ∀ l, farL m l [] = 0 := fun l => by cases l <;> rfl
      rw [e, e2]; rfl
  | succ d ih =>
    intro i c hi hc
    have h1 : i < a.length := by omega
    have h2 : i < b.length := by omega
    refine Ev.step (fun k => impl_CountFar.l0.eq_2 _ _ _ _ _ _ k) ?_
    refine Ev.pos (by omega) ?_
    refine Ev.pos (by omega) ?_
    refine Ev.pos (by omega) ?_
    refine Ev.pos (by omega) ?_
    rw [rd_get a i h1, rd_get b i h2, List.drop_eq_getElem_cons h1, List.drop_eq_getElem_cons h2]
    simp only [wnx h1 (by omega), wnx (show c < a.length by omega) (by omega), farL]
    by_cases h : mx (wrap64 (a[i] - b[i])) (wrap64 (b[i] - a[i])) > m
    · refine Ev.pos h ?_
      rw [if_pos h, ← Nat.add_assoc]
      exact ih (i + 1) (c + 1) (by omega) (by omega)
    · refine Ev.neg h ?_
      rw [if_neg h, Nat.zero_add]
      exact ih (i + 1) c (by omega) (by omega)
theorem implFar (a b : List Int) (m : Int) (hl : a.length ≤ 1048576) (hl2 : b.length ≤ 1048576) : Ev (fun k => impl_CountFar.f k a b m) (farI a b m) := by
  unfold impl_CountFar.f farI
  have z : Ev (fun k => impl_CountFar.j0 k a b m true) 0 := Ev.step (fun k => impl_CountFar.j0.eq_2 _ _ _ _ k) (Ev.pos rfl (Ev.now _))
  refine Ev.bnow (a := inB 0 100000 m) (by rw [implIn]; rfl) ?_
  cases hm : inB 0 100000 m with
  | false => rw [if_neg (by simp)]; exact Ev.neg (by simp) z
  | true =>
    refine Ev.pos rfl ?_
    refine Ev.bind (implTot a hl) ?_
    have ta := tot_neg a
    cases ha : okV a with
    | false =>
      rw [if_neg (by simp)]
      rw [ha] at ta
      exact Ev.pos (by simpa using ta) z
    | true =>
      rw [ha] at ta
      refine Ev.neg (by simpa using ta) ?_
      refine Ev.bind (implTot b hl2) ?_
      rw [tot_neg b]
      cases hb : okV b with
      | false => rw [if_neg (by simp)]; exact z
      | true =>
        rw [if_pos (by simp)]
        refine Ev.step (fun k => impl_CountFar.j0.eq_2 _ _ _ _ k) ?_
        refine Ev.neg (by simp) ?_
        have e := implFar_l a b m hl hl2 (min a.length b.length) 0 0 (by omega) (by omega)
        simpa using e

theorem implBoth (a b : Bool) : impl_both.f a b = some (both a b) := by cases a <;> cases b <;> rfl
theorem implIsOp (t s : Int) (l : List Int) (hl : l.length ≤ 1048576) : Ev (fun k => impl_IsOpened.f k t s l) (opens t s l) := by
  unfold impl_IsOpened.f
  exact Ev.bind (implOpens t s l hl) (Ev.now _)
theorem both_zero (a b : Bool) : both a b = 0 ↔ (a = false ∧ b = false) := by cases a <;> cases b <;> simp [both]
theorem implJudge (ta sa : Int) (la : List Int) (tb sb : Int) (lb w : List Int) (m : Int) (h1 : la.length ≤ 1048576) (h2 : lb.length ≤ 1048576) (h3 : w.length ≤ 1048576) :
    Ev (fun k => impl_JudgeClaims.f k ta sa la tb sb lb w m) (judgI ta sa la tb sb lb w m) := by
  unfold impl_JudgeClaims.f judgI
  refine Ev.bind (implIsOp ta sa la h1) ?_
  refine Ev.bind (implIsOp tb sb lb h2) ?_
  refine Ev.bnow (implBoth _ _) ?_
  have z : Ev (fun k => impl_JudgeClaims.j0 k w m w.length true ta sa la tb sb lb) 4 := Ev.step (fun k => impl_JudgeClaims.j0.eq_2 _ _ _ _ _ _ _ _ _ _ k) (Ev.pos rfl (Ev.now _))
  by_cases hb : both (!opens ta sa la) (!opens tb sb lb) = 0
  · have hb2 := (both_zero _ _).1 hb
    simp only [Bool.not_eq_false'] at hb2
    rw [if_neg (by simp [hb2])]
    refine Ev.pos hb ?_
    by_cases ea : la.length = w.length
    · refine Ev.pos (by omega) ?_
      by_cases eb : lb.length = w.length
      · refine Ev.pos (by omega) ?_
        refine Ev.bind (implTot w h3) ?_
        have tw := tot_neg w
        cases ow : okV w with
        | false =>
          rw [ow] at tw
          rw [if_neg (by simp)]
          exact Ev.pos (by simpa using tw) z
        | true =>
          rw [ow] at tw
          refine Ev.neg (by simpa using tw) ?_
          refine Ev.bnow (a := inB 0 100000 m) (by rw [implIn]; rfl) ?_
          cases hm : inB 0 100000 m with
          | false =>
            rw [if_neg (by simp)]
            exact z
          | true =>
            rw [if_pos (by simp [ea, eb])]
            refine Ev.step (fun k => impl_JudgeClaims.j0.eq_2 _ _ _ _ _ _ _ _ _ _ k) ?_
            refine Ev.neg (by simp) ?_
            refine Ev.bind (implFar la w m h1 h3) ?_
            refine Ev.bind (implFar lb w m h2 h3) ?_
            have b1 := farI_nn la w m
            have b2 := farI_nn lb w m
            rw [wr (x := 2 * farI la w m) (by omega) (by omega), wr (x := 2 * farI lb w m) (by omega) (by omega)]
            refine Ev.bnow (implBoth _ _) (Ev.now _)
      · rw [if_neg (by simp [eb])]
        exact Ev.neg (by omega) z
    · rw [if_neg (by simp [ea])]
      exact Ev.neg (by omega) z
  · have hb2 : opens ta sa la = false ∨ opens tb sb lb = false := by
      cases h : opens ta sa la with
      | false => exact .inl rfl
      | true =>
        cases h' : opens tb sb lb with
        | false => exact .inr rfl
        | true => rw [h, h'] at hb; exact absurd rfl hb
    rw [if_pos hb2]
    exact Ev.neg hb (Ev.now _)

theorem specIn (a l h : Int) : spec_l1In.f a l h = some (decide (l ≤ a ∧ a ≤ h)) := by
  unfold spec_l1In.f
  by_cases h1 : l ≤ a <;> simp [h1]

theorem specMod (v : Int) : spec_Mod.f v 2147483647 = some (modI v) := by
  unfold spec_Mod.f
  simp only [specIn, Option.bind_some]
  rw [if_pos (by decide), if_neg (by decide)]; rfl
theorem specHash_l (l : List Int) (hl : l.length ≤ 1048577) : ∀ (d i : Nat) (h : Int), i + d = l.length → Ev (fun k => spec_Hash.l0 k l h i) ((l.drop i).foldl stepH h) := by
  intro d
  induction d with
  | zero =>
    intro i h hi
    refine Ev.step (fun k => spec_Hash.l0.eq_2 _ _ _ k) ?_
    refine Ev.neg (by omega) (Ev.some_ ?_)
    rw [List.drop_eq_nil_of_le (by omega)]; rfl
  | succ d ih =>
    intro i h hi
    have hlt : i < l.length := by omega
    refine Ev.step (fun k => spec_Hash.l0.eq_2 _ _ _ k) ?_
    refine Ev.pos (by omega) ?_
    refine Ev.pos (by omega) ?_
    rw [rd_get l i hlt, List.drop_eq_getElem_cons hlt]
    refine Ev.bnow (specMod _) ?_
    simp only [wnx hlt (by omega)]
    exact ih (i + 1) _ (by omega)
theorem specHash (l : List Int) (hl : l.length ≤ 1048577) : Ev (fun k => spec_Hash.f k l) (hashF l) := by
  unfold spec_Hash.f
  exact specHash_l l hl l.length 0 11 (by omega)

theorem specOk_l (l : List Int) (hl : l.length ≤ 1048577) : ∀ (d i : Nat), i + d = l.length → Ev (fun k => spec_l22Ok.l0 k l i) ((l.drop i).all (inB 0 100000) && decide (l.length ≤ 12)) := by
  intro d
  induction d with
  | zero =>
    intro i hi
    refine Ev.step (fun k => spec_l22Ok.l0.eq_2 _ _ k) ?_
    refine Ev.neg (by omega) (Ev.some_ ?_)
    rw [List.drop_eq_nil_of_le (by omega)]
    simp only [List.all_nil, Bool.true_and]
    apply decide_eq_decide.mpr; omega
  | succ d ih =>
    intro i hi
    have hlt : i < l.length := by omega
    refine Ev.step (fun k => spec_l22Ok.l0.eq_2 _ _ k) ?_
    refine Ev.pos (by omega) ?_
    refine Ev.pos (by omega) ?_
    rw [rd_get l i hlt, List.drop_eq_getElem_cons hlt, List.all_cons]
    refine Ev.bnow (a := inB 0 100000 l[i]) (by unfold spec_l9Stamp.f; rw [specIn]; rfl) ?_
    cases h : inB 0 100000 l[i] with
    | true =>
      refine Ev.pos rfl ?_
      simp only [wnx hlt (by omega)]
      exact ih (i + 1) (by omega)
    | false => exact Ev.neg (by simp) (Ev.now _)
theorem specOk (l : List Int) (hl : l.length ≤ 1048577) : Ev (fun k => spec_l22Ok.f k l) (okV l) := by
  unfold spec_l22Ok.f
  exact specOk_l l hl l.length 0 (by omega)

theorem specMax (a b : Int) : spec_Max.f a b = some (mx a b) := by
  unfold spec_Max.f mx
  repeat' split
  all_goals first | rfl | (congr 1; omega)

theorem specCom (s : Int) (l : List Int) (hl : l.length ≤ 1048576) : Ev (fun k => spec_CommitTo.f k s l) (comI s l) := by
  unfold spec_CommitTo.f comI
  refine Ev.bnow (a := inB 1 100000 s) (by rw [specIn]; rfl) ?_
  cases h1 : inB 1 100000 s with
  | false =>
    rw [if_neg (by simp)]
    refine Ev.neg (by simp) ?_
    refine Ev.step (fun k => spec_CommitTo.j0.eq_2 _ _ _ k) ?_
    exact Ev.pos rfl (Ev.now _)
  | true =>
    refine Ev.pos rfl ?_
    refine Ev.bind (specOk l (by omega)) ?_
    refine Ev.step (fun k => spec_CommitTo.j0.eq_2 _ _ _ k) ?_
    cases ha : okV l with
    | true =>
      rw [if_pos (by simp)]
      refine Ev.neg (by simp) ?_
      refine Ev.bnow rfl ?_
      refine Ev.pos (by simp; omega) ?_
      refine Ev.bind (specHash (s :: l) (by simp; omega)) ?_
      exact Ev.bnow (specMax _ _) (Ev.now _)
    | false =>
      rw [if_neg (by simp)]
      exact Ev.pos rfl (Ev.now _)

theorem claim_l (b : List Int) (s : Int) : ∀ (d m : Nat) (l : List Int) (i h : Int), m + d = l.length → l.length ≤ 13 → Cur b i → ∃ t l' i' h', Ev (fun k => spec_l23Claim.l0 k m b i h 0 s l) (t, s, l', i', h') ∧ l'.length ≤ 13 ∧ Cur b i' := by
  intro d
  induction d with
  | zero =>
    intro m l i h hm hl hc
    obtain ⟨x, i1, h1, e1, c1⟩ := once_ok b i h 6 hc (by omega) (by omega)
    cases x with
    | true => exact ⟨_, l, i1, h1, Ev.step (fun k => spec_l23Claim.l0.eq_2 _ _ _ _ _ _ _ k) (Ev.neg (by omega) (Ev.bind (specCom s l (by omega)) (Ev.bnow e1 (Ev.pos rfl (Ev.now _))))), hl, c1⟩
    | false => exact ⟨_, l, i1, h1, Ev.step (fun k => spec_l23Claim.l0.eq_2 _ _ _ _ _ _ _ k) (Ev.neg (by omega) (Ev.bind (specCom s l (by omega)) (Ev.bnow e1 (Ev.neg (by simp) (Ev.now _))))), hl, c1⟩
  | succ d ih =>
    intro m l i h hm hl hc
    obtain ⟨x, i1, h1, e1, c1⟩ := once_ok b i h 3 hc (by omega) (by omega)
    obtain ⟨y, i2, h2, e2, _, _, c2⟩ := below_ok b i1 h1 60 c1 (by omega) (by omega)
    cases x with
    | true =>
      obtain ⟨t, l', i', h', e, hl', c'⟩ := ih (m + 1) (l.set m y) i2 h2 (by simp; omega) (by simp; omega) c2
      refine ⟨t, l', i', h', Ev.step (fun k => spec_l23Claim.l0.eq_2 _ _ _ _ _ _ _ k) (Ev.pos (by omega) (Ev.bnow e1 (Ev.pos rfl (Ev.bnow e2 (Ev.pos (by omega) ?_))))), hl', c'⟩
      simp only [wnx (show m < l.length by omega) (by omega), Int.toNat_natCast]
      exact e
    | false =>
      obtain ⟨t, l', i', h', e, hl', c'⟩ := ih (m + 1) l i1 h1 (by omega) hl c1
      refine ⟨t, l', i', h', Ev.step (fun k => spec_l23Claim.l0.eq_2 _ _ _ _ _ _ _ k) (Ev.pos (by omega) (Ev.bnow e1 (Ev.neg (by simp) ?_))), hl', c'⟩
      simp only [wnx (show m < l.length by omega) (by omega)]
      exact e
theorem claim_ok (b : List Int) (i h : Int) (v : List Int) (hv : v.length ≤ 13) (hc : Cur b i) : ∃ t s l i' h', Ev (fun k => spec_l23Claim.f k b i h v) (t, s, l, i', h') ∧ l.length ≤ 13 ∧ Cur b i' := by
  unfold spec_l23Claim.f
  obtain ⟨x, i1, h1, e1, _, _, c1⟩ := below_ok b i h 50 hc (by omega) (by omega)
  obtain ⟨t, l', i', h', e, hl', c'⟩ := claim_l b (wrap64 (1 + x)) v.length 0 v i1 h1 (by omega) hv c1
  exact ⟨t, _, l', i', h', Ev.bnow e1 (Ev.bnow rfl (Ev.pos (by simp; omega) e)), hl', c'⟩
theorem farL_self (m : Int) (hm : 0 ≤ m) : ∀ l : List Int, farL m l l = 0 := by
  intro l
  induction l with
  | nil => rfl
  | cons x l ih =>
    have e : mx (wrap64 (x - x)) (wrap64 (x - x)) = 0 := by rw [show x - x = 0 by omega]; decide +kernel
    simp only [farL, e, ih]
    rw [if_neg (by omega)]
theorem farI_self (l : List Int) (m : Int) : farI l l m = 0 := by
  unfold farI
  split
  · rename_i h
    have : 0 ≤ m ∧ m ≤ 100000 := by simpa [inB] using h.1
    rw [farL_self m this.1]; rfl
  · rfl
theorem names_ok (n : Int) (h0 : 0 ≤ n) (h1 : n ≤ 4) : ∃ s, impl_DisputeName.f n = some s ∧ (s.toList == ([] : List UInt8)) = false := by
  have : n = 0 ∨ n = 1 ∨ n = 2 ∨ n = 3 ∨ n = 4 := by omega
  rcases this with rfl | rfl | rfl | rfl | rfl <;> exact ⟨_, rfl, by rw [ByteArray.toList_eq]; decide⟩
theorem both_in (a b : Bool) : 0 ≤ both a b ∧ both a b ≤ 3 ∧ both b a = rd [0, 2, 1, 3, 4] (both a b) := by cases a <;> cases b <;> decide
theorem judg_in (ta sa : Int) (la : List Int) (tb sb : Int) (lb w : List Int) (m : Int) :
    0 ≤ judgI ta sa la tb sb lb w m ∧ judgI ta sa la tb sb lb w m ≤ 4 ∧ judgI tb sb lb ta sa la w m = rd [0, 2, 1, 3, 4] (judgI ta sa la tb sb lb w m) := by
  unfold judgI
  by_cases h : opens ta sa la = false ∨ opens tb sb lb = false
  · rw [if_pos h, if_pos h.symm]
    have := both_in (!opens ta sa la) (!opens tb sb lb)
    exact ⟨this.1, by omega, this.2.2⟩
  · have h' : ¬ (opens tb sb lb = false ∨ opens ta sa la = false) := fun q => h q.symm
    rw [if_neg h, if_neg h']
    by_cases h2 : la.length = w.length ∧ lb.length = w.length ∧ okV w = true ∧ inB 0 100000 m = true
    · have h3 : lb.length = w.length ∧ la.length = w.length ∧ okV w = true ∧ inB 0 100000 m = true := ⟨h2.2.1, h2.1, h2.2.2⟩
      rw [if_pos h2, if_pos h3]
      have := both_in (decide (2 * farI la w m > w.length)) (decide (2 * farI lb w m > w.length))
      exact ⟨this.1, by omega, this.2.2⟩
    · have h3 : ¬ (lb.length = w.length ∧ la.length = w.length ∧ okV w = true ∧ inB 0 100000 m = true) := fun q => h2 ⟨q.2.1, q.1, q.2.2⟩
      rw [if_neg h2, if_neg h3]
      decide
theorem j0_ok (w : List Int) (m t s : Int) (l : List Int) (hw : w.length ≤ 14) (hl : l.length ≤ 13) : Ev (fun k => laws_FnJudged.j0 k w m false t s l) true := by
  refine Ev.step (fun k => laws_FnJudged.j0.eq_2 _ _ _ _ _ _ k) ?_
  refine Ev.neg (by simp) ?_
  refine Ev.bind (implCom 3 w (by omega)) ?_
  refine Ev.bind (implJudge _ _ _ _ _ _ _ _ (by omega) (by omega) (by omega)) ?_
  refine Ev.bind (implIsOp _ _ _ (by omega)) ?_
  cases ho : opens (comI 3 w) 3 w with
  | false => exact Ev.neg (by simp) (Ev.now _)
  | true =>
    refine Ev.pos rfl ?_
    have key : judgI (comI 3 w) 3 w t s l w m ≠ 1 ∧ judgI (comI 3 w) 3 w t s l w m ≠ 3 := by
      unfold judgI
      rw [ho, farI_self]
      have e : decide ((2 : Int) * 0 > (w.length : Int)) = false := by apply decide_eq_false; omega
      rw [e]
      split
      · cases (!opens t s l) <;> decide
      · split
        · cases decide (2 * farI l w m > (w.length : Int)) <;> decide
        · decide
    refine Ev.neg key.1 (Ev.some_ ?_)
    simpa using key.2
theorem FnJudged : laws_FnJudged.Pure := by
  intro c _ _ _
  refine Ev.rounds (g := fun j => laws_FnJudged.f j c) ?_
  unfold laws_FnJudged.f
  refine Ev.bnow (big_eq c) ?_
  by_cases hb : (c.length : Int) > 1048576
  · exact Ev.pos (by simpa using hb) (Ev.now _)
  · refine Ev.neg (by simpa using hb) ?_
    have hc : c.length ≤ 1048576 := by omega
    obtain ⟨h, eN⟩ := new_ok c hc
    have hc0 : Cur c 0 := ⟨by omega, by omega, hc⟩
    obtain ⟨w, i1, h1, e1, hw, c1⟩ := vals_ok c 0 h hc0
    obtain ⟨ta, sa, la, i2, h2, e2, hla, c2⟩ := claim_ok c i1 h1 w hw c1
    obtain ⟨tb, sb, lb, i3, h3, e3, hlb, c3⟩ := claim_ok c i2 h2 w hw c2
    obtain ⟨x, i4, h4, e4, c4⟩ := once_ok c i3 h3 8 c3 (by omega) (by omega)
    obtain ⟨m, i5, h5, e5, _, c5⟩ := int_ok c i4 h4 [0, 2, 10, (-1)] c4 (by decide) (by decide)
    have eD : ∃ w', w'.length ≤ 14 ∧ Ev (fun k => spec_DrawJudgeClaims.f k c) (ta, sa, la, tb, sb, lb, w', m) := by
      unfold spec_DrawJudgeClaims.f
      cases x with
      | true => exact ⟨w ++ [1], by simp; omega, Ev.bind eN (Ev.bind e1 (Ev.bind e2 (Ev.bind e3 (Ev.bnow e4 (Ev.pos rfl (Ev.pos (by show w.length < _; omega) (Ev.bnow e5 (Ev.now _))))))))⟩
      | false => exact ⟨w, by omega, Ev.bind eN (Ev.bind e1 (Ev.bind e2 (Ev.bind e3 (Ev.bnow e4 (Ev.neg (by simp) (Ev.bnow e5 (Ev.now _)))))))⟩
    obtain ⟨w', hw', eD⟩ := eD
    refine Ev.bind eD ?_
    refine Ev.bind (implJudge _ _ _ _ _ _ _ _ (by show la.length ≤ _; omega) (by show lb.length ≤ _; omega) (by show w'.length ≤ _; omega)) ?_
    refine Ev.bind (implJudge _ _ _ _ _ _ _ _ (by show lb.length ≤ _; omega) (by show la.length ≤ _; omega) (by show w'.length ≤ _; omega)) ?_
    refine Ev.bnow rfl ?_
    have ji := judg_in ta sa la tb sb lb w' m
    refine Ev.neg (show ¬ judgI ta sa la tb sb lb w' m < 0 by omega) ?_
    refine Ev.neg (show ¬ judgI ta sa la tb sb lb w' m > 4 by omega) ?_
    refine Ev.pos ji.1 ?_
    refine Ev.pos (show judgI ta sa la tb sb lb w' m < 5 by omega) ?_
    refine Ev.pos ji.2.2 ?_
    obtain ⟨nm, en, hn⟩ := names_ok _ ji.1 ji.2.1
    refine Ev.bnow en ?_
    rw [hn]
    exact j0_ok w' m tb sb lb hw' hlb

end Go.Proofs.Ytkiebefaancmiaa.Pure
