/- The law FnCommits returns true at every list of bytes: a list is opened as it was fixed, and not with a number in it, or the salt, one greater, unless that gives the same tag. No condition. -/
import Derived.Test.YtkiebefaancmiaaHFnCommitsx4
namespace Go.Proofs.Ytkiebefaancmiaa.Pure
open Go.RowKit Go.Proofs.Ytkiebefaancmiaa.PFnCommits Go.Proofs.YtkiebefaancmiaaW.PrintWords Go.Proofs.YtkiebefaancmiaaW.PrintLast
set_option linter.unusedSimpArgs false
set_option linter.unusedVariables false

theorem wr {x : Int} (h1 : -9223372036854775808 ≤ x) (h2 : x ≤ 9223372036854775807) : wrap64 x = x := by unfold wrap64; omega
theorem Ev.pos {α : Type} {c : Prop} [Decidable c] {g f : Nat → Option α} {r : α} (h : c) (e : Ev g r) : Ev (fun k => if c then g k else f k) r := by
  simp only [if_pos h]; exact e
theorem Ev.neg {α : Type} {c : Prop} [Decidable c] {g f : Nat → Option α} {r : α} (h : ¬ c) (e : Ev f r) : Ev (fun k => if c then g k else f k) r := by
  simp only [if_neg h]; exact e
theorem Ev.some_ {α : Type} {r r' : α} (h : r = r') : Ev (fun _ => some r) r' := h ▸ Ev.now r
theorem Ev.bnow {α β : Type} {g : Option α} {f : Nat → α → Option β} {a : α} {r : β} (h : g = some a) (k : Ev (fun n => f n a) r) : Ev (fun n => g.bind (f n)) r := by
  subst h; exact k

theorem and_le (x : Int) (m : Nat) (hm : m < 4611686018427387904) : 0 ≤ Go.bits .and .i64 x m ∧ Go.bits .and .i64 x m ≤ m := by
  simp only [Go.bits, BitVec.toNat_and, BitVec.ofInt_natCast, BitVec.toNat_ofNat]
  have h1 : (BitVec.ofInt IntKind.i64.bits x).toNat &&& m % 2 ^ IntKind.i64.bits ≤ m % 2 ^ IntKind.i64.bits := Nat.and_le_right
  have h2 : m % 2 ^ IntKind.i64.bits = m := Nat.mod_eq_of_lt (by show m < 2 ^ 64; omega)
  rw [h2] at h1 ⊢
  rw [i64_w, wr (by omega) (by omega)]
  omega
theorem new_l (l : List Int) (hl : l.length ≤ 1048576) : ∀ (d i : Nat) (h : Int), l.length - i ≤ d → i ≤ l.length → ∃ h', Ev (fun k => spec_l1New.l0 k l h i) (l, 0, h') := by
  intro d
  induction d with
  | zero =>
    intro i h hi hi2
    refine ⟨h, Ev.step (fun k => spec_l1New.l0.eq_2 _ _ _ k) ?_⟩
    exact Ev.neg (by omega) (Ev.now _)
  | succ d ih =>
    intro i h hi hi2
    by_cases h1 : (i : Int) < (l.length : Int)
    · by_cases h2 : (i : Int) < 4000
      · obtain ⟨h', e⟩ := ih (i + 1) (Go.bits .and .i64 (wrap64 ((wrap64 ((wrap64 (h * 137)) + (wrap64 (rd l i)))) + 11)) 1073741823) (by omega) (by omega)
        refine ⟨h', Ev.step (fun k => spec_l1New.l0.eq_2 _ _ _ k) (Ev.pos h1 (Ev.pos h2 (Ev.pos (by omega) ?_)))⟩
        rw [wr (x := (i : Int) + 1) (by omega) (by omega)]
        exact e
      · exact ⟨h, Ev.step (fun k => spec_l1New.l0.eq_2 _ _ _ k) (Ev.pos h1 (Ev.neg h2 (Ev.now _)))⟩
    · exact ⟨h, Ev.step (fun k => spec_l1New.l0.eq_2 _ _ _ k) (Ev.neg h1 (Ev.now _))⟩
theorem new_ok (l : List Int) (hl : l.length ≤ 1048576) : ∃ h, Ev (fun k => spec_l1New.f k l) (l, 0, h) := by
  unfold spec_l1New.f
  exact new_l l hl l.length 0 _ (by omega) (by omega)
/-- The cursor stands in the bytes. -/
def Cur (b : List Int) (i : Int) : Prop := 0 ≤ i ∧ i ≤ b.length ∧ b.length ≤ 1048576
theorem byte_ok (b : List Int) (i h : Int) (hc : Cur b i) : ∃ x i' h', spec_l1Byte.f b i h = some (x, i', h') ∧ 0 ≤ x ∧ x ≤ 255 ∧ Cur b i' := by
  obtain ⟨h0, h1, h2⟩ := hc
  unfold spec_l1Byte.f
  by_cases hi : i < (b.length : Int)
  · rw [if_pos hi, if_pos h0, wr (x := i + 1) (by omega) (by omega)]
    have a := and_le (wrap64 ((Go.bits .and .i64 (Go.bits .xor .i64 ((wrap64 ((wrap64 (h * 6364136223846793005)) + 1442695040888963407)) / 8589934592) ((wrap64 ((wrap64 (h * 6364136223846793005)) + 1442695040888963407)) / 140737488355328)) 255) + (wrap64 (rd b i)))) 255 (by decide)
    exact ⟨_, _, _, rfl, a.1, a.2, by omega, by omega, h2⟩
  · rw [if_neg hi]
    have a := and_le (Go.bits .xor .i64 ((wrap64 ((wrap64 (h * 6364136223846793005)) + 1442695040888963407)) / 8589934592) ((wrap64 ((wrap64 (h * 6364136223846793005)) + 1442695040888963407)) / 140737488355328)) 255 (by decide)
    exact ⟨_, _, _, rfl, a.1, a.2, h0, h1, h2⟩
theorem below_ok (b : List Int) (i h a : Int) (hc : Cur b i) (ha : 0 < a) (ha2 : a ≤ 256) : ∃ x i' h', spec_l1Below.f b i h a = some (x, i', h') ∧ 0 ≤ x ∧ x < a ∧ Cur b i' := by
  obtain ⟨x, i', h', e, h0, h1, hc'⟩ := byte_ok b i h hc
  refine ⟨Int.tmod x a, i', h', ?_, Int.tmod_nonneg _ h0, Int.tmod_lt_of_pos _ ha, hc'⟩
  unfold spec_l1Below.f
  rw [if_neg (by omega), if_pos ha2, e]
  simp only [Option.bind_some]
  rw [if_neg (by omega)]

theorem int_ok (b : List Int) (i h : Int) (l : List Int) (hc : Cur b i) (hl : 0 < l.length) (hl2 : l.length ≤ 256) : ∃ x i' h', spec_l1Int.f b i h l = some (x, i', h') ∧ x ∈ l ∧ Cur b i' := by
  obtain ⟨x, i', h', e, h0, h1, hc'⟩ := below_ok b i h l.length hc (by omega) (by omega)
  refine ⟨rd l x, i', h', ?_, ?_, hc'⟩
  · unfold spec_l1Int.f
    rw [e]
    simp only [Option.bind_some]
    rw [if_pos h0, if_pos h1]
  · unfold rd
    have hlt : x.toNat < l.length := by omega
    simp [List.getD, hlt]

theorem wnx {i n : Nat} (h : i < n) (hn : n ≤ 9223372036854775807) : wrap64 ((i : Int) + 1) = ((i + 1 : Nat) : Int) := by rw [wr (by omega) (by omega)]; rfl
theorem rd_get (l : List Int) (i : Nat) (h : i < l.length) : rd l (i : Int) = l[i] := by simp [rd, List.getD, h]

theorem once_ok (b : List Int) (i h a : Int) (hc : Cur b i) (ha : 0 < a) (ha2 : a ≤ 256) : ∃ x i' h', spec_l1Once.f b i h a = some (x, i', h') ∧ Cur b i' := by
  obtain ⟨x, i', h', e, _, _, c⟩ := below_ok b i h a hc ha ha2
  refine ⟨x == 0, i', h', ?_, c⟩
  unfold spec_l1Once.f
  rw [e]; rfl
theorem raw_ok (b : List Int) (i h : Int) (hc : Cur b i) : ∃ x i' h', spec_l9Raw.f b i h = some (x, i', h') ∧ Cur b i' := by
  unfold spec_l9Raw.f
  obtain ⟨x, i1, h1, e1, c1⟩ := once_ok b i h 6 hc (by omega) (by omega)
  rw [e1]
  simp only [Option.bind_some]
  obtain ⟨p, j, g, f, _, k⟩ := int_ok b i1 h1 [(-1), 0, 100000, 100001, (-100000), (-100001), 9223372036854775807, (-9223372036854775808)] c1 (by decide) (by decide)
  obtain ⟨p2, j2, g2, f2, _, _, k2⟩ := below_ok b i1 h1 60 c1 (by omega) (by omega)
  rw [f, f2]
  simp only [Option.bind_some]
  split
  · exact ⟨_, _, _, rfl, k⟩
  · exact ⟨_, _, _, rfl, k2⟩
theorem vals_l (b : List Int) (n : Nat) (hn : n ≤ 13) : ∀ (d m : Nat) (l : List Int) (i h : Int), m + d = n → l.length = m → Cur b i → ∃ l' i' h', Ev (fun k => spec_l22Values.l0 k l n m b i h) (l', i', h') ∧ l'.length ≤ 13 ∧ Cur b i' := by
  intro d
  induction d with
  | zero =>
    intro m l i h hm hl hc
    obtain ⟨x, i1, h1, e1, c1⟩ := once_ok b i h 8 hc (by omega) (by omega)
    obtain ⟨y, i2, h2, e2, c2⟩ := raw_ok b i1 h1 c1
    by_cases h0 : (n : Int) > 0
    · cases x with
      | true =>
        refine ⟨l.set 0 y, i2, h2, Ev.step (fun k => spec_l22Values.l0.eq_2 _ _ _ _ _ _ k) (Ev.neg (by omega) (Ev.pos h0 (Ev.bnow e1 (Ev.pos rfl (Ev.bnow e2 (Ev.pos (by omega) (Ev.now _))))))), by simp; omega, c2⟩
      | false =>
        exact ⟨l, i1, h1, Ev.step (fun k => spec_l22Values.l0.eq_2 _ _ _ _ _ _ k) (Ev.neg (by omega) (Ev.pos h0 (Ev.bnow e1 (Ev.neg (by simp) (Ev.now _))))), by omega, c1⟩
    · exact ⟨l, i, h, Ev.step (fun k => spec_l22Values.l0.eq_2 _ _ _ _ _ _ k) (Ev.neg (by omega) (Ev.neg h0 (Ev.now _))), by omega, hc⟩
  | succ d ih =>
    intro m l i h hm hl hc
    obtain ⟨x, i1, h1, e1, _, _, c1⟩ := below_ok b i h 50 hc (by omega) (by omega)
    obtain ⟨l', i', h', e, hl', c'⟩ := ih (m + 1) (l ++ [x]) i1 h1 (by omega) (by simp; omega) c1
    refine ⟨l', i', h', Ev.step (fun k => spec_l22Values.l0.eq_2 _ _ _ _ _ _ k) (Ev.pos (by omega) (Ev.bnow e1 (Ev.pos (by omega) ?_))), hl', c'⟩
    simp only [wnx (show m < n by omega) (by omega)]
    exact e
theorem vals_ok (b : List Int) (i h : Int) (hc : Cur b i) : ∃ l i' h', Ev (fun k => spec_l22Values.f k b i h) (l, i', h') ∧ l.length ≤ 13 ∧ Cur b i' := by
  unfold spec_l22Values.f
  obtain ⟨x, i1, h1, e1, x0, x1, c1⟩ := below_ok b i h 6 hc (by omega) (by omega)
  obtain ⟨y, i2, h2, e2, c2⟩ := once_ok b i1 h1 9 c1 (by omega) (by omega)
  obtain ⟨z, i3, h3, e3, z0, z1, c3⟩ := below_ok b i2 h2 2 c2 (by omega) (by omega)
  cases y with
  | true =>
    obtain ⟨n, hn⟩ := Int.eq_ofNat_of_zero_le (show 0 ≤ 12 + z by omega)
    obtain ⟨l', i', h', e, hl', c'⟩ := vals_l b n (by omega) n 0 [] i3 h3 (by omega) rfl c3
    refine ⟨l', i', h', Ev.bnow rfl (Ev.bnow e1 (Ev.bnow e2 (Ev.pos rfl (Ev.bnow e3 ?_)))), hl', c'⟩
    refine Ev.step (fun k => spec_l22Values.j0.eq_2 _ _ _ _ _ k) ?_
    rw [wr (x := 12 + z) (by omega) (by omega), hn]
    exact e
  | false =>
    obtain ⟨n, hn⟩ := Int.eq_ofNat_of_zero_le x0
    obtain ⟨l', i', h', e, hl', c'⟩ := vals_l b n (by omega) n 0 [] i2 h2 (by omega) rfl c2
    refine ⟨l', i', h', Ev.bnow rfl (Ev.bnow e1 (Ev.bnow e2 (Ev.neg (by simp) ?_))), hl', c'⟩
    refine Ev.step (fun k => spec_l22Values.j0.eq_2 _ _ _ _ _ k) ?_
    simp only [hn]
    exact e

theorem big_eq (l : List Int) : laws_big.f l = some (decide ((l.length : Int) > 1048576)) := rfl

def inB (a b x : Int) : Bool := decide (a ≤ x ∧ x ≤ b)
def okV (l : List Int) : Bool := l.all (inB 0 100000) && decide (l.length ≤ 12)

def modI (v : Int) : Int := Int.tmod (wrap64 (Int.tmod v 2147483647 + 2147483647)) 2147483647
def stepH (h v : Int) : Int := Int.tmod (wrap64 (wrap64 (wrap64 (h * 1000003) + modI v) + 13)) 2147483647
def hashF (l : List Int) : Int := l.foldl stepH 11

def comI (s : Int) (l : List Int) : Int := if inB 1 100000 s = true ∧ okV l = true then mx 1 (hashF (s :: l)) else 0
theorem comI_nn (s : Int) (l : List Int) : 0 ≤ comI s l := by
  unfold comI
  split
  · have e : ∀ x y : Int, mx x y = if x < y then y else x := fun _ _ => rfl
    rw [e]; split <;> omega
  · omega
def opens (t s : Int) (l : List Int) : Bool := decide (0 < t) && (comI s l == t)

theorem implIn (a l h : Int) : impl_InRange.f a l h = some (decide (l ≤ a ∧ a ≤ h)) := by
  unfold impl_InRange.f
  by_cases h1 : l ≤ a <;> simp [h1]

theorem implMod (v : Int) : impl_Mod.f v 2147483647 = some (modI v) := by
  unfold impl_Mod.f
  simp only [implIn, Option.bind_some]
  rw [if_pos (by decide), if_neg (by decide)]; rfl
theorem implHash_l (l : List Int) (hl : l.length ≤ 1048577) : ∀ (d i : Nat) (h : Int), i + d = l.length → Ev (fun k => impl_Hash.l0 k h l l.length i) ((l.drop i).foldl stepH h) := by
  intro d
  induction d with
  | zero =>
    intro i h hi
    refine Ev.step (fun k => impl_Hash.l0.eq_2 _ _ _ _ k) ?_
    refine Ev.neg (by omega) (Ev.some_ ?_)
    rw [List.drop_eq_nil_of_le (by omega)]; rfl
  | succ d ih =>
    intro i h hi
    have hlt : i < l.length := by omega
    refine Ev.step (fun k => impl_Hash.l0.eq_2 _ _ _ _ k) ?_
    refine Ev.pos (by omega) ?_
    refine Ev.pos (by omega) ?_
    refine Ev.pos (by omega) ?_
    rw [rd_get l i hlt, List.drop_eq_getElem_cons hlt]
    refine Ev.bnow (implMod _) ?_
    simp only [wnx hlt (by omega)]
    exact ih (i + 1) _ (by omega)
theorem implHash (l : List Int) (hl : l.length ≤ 1048577) : Ev (fun k => impl_Hash.f k l) (hashF l) := by
  unfold impl_Hash.f
  exact implHash_l l hl l.length 0 11 (by omega)

theorem allIn_l (l : List Int) (a b : Int) (hl : l.length ≤ 1048577) : ∀ (d i : Nat), i + d = l.length → Ev (fun k => impl_allIn.l0 k a b l l.length i) ((l.drop i).all (inB a b)) := by
  intro d
  induction d with
  | zero =>
    intro i hi
    refine Ev.step (fun k => impl_allIn.l0.eq_2 _ _ _ _ _ k) ?_
    refine Ev.neg (by omega) (Ev.some_ ?_)
    rw [List.drop_eq_nil_of_le (by omega)]; rfl
  | succ d ih =>
    intro i hi
    have hlt : i < l.length := by omega
    refine Ev.step (fun k => impl_allIn.l0.eq_2 _ _ _ _ _ k) ?_
    refine Ev.pos (by omega) ?_
    refine Ev.pos (by omega) ?_
    refine Ev.pos (by omega) ?_
    rw [rd_get l i hlt, List.drop_eq_getElem_cons hlt, List.all_cons]
    refine Ev.bnow (a := inB a b l[i]) (by rw [implIn]; rfl) ?_
    cases h : inB a b l[i] with
    | true =>
      refine Ev.pos rfl ?_
      simp only [wnx hlt (by omega)]
      exact ih (i + 1) (by omega)
    | false => exact Ev.neg (by simp) (Ev.now _)
theorem allIn (l : List Int) (a b : Int) (hl : l.length ≤ 1048577) : Ev (fun k => impl_allIn.f k l a b) (l.all (inB a b)) := by
  unfold impl_allIn.f
  exact allIn_l l a b hl l.length 0 (by omega)

theorem implCom (s : Int) (l : List Int) (hl : l.length ≤ 1048576) : Ev (fun k => impl_CommitTo.f k s l) (comI s l) := by
  unfold impl_CommitTo.f comI okV
  refine Ev.bnow (a := inB 1 100000 s) (by rw [implIn]; rfl) ?_
  cases h1 : inB 1 100000 s with
  | false =>
    rw [if_neg (by simp)]
    refine Ev.neg (by simp) ?_
    refine Ev.step (fun k => impl_CommitTo.j0.eq_2 _ _ _ k) ?_
    exact Ev.pos rfl (Ev.now _)
  | true =>
    refine Ev.pos rfl ?_
    by_cases h : (l.length : Int) > 12
    · refine Ev.pos h ?_
      have : ¬ l.length ≤ 12 := by omega
      rw [if_neg (by simp [this])]
      refine Ev.step (fun k => impl_CommitTo.j0.eq_2 _ _ _ k) ?_
      exact Ev.pos rfl (Ev.now _)
    · refine Ev.neg h ?_
      have : l.length ≤ 12 := by omega
      refine Ev.bind (allIn l 0 100000 (by omega)) ?_
      refine Ev.step (fun k => impl_CommitTo.j0.eq_2 _ _ _ k) ?_
      cases ha : l.all (inB 0 100000) with
      | true =>
        rw [if_pos (by simp [this])]
        refine Ev.neg (by simp) ?_
        refine Ev.bnow rfl ?_
        refine Ev.pos (by simp; omega) ?_
        refine Ev.bind (implHash (s :: l) (by simp; omega)) ?_
        exact Ev.bnow rfl (Ev.now _)
      | false =>
        rw [if_neg (by simp)]
        exact Ev.pos rfl (Ev.now _)

theorem implOpens (t s : Int) (l : List Int) (hl : l.length ≤ 1048576) : Ev (fun k => impl_OpensTo.f k t s l) (opens t s l) := by
  unfold impl_OpensTo.f opens
  by_cases h : t > 0
  · have h' : 0 < t := h
    refine Ev.pos h (Ev.bind (implCom s l hl) (Ev.some_ ?_))
    simp [h']
  · have h' : ¬ 0 < t := h
    refine Ev.neg h (Ev.some_ ?_)
    simp [h']

theorem specIn (a l h : Int) : spec_l1In.f a l h = some (decide (l ≤ a ∧ a ≤ h)) := by
  unfold spec_l1In.f
  by_cases h1 : l ≤ a <;> simp [h1]

theorem specMod (v : Int) : spec_Mod.f v 2147483647 = some (modI v) := by
  unfold spec_Mod.f
  simp only [specIn, Option.bind_some]
  rw [if_pos (by decide), if_neg (by decide)]; rfl
theorem specHash_l (l : List Int) (hl : l.length ≤ 1048577) : ∀ (d i : Nat) (h : Int), i + d = l.length → Ev (fun k => spec_Hash.l0 k l h i) ((l.drop i).foldl stepH h) := by
  intro d
  induction d with
  | zero =>
    intro i h hi
    refine Ev.step (fun k => spec_Hash.l0.eq_2 _ _ _ k) ?_
    refine Ev.neg (by omega) (Ev.some_ ?_)
    rw [List.drop_eq_nil_of_le (by omega)]; rfl
  | succ d ih =>
    intro i h hi
    have hlt : i < l.length := by omega
    refine Ev.step (fun k => spec_Hash.l0.eq_2 _ _ _ k) ?_
    refine Ev.pos (by omega) ?_
    refine Ev.pos (by omega) ?_
    rw [rd_get l i hlt, List.drop_eq_getElem_cons hlt]
    refine Ev.bnow (specMod _) ?_
    simp only [wnx hlt (by omega)]
    exact ih (i + 1) _ (by omega)
theorem specHash (l : List Int) (hl : l.length ≤ 1048577) : Ev (fun k => spec_Hash.f k l) (hashF l) := by
  unfold spec_Hash.f
  exact specHash_l l hl l.length 0 11 (by omega)

theorem specOk_l (l : List Int) (hl : l.length ≤ 1048577) : ∀ (d i : Nat), i + d = l.length → Ev (fun k => spec_l22Ok.l0 k l i) ((l.drop i).all (inB 0 100000) && decide (l.length ≤ 12)) := by
  intro d
  induction d with
  | zero =>
    intro i hi
    refine Ev.step (fun k => spec_l22Ok.l0.eq_2 _ _ k) ?_
    refine Ev.neg (by omega) (Ev.some_ ?_)
    rw [List.drop_eq_nil_of_le (by omega)]
    simp only [List.all_nil, Bool.true_and]
    apply decide_eq_decide.mpr; omega
  | succ d ih =>
    intro i hi
    have hlt : i < l.length := by omega
    refine Ev.step (fun k => spec_l22Ok.l0.eq_2 _ _ k) ?_
    refine Ev.pos (by omega) ?_
    refine Ev.pos (by omega) ?_
    rw [rd_get l i hlt, List.drop_eq_getElem_cons hlt, List.all_cons]
    refine Ev.bnow (a := inB 0 100000 l[i]) (by unfold spec_l9Stamp.f; rw [specIn]; rfl) ?_
    cases h : inB 0 100000 l[i] with
    | true =>
      refine Ev.pos rfl ?_
      simp only [wnx hlt (by omega)]
      exact ih (i + 1) (by omega)
    | false => exact Ev.neg (by simp) (Ev.now _)
theorem specOk (l : List Int) (hl : l.length ≤ 1048577) : Ev (fun k => spec_l22Ok.f k l) (okV l) := by
  unfold spec_l22Ok.f
  exact specOk_l l hl l.length 0 (by omega)

theorem specMax (a b : Int) : spec_Max.f a b = some (mx a b) := by
  unfold spec_Max.f mx
  repeat' split
  all_goals first | rfl | (congr 1; omega)

theorem specCom (s : Int) (l : List Int) (hl : l.length ≤ 1048576) : Ev (fun k => spec_CommitTo.f k s l) (comI s l) := by
  unfold spec_CommitTo.f comI
  refine Ev.bnow (a := inB 1 100000 s) (by rw [specIn]; rfl) ?_
  cases h1 : inB 1 100000 s with
  | false =>
    rw [if_neg (by simp)]
    refine Ev.neg (by simp) ?_
    refine Ev.step (fun k => spec_CommitTo.j0.eq_2 _ _ _ k) ?_
    exact Ev.pos rfl (Ev.now _)
  | true =>
    refine Ev.pos rfl ?_
    refine Ev.bind (specOk l (by omega)) ?_
    refine Ev.step (fun k => spec_CommitTo.j0.eq_2 _ _ _ k) ?_
    cases ha : okV l with
    | true =>
      rw [if_pos (by simp)]
      refine Ev.neg (by simp) ?_
      refine Ev.bnow rfl ?_
      refine Ev.pos (by simp; omega) ?_
      refine Ev.bind (specHash (s :: l) (by simp; omega)) ?_
      exact Ev.bnow (specMax _ _) (Ev.now _)
    | false =>
      rw [if_neg (by simp)]
      exact Ev.pos rfl (Ev.now _)

/-- The sum, from s on. -/
def sumL (s : Int) (l : List Int) : Int := l.foldl (fun t x => wrap64 (t + x)) s
def totI (l : List Int) : Int := if okV l = true then sumL 0 l else -1

theorem implTot_l (l : List Int) (hl : l.length ≤ 1048576) : ∀ (d i : Nat) (s : Int), i + d = l.length → Ev (fun k => impl_TotalOf.l0 k s l l.length i) (sumL s (l.drop i)) := by
  intro d
  induction d with
  | zero =>
    intro i s hi
    refine Ev.step (fun k => impl_TotalOf.l0.eq_2 _ _ _ _ k) ?_
    refine Ev.neg (by omega) (Ev.some_ ?_)
    rw [List.drop_eq_nil_of_le (by omega)]; rfl
  | succ d ih =>
    intro i s hi
    have hlt : i < l.length := by omega
    refine Ev.step (fun k => impl_TotalOf.l0.eq_2 _ _ _ _ k) ?_
    refine Ev.pos (by omega) ?_
    refine Ev.pos (by omega) ?_
    refine Ev.pos (by omega) ?_
    rw [rd_get l i hlt, List.drop_eq_getElem_cons hlt]
    simp only [wnx hlt (by omega)]
    exact ih (i + 1) _ (by omega)
theorem implTot (l : List Int) (hl : l.length ≤ 1048576) : Ev (fun k => impl_TotalOf.f k l) (totI l) := by
  unfold impl_TotalOf.f totI okV
  by_cases h : (l.length : Int) > 12
  · refine Ev.pos h ?_
    have : ¬ l.length ≤ 12 := by omega
    rw [if_neg (by simp [this])]
    refine Ev.step (fun k => impl_TotalOf.j0.eq_2 _ _ k) ?_
    exact Ev.pos rfl (Ev.now _)
  · refine Ev.neg h ?_
    have : l.length ≤ 12 := by omega
    refine Ev.bind (allIn l 0 100000 (by omega)) ?_
    refine Ev.step (fun k => impl_TotalOf.j0.eq_2 _ _ k) ?_
    cases ha : l.all (inB 0 100000) with
    | true =>
      rw [if_pos (by simp [this])]
      refine Ev.neg (by simp) ?_
      exact implTot_l l hl l.length 0 0 (by omega)
    | false =>
      rw [if_neg (by simp)]
      exact Ev.pos rfl (Ev.now _)

def farL (m : Int) : List Int → List Int → Nat
  | x :: a, y :: b => (if mx (wrap64 (x - y)) (wrap64 (y - x)) > m then 1 else 0) + farL m a b
  | _, _ => 0
def farI (a b : List Int) (m : Int) : Int := if inB 0 100000 m = true ∧ okV a = true ∧ okV b = true then (farL m a b : Int) else 0
theorem sumL_nn : ∀ (l : List Int) (s : Int), l.all (inB 0 100000) = true → 0 ≤ s → s + l.length * 100000 ≤ 1000000000000 → 0 ≤ sumL s l := by
  intro l
  induction l with
  | nil => intro s _ h _; exact h
  | cons x l ih =>
    intro s ha h0 h1
    rw [List.all_cons, Bool.and_eq_true] at ha
    have hx : 0 ≤ x ∧ x ≤ 100000 := by simpa [inB] using ha.1
    rw [List.length_cons] at h1
    show 0 ≤ sumL (wrap64 (s + x)) l
    rw [wr (by omega) (by omega)]
    exact ih (s + x) ha.2 (by omega) (by omega)
theorem tot_neg (l : List Int) : (totI l == -1) = !okV l := by
  unfold totI
  cases h : okV l with
  | false => simp
  | true =>
    rw [if_pos rfl]
    have h2 := h
    simp only [okV, Bool.and_eq_true, decide_eq_true_eq] at h2
    have := sumL_nn l 0 h2.1 (by omega) (by omega)
    simp; omega
theorem farL_le (m : Int) : ∀ (a b : List Int), farL m a b ≤ a.length := by
  intro a
  induction a with
  | nil => intro b; simp [farL]
  | cons x a ih =>
    intro b
    cases b with
    | nil => simp [farL]
    | cons y b => have := ih b; simp only [farL, List.length_cons]; split <;> omega
theorem farI_nn (a b : List Int) (m : Int) : 0 ≤ farI a b m ∧ farI a b m ≤ 12 := by
  unfold farI
  split
  · rename_i h
    have h2 := h.2.1
    simp only [okV, Bool.and_eq_true, decide_eq_true_eq] at h2
    have := farL_le m a b
    omega
  · omega

theorem sumOf_l (l : List Int) (hl : l.length ≤ 1048576) : ∀ (d i : Nat) (s : Int), i + d = l.length → Ev (fun k => laws_sumOf.l0 k l s i) (sumL s (l.drop i)) := by
  intro d
  induction d with
  | zero =>
    intro i s hi
    refine Ev.step (fun k => laws_sumOf.l0.eq_2 _ _ _ k) ?_
    refine Ev.neg (by omega) (Ev.some_ ?_)
    rw [List.drop_eq_nil_of_le (by omega)]; rfl
  | succ d ih =>
    intro i s hi
    have hlt : i < l.length := by omega
    refine Ev.step (fun k => laws_sumOf.l0.eq_2 _ _ _ k) ?_
    refine Ev.pos (by omega) ?_
    refine Ev.pos (by omega) ?_
    rw [rd_get l i hlt, List.drop_eq_getElem_cons hlt]
    simp only [wnx hlt (by omega)]
    exact ih (i + 1) _ (by omega)
theorem com_pos (s : Int) (l : List Int) (h : comI s l ≠ 0) : okV l = true ∧ opens (comI s l) s l = true := by
  have n := comI_nn s l
  refine ⟨?_, ?_⟩
  · unfold comI at h
    split at h
    · rename_i h2; exact h2.2
    · exact absurd rfl h
  · unfold opens
    have : 0 < comI s l := by omega
    simp [this]
theorem opens_of (t s : Int) (l : List Int) (h : comI s l ≠ t) : opens t s l = false := by
  unfold opens
  have : (comI s l == t) = false := by simpa using h
  rw [this]; simp
theorem j2_ok (l : List Int) (hl : l.length ≤ 13) (ho : okV l = true) : Ev (fun k => laws_FnCommits.j2 k l false) true := by
  refine Ev.step (fun k => laws_FnCommits.j2.eq_2 _ _ k) ?_
  refine Ev.neg (by simp) ?_
  refine Ev.bind (implTot l (by omega)) ?_
  refine Ev.bind (a := sumL 0 l) (by unfold laws_sumOf.f; exact sumOf_l l (by omega) l.length 0 0 (by omega)) (Ev.some_ ?_)
  unfold totI
  rw [if_pos ho]; simp
theorem l0_ok (s : Int) (l : List Int) (hl : l.length ≤ 13) (ho : okV l = true) (t : Int) : ∀ (d i : Nat), i + d = l.length → Ev (fun k => laws_FnCommits.l0 k s l t i) true := by
  intro d
  induction d with
  | zero =>
    intro i hi
    refine Ev.step (fun k => laws_FnCommits.l0.eq_2 _ _ _ _ k) ?_
    refine Ev.neg (by omega) ?_
    refine Ev.bind (specCom _ l (by omega)) ?_
    by_cases h : comI (wrap64 (s + 1)) l = t
    · exact Ev.pos h (j2_ok l hl ho)
    · refine Ev.neg h ?_
      refine Ev.bind (implOpens t _ l (by omega)) ?_
      rw [opens_of _ _ _ h]
      exact j2_ok l hl ho
  | succ d ih =>
    intro i hi
    have hlt : i < l.length := by omega
    have e := ih (i + 1) (by omega)
    refine Ev.step (fun k => laws_FnCommits.l0.eq_2 _ _ _ _ k) ?_
    refine Ev.pos (by omega) ?_
    refine Ev.bnow rfl ?_
    refine Ev.pos (by simp; omega) ?_
    refine Ev.bnow rfl ?_
    refine Ev.pos (by omega) ?_
    refine Ev.pos (by simp; omega) ?_
    refine Ev.bnow rfl ?_
    simp only [List.nil_append, Int.toNat_natCast, wnx hlt (by omega)]
    refine Ev.bind (specCom s _ (by rw [List.length_set]; omega)) ?_
    by_cases h : comI s (l.set i (wrap64 (rd l (i : Int) + 1))) = t
    · exact Ev.pos h e
    · refine Ev.neg h ?_
      refine Ev.bind (implOpens t s _ (by rw [List.length_set]; omega)) ?_
      rw [opens_of _ _ _ h]
      exact Ev.neg (by simp) e
theorem next_ne (t : Int) : t ≠ wrap64 (t + 1) := by unfold wrap64; omega
theorem FnCommits : laws_FnCommits.Pure := by
  intro c _ _ _
  refine Ev.rounds (g := fun j => laws_FnCommits.f j c) ?_
  unfold laws_FnCommits.f
  refine Ev.bnow (big_eq c) ?_
  by_cases hb : (c.length : Int) > 1048576
  · exact Ev.pos (by simpa using hb) (Ev.now _)
  · refine Ev.neg (by simpa using hb) ?_
    have hc : c.length ≤ 1048576 := by omega
    obtain ⟨h, eN⟩ := new_ok c hc
    have hc0 : Cur c 0 := ⟨by omega, by omega, hc⟩
    obtain ⟨s, i1, h1, e1, _, c1⟩ := int_ok c 0 h [1, 7, 99, 0, 100000, 100001, (-1)] hc0 (by decide) (by decide)
    obtain ⟨l, i2, h2, e2, hl, c2⟩ := vals_ok c i1 h1 c1
    have eD : Ev (fun k => spec_DrawCommitTo.f k c) (s, l) := by
      unfold spec_DrawCommitTo.f
      exact Ev.bind eN (Ev.bnow e1 (Ev.bind e2 (Ev.now _)))
    refine Ev.bind eD ?_
    refine Ev.bind (implCom s l (by omega)) ?_
    refine Ev.bind (specCom s l (by omega)) ?_
    refine Ev.pos rfl ?_
    by_cases h0 : comI s l = 0
    · refine Ev.pos h0 ?_
      refine Ev.bind (implOpens _ s l (by omega)) (Ev.some_ ?_)
      rw [h0]; simp [opens]
    · refine Ev.neg h0 ?_
      have cp := com_pos s l h0
      refine Ev.bind (implOpens _ s l (by omega)) ?_
      refine Ev.pos cp.2 ?_
      refine Ev.bind (implOpens _ s l (by omega)) ?_
      rw [opens_of _ _ _ (next_ne (comI s l))]
      refine Ev.step (fun k => laws_FnCommits.j0.eq_2 _ _ _ _ k) ?_
      refine Ev.neg (by simp) ?_
      exact l0_ok s l hl cp.1 (comI s l) l.length 0 (by omega)

end Go.Proofs.Ytkiebefaancmiaa.Pure
