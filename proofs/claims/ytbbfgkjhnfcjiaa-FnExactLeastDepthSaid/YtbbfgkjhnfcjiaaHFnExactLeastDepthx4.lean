-- Written by a program of this session out of the translation (wip/gen/hprint.sh). Lean checks it.
import Derived.Test.YtbbfgkjhnfcjiaaHFnExactLeastDepthx0
import Derived.Test.YtbbfgkjhnfcjiaaHFnExactLeastDepthx1
import Derived.Test.YtbbfgkjhnfcjiaaHFnExactLeastDepthx3
namespace Go.Proofs.Ytbbfgkjhnfcjiaa.PFnExactLeastDepth
open Go.RowKit Go.Proofs.YtbbfgkjhnfcjiaaW.PrintWords Go.Proofs.YtbbfgkjhnfcjiaaW.PrintLast Go.Proofs.YtbbfgkjhnfcjiaaW.PrintMore
attribute [local go_sem] max2_int min2_int max_two min_two max_three min_three max_four min_four   -- for this text's walks alone
set_option linter.unusedVariables false
set_option linter.unusedSimpArgs false

-- NOT PRINTED: function 52 (slices_IndexFunc_int_int)

-- NOT PRINTED: function 46 (slices_ContainsFunc_int_int)

/-! ### impl_FailsWith: function 37 -/
def anyB_47 (n : Nat) (B : Nat → Bool) : Bool := (List.range n).any B
theorem anyB_47_hit {n : Nat} {B : Nat → Bool} {k : Nat} (h : k < n) (hb : B k = true) : anyB_47 n B = true := List.any_eq_true.2 ⟨k, List.mem_range.2 h, hb⟩
theorem anyB_47_miss {n : Nat} {B : Nat → Bool} (h : ∀ j, j < n → B j = false) : anyB_47 n B = false := List.any_eq_false.2 (fun j hj => by rw [h j (List.mem_range.1 hj)]; simp)
set_option maxHeartbeats 4000000 in
set_option maxRecDepth 100000 in
theorem idx_47 (lb : Array Value) (a : Addr) (n c : Nat) (V : Nat → Value) (B : Nat → Bool) (w : World) (hb : n ≤ 9223372036854775807)
    (hw : 0 < n → a.block < w.heap.size) (hc : ∀ j, j < n → w.cell? (a.add j) = some (V j))
    (hp : ∀ j, j < n → ∀ W, Below w.heap.size w W → Calls Try.prog 47 (#[V j] ++ lb) W fun e w' => e = .returned (.bool (B j)) ∧ Below W.heap.size W w') :
    Calls Try.prog 52 #[.slice (some a) n c, .func (.func 47) #[] lb] w fun e w' => ∃ r : Int, e = .returned (.int .i64 r) ∧ decide (0 ≤ r) = anyB_47 n B ∧ Below w.heap.size w w' := by
  have HC := Aside0.mk hc
  have HP := Aside0.mk hp
  have HW := Aside0.mk hw
  clear hc hp hw
  go_enter Try.func52, Try.ntmps52
  go_wp2
  go_loopg [5, 8] n (fun gg _ s8 wr => ∃ kk : Nat, kk ≤ n ∧ n - kk ≤ gg ∧ s8 = .int .i64 kk ∧ Aside0 (Below w.heap.size w wr) ∧ Aside0 (∀ j, j < kk → B j = false))
  case atStart => exact ⟨0, Nat.zero_le _, by omega, rfl, ⟨Below.refl _ w⟩, ⟨fun j hj => absurd hj (Nat.not_lt_zero _)⟩⟩
  case round =>
    obtain ⟨kk, hkk, hg, rfl, BW, AB⟩ := hrel
    by_cases hlt : kk < n
    · have hltz : (kk : Int) < (n : Int) := by omega
      have hcell : wr.cell? (a.add kk) = some (V kk) := (BW.out.cell (p := a.add kk) (by have h := HW.out (by omega); simpa [Addr.add] using (by unfold Addr.add; split <;> exact h : (a.add kk).block < w.heap.size))).trans (HC.out kk hlt)
      have hcall := HP.out kk hlt wr BW.out
      generalize hv : V kk = v at hcell hcall
      have HV := Aside0.mk hv
      clear hv
      cases hq : B kk with
      | true =>
        rw [hq] at hcall
        have HQ := Aside0.mk hq
        clear hq
        go_wp2_with (go_at_call 47; refine hcall.mono ?_; rintro e w' ⟨rfl, hb'⟩; have HB := Aside0.mk hb'; clear hb')
        go_ret
        exact ⟨_, rfl, by rw [anyB_47_hit hlt HQ.out]; exact decide_eq_true (by omega), below_step BW.out HB.out⟩
      | false =>
        rw [hq] at hcall
        have HQ := Aside0.mk hq
        clear hq
        go_wp2_with (go_at_call 47; refine hcall.mono ?_; rintro e w' ⟨rfl, hb'⟩; have HB := Aside0.mk hb'; clear hb')
        go_roundg (n - (kk + 1))
        case measure => omega
        case rel =>
          refine ⟨kk + 1, by omega, by omega, by go_num, ⟨below_step BW.out HB.out⟩, ⟨fun j hj => ?_⟩⟩
          by_cases e : j = kk
          · subst e; exact HQ.out
          · exact AB.out j (by omega)
    · have hltz : ¬ (kk : Int) < (n : Int) := by omega
      have hkn : kk = n := by omega
      subst hkn
      go_wp2
      go_ret
      exact ⟨-1, rfl, by rw [anyB_47_miss AB.out]; rfl, BW.out⟩
set_option maxHeartbeats 4000000 in
theorem idx_47_none (fv : Value) (c : Nat) (a : Option Addr) (w : World) :
    Calls Try.prog 52 #[.slice a 0 c, fv] w fun e w' => e = .returned (.int .i64 (-1)) ∧ w = w' := by
  go_enter Try.func52, Try.ntmps52
  go_wp2
  go_loopg [5, 8] 0 (fun _ _ s8 wr => s8 = .int .i64 0 ∧ w = wr)
  case atStart => exact ⟨rfl, rfl⟩
  case round =>
    obtain ⟨rfl, rfl⟩ := hrel
    go_wp2
    go_ret
    exact ⟨rfl, rfl⟩
set_option maxHeartbeats 4000000 in
theorem has_47 (lb : Array Value) (A0 : Option Addr) (n c : Nat) (V : Nat → Value) (B : Nat → Bool) (w : World) (hb : n ≤ 9223372036854775807)
    (hw : 0 < n → ∃ a, A0 = some a ∧ a.block < w.heap.size ∧ ∀ j, j < n → w.cell? (a.add j) = some (V j))
    (hp : ∀ j, j < n → ∀ W, Below w.heap.size w W → Calls Try.prog 47 (#[V j] ++ lb) W fun e w' => e = .returned (.bool (B j)) ∧ Below W.heap.size W w') :
    Calls Try.prog 46 #[.slice A0 n c, .func (.func 47) #[] lb] w fun e w' => e = .returned (.bool (anyB_47 n B)) ∧ Below w.heap.size w w' := by
  rcases Nat.eq_zero_or_pos n with h0 | h0
  · subst h0
    clear hw hp
    go_enter Try.func46, Try.ntmps46
    go_wp2_with (go_at_call 52; refine (idx_47_none _ _ _ _).mono ?_; rintro e w' ⟨rfl, rfl⟩)
    go_ret
    exact ⟨rfl, Below.refl _ _⟩
  · obtain ⟨a, rfl, hw1, hc⟩ := hw h0
    have hcon := idx_47 lb a n c V B w hb (fun _ => hw1) hc hp
    clear hp hc hw hw1
    go_enter Try.func46, Try.ntmps46
    go_wp2_with (go_at_call 52; refine hcon.mono ?_; rintro e w' ⟨r, rfl, hr, hb'⟩; have HR := Aside0.mk hr; have HB := Aside0.mk hb'; clear hr hb')
    all_goals (go_ret; exact ⟨by rw [← HR.out]; rfl, HB.out⟩)
theorem gv_lt_37 {w : World} {a : Addr} {v : Value} (h : w.cell? a = some v) : a.block < w.heap.size := by
  rcases Nat.lt_or_ge a.block w.heap.size with h1 | h1
  · exact h1
  · simp [World.cell?, Array.getElem?_eq_none h1] at h
/-- whether a link of the list lies on the row. -/
def failsB (row : List Int) (k : Int) : Bool := decide (0 ≤ k ∧ k < row.length ∧ rd row k = 1)
def impl_FailsWith.f (l0 : List Int) (l1 : List Int) : Option Bool := some (l1.any (failsB l0))
set_option maxHeartbeats 4000000 in
set_option maxRecDepth 100000 in
theorem fails_one (row : List Int) (A0 : Option Addr) (c0 : Nat) (x : Int) (b : Nat) (w : World) (hr : Kd.C (Kd.int .i64) w A0 row.length row) (hb : w.heap[b]? = some (.cells #[.slice A0 row.length c0] 23 (0, 0))) (W : World) (hW : Below w.heap.size w W) :
    Calls Try.prog 47 (#[.int .i64 x] ++ #[.pointer (some ⟨b, 0, none⟩)]) W fun e w' => e = .returned (.bool (failsB row x)) ∧ Below W.heap.size W w' := by
  have hcell : W.cell? ⟨b, 0, none⟩ = some (.slice A0 row.length c0) := (blk_cell (blk_below hb hW) 0).trans rfl
  have hm : row.length ≤ 9223372036854775807 := Kd.C_max hr
  have HC := Aside0.mk (Kd.C_below hr hW)
  clear hr hb hW
  show Calls Try.prog 47 #[.int .i64 x, .pointer (some ⟨b, 0, none⟩)] W _
  by_cases h0 : 0 ≤ x
  · by_cases h1 : x < (row.length : Int)
    · obtain ⟨ad, rfl, hx⟩ := Kd.at_int HC.out x h0 h1
      by_cases h2 : rd row x = 1
      · have e : failsB row x = true := by simp [failsB, h0, h1, h2]
        rw [e]; clear e
        rw [h2] at hx
        clear h2 HC
        go_enter Try.func47, Try.ntmps47
        go_wp2
        go_ret
        exact ⟨rfl, Below.refl _ _⟩
      · have e : failsB row x = false := by simp [failsB, h2]
        rw [e]; clear e
        have h3 : (rd row x == 1) = false := beq_eq_false_iff_ne.mpr h2
        clear h2 HC
        go_enter Try.func47, Try.ntmps47
        go_wp2
        go_ret
        exact ⟨rfl, Below.refl _ _⟩
    · have e : failsB row x = false := by simp [failsB, h1]
      rw [e]; clear e HC
      go_enter Try.func47, Try.ntmps47
      go_wp2
      go_ret
      exact ⟨rfl, Below.refl _ _⟩
  · have e : failsB row x = false := by simp [failsB, h0]
    rw [e]; clear e HC
    go_enter Try.func47, Try.ntmps47
    go_wp2
    go_ret
    exact ⟨rfl, Below.refl _ _⟩
set_option maxHeartbeats 4000000 in
set_option maxRecDepth 100000 in
theorem impl_FailsWith.calls (A0 : Option Addr) (c0 : Nat) (l0 : List Int) (A1 : Option Addr) (c1 : Nat) (l1 : List Int) (r : Bool) (w : World) (hr0 : Kd.C (Kd.int .i64) w A0 l0.length l0) (hc0 : l0.length ≤ c0) (hr1 : Kd.C (Kd.int .i64) w A1 l1.length l1) (hc1 : l1.length ≤ c1) (h : impl_FailsWith.f l0 l1 = some r) :
    Calls Try.prog 37 #[.slice A0 l0.length c0, .slice A1 l1.length c1] w fun e w' => e = .returned (.bool r) ∧ Below w.heap.size w w' := by
  obtain rfl : l1.any (failsB l0) = r := Option.some.inj h
  clear h hc0 hc1
  have hcon := has_47 #[.pointer (some ⟨w.heap.size, 0, none⟩)] A1 l1.length c1 (fun j => .int .i64 (l1.getD j 0)) (fun j => failsB l0 (l1.getD j 0)) (w.alloc (.cells #[.slice A0 l0.length c0] 23)) (Kd.C_max hr1)
    (fun h0 => by
      obtain ⟨a, e, hc⟩ := (Kd.reads_of_C (d := (0 : Int)) hr1).2.2 h0
      refine ⟨a, e, ?_, fun j hj => ?_⟩
      · have h2 := gv_lt_37 (hc 0 h0)
        have h3 : (a.add 0).block = a.block := by unfold Addr.add; split <;> rfl
        have h4 : (w.alloc (.cells #[.slice A0 l0.length c0] 23)).heap.size = w.heap.size + 1 := by simp
        omega
      · exact Lib.cell?_alloc_some _ (hc j hj))
    (fun j hj W hW => fails_one l0 A0 c0 (l1.getD j 0) w.heap.size (w.alloc (.cells #[.slice A0 l0.length c0] 23)) (Kd.C_alloc hr0 _) (blk_new w _) W hW)
  have e : anyB_47 l1.length (fun j => failsB l0 (l1.getD j 0)) = l1.any (failsB l0) := by
    unfold anyB_47
    rw [Bool.eq_iff_iff, List.any_eq_true, List.any_eq_true]
    constructor
    · rintro ⟨j, hj, h⟩
      have hlt := List.mem_range.1 hj
      exact ⟨l1[j], List.getElem_mem hlt, by simpa [List.getD, hlt] using h⟩
    · rintro ⟨x, hx, h⟩
      obtain ⟨j, hlt, rfl⟩ := List.mem_iff_getElem.1 hx
      exact ⟨j, List.mem_range.2 hlt, by simpa [List.getD, hlt] using h⟩
  rw [e] at hcon
  clear e hr0 hr1
  generalize l1.any (failsB l0) = q at hcon ⊢
  go_enter Try.func37, Try.ntmps37
  go_wp2_with (go_at_call 46; refine hcon.mono ?_; rintro e w' ⟨rfl, hb⟩; have HB := Aside0.mk hb; clear hb)
  go_ret
  exact ⟨rfl, below_step (below_alloc (Below.refl _ w) _) HB.out⟩

-- NOT PRINTED: function 40 (impl_planner_depth)

/-! ### impl_LeastDepth: function 29 -/
section
open Go.Maps
/-- how one row's guesses divide what is left. -/
def pstep (g : Nat → Int) (v : Nat) (out : Int) (f : Nat) : Int := if v &&& f = 0 ∨ v - (v &&& f) = 0 then out else if out < 0 ∨ 1 + mx (g (v &&& f)) (g (v - (v &&& f))) < out then 1 + mx (g (v &&& f)) (g (v - (v &&& f))) else out
/-- the least depth, without a memory; k bounds the rounds. -/
def pd (fs : List Nat) : Nat → Nat → Int
  | 0, _ => 0
  | k + 1, v => mx (fs.foldl (pstep (pd fs k) v) (-1)) 0
theorem pstep_congr {g g' : Nat → Int} {v : Nat} (h : ∀ u, u < v → g u = g' u) (out : Int) (f : Nat) : pstep g v out f = pstep g' v out f := by
  unfold pstep
  have hle : v &&& f ≤ v := Nat.and_le_left
  by_cases hz : v &&& f = 0 ∨ v - (v &&& f) = 0
  · rw [if_pos hz, if_pos hz]
  · rw [if_neg hz, if_neg hz, h (v &&& f) (by omega), h (v - (v &&& f)) (by omega)]
theorem pd_congr {fs : List Nat} {g g' : Nat → Int} {v : Nat} (h : ∀ u, u < v → g u = g' u) (l : List Nat) : ∀ out, l.foldl (pstep g v) out = l.foldl (pstep g' v) out := by
  induction l with
  | nil => intro out; rfl
  | cons f l ih => intro out; rw [List.foldl_cons, List.foldl_cons, pstep_congr h, ih]
theorem pd_stable (fs : List Nat) : ∀ (n k v : Nat), v ≤ n → v ≤ k → pd fs k v = pd fs v v := by
  have zero : ∀ k, pd fs k 0 = 0 := by
    intro k
    cases k with
    | zero => rfl
    | succ k =>
      unfold pd
      have : ∀ (l : List Nat), l.foldl (pstep (pd fs k) 0) (-1) = -1 := by
        intro l
        induction l with
        | nil => rfl
        | cons f l ih => rw [List.foldl_cons, show pstep (pd fs k) 0 (-1) f = -1 from by unfold pstep; simp]; exact ih
      rw [this]; rfl
  intro n
  induction n with
  | zero => intro k v h1 h2; have : v = 0 := by omega
            subst this; rw [zero, zero]
  | succ n ih =>
    intro k v h1 h2
    cases v with
    | zero => rw [zero, zero]
    | succ v =>
      cases k with
      | zero => omega
      | succ k =>
        unfold pd
        rw [pd_congr (fs := fs) (g := pd fs k) (g' := pd fs v) (fun u hu => by rw [ih k u (by omega) (by omega), ih v u (by omega) (by omega)])]
theorem pstep_le {g : Nat → Int} {v : Nat} {b : Int} (hb : ∀ u, u < v → 0 ≤ g u ∧ g u ≤ b) {out : Int} (h0 : -1 ≤ out) (h1 : out ≤ b + 1) (f : Nat) : -1 ≤ pstep g v out f ∧ pstep g v out f ≤ b + 1 := by
  unfold pstep
  have hle : v &&& f ≤ v := Nat.and_le_left
  by_cases hz : v &&& f = 0 ∨ v - (v &&& f) = 0
  · rw [if_pos hz]; exact ⟨h0, h1⟩
  · rw [if_neg hz]
    have a := hb (v &&& f) (by omega)
    have c := hb (v - (v &&& f)) (by omega)
    unfold mx
    split <;> split <;> omega
theorem fold_le {g : Nat → Int} {v : Nat} {b : Int} (hb : ∀ u, u < v → 0 ≤ g u ∧ g u ≤ b) (l : List Nat) : ∀ out, -1 ≤ out → out ≤ b + 1 → -1 ≤ l.foldl (pstep g v) out ∧ l.foldl (pstep g v) out ≤ b + 1 := by
  induction l with
  | nil => intro out h0 h1; exact ⟨h0, h1⟩
  | cons f l ih => intro out h0 h1; have h := pstep_le hb h0 h1 f; exact ih _ h.1 h.2
theorem pd_le (fs : List Nat) : ∀ (k v : Nat), 0 ≤ pd fs k v ∧ pd fs k v ≤ k
  | 0, v => by unfold pd; omega
  | k + 1, v => by
    unfold pd
    have h := fold_le (g := pd fs k) (v := v) (b := k) (fun u _ => pd_le fs k u) fs (-1) (by omega) (by omega)
    unfold mx
    split <;> omega
theorem and_nat (v f : Nat) (hv : v < 4194304) (hf : f < 4194304) : Go.bits .and .i64 (v : Int) (f : Int) = ((v &&& f : Nat) : Int) := by
  simp only [Go.bits, BitVec.toNat_and, BitVec.ofInt_natCast, BitVec.toNat_ofNat]
  have e1 : v % 2 ^ IntKind.i64.bits = v := Nat.mod_eq_of_lt (by show v < 2 ^ 64; omega)
  have e2 : f % 2 ^ IntKind.i64.bits = f := Nat.mod_eq_of_lt (by show f < 2 ^ 64; omega)
  have hle : v &&& f ≤ v := Nat.and_le_left
  rw [e1, e2, i64_w]
  unfold wrap64
  omega
theorem sub_and (v f : Nat) (hv : v < 4194304) (hf : f < 4194304) : Go.bits .andNot .i64 (v : Int) (f : Int) = ((v - (v &&& f) : Nat) : Int) := by
  have key : (BitVec.ofNat 64 v &&& ~~~ BitVec.ofNat 64 f).toNat = v - (v &&& f) := by
    have h0 : (BitVec.ofNat 64 v &&& BitVec.ofNat 64 f) &&& (BitVec.ofNat 64 v &&& ~~~ BitVec.ofNat 64 f) = 0#64 := by
      ext i hi; simp
      intro h1 h2 h3; simp_all
    have h1 := BitVec.add_eq_or_of_and_eq_zero _ _ h0
    have h2 : (BitVec.ofNat 64 v &&& BitVec.ofNat 64 f) ||| (BitVec.ofNat 64 v &&& ~~~ BitVec.ofNat 64 f) = BitVec.ofNat 64 v := by
      ext i hi; simp
      cases (BitVec.ofNat 64 v)[i] <;> cases (BitVec.ofNat 64 f)[i] <;> rfl
    rw [h2] at h1
    have h3 := congrArg BitVec.toNat h1
    rw [BitVec.toNat_add, BitVec.toNat_and, BitVec.toNat_ofNat, BitVec.toNat_ofNat, Nat.mod_eq_of_lt (show v < 2 ^ 64 by omega), Nat.mod_eq_of_lt (show f < 2 ^ 64 by omega)] at h3
    have hle : v &&& f ≤ v := Nat.and_le_left
    have hlt := (BitVec.ofNat 64 v &&& ~~~ BitVec.ofNat 64 f).isLt
    have hle2 : (BitVec.ofNat 64 v &&& ~~~ BitVec.ofNat 64 f).toNat ≤ v := by
      rw [BitVec.toNat_and, BitVec.toNat_ofNat, Nat.mod_eq_of_lt (show v < 2 ^ 64 by omega)]
      exact Nat.and_le_left
    rw [Nat.mod_eq_of_lt (by omega)] at h3
    omega
  simp only [Go.bits, BitVec.ofInt_natCast]
  have e : ((BitVec.ofNat IntKind.i64.bits v) &&& ~~~ (BitVec.ofNat IntKind.i64.bits f)).toNat = v - (v &&& f) := key
  rw [e, i64_w]
  unfold wrap64
  omega

/-- what the memory knows is right. -/
def Mem (fs : List Nat) (D : DataW Unit) : Prop := ∀ v : Nat, v < 4194304 → has D (Lit.int .i64 (v : Int)) = true → D.atKey (Lit.int .i64 (v : Int)) (.lit (.int .i64 0)) = .lit (.int .i64 (pd fs v v))
/-- and has few keys. -/
def Few (D : DataW Unit) : Prop := ∀ kl, has D kl = true → ∃ v : Nat, v < 4194304 ∧ kl = Lit.int .i64 (v : Int)
theorem depth_key : Keyed Try.prog 3 := int_keyed Try.underlying3
theorem depth_zero (w : World) : (zeroValue 3).run Try.prog w = .ok (.int .i64 0) w := by kernel_rfl
theorem key_wf {v : Nat} (h : v < 4194304) : (Lit.int .i64 (v : Int)).wf = true := WalkArith.wf_i64 (by omega)
theorem Mem.put {fs : List Nat} {D : DataW Unit} (h : Mem fs D) (hD : IsMap D) {v : Nat} {d : Int} (hd : d = pd fs v v) : Mem fs (D.put (Lit.int .i64 (v : Int)) (.lit (.int .i64 d))) := by
  intro u hu hh
  by_cases e : u = v
  · subst e
    rw [atKey_put_same hD (show WideAt.IsKeyLit (Lit.int .i64 (u : Int)) from trivial), hd]
  · have hne : Lit.int .i64 (u : Int) ≠ Lit.int .i64 (v : Int) := fun q => e (by injection q with _ q; omega)
    rw [has_put_other hne] at hh
    rw [atKey_put_other hne]
    exact h u hu hh
theorem Few.put {D : DataW Unit} (h : Few D) (hD : IsMap D) {v : Nat} (hv : v < 4194304) (d : DataW Unit) : Few (D.put (Lit.int .i64 (v : Int)) d) := by
  intro kl hh
  by_cases e : kl = Lit.int .i64 (v : Int)
  · exact ⟨v, hv, e⟩
  · rw [has_put_other e] at hh
    exact h kl hh
theorem nodup_le : ∀ (N : Nat) (l : List Nat), l.Nodup → (∀ x ∈ l, x < N) → l.length ≤ N
  | 0, l, _, h => by
    cases l with
    | nil => simp
    | cons x l => exact absurd (h x List.mem_cons_self) (Nat.not_lt_zero _)
  | N + 1, l, hn, h => by
    have ih := nodup_le N (l.filter (fun x => x != N)) (hn.filter _) (fun x hx => by
      have h1 := List.mem_filter.1 hx
      have h2 := h x h1.1
      have h3 : x ≠ N := by simpa using h1.2
      omega)
    have hc : l.length ≤ (l.filter (fun x => x != N)).length + 1 := by
      clear ih h
      induction l with
      | nil => simp
      | cons x l ih =>
        have hnx := List.nodup_cons.1 hn
        by_cases e : x = N
        · subst e
          have hf : l.filter (fun y => y != x) = l := List.filter_eq_self.2 (fun y hy => by
            have : y ≠ x := fun q => hnx.1 (q ▸ hy)
            simpa using this)
          rw [List.filter_cons, hf]; simp
        · have := ih hnx.2
          rw [List.filter_cons, if_pos (by simpa using e)]
          simp only [List.length_cons]; omega
    omega
theorem few_size {D : DataW Unit} (hT : ∃ es, D = .map es ∧ es.Pairwise (fun p q => p.1 ≠ q.1) ∧ ∀ p ∈ es, WideAt.IsKeyLit p.1) (hF : Few D) : Maps.size D ≤ 4194304 := by
  obtain ⟨es, rfl, hp⟩ := hT
  have hk : ∀ p ∈ es, ∃ v : Nat, v < 4194304 ∧ p.1 = Lit.int .i64 (v : Int) := by
    intro p hp'
    exact hF p.1 (List.any_eq_true.2 ⟨p, hp', WideAt.sameKey_self (hp.2 p hp')⟩)
  have hl : (es.map (fun p => match p.1 with | .int _ a => a.toNat | _ => 0)).length ≤ 4194304 := by
    refine nodup_le 4194304 _ ?_ ?_
    · rw [List.Nodup, List.pairwise_map]
      refine hp.1.imp_of_mem (fun {a b} ha hb hne => ?_)
      obtain ⟨v, hv, ea⟩ := hk a ha
      obtain ⟨u, hu, eb⟩ := hk b hb
      rw [ea, eb]
      intro e
      apply hne
      rw [ea, eb]
      simp only [Int.toNat_natCast] at e
      rw [e]
    · intro x hx
      obtain ⟨p, hp', rfl⟩ := List.mem_map.1 hx
      obtain ⟨v, hv, e⟩ := hk p hp'
      rw [e]
      simpa using hv
  rw [List.length_map] at hl
  exact hl
theorem tight {w : World} {b n : Nat} {D : DataW Unit} (h : w.ownsMap Try.prog 3 (plainElem Try.prog 3) b n D) : w.ownsMap Try.prog 3 (plainElem Try.prog 3) b (Maps.size D) D := by
  obtain ⟨es, clock, h1, h2, hs, rfl⟩ := h
  exact ⟨es, clock, h1, h2, by simp [Maps.size, length_sorted], rfl⟩

theorem blk_lt_map {w : World} {B n : Nat} {D : DataW Unit} (h : w.ownsMap Try.prog 3 (plainElem Try.prog 3) B n D) : B < w.heap.size := h.lt
theorem depth_cells0 {w wr : World} {B : Nat} {a b : Value} (hg : (w.alloc (.cells #[a, b] 45)).grownBy wr (some B)) (hB : B < w.heap.size) : wr.cell? ⟨w.heap.size, 0, none⟩ = some a := hg.cell ((blk_cell (blk_new w (.cells #[a, b] 45)) 0).trans rfl) (by simp; omega)
theorem depth_cells1 {w wr : World} {B : Nat} {a b : Value} (hg : (w.alloc (.cells #[a, b] 45)).grownBy wr (some B)) (hB : B < w.heap.size) : wr.cell? ⟨w.heap.size, 1, none⟩ = some b := hg.cell ((blk_cell (blk_new w (.cells #[a, b] 45)) 1).trans rfl) (by simp; omega)
theorem depth_wf (fs : List Nat) (N v : Nat) (hv : v < 4194304) : True := trivial
theorem fold_bd (fs : List Nat) (N v : Nat) (hvN : v ≤ N + 1) (hv : v < 4194304) (l : List Nat) : -1 ≤ l.foldl (pstep (pd fs N) v) (-1) ∧ l.foldl (pstep (pd fs N) v) (-1) ≤ 4194305 := by
  have h := fold_le (g := pd fs N) (v := v) (b := 4194304) (fun u hu => by
    rw [pd_stable fs u N u (Nat.le_refl _) (by omega)]
    have := pd_le fs u u
    omega) l (-1) (by omega) (by omega)
  omega
theorem fold_wf (fs : List Nat) (N v : Nat) (hvN : v ≤ N + 1) (hv : v < 4194304) : (Lit.int .i64 (fs.foldl (pstep (pd fs N) v) (-1))).wf = true := by
  have := fold_bd fs N v hvN hv fs
  exact WalkArith.wf_i64 (by omega)
theorem pd_is (fs : List Nat) (N v : Nat) (hvN : v ≤ N + 1) : pd fs v v = mx (fs.foldl (pstep (pd fs N) v) (-1)) 0 := by
  rw [← pd_stable fs (N + 1) (N + 1) v hvN hvN]; rfl
theorem depth_end {fs : List Nat} {w wr w4 : World} {B n' : Nat} {D' : DataW Unit} {a b : Value} {v : Nat} {X c2 : Int} (hv : v < 4194304) (hX : X = pd fs v v) (hM : Mem fs D') (hF : Few D') (hD : IsMap D') (hown1 : w4.ownsMap Try.prog 3 (plainElem Try.prog 3) B n' (D'.put (Lit.int .i64 (v : Int)) (.lit (.int .i64 X)))) (hG : (w.alloc (.cells #[a, b] 45)).grownBy wr (some B)) (hgrow1 : wr.grownBy w4 (some B))
    (hat2 : (D'.put (Lit.int .i64 (v : Int)) (.lit (.int .i64 X))).atKey (Lit.int .i64 (v : Int)) (.lit (.int .i64 0)) = .lit (.int .i64 c2)) : Ending.returned (.int .i64 c2) = .returned (.int .i64 (pd fs v v)) ∧ ∃ n' D', w4.ownsMap Try.prog 3 (plainElem Try.prog 3) B n' D' ∧ Mem fs D' ∧ Few D' ∧ w.grownBy w4 (some B) := by
  rw [atKey_put_same hD (show WideAt.IsKeyLit (Lit.int .i64 (v : Int)) from trivial)] at hat2
  injection hat2 with hat2
  injection hat2 with _ hat2
  subst hat2
  exact ⟨by rw [hX], n', _, hown1, hM.put hD hX, hF.put hD hv _, (World.grownBy_alloc _ _ _).trans (hG.trans hgrow1)⟩
theorem take_fold (g : Nat → Int) (v : Nat) (fs : List Nat) (i : Nat) (h : i < fs.length) : (fs.take (i + 1)).foldl (pstep g v) (-1) = pstep g v ((fs.take i).foldl (pstep g v) (-1)) fs[i] := by
  rw [List.take_succ_eq_append_getElem h, List.foldl_append]; rfl
theorem rd_map (fs : List Nat) (i : Nat) (h : i < fs.length) : rd (fs.map (fun f : Nat => (f : Int))) (i : Int) = ((fs[i] : Nat) : Int) := by
  simp [rd, List.getD, h]
def o1_ (fs : List Nat) (N v : Nat) (o0 : Int) (f : Nat) : Int := pstep (pd fs N) v o0 f
theorem grown_drew (w : World) (row : Option Nat) : w.grownBy w.drew row := ⟨rfl, rfl, rfl, Nat.le_refl _, fun _ _ _ => rfl⟩

set_option maxHeartbeats 4000000 in
set_option maxRecDepth 100000 in
theorem depth_calls (fs : List Nat) (hfs : ∀ f ∈ fs, f < 4194304) (hlen : fs.length ≤ 1000) (base B : Nat) (A : Option Addr) (c : Nat) : ∀ (N v : Nat), v < N → v < 4194304 → ∀ (w : World) (n : Nat) (D : DataW Unit),
    Kd.R (Kd.int .i64) 3 w base (fun k => k ≠ B) (.slice A fs.length c) (fs.map (fun f : Nat => (f : Int))) → w.ownsMap Try.prog 3 (plainElem Try.prog 3) B n D → Mem fs D → Few D →
    Calls Try.prog 40 #[.agg #[.slice A fs.length c, .map (some B)], .int .i64 (v : Int)] w fun e w' => e = .returned (.int .i64 (pd fs v v)) ∧ ∃ n' D', w'.ownsMap Try.prog 3 (plainElem Try.prog 3) B n' D' ∧ Mem fs D' ∧ Few D' ∧ w.grownBy w' (some B) := by
  intro N
  induction N with
  | zero => intro v hv; exact absurd hv (Nat.not_lt_zero _)
  | succ N ih =>
    intro v hvN hv w n D hR hown hMem hFew
    have hown0 := hown.alloc (.cells #[.slice A fs.length c, .map (some B)] 45)
    have hkey := keyOf_int_mk Try.underlying3 (key_wf hv)
    have HM := Aside0.mk hMem
    have HF := Aside0.mk hFew
    have HR := Aside0.mk hR
    have IH := Aside0.mk ih
    have HB0 := Aside0.mk (blk_lt_map hown)
    clear hMem hFew hR ih
    cases hh : has D (Lit.int .i64 (v : Int)) with
    | true =>
      go_enter Try.func40, Try.ntmps40
      go_wp2_with (first | (at_lookup; refine wpList_lookup_own_ok_int _ rfl _ _ 43 rfl 3 3 .i64 depth_key Try.underlying43 Try.underlying3 (depth_zero _) B n D rfl hown0 _ _ rfl hkey ?_; intro c1 hat hwc) | fail)
      go_ret
      rw [HM.out v hv hh] at hat
      injection hat with hat
      injection hat with _ hat
      subst hat
      exact ⟨rfl, n, D, hown0, HM.out, HF.out, World.grownBy_alloc _ _ _⟩
    | false =>
      go_enter Try.func40, Try.ntmps40
      go_wp2_with (first | (at_lookup; refine wpList_lookup_own_ok_int _ rfl _ _ 43 rfl 3 3 .i64 depth_key Try.underlying43 Try.underlying3 (depth_zero _) B n D rfl hown0 _ _ rfl hkey ?_; intro c1 hat hwc) | fail)
      clear hat hwc
      go_loopg [7, 25] fs.length (fun gg s7 s25 wr => ∃ (i n' : Nat) (D' : DataW Unit), i ≤ fs.length ∧ fs.length - i ≤ gg ∧ s25 = .int .i64 (i : Int) ∧ s7 = .int .i64 ((fs.take i).foldl (pstep (pd fs N) v) (-1)) ∧ Aside0 (wr.ownsMap Try.prog 3 (plainElem Try.prog 3) B n' D') ∧ Aside0 (Mem fs D') ∧ Aside0 (Few D') ∧ Aside0 ((w.alloc (.cells #[.slice A fs.length c, .map (some B)] 45)).grownBy wr (some B)))
      case atStart => exact ⟨0, n, D, Nat.zero_le _, Nat.le_refl _, rfl, rfl, ⟨hown0⟩, HM, HF, ⟨World.grownBy.refl _ _⟩⟩
      case round =>
        clear HM HF hown hown0
        obtain ⟨i, n', D', hi, hg, rfl, rfl, HO, HM, HF, HG⟩ := hrel
        by_cases hlt : i < fs.length
        · have hltz : (i : Int) < (fs.length : Int) := by omega
          have HRW := Aside0.mk (Kd.R_grown (Kd.R_alloc HR.out _) HG.out (fun k hk e => hk (by injection e)))
          obtain ⟨ad, eA, hcell⟩ := Kd.at_int (Kd.R_reads' HRW.out).2.2 (i : Int) (by omega) (by rw [List.length_map]; omega)
          subst eA
          rw [show (i : Int).toNat = i from rfl, rd_map fs i hlt] at hcell
          have hfi := hfs fs[i] (List.getElem_mem hlt)
          have hstep := take_fold (pd fs N) v fs i hlt
          have hand := and_nat v fs[i] hv hfi
          have hsub := sub_and v fs[i] hv hfi
          have hle : v &&& fs[i] ≤ v := Nat.and_le_left
          have hc0 := depth_cells0 HG.out HB0.out
          have hc1 := depth_cells1 HG.out HB0.out
          have HST := Aside0.mk hstep
          have hfb := fold_bd fs N v (by omega) hv (fs.take i)
          clear hstep
          generalize ho0 : (fs.take i).foldl (pstep (pd fs N) v) (-1) = o0 at HST hfb ⊢
          generalize fs[i] = f at hcell hfi HST hand hsub hle
          by_cases hy : v &&& f = 0
          · have hy0 : (Go.bits .and .i64 (v : Int) (f : Int) == 0) = true := by rw [hand, hy]; rfl
            go_wp2_with (fail)
            go_roundg (fs.length - (i + 1))
            case measure => omega
            case rel => exact ⟨i + 1, n', D', by omega, by omega, by go_num, by rw [HST.out]; unfold pstep; rw [if_pos (.inl hy)], HO, HM, HF, HG⟩
          · have hy0 : (Go.bits .and .i64 (v : Int) (f : Int) == 0) = false := by rw [hand]; exact beq_eq_false_iff_ne.mpr (by omega)
            by_cases hn : v - (v &&& f) = 0
            · have hn0 : (Go.bits .andNot .i64 (v : Int) (f : Int) == 0) = true := by rw [hsub, hn]; rfl
              go_wp2_with (fail)
              go_roundg (fs.length - (i + 1))
              case measure => omega
              case rel => exact ⟨i + 1, n', D', by omega, by omega, by go_num, by rw [HST.out]; unfold pstep; rw [if_pos (.inr hn)], HO, HM, HF, HG⟩
            · have hn0 : (Go.bits .andNot .i64 (v : Int) (f : Int) == 0) = false := by rw [hsub]; exact beq_eq_false_iff_ne.mpr (by omega)
              have k1 := IH.out (v &&& f) (by omega) (by omega) _ n' D' (Kd.R_drew HRW.out) HO.out.drew HM.out HF.out
              have e1 : pd fs (v &&& f) (v &&& f) = pd fs N (v &&& f) := (pd_stable fs (v &&& f) N (v &&& f) (Nat.le_refl _) (by omega)).symm
              have e2 : pd fs (v - (v &&& f)) (v - (v &&& f)) = pd fs N (v - (v &&& f)) := (pd_stable fs (v - (v &&& f)) N (v - (v &&& f)) (Nat.le_refl _) (by omega)).symm
              have k2 := fun (w5 : World) (n5 : Nat) (D5 : DataW Unit) (hg5 : World.grownBy _ w5 (some B)) (ho5 : w5.ownsMap Try.prog 3 (plainElem Try.prog 3) B n5 D5) (hm5 : Mem fs D5) (hf5 : Few D5) => IH.out (v - (v &&& f)) (by omega) (by omega) w5 n5 D5 (Kd.R_grown HRW.out hg5 (fun k hk e => hk (by injection e))) ho5 hm5 hf5
              rw [e1] at k1
              rw [e2] at k2
              have K1 := Aside0.mk k1
              have K2 := Aside0.mk k2
              have b1 := pd_le fs (v &&& f) (v &&& f)
              have b2 := pd_le fs (v - (v &&& f)) (v - (v &&& f))
              rw [e1] at b1
              rw [e2] at b2
              have b1 : 0 ≤ pd fs N (v &&& f) ∧ pd fs N (v &&& f) ≤ 4194304 := by omega
              have b2 : 0 ≤ pd fs N (v - (v &&& f)) ∧ pd fs N (v - (v &&& f)) ≤ 4194304 := by omega
              have HPS : Aside0 (o1_ fs N v o0 f = (if o0 < 0 ∨ 1 + mx (pd fs N (v &&& f)) (pd fs N (v - (v &&& f))) < o0 then 1 + mx (pd fs N (v &&& f)) (pd fs N (v - (v &&& f))) else o0)) := ⟨by unfold o1_ pstep; rw [if_neg (by omega)]⟩
              rw [show pstep (pd fs N) v o0 f = o1_ fs N v o0 f from rfl] at HST
              generalize pd fs N (v &&& f) = p1 at K1 b1 HPS
              generalize pd fs N (v - (v &&& f)) = p2 at K2 b2 HPS
              clear k1 k2 e1 e2
              have hy1 : (((v &&& f : Nat) : Int) == 0) = false := beq_eq_false_iff_ne.mpr (by omega)
              have hn1 : (((v - (v &&& f) : Nat) : Int) == 0) = false := beq_eq_false_iff_ne.mpr (by omega)
              go_wp2_with (fail)
              clear hand hsub hy0 hn0 hy1 hn1 hcell ho0 hfb hle hy hn hfi hkey hfs
              obtain ⟨nn, hnn⟩ : ∃ nn, 1 + mx p1 p2 = nn := ⟨_, rfl⟩
              have hmw : IntKind.i64.wrap (1 + if p1 < p2 then p2 else p1) = nn := by rw [i64_w, ← hnn]; unfold wrap64 mx; split <;> omega
              rw [hnn] at HPS
              clear hnn b1 b2
              generalize hzz : v - (v &&& f) = z at K2 HPS ⊢
              generalize hyy : v &&& f = y at K1 HPS ⊢
              clear hzz hyy
              go_region_law (first | (go_simp; go_at_call 40; (with_reducible refine K1.out.mono ?_); rintro e w5 ⟨rfl, n5, D5, ho5, hm5, hf5, hg5_⟩; have hg5 := (grown_drew _ (some B)).trans hg5_; clear hg5_; have hc05 := hg5.cell hc0 (by have := HB0.out; simp; omega); have hc15 := hg5.cell hc1 (by have := HB0.out; simp; omega); have K3 := Aside0.mk (K2.out w5 n5 D5 hg5 ho5 hm5 hf5); have HG5 := Aside0.mk hg5; clear ho5 hm5 hf5 hg5) | (go_simp; go_at_call 40; (with_reducible refine K3.out.mono ?_); rintro e w6 ⟨rfl, n6, D6, ho6, hm6, hf6, hg6⟩; have HO6 := Aside0.mk ho6; have HM6 := Aside0.mk hm6; have HF6 := Aside0.mk hf6; have HG6 := Aside0.mk (HG5.out.trans hg6); clear ho6 hm6 hf6 hg6) | fail)
              all_goals
                generalize (if p1 < p2 then p2 else p1) = q at hmw ⊢
                by_cases hq1 : o0 < 0
                · have d1 : decide (o0 < 0) = true := decide_eq_true hq1
                  have HQ := Aside0.mk hq1
                  clear hq1
                  go_wp2_with (fail)
                  go_roundg (fs.length - (i + 1))
                  case measure => omega
                  case rel => exact ⟨i + 1, n6, D6, by omega, by omega, by go_num, by rw [HST.out, HPS.out]; rw [if_pos (.inl HQ.out)], HO6, HM6, HF6, ⟨HG.out.trans HG6.out⟩⟩
                · have d1 : decide (o0 < 0) = false := decide_eq_false hq1
                  by_cases hq2 : nn < o0
                  · have d2 : decide (nn < o0) = true := decide_eq_true hq2
                    have HQ := Aside0.mk hq2
                    clear hq1 hq2
                    go_wp2_with (fail)
                    go_roundg (fs.length - (i + 1))
                    case measure => omega
                    case rel => exact ⟨i + 1, n6, D6, by omega, by omega, by go_num, by rw [HST.out, HPS.out]; rw [if_pos (.inr HQ.out)], HO6, HM6, HF6, ⟨HG.out.trans HG6.out⟩⟩
                  · have d2 : decide (nn < o0) = false := decide_eq_false hq2
                    have HQ := Aside0.mk (not_or.mpr ⟨hq1, hq2⟩)
                    clear hq1 hq2
                    go_wp2_with (fail)
                    go_roundg (fs.length - (i + 1))
                    case measure => omega
                    case rel => exact ⟨i + 1, n6, D6, by omega, by omega, by go_num, by rw [HST.out, HPS.out]; rw [if_neg HQ.out], HO6, HM6, HF6, ⟨HG.out.trans HG6.out⟩⟩
        · have hltz : ¬ (i : Int) < (fs.length : Int) := by omega
          have hin : i = fs.length := by omega
          subst hin
          have hc0 := depth_cells0 HG.out HB0.out
          have hc1 := depth_cells1 HG.out HB0.out
          have hown' := tight HO.out
          have hsz := few_size (HO.out.entries depth_key) HF.out
          have hwf := fold_wf fs N v (by omega) hv
          have hpd := pd_is fs N v (by omega)
          have hD' : IsMap D' := (HO.out.tidy depth_key).isMap
          have HPD := Aside0.mk hpd
          clear hpd
          go_wp2_with (first | (at_lookup; refine wpList_lookup_own_int _ rfl _ _ 43 rfl 3 3 .i64 depth_key Try.underlying43 Try.underlying3 (depth_zero _) B _ _ rfl hown1 _ _ rfl hkey ?_; intro c2 hat2 hwc2) | (at_mapUpdate; refine wpList_mapUpdate_own _ rfl _ _ _ 43 rfl 3 3 depth_key Try.underlying43 _ B _ _ rfl hown' (by unfold maxLen; omega) _ _ _ rfl rfl hkey _ [] (plainElem_int Try.underlying3 (by first | exact hwf | (split <;> first | exact hwf | rfl) | (simp only [gt_iff_lt]; split <;> first | exact hwf | rfl))) ?_; intro w4 hown1 hgrow1; have hc1b := hgrow1.cell hc1 (by have := HB0.out; simp; omega)) | fail)
          all_goals (go_ret; exact depth_end hv (by rw [HPD.out]; unfold mx; first | rfl | (split <;> omega)) HM.out HF.out hD' hown1 HG.out hgrow1 hat2)

/-- the guesses that fail with a row, one bit each. -/
def failMask (row : List Int) (gs : List (List Int)) : Nat → Nat
  | 0 => 0
  | i + 1 => failMask row gs i + (if (rd_L1 gs (i : Int)).any (failsB row) = true then 2 ^ i else 0)
theorem failMask_lt (row : List Int) (gs : List (List Int)) : ∀ i, failMask row gs i < 2 ^ i
  | 0 => Nat.one_pos
  | i + 1 => by
    have := failMask_lt row gs i
    unfold failMask
    rw [Nat.pow_succ]
    split <;> omega
theorem failMask_small (row : List Int) (gs : List (List Int)) (i : Nat) (h : i ≤ 22) : failMask row gs i < 4194304 := Nat.lt_of_lt_of_le (failMask_lt row gs i) (Nat.pow_le_pow_right (by decide) h)
theorem mask_or {x i : Nat} (hx : x < 2 ^ i) (hi : i < 22) : Go.bits .or .i64 (x : Int) ((2 ^ i : Nat) : Int) = ((x + 2 ^ i : Nat) : Int) := by
  have h12 : 2 ^ i < 4194304 := Nat.pow_lt_pow_of_lt (by decide) hi
  have h := Nat.two_pow_add_eq_or_of_lt hx 1
  rw [Nat.mul_one] at h
  simp only [Go.bits, BitVec.toNat_or, BitVec.ofInt_natCast, BitVec.toNat_ofNat]
  have e1 : x % 2 ^ IntKind.i64.bits = x := Nat.mod_eq_of_lt (by show x < 2 ^ 64; omega)
  have e2 : 2 ^ i % 2 ^ IntKind.i64.bits = 2 ^ i := Nat.mod_eq_of_lt (by show 2 ^ i < 2 ^ 64; omega)
  rw [e1, e2, Nat.or_comm, ← h, i64_w]
  unfold wrap64
  omega
theorem mask_set {x i : Nat} {e : Value} (hx : x < 2 ^ i) (hi : i < 22) (h : e = .int .i64 (Go.bits .or .i64 (x : Int) (wrap64 ((2 : Int) ^ i))) := by rfl) : e = .int .i64 ((x + 2 ^ i : Nat) : Int) := by
  have h12 : 2 ^ i < 4194304 := Nat.pow_lt_pow_of_lt (by decide) hi
  have e1 : wrap64 ((2 : Int) ^ i) = ((2 ^ i : Nat) : Int) := by
    have : ((2 : Int) ^ i) = ((2 ^ i : Nat) : Int) := by rw [Int.natCast_pow]; rfl
    unfold wrap64
    omega
  rw [h, e1, mask_or hx hi]
/-- of each row the guesses that fail with it. -/
def masks (gs m : List (List Int)) : List Nat := m.map (fun row => failMask row gs gs.length)
theorem masks_len (gs m : List (List Int)) : (masks gs m).length = m.length := List.length_map _
theorem masks_small (gs m : List (List Int)) (h : gs.length ≤ 22) : ∀ f ∈ masks gs m, f < 4194304 := by
  intro f hf
  obtain ⟨row, _, rfl⟩ := List.mem_map.1 hf
  exact failMask_small row gs gs.length h
theorem masks_take (gs m : List (List Int)) (j : Nat) (hj : j < m.length) : (masks gs (m.take (j + 1))).map (fun f : Nat => (f : Int)) = (masks gs (m.take j)).map (fun f : Nat => (f : Int)) ++ [((failMask (rd_L1 m (j : Int)) gs gs.length : Nat) : Int)] := by
  have : rd_L1 m (j : Int) = m[j] := by simp [rd_L1, List.getD, hj]
  rw [this]
  unfold masks
  rw [List.take_succ_eq_append_getElem hj, List.map_append, List.map_append]; rfl
def impl_LeastDepth.f (l0 : List (List Int)) (l1 : List (List Int)) : Option Int := some (if 22 < l0.length ∨ 6 < l1.length then -1 else pd (masks l0 l1) (2 ^ l0.length - 1) (2 ^ l0.length - 1))

theorem box_grown {W : World} {b t : Nat} {cells : Array Value} (_hb : W.heap[b]? = some (.cells cells t (0, 0))) (j : Nat) (u : Value) : W.grownBy (W.setCell ⟨b, j, none⟩ u) (some b) := by
  have h := (Below.refl b W).setCell (p := ⟨b, j, none⟩) (Nat.le_refl _) u
  exact ⟨h.os, h.tape, h.output, h.size, fun k _ hne => Below.heap_setCell W ⟨b, j, none⟩ u k (fun e => hne (by rw [e]))⟩
theorem below_grown0 {w w' : World} {row : Option Nat} (hb : Below w.heap.size w w') : w.grownBy w' row := ⟨hb.os, hb.tape, hb.output, hb.size, fun k hk _ => hb.block k hk⟩
theorem map_below {w w' : World} {base B n : Nat} {D : DataW Unit} (h : w.ownsMap Try.prog 3 (plainElem Try.prog 3) B n D) (hb : Below base w w') (hB : B < base) : w'.ownsMap Try.prog 3 (plainElem Try.prog 3) B n D := by
  obtain ⟨es, clock, h1, h2⟩ := h
  exact ⟨es, clock, by rw [hb.block B hB]; exact h1, h2⟩
theorem box_cell0 {W : World} {b t : Nat} {u v : Value} (h : W.heap[b]? = some (.cells #[u, v] t (0, 0))) : W.cell? ⟨b, 0, none⟩ = some u := (blk_cell h 0).trans rfl
theorem box_cell1 {W : World} {b t : Nat} {u v : Value} (h : W.heap[b]? = some (.cells #[u, v] t (0, 0))) : W.cell? ⟨b, 1, none⟩ = some v := (blk_cell h 1).trans rfl
set_option maxHeartbeats 4000000 in
set_option maxRecDepth 100000 in
theorem impl_LeastDepth.calls (A0 : Option Addr) (c0 : Nat) (l0 : List (List Int)) (A1 : Option Addr) (c1 : Nat) (l1 : List (List Int)) (r : Int) (w : World) (hr0 : Kd.C (Kd.slice 3 (Kd.int .i64)) w A0 l0.length l0) (hc0 : l0.length ≤ c0) (hr1 : Kd.C (Kd.slice 3 (Kd.int .i64)) w A1 l1.length l1) (hc1 : l1.length ≤ c1) (h : impl_LeastDepth.f l0 l1 = some r) :
    Calls Try.prog 29 #[.slice A0 l0.length c0, .slice A1 l1.length c1] w fun e w' => e = .returned (.int .i64 r) ∧ Below w.heap.size w w' := by
  obtain rfl := Option.some.inj h
  clear h
  have HR0 := Aside0.mk hr0
  have HR1 := Aside0.mk hr1
  clear hr0 hr1 hc0 hc1
  by_cases h0 : 22 < l0.length
  · rw [if_pos (.inl h0)]
    have d0 : decide ((22 : Int) < (l0.length : Int)) = true := decide_eq_true (by omega)
    clear h0
    go_enter Try.func29, Try.ntmps29
    go_wp2_with (fail)
    go_ret
    exact ⟨rfl, Below.refl _ _⟩
  have d0 : decide ((22 : Int) < (l0.length : Int)) = false := decide_eq_false (by omega)
  by_cases h1 : 6 < l1.length
  · rw [if_pos (.inr h1)]
    have d1 : decide ((6 : Int) < (l1.length : Int)) = true := decide_eq_true (by omega)
    clear h0 h1
    go_enter Try.func29, Try.ntmps29
    go_wp2_with (fail)
    go_ret
    exact ⟨rfl, Below.refl _ _⟩
  have d1 : decide ((6 : Int) < (l1.length : Int)) = false := decide_eq_false (by omega)
  rw [if_neg (by omega)]
  have hl0 : l0.length ≤ 22 := by omega
  have hl1 : l1.length ≤ 6 := by omega
  clear h0 h1
  have hmm := @run_makeMap Try.prog
  go_enter Try.func29, Try.ntmps29
  go_wp2_with (fail)
  clear hmm
  go_loopg [23] l1.length (fun gg s23 wr => ∃ (j : Nat) (vs : Value), j ≤ l1.length ∧ l1.length - j ≤ gg ∧ s23 = .int .i64 (j : Int) ∧ Aside0 (wr.heap[w.heap.size + 1]? = some (.cells #[vs, .map (some w.heap.size)] 45 (0, 0))) ∧ Aside0 (Kd.R (Kd.int .i64) 3 wr (w.heap.size + 1 + 1) (fun _ => True) vs ((masks l0 (l1.take j)).map (fun f : Nat => (f : Int)))) ∧ Aside0 (wr.ownsMap Try.prog 3 (plainElem (H := Unit) Try.prog 3) w.heap.size 0 (.map [])) ∧ Aside0 (Below w.heap.size w wr))
  case atStart => exact ⟨0, .slice none 0 0, Nat.zero_le _, Nat.le_refl _, rfl, ⟨by have h := blk_new (w.alloc (.map #[] 0)) (.cells #[.slice none 0 0, .map (some w.heap.size)] 45); simpa using h⟩, ⟨Kd.R_nil _ _ _ _ _⟩, ⟨(World.ownsMap_made w Try.prog 3 _).alloc _⟩, ⟨below_alloc (below_alloc (Below.refl _ _) _) _⟩⟩
  case round =>
    obtain ⟨j, vs, hj, hg, rfl, HX, HS, HM, HW⟩ := hrel
    by_cases hlt : j < l1.length
    · have hltz : (j : Int) < (l1.length : Int) := by omega
      obtain ⟨ad, Aj, cj, e, hcell, hlen, hC⟩ := at_L1 (Kd.C_below HR1.out HW.out) (j : Int) (by omega) (by omega)
      subst e
      rw [show (j : Int).toNat = j from rfl] at hcell
      have HLEN := Aside0.mk hlen
      have HC := Aside0.mk hC
      have HT := Aside0.mk (masks_take l0 l1 j hlt)
      clear hlen hC
      go_wp2
      go_loopg [8, 29] l0.length (fun gg s8 s29 wi => ∃ i : Nat, i ≤ l0.length ∧ l0.length - i ≤ gg ∧ s29 = .int .i64 (i : Int) ∧ s8 = .int .i64 ((failMask (rd_L1 l1 (j : Int)) l0 i : Nat) : Int) ∧ Aside0 (Below wr.heap.size wr wi))
      case atStart => exact ⟨0, Nat.zero_le _, Nat.le_refl _, rfl, rfl, ⟨Below.refl _ _⟩⟩
      case round =>
        obtain ⟨i, hi, hgi, rfl, rfl, BW⟩ := hrel
        by_cases hil : i < l0.length
        · have hilz : (i : Int) < (l0.length : Int) := by omega
          obtain ⟨ad0, Ai, ci, e0, hcell0, hlen0, hC0⟩ := at_L1 (Kd.C_below HR0.out (HW.out.trans (BW.out.mono HW.out.size))) (i : Int) (by omega) (by omega)
          subst e0
          rw [show (i : Int).toNat = i from rfl] at hcell0
          have hcall := impl_FailsWith.calls Aj cj (rd_L1 l1 (j : Int)) Ai ci (rd_L1 l0 (i : Int)) _ _ (Kd.C_below HC.out BW.out) HLEN.out hC0 hlen0 rfl
          have hfs : failMask (rd_L1 l1 (j : Int)) l0 (i + 1) = failMask (rd_L1 l1 (j : Int)) l0 i + (if (rd_L1 l0 (i : Int)).any (failsB (rd_L1 l1 (j : Int))) = true then 2 ^ i else 0) := rfl
          have hfl := failMask_lt (rd_L1 l1 (j : Int)) l0 i
          have HHC := Aside0.mk hcall
          have HFS := Aside0.mk hfs
          have HFL := Aside0.mk hfl
          clear hcall hfs hfl hlen0 hC0
          have hi64 : (i : Int) ≤ 64 := by omega
          cases hq : (rd_L1 l0 (i : Int)).any (failsB (rd_L1 l1 (j : Int))) with
          | true =>
            rw [hq] at HHC HFS
            rw [if_pos rfl] at HFS
            clear hq
            go_wp2_with (first | (go_at_call 37; refine HHC.out.mono ?_; rintro e w3 ⟨rfl, hb⟩; have HB3 := Aside0.mk hb; clear hb) | fail)
            go_roundg (l0.length - (i + 1))
            case measure => omega
            case rel => exact ⟨i + 1, by omega, by omega, by go_num, by rw [HFS.out]; exact mask_set HFL.out (by omega), ⟨below_step BW.out HB3.out⟩⟩
          | false =>
            rw [hq] at HHC HFS
            rw [if_neg (by simp), Nat.add_zero] at HFS
            clear hq
            go_wp2_with (first | (go_at_call 37; refine HHC.out.mono ?_; rintro e w3 ⟨rfl, hb⟩; have HB3 := Aside0.mk hb; clear hb) | fail)
            go_roundg (l0.length - (i + 1))
            case measure => omega
            case rel => exact ⟨i + 1, by omega, by omega, by go_num, by rw [HFS.out]; rfl, ⟨below_step BW.out HB3.out⟩⟩
        · have hilz : ¬ (i : Int) < (l0.length : Int) := by omega
          have hin : i = l0.length := by omega
          subst hin
          generalize hL : (masks l0 (l1.take j)).map (fun f : Nat => (f : Int)) = L at HS HT
          have hlm : L.length ≤ 6 := by rw [← hL, List.length_map, masks_len, List.length_take]; omega
          clear hL
          obtain ⟨As, cs, rfl⟩ := Kd.R_slice HS.out
          have hbx := blk_below HX.out BW.out
          have hcx := box_cell0 hbx
          have HBX := Aside0.mk hbx
          have HSW := Aside0.mk (Kd.R_below HS.out BW.out)
          have HMW := Aside0.mk (HM.out.kept (row := none) (below_grown0 BW.out) (by simp))
          have HWW := Aside0.mk (HW.out.trans (BW.out.mono HW.out.size))
          have HPL := Aside0.mk (Nat.lt_of_lt_of_le (Array.getElem?_eq_some_iff.1 HX.out).1 BW.out.size)
          generalize ((failMask (rd_L1 l1 (j : Int)) l0 l0.length : Nat) : Int) = q at HT ⊢
          have HLM := Aside0.mk hlm
          clear hbx hlm
          go_wp2_with (first | ((with_reducible refine gate_builtin (b := .append) (xs := #[.tmp 43, .tmp 45]) rfl ?_); at_builtin; refine Kd.R_append (Kd.int .i64) (w0 := wr) (w.heap.size + 1 + 1) rfl (.tmp 43) (.tmp 45) 23 3 (.int .i64 0) 8 rfl Try.underlying23 info3 rfl (by decide) (by omega) (.slice As L.length cs) L q [.int .i64 q] (fun _ => True) (fun _ => False) rfl rfl ?aP (fun _ hk => hk.elim) ?aF ?aO ?aB ?aS ?aL ?_; (case aP => exact rfl); (case aB => exact Below.refl _ _); (case aF => exact (fun _ _ => trivial)); (case aO => exact HSW.out); (case aS => exact HPL.out); (case aL => have := HLM.out; omega); intro v2 w2 ho hb hg2 hat; clear hg2 hat; obtain ⟨A2, c2, rfl⟩ := Kd.R_slice ho; have hbx2 := (hb.block (w.heap.size + 1) (by omega)).trans HBX.out; have hcx2 := box_cell0 hbx2; have hfx2 := blk_frozen hbx2 0; have HO2 := Aside0.mk ho; have HB2 := Aside0.mk hb; have HX2 := Aside0.mk hbx2; clear ho hb hbx2) | fail)
          go_roundg (l1.length - (j + 1))
          case measure => omega
          case rel => exact ⟨j + 1, _, by omega, by omega, by go_num, ⟨by have h := blk_set HX2.out 0 (.slice A2 (L ++ [q]).length c2); simpa using h⟩, ⟨by rw [HT.out]; simpa using Kd.R_set HO2.out HX2.out (by decide) 0 _⟩, ⟨(map_below HMW.out HB2.out (by omega)).kept (box_grown HX2.out 0 _) (by simp)⟩, ⟨(HWW.out.trans (HB2.out.mono (by omega))).setCell (by simp) _⟩⟩
    · have hltz : ¬ (j : Int) < (l1.length : Int) := by omega
      have hkn : j = l1.length := by omega
      subst hkn
      rw [List.take_length] at HS
      obtain ⟨As, cs, rfl⟩ := Kd.R_slice HS.out
      rw [List.length_map] at HX HS
      have hcx := box_cell0 HX.out
      have hcx1 := box_cell1 HX.out
      have HD := Aside0.mk (depth_calls (masks l0 l1) (masks_small l0 l1 hl0) (by rw [masks_len]; omega) (w.heap.size + 1 + 1) w.heap.size As cs (2 ^ l0.length) (2 ^ l0.length - 1) (by have := Nat.two_pow_pos l0.length; omega) (by have h : 2 ^ l0.length ≤ 2 ^ 22 := Nat.pow_le_pow_right (by decide) hl0; have := Nat.two_pow_pos l0.length; omega) wr.drew 0 (.map []) (Kd.R_mono (Kd.R_bound (Kd.R_drew HS.out)) (fun k hk => by have := hk.2.1; omega)) HM.out.drew (fun v _ h => by simp [has] at h) (fun kl h => by simp [has] at h))
      have hi64 : (l0.length : Int) ≤ 64 := by omega
      clear HS HX HM
      have hsh : IntKind.i64.wrap (IntKind.i64.wrap ((2 : Int) ^ l0.length) - 1) = ((2 ^ l0.length - 1 : Nat) : Int) := by
        have h := Nat.two_pow_pos l0.length
        have h22 : 2 ^ l0.length ≤ 2 ^ 22 := Nat.pow_le_pow_right (by decide) hl0
        have e : ((2 : Int) ^ l0.length) = ((2 ^ l0.length : Nat) : Int) := by rw [Int.natCast_pow]; rfl
        rw [e, i64_w, i64_w]
        unfold wrap64
        omega
      rw [← hsh] at HD
      clear hsh
      obtain ⟨r0, hr0⟩ : ∃ r0, pd (masks l0 l1) (2 ^ l0.length - 1) (2 ^ l0.length - 1) = r0 := ⟨_, rfl⟩
      rw [hr0] at HD
      have HE := Aside0.mk hr0
      clear hr0
      go_wp2_with (fail)
      go_region_law (first | (go_simp; go_at_call 40; (with_reducible refine HD.out.mono ?_); rintro e w5 ⟨rfl, n5, D5, ho5, hm5, hf5, hg5⟩; have HG5 := Aside0.mk hg5; clear ho5 hm5 hf5 hg5) | fail)
      all_goals (go_wp2; go_ret; exact ⟨by rw [HE.out]; first | rfl | (go_simp; done) | (go_simp; rfl), (below_drew1 HW.out).grown HG5.out (by have := HW.out.size; simpa using this) (fun j hj => by cases hj; exact Nat.le_refl _)⟩)
end

/-! ### laws_FnExactLeastDepth: function 8 -/
def laws_FnExactLeastDepth.f (k : Nat) (l0 : List (List Int)) (l1 : List (List Int)) : Option (Bool) := (laws_szIntSS.f k l0 1048576).bind fun t156 => (if t156 < 0 then (some true) else ((laws_szIntSS.f k l1 t156).bind fun t157 => (if t157 < 0 then (some true) else ((laws_toIntSS.f k l0).bind fun t158 => ((laws_toIntSS.f k l1).bind fun t161 => ((spec_LeastDepth.f k t158 t161).bind fun t164 => ((laws_toIntSS.f k l0).bind fun t165 => ((laws_toIntSS.f k l1).bind fun t168 => ((impl_LeastDepth.f t165 t168).bind fun t171 => (if t171 = t164 then ((laws_toIntSS.f k l0).bind fun t172 => ((laws_eqIntSS.f k t165 t172).bind fun t175 => (if t175 = true then ((laws_toIntSS.f k l1).bind fun t176 => ((laws_eqIntSS.f k t168 t176).bind fun t179 => (if t179 = true then (some true) else (some false)))) else (some false)))) else (some false)))))))))))
theorem laws_FnExactLeastDepth.mono : ∀ a0 a1 k, LeO (laws_FnExactLeastDepth.f k a0 a1) (laws_FnExactLeastDepth.f (k + 1) a0 a1) := by
  intro a0 a1 k
  unfold laws_FnExactLeastDepth.f
  repeat' first
      | (with_reducible exact laws_eqIntSS.mono _ _ _)
      | (with_reducible exact laws_szIntSS.mono _ _ _)
      | (with_reducible exact laws_toIntSS.mono _ _)
      | (with_reducible exact spec_LeastDepth.mono _ _ _)
      | (with_reducible exact LeO.refl _)
      | (with_reducible exact LeO.none _)
      | (with_reducible refine LeO.ite ?_ ?_)
      | (with_reducible refine LeO.bind ?_ (fun _ => ?_))
      | exact laws_eqIntSS.mono _ _ _
      | exact laws_szIntSS.mono _ _ _
      | exact laws_toIntSS.mono _ _
      | exact spec_LeastDepth.mono _ _ _
      | exact LeO.none _
      | refine LeO.ite ?_ ?_
      | refine LeO.bind ?_ (fun _ => ?_)
set_option maxHeartbeats 8000000 in
set_option maxRecDepth 100000 in
theorem laws_FnExactLeastDepth.calls (k : Nat) (A0 : Option Addr) (c0 : Nat) (l0 : List (List Int)) (A1 : Option Addr) (c1 : Nat) (l1 : List (List Int)) (r : Bool) (w : World) (hr0 : Kd.C (Kd.slice 3 (Kd.int .i64)) w A0 l0.length l0) (hc0 : l0.length ≤ c0) (hr1 : Kd.C (Kd.slice 3 (Kd.int .i64)) w A1 l1.length l1) (hc1 : l1.length ≤ c1) (h : laws_FnExactLeastDepth.f k l0 l1 = some r) :
    Calls Try.prog 8 #[.slice A0 l0.length c0, .slice A1 l1.length c1] w fun e w' => e = .returned (.bool r) ∧ Below w.heap.size w w' := by
  have HR0 := Aside0.mk hr0
  have HC0 := Aside0.mk hc0
  clear hr0 hc0
  have HR1 := Aside0.mk hr1
  have HC1 := Aside0.mk hc1
  clear hr1 hc1
  have HB := Aside0.mk (Below.refl w.heap.size w)
  have H : ((laws_szIntSS.f k l0 1048576).bind fun t156 => (if t156 < 0 then (some true) else ((laws_szIntSS.f k l1 t156).bind fun t157 => (if t157 < 0 then (some true) else ((laws_toIntSS.f k l0).bind fun t158 => ((laws_toIntSS.f k l1).bind fun t161 => ((spec_LeastDepth.f k t158 t161).bind fun t164 => ((laws_toIntSS.f k l0).bind fun t165 => ((laws_toIntSS.f k l1).bind fun t168 => ((impl_LeastDepth.f t165 t168).bind fun t171 => (if t171 = t164 then ((laws_toIntSS.f k l0).bind fun t172 => ((laws_eqIntSS.f k t165 t172).bind fun t175 => (if t175 = true then ((laws_toIntSS.f k l1).bind fun t176 => ((laws_eqIntSS.f k t168 t176).bind fun t179 => (if t179 = true then (some true) else (some false)))) else (some false)))) else (some false)))))))))))) = some r := h
  clear h
  replace H := Option.bind_eq_some_iff.mp H
  obtain ⟨t156, A30, H⟩ := H
  replace H : (if t156 < 0 then (some true) else ((laws_szIntSS.f k l1 t156).bind fun t157 => (if t157 < 0 then (some true) else ((laws_toIntSS.f k l0).bind fun t158 => ((laws_toIntSS.f k l1).bind fun t161 => ((spec_LeastDepth.f k t158 t161).bind fun t164 => ((laws_toIntSS.f k l0).bind fun t165 => ((laws_toIntSS.f k l1).bind fun t168 => ((impl_LeastDepth.f t165 t168).bind fun t171 => (if t171 = t164 then ((laws_toIntSS.f k l0).bind fun t172 => ((laws_eqIntSS.f k t165 t172).bind fun t175 => (if t175 = true then ((laws_toIntSS.f k l1).bind fun t176 => ((laws_eqIntSS.f k t168 t176).bind fun t179 => (if t179 = true then (some true) else (some false)))) else (some false)))) else (some false))))))))))) = some r := H
  have A3 := Aside0.mk A30
  clear A30
  by_cases c4 : t156 < 0
  · rw [if_pos c4] at H
    have c4b0 : decide (t156 < 0) = true := decide_eq_true c4
    clear c4
    obtain rfl := Option.some.inj H
    go_enter Try.func8, Try.ntmps8
    go_wp2_with (first | ((with_reducible refine gate_callee (f := 10) rfl ?_); refine goesL_ (some 12) rfl rfl Try.func10 (by kernel_rfl) rfl #[.slice A0 l0.length c0, .int .i64 1048576] rfl (by (try simp only [List.map_toArray, List.map_cons, List.map_nil]); first | done | rfl | (simp only [List.length_drop, List.length_take]; rfl)) ?_; (with_reducible refine (laws_szIntSS.calls k _ _ l0 1048576 t156 _ ?side1 ?side2 A3.out).mono ?_); (case side1 => repeat (first | exact HR0.out | (with_reducible refine Kd.C_alloc ?_ _) | (with_reducible refine Kd.C_drewN ?_ _) | (with_reducible refine Kd.C_drew ?_))); (case side2 => exact HC0.out); rintro e w' ⟨rfl, ⟨nd, rfl⟩⟩; refine ⟨_, rfl, ?_⟩))
    go_ret
    exact ⟨by first | rfl | (simp [errW_none, errW_some] <;> rfl) | (simp [*, errW_none, errW_some] <;> rfl), by repeat (first | (with_reducible first | exact HB.out | apply below_alloc | apply pw_below_drewN | apply below_drew1) | exact HB.out)⟩
  · rw [if_neg c4] at H
    have c4b0 : decide (t156 < 0) = false := decide_eq_false c4
    clear c4
    replace H := Option.bind_eq_some_iff.mp H
    obtain ⟨t157, A50, H⟩ := H
    replace H : (if t157 < 0 then (some true) else ((laws_toIntSS.f k l0).bind fun t158 => ((laws_toIntSS.f k l1).bind fun t161 => ((spec_LeastDepth.f k t158 t161).bind fun t164 => ((laws_toIntSS.f k l0).bind fun t165 => ((laws_toIntSS.f k l1).bind fun t168 => ((impl_LeastDepth.f t165 t168).bind fun t171 => (if t171 = t164 then ((laws_toIntSS.f k l0).bind fun t172 => ((laws_eqIntSS.f k t165 t172).bind fun t175 => (if t175 = true then ((laws_toIntSS.f k l1).bind fun t176 => ((laws_eqIntSS.f k t168 t176).bind fun t179 => (if t179 = true then (some true) else (some false)))) else (some false)))) else (some false))))))))) = some r := H
    have A5 := Aside0.mk A50
    clear A50
    by_cases c6 : t157 < 0
    · rw [if_pos c6] at H
      have c6b0 : decide (t157 < 0) = true := decide_eq_true c6
      clear c6
      obtain rfl := Option.some.inj H
      go_enter Try.func8, Try.ntmps8
      go_wp2_with (first | ((with_reducible refine gate_callee (f := 10) rfl ?_); refine goesL_ (some 12) rfl rfl Try.func10 (by kernel_rfl) rfl #[.slice A0 l0.length c0, .int .i64 1048576] rfl (by (try simp only [List.map_toArray, List.map_cons, List.map_nil]); first | done | rfl | (simp only [List.length_drop, List.length_take]; rfl)) ?_; (with_reducible refine (laws_szIntSS.calls k _ _ l0 1048576 t156 _ ?side1 ?side2 A3.out).mono ?_); (case side1 => repeat (first | exact HR0.out | (with_reducible refine Kd.C_alloc ?_ _) | (with_reducible refine Kd.C_drewN ?_ _) | (with_reducible refine Kd.C_drew ?_))); (case side2 => exact HC0.out); rintro e w' ⟨rfl, ⟨nd, rfl⟩⟩; refine ⟨_, rfl, ?_⟩) | ((with_reducible refine gate_callee (f := 10) rfl ?_); refine goesL_ (some 17) rfl rfl Try.func10 (by kernel_rfl) rfl #[.slice A1 l1.length c1, .int .i64 t156] rfl (by (try simp only [List.map_toArray, List.map_cons, List.map_nil]); first | done | rfl | (simp only [List.length_drop, List.length_take]; rfl)) ?_; (with_reducible refine (laws_szIntSS.calls k _ _ l1 t156 t157 _ ?side1 ?side2 A5.out).mono ?_); (case side1 => repeat (first | exact HR1.out | (with_reducible refine Kd.C_alloc ?_ _) | (with_reducible refine Kd.C_drewN ?_ _) | (with_reducible refine Kd.C_drew ?_))); (case side2 => exact HC1.out); rintro e w' ⟨rfl, ⟨nd, rfl⟩⟩; refine ⟨_, rfl, ?_⟩))
      go_ret
      exact ⟨by first | rfl | (simp [errW_none, errW_some] <;> rfl) | (simp [*, errW_none, errW_some] <;> rfl), by repeat (first | (with_reducible first | exact HB.out | apply below_alloc | apply pw_below_drewN | apply below_drew1) | exact HB.out)⟩
    · rw [if_neg c6] at H
      have c6b0 : decide (t157 < 0) = false := decide_eq_false c6
      clear c6
      replace H := Option.bind_eq_some_iff.mp H
      obtain ⟨t158, A70, H⟩ := H
      replace H : ((laws_toIntSS.f k l1).bind fun t161 => ((spec_LeastDepth.f k t158 t161).bind fun t164 => ((laws_toIntSS.f k l0).bind fun t165 => ((laws_toIntSS.f k l1).bind fun t168 => ((impl_LeastDepth.f t165 t168).bind fun t171 => (if t171 = t164 then ((laws_toIntSS.f k l0).bind fun t172 => ((laws_eqIntSS.f k t165 t172).bind fun t175 => (if t175 = true then ((laws_toIntSS.f k l1).bind fun t176 => ((laws_eqIntSS.f k t168 t176).bind fun t179 => (if t179 = true then (some true) else (some false)))) else (some false)))) else (some false))))))) = some r := H
      have A7 := Aside0.mk A70
      clear A70
      replace H := Option.bind_eq_some_iff.mp H
      obtain ⟨t161, A80, H⟩ := H
      replace H : ((spec_LeastDepth.f k t158 t161).bind fun t164 => ((laws_toIntSS.f k l0).bind fun t165 => ((laws_toIntSS.f k l1).bind fun t168 => ((impl_LeastDepth.f t165 t168).bind fun t171 => (if t171 = t164 then ((laws_toIntSS.f k l0).bind fun t172 => ((laws_eqIntSS.f k t165 t172).bind fun t175 => (if t175 = true then ((laws_toIntSS.f k l1).bind fun t176 => ((laws_eqIntSS.f k t168 t176).bind fun t179 => (if t179 = true then (some true) else (some false)))) else (some false)))) else (some false)))))) = some r := H
      have A8 := Aside0.mk A80
      clear A80
      replace H := Option.bind_eq_some_iff.mp H
      obtain ⟨t164, A90, H⟩ := H
      replace H : ((laws_toIntSS.f k l0).bind fun t165 => ((laws_toIntSS.f k l1).bind fun t168 => ((impl_LeastDepth.f t165 t168).bind fun t171 => (if t171 = t164 then ((laws_toIntSS.f k l0).bind fun t172 => ((laws_eqIntSS.f k t165 t172).bind fun t175 => (if t175 = true then ((laws_toIntSS.f k l1).bind fun t176 => ((laws_eqIntSS.f k t168 t176).bind fun t179 => (if t179 = true then (some true) else (some false)))) else (some false)))) else (some false))))) = some r := H
      have A9 := Aside0.mk A90
      clear A90
      replace H := Option.bind_eq_some_iff.mp H
      obtain ⟨t165, A100, H⟩ := H
      replace H : ((laws_toIntSS.f k l1).bind fun t168 => ((impl_LeastDepth.f t165 t168).bind fun t171 => (if t171 = t164 then ((laws_toIntSS.f k l0).bind fun t172 => ((laws_eqIntSS.f k t165 t172).bind fun t175 => (if t175 = true then ((laws_toIntSS.f k l1).bind fun t176 => ((laws_eqIntSS.f k t168 t176).bind fun t179 => (if t179 = true then (some true) else (some false)))) else (some false)))) else (some false)))) = some r := H
      have A10 := Aside0.mk A100
      clear A100
      replace H := Option.bind_eq_some_iff.mp H
      obtain ⟨t168, A110, H⟩ := H
      replace H : ((impl_LeastDepth.f t165 t168).bind fun t171 => (if t171 = t164 then ((laws_toIntSS.f k l0).bind fun t172 => ((laws_eqIntSS.f k t165 t172).bind fun t175 => (if t175 = true then ((laws_toIntSS.f k l1).bind fun t176 => ((laws_eqIntSS.f k t168 t176).bind fun t179 => (if t179 = true then (some true) else (some false)))) else (some false)))) else (some false))) = some r := H
      have A11 := Aside0.mk A110
      clear A110
      replace H := Option.bind_eq_some_iff.mp H
      obtain ⟨t171, A120, H⟩ := H
      replace H : (if t171 = t164 then ((laws_toIntSS.f k l0).bind fun t172 => ((laws_eqIntSS.f k t165 t172).bind fun t175 => (if t175 = true then ((laws_toIntSS.f k l1).bind fun t176 => ((laws_eqIntSS.f k t168 t176).bind fun t179 => (if t179 = true then (some true) else (some false)))) else (some false)))) else (some false)) = some r := H
      have A12 := Aside0.mk A120
      clear A120
      by_cases c13 : t171 = t164
      · rw [if_pos c13] at H
        have c13b0 : (t171 == t164) = true := beq_iff_eq.mpr c13
        have c13b1 : (t171 != t164) = false := bne_eq_false_iff_eq.mpr c13
        clear c13
        replace H := Option.bind_eq_some_iff.mp H
        obtain ⟨t172, A140, H⟩ := H
        replace H : ((laws_eqIntSS.f k t165 t172).bind fun t175 => (if t175 = true then ((laws_toIntSS.f k l1).bind fun t176 => ((laws_eqIntSS.f k t168 t176).bind fun t179 => (if t179 = true then (some true) else (some false)))) else (some false))) = some r := H
        have A14 := Aside0.mk A140
        clear A140
        replace H := Option.bind_eq_some_iff.mp H
        obtain ⟨t175, A150, H⟩ := H
        replace H : (if t175 = true then ((laws_toIntSS.f k l1).bind fun t176 => ((laws_eqIntSS.f k t168 t176).bind fun t179 => (if t179 = true then (some true) else (some false)))) else (some false)) = some r := H
        have A15 := Aside0.mk A150
        clear A150
        by_cases c16 : t175 = true
        · subst c16
          have H1 : ((laws_toIntSS.f k l1).bind fun t176 => ((laws_eqIntSS.f k t168 t176).bind fun t179 => (if t179 = true then (some true) else (some false)))) = some r := by rw [if_pos rfl] at H; exact H
          clear H
          have H := H1
          clear H1
          replace H := Option.bind_eq_some_iff.mp H
          obtain ⟨t176, A170, H⟩ := H
          replace H : ((laws_eqIntSS.f k t168 t176).bind fun t179 => (if t179 = true then (some true) else (some false))) = some r := H
          have A17 := Aside0.mk A170
          clear A170
          replace H := Option.bind_eq_some_iff.mp H
          obtain ⟨t179, A180, H⟩ := H
          replace H : (if t179 = true then (some true) else (some false)) = some r := H
          have A18 := Aside0.mk A180
          clear A180
          by_cases c19 : t179 = true
          · subst c19
            have H1 : (some true) = some r := by rw [if_pos rfl] at H; exact H
            clear H
            have H := H1
            clear H1
            obtain rfl := Option.some.inj H
            go_enter Try.func8, Try.ntmps8
            go_wp2_with (first | ((with_reducible refine gate_callee (f := 10) rfl ?_); refine goesL_ (some 12) rfl rfl Try.func10 (by kernel_rfl) rfl #[.slice A0 l0.length c0, .int .i64 1048576] rfl (by (try simp only [List.map_toArray, List.map_cons, List.map_nil]); first | done | rfl | (simp only [List.length_drop, List.length_take]; rfl)) ?_; (with_reducible refine (laws_szIntSS.calls k _ _ l0 1048576 t156 _ ?side1 ?side2 A3.out).mono ?_); (case side1 => repeat (first | exact HR0.out | (with_reducible refine Kd.C_alloc ?_ _) | (with_reducible refine Kd.C_drewN ?_ _) | (with_reducible refine Kd.C_drew ?_))); (case side2 => exact HC0.out); rintro e w' ⟨rfl, ⟨nd, rfl⟩⟩; refine ⟨_, rfl, ?_⟩) | ((with_reducible refine gate_callee (f := 10) rfl ?_); refine goesL_ (some 17) rfl rfl Try.func10 (by kernel_rfl) rfl #[.slice A1 l1.length c1, .int .i64 t156] rfl (by (try simp only [List.map_toArray, List.map_cons, List.map_nil]); first | done | rfl | (simp only [List.length_drop, List.length_take]; rfl)) ?_; (with_reducible refine (laws_szIntSS.calls k _ _ l1 t156 t157 _ ?side1 ?side2 A5.out).mono ?_); (case side1 => repeat (first | exact HR1.out | (with_reducible refine Kd.C_alloc ?_ _) | (with_reducible refine Kd.C_drewN ?_ _) | (with_reducible refine Kd.C_drew ?_))); (case side2 => exact HC1.out); rintro e w' ⟨rfl, ⟨nd, rfl⟩⟩; refine ⟨_, rfl, ?_⟩) | ((with_reducible refine gate_callee (f := 12) rfl ?_); refine goesL_ (some 21) rfl rfl Try.func12 (by kernel_rfl) rfl #[.slice A0 l0.length c0] rfl (by (try simp only [List.map_toArray, List.map_cons, List.map_nil]); first | done | rfl | (simp only [List.length_drop, List.length_take]; rfl)) ?_; (with_reducible refine (laws_toIntSS.calls k _ _ l0 t158 _ ?side1 ?side2 A7.out).mono ?_); (case side1 => repeat (first | exact HR0.out | (with_reducible refine Kd.C_alloc ?_ _) | (with_reducible refine Kd.C_drewN ?_ _) | (with_reducible refine Kd.C_drew ?_))); (case side2 => exact HC0.out); rintro e w20 ⟨v159, rfl, ho0, hb⟩; refine ⟨_, rfl, ?_⟩; have n0_ := Aside0.mk (Kd.S_lower ho0 (below_size (by repeat (first | (with_reducible first | exact HB.out | apply below_alloc | apply pw_below_drewN | apply below_drew1) | exact HB.out)))); have n1_ := Aside0.mk (below_step (by repeat (first | (with_reducible first | exact HB.out | apply below_alloc | apply pw_below_drewN | apply below_drew1) | exact HB.out)) hb); clear HB; have HO160 := n0_; have HB := n1_; clear n0_ n1_; (try clear hb); (try clear hb2); (try clear hk); (try clear hi); (try clear ho0)) | ((with_reducible refine gate_callee (f := 12) rfl ?_); refine goesL_ (some 23) rfl rfl Try.func12 (by kernel_rfl) rfl #[.slice A1 l1.length c1] rfl (by (try simp only [List.map_toArray, List.map_cons, List.map_nil]); first | done | rfl | (simp only [List.length_drop, List.length_take]; rfl)) ?_; (with_reducible refine (laws_toIntSS.calls k _ _ l1 t161 _ ?side1 ?side2 A8.out).mono ?_); (case side1 => repeat (first | exact (Kd.C_below HR1.out HB.out) | (with_reducible refine Kd.C_alloc ?_ _) | (with_reducible refine Kd.C_drewN ?_ _) | (with_reducible refine Kd.C_drew ?_))); (case side2 => exact HC1.out); rintro e w21 ⟨v162, rfl, ho0, hb⟩; refine ⟨_, rfl, ?_⟩; have n0_ := Aside0.mk (Kd.S_elder' (by (with_reducible repeat (first | apply Kd.S_alloc | apply Kd.S_drewN | apply Kd.S_drew)); exact HO160.out) (Kd.S_base ho0) hb); have n1_ := Aside0.mk (Kd.S_lower (Kd.S_new' ho0 (Kd.S_lt (by (with_reducible repeat (first | apply Kd.S_alloc | apply Kd.S_drewN | apply Kd.S_drew)); exact HO160.out))) (below_size (by repeat (first | (with_reducible first | exact HB.out | apply below_alloc | apply pw_below_drewN | apply below_drew1) | exact HB.out)))); have n2_ := Aside0.mk (below_step (by repeat (first | (with_reducible first | exact HB.out | apply below_alloc | apply pw_below_drewN | apply below_drew1) | exact HB.out)) hb); clear HO160; clear HB; have HO160 := n0_; have HO163 := n1_; have HB := n2_; clear n0_ n1_ n2_; (try clear hb); (try clear hb2); (try clear hk); (try clear hi); (try clear ho0); obtain ⟨Ao22, co22, eo22⟩ := Kd.S_slice HO160.out; subst eo22; obtain ⟨Ao23, co23, eo23⟩ := Kd.S_slice HO163.out; subst eo23) | ((with_reducible refine gate_callee (f := 28) rfl ?_); refine goesL_ (some 24) rfl rfl Try.func28 (by kernel_rfl) rfl #[.slice Ao22 t158.length co22, .slice Ao23 t161.length co23] rfl (by (try simp only [List.map_toArray, List.map_cons, List.map_nil]); first | done | rfl | (simp only [List.length_drop, List.length_take]; rfl)) ?_; (with_reducible refine (spec_LeastDepth.calls k _ _ t158 _ _ t161 t164 _ ?side1 ?side2 ?side3 ?side4 A9.out).mono ?_); (case side1 => repeat (first | exact (Kd.S_reads' HO160.out).2.2 | (with_reducible refine Kd.C_alloc ?_ _) | (with_reducible refine Kd.C_drewN ?_ _) | (with_reducible refine Kd.C_drew ?_))); (case side2 => exact (Kd.S_reads' HO160.out).2.1); (case side3 => repeat (first | exact (Kd.S_reads' HO163.out).2.2 | (with_reducible refine Kd.C_alloc ?_ _) | (with_reducible refine Kd.C_drewN ?_ _) | (with_reducible refine Kd.C_drew ?_))); (case side4 => exact (Kd.S_reads' HO163.out).2.1); rintro e w24 ⟨rfl, hb⟩; refine ⟨_, rfl, ?_⟩; have n0_ := Aside0.mk (Kd.S_below (by (with_reducible repeat (first | apply Kd.S_alloc | apply Kd.S_drewN | apply Kd.S_drew)); exact HO160.out) hb); have n1_ := Aside0.mk (Kd.S_below (by (with_reducible repeat (first | apply Kd.S_alloc | apply Kd.S_drewN | apply Kd.S_drew)); exact HO163.out) hb); have n2_ := Aside0.mk (below_step (by repeat (first | (with_reducible first | exact HB.out | apply below_alloc | apply pw_below_drewN | apply below_drew1) | exact HB.out)) hb); clear HO160; clear HO163; clear HB; have HO160 := n0_; have HO163 := n1_; have HB := n2_; clear n0_ n1_ n2_; (try clear hb); (try clear hb2); (try clear hk); (try clear hi)) | ((with_reducible refine gate_callee (f := 12) rfl ?_); refine goesL_ (some 26) rfl rfl Try.func12 (by kernel_rfl) rfl #[.slice A0 l0.length c0] rfl (by (try simp only [List.map_toArray, List.map_cons, List.map_nil]); first | done | rfl | (simp only [List.length_drop, List.length_take]; rfl)) ?_; (with_reducible refine (laws_toIntSS.calls k _ _ l0 t165 _ ?side1 ?side2 A10.out).mono ?_); (case side1 => repeat (first | exact (Kd.C_below HR0.out HB.out) | (with_reducible refine Kd.C_alloc ?_ _) | (with_reducible refine Kd.C_drewN ?_ _) | (with_reducible refine Kd.C_drew ?_))); (case side2 => exact HC0.out); rintro e w25 ⟨v166, rfl, ho0, hb⟩; refine ⟨_, rfl, ?_⟩; have n0_ := Aside0.mk (Kd.S_elder' (by (with_reducible repeat (first | apply Kd.S_alloc | apply Kd.S_drewN | apply Kd.S_drew)); exact HO160.out) (Kd.S_base ho0) hb); have n1_ := Aside0.mk (Kd.S_elder' (by (with_reducible repeat (first | apply Kd.S_alloc | apply Kd.S_drewN | apply Kd.S_drew)); exact HO163.out) (Kd.S_base ho0) hb); have n2_ := Aside0.mk (Kd.S_lower (Kd.S_new' (Kd.S_new' ho0 (Kd.S_lt (by (with_reducible repeat (first | apply Kd.S_alloc | apply Kd.S_drewN | apply Kd.S_drew)); exact HO160.out))) (Kd.S_lt (by (with_reducible repeat (first | apply Kd.S_alloc | apply Kd.S_drewN | apply Kd.S_drew)); exact HO163.out))) (below_size (by repeat (first | (with_reducible first | exact HB.out | apply below_alloc | apply pw_below_drewN | apply below_drew1) | exact HB.out)))); have n3_ := Aside0.mk (below_step (by repeat (first | (with_reducible first | exact HB.out | apply below_alloc | apply pw_below_drewN | apply below_drew1) | exact HB.out)) hb); clear HO160; clear HO163; clear HB; have HO160 := n0_; have HO163 := n1_; have HO167 := n2_; have HB := n3_; clear n0_ n1_ n2_ n3_; (try clear hb); (try clear hb2); (try clear hk); (try clear hi); (try clear ho0)) | ((with_reducible refine gate_callee (f := 12) rfl ?_); refine goesL_ (some 28) rfl rfl Try.func12 (by kernel_rfl) rfl #[.slice A1 l1.length c1] rfl (by (try simp only [List.map_toArray, List.map_cons, List.map_nil]); first | done | rfl | (simp only [List.length_drop, List.length_take]; rfl)) ?_; (with_reducible refine (laws_toIntSS.calls k _ _ l1 t168 _ ?side1 ?side2 A11.out).mono ?_); (case side1 => repeat (first | exact (Kd.C_below HR1.out HB.out) | (with_reducible refine Kd.C_alloc ?_ _) | (with_reducible refine Kd.C_drewN ?_ _) | (with_reducible refine Kd.C_drew ?_))); (case side2 => exact HC1.out); rintro e w26 ⟨v169, rfl, ho0, hb⟩; refine ⟨_, rfl, ?_⟩; have n0_ := Aside0.mk (Kd.S_elder' (by (with_reducible repeat (first | apply Kd.S_alloc | apply Kd.S_drewN | apply Kd.S_drew)); exact HO160.out) (Kd.S_base ho0) hb); have n1_ := Aside0.mk (Kd.S_elder' (by (with_reducible repeat (first | apply Kd.S_alloc | apply Kd.S_drewN | apply Kd.S_drew)); exact HO163.out) (Kd.S_base ho0) hb); have n2_ := Aside0.mk (Kd.S_elder' (by (with_reducible repeat (first | apply Kd.S_alloc | apply Kd.S_drewN | apply Kd.S_drew)); exact HO167.out) (Kd.S_base ho0) hb); have n3_ := Aside0.mk (Kd.S_lower (Kd.S_new' (Kd.S_new' (Kd.S_new' ho0 (Kd.S_lt (by (with_reducible repeat (first | apply Kd.S_alloc | apply Kd.S_drewN | apply Kd.S_drew)); exact HO160.out))) (Kd.S_lt (by (with_reducible repeat (first | apply Kd.S_alloc | apply Kd.S_drewN | apply Kd.S_drew)); exact HO163.out))) (Kd.S_lt (by (with_reducible repeat (first | apply Kd.S_alloc | apply Kd.S_drewN | apply Kd.S_drew)); exact HO167.out))) (below_size (by repeat (first | (with_reducible first | exact HB.out | apply below_alloc | apply pw_below_drewN | apply below_drew1) | exact HB.out)))); have n4_ := Aside0.mk (below_step (by repeat (first | (with_reducible first | exact HB.out | apply below_alloc | apply pw_below_drewN | apply below_drew1) | exact HB.out)) hb); clear HO160; clear HO163; clear HO167; clear HB; have HO160 := n0_; have HO163 := n1_; have HO167 := n2_; have HO170 := n3_; have HB := n4_; clear n0_ n1_ n2_ n3_ n4_; (try clear hb); (try clear hb2); (try clear hk); (try clear hi); (try clear ho0); obtain ⟨Ao27, co27, eo27⟩ := Kd.S_slice HO167.out; subst eo27; obtain ⟨Ao28, co28, eo28⟩ := Kd.S_slice HO170.out; subst eo28) | ((with_reducible refine gate_callee (f := 29) rfl ?_); refine goesL_ (some 31) rfl rfl Try.func29 (by kernel_rfl) rfl #[.slice Ao27 t165.length co27, .slice Ao28 t168.length co28] rfl (by (try simp only [List.map_toArray, List.map_cons, List.map_nil]); first | done | rfl | (simp only [List.length_drop, List.length_take]; rfl)) ?_; (with_reducible refine (impl_LeastDepth.calls _ _ t165 _ _ t168 t171 _ ?side1 ?side2 ?side3 ?side4 A12.out).mono ?_); (case side1 => repeat (first | exact (Kd.S_reads' HO167.out).2.2 | (with_reducible refine Kd.C_alloc ?_ _) | (with_reducible refine Kd.C_drewN ?_ _) | (with_reducible refine Kd.C_drew ?_))); (case side2 => exact (Kd.S_reads' HO167.out).2.1); (case side3 => repeat (first | exact (Kd.S_reads' HO170.out).2.2 | (with_reducible refine Kd.C_alloc ?_ _) | (with_reducible refine Kd.C_drewN ?_ _) | (with_reducible refine Kd.C_drew ?_))); (case side4 => exact (Kd.S_reads' HO170.out).2.1); rintro e w29 ⟨rfl, hb⟩; refine ⟨_, rfl, ?_⟩; have n0_ := Aside0.mk (Kd.S_below (by (with_reducible repeat (first | apply Kd.S_alloc | apply Kd.S_drewN | apply Kd.S_drew)); exact HO160.out) hb); have n1_ := Aside0.mk (Kd.S_below (by (with_reducible repeat (first | apply Kd.S_alloc | apply Kd.S_drewN | apply Kd.S_drew)); exact HO163.out) hb); have n2_ := Aside0.mk (Kd.S_below (by (with_reducible repeat (first | apply Kd.S_alloc | apply Kd.S_drewN | apply Kd.S_drew)); exact HO167.out) hb); have n3_ := Aside0.mk (Kd.S_below (by (with_reducible repeat (first | apply Kd.S_alloc | apply Kd.S_drewN | apply Kd.S_drew)); exact HO170.out) hb); have n4_ := Aside0.mk (below_step (by repeat (first | (with_reducible first | exact HB.out | apply below_alloc | apply pw_below_drewN | apply below_drew1) | exact HB.out)) hb); clear HO160; clear HO163; clear HO167; clear HO170; clear HB; have HO160 := n0_; have HO163 := n1_; have HO167 := n2_; have HO170 := n3_; have HB := n4_; clear n0_ n1_ n2_ n3_ n4_; (try clear hb); (try clear hb2); (try clear hk); (try clear hi)) | ((with_reducible refine gate_callee (f := 12) rfl ?_); refine goesL_ (some 37) rfl rfl Try.func12 (by kernel_rfl) rfl #[.slice A0 l0.length c0] rfl (by (try simp only [List.map_toArray, List.map_cons, List.map_nil]); first | done | rfl | (simp only [List.length_drop, List.length_take]; rfl)) ?_; (with_reducible refine (laws_toIntSS.calls k _ _ l0 t172 _ ?side1 ?side2 A14.out).mono ?_); (case side1 => repeat (first | exact (Kd.C_below HR0.out HB.out) | (with_reducible refine Kd.C_alloc ?_ _) | (with_reducible refine Kd.C_drewN ?_ _) | (with_reducible refine Kd.C_drew ?_))); (case side2 => exact HC0.out); rintro e w30 ⟨v173, rfl, ho0, hb⟩; refine ⟨_, rfl, ?_⟩; have n0_ := Aside0.mk (Kd.S_elder' (by (with_reducible repeat (first | apply Kd.S_alloc | apply Kd.S_drewN | apply Kd.S_drew)); exact HO160.out) (Kd.S_base ho0) hb); have n1_ := Aside0.mk (Kd.S_elder' (by (with_reducible repeat (first | apply Kd.S_alloc | apply Kd.S_drewN | apply Kd.S_drew)); exact HO163.out) (Kd.S_base ho0) hb); have n2_ := Aside0.mk (Kd.S_elder' (by (with_reducible repeat (first | apply Kd.S_alloc | apply Kd.S_drewN | apply Kd.S_drew)); exact HO167.out) (Kd.S_base ho0) hb); have n3_ := Aside0.mk (Kd.S_elder' (by (with_reducible repeat (first | apply Kd.S_alloc | apply Kd.S_drewN | apply Kd.S_drew)); exact HO170.out) (Kd.S_base ho0) hb); have n4_ := Aside0.mk (Kd.S_lower (Kd.S_new' (Kd.S_new' (Kd.S_new' (Kd.S_new' ho0 (Kd.S_lt (by (with_reducible repeat (first | apply Kd.S_alloc | apply Kd.S_drewN | apply Kd.S_drew)); exact HO160.out))) (Kd.S_lt (by (with_reducible repeat (first | apply Kd.S_alloc | apply Kd.S_drewN | apply Kd.S_drew)); exact HO163.out))) (Kd.S_lt (by (with_reducible repeat (first | apply Kd.S_alloc | apply Kd.S_drewN | apply Kd.S_drew)); exact HO167.out))) (Kd.S_lt (by (with_reducible repeat (first | apply Kd.S_alloc | apply Kd.S_drewN | apply Kd.S_drew)); exact HO170.out))) (below_size (by repeat (first | (with_reducible first | exact HB.out | apply below_alloc | apply pw_below_drewN | apply below_drew1) | exact HB.out)))); have n5_ := Aside0.mk (below_step (by repeat (first | (with_reducible first | exact HB.out | apply below_alloc | apply pw_below_drewN | apply below_drew1) | exact HB.out)) hb); clear HO160; clear HO163; clear HO167; clear HO170; clear HB; have HO160 := n0_; have HO163 := n1_; have HO167 := n2_; have HO170 := n3_; have HO174 := n4_; have HB := n5_; clear n0_ n1_ n2_ n3_ n4_ n5_; (try clear hb); (try clear hb2); (try clear hk); (try clear hi); (try clear ho0); obtain ⟨Ao31, co31, eo31⟩ := Kd.S_slice HO174.out; subst eo31) | ((with_reducible refine gate_callee (f := 15) rfl ?_); refine goesL_ (some 38) rfl rfl Try.func15 (by kernel_rfl) rfl #[.slice Ao27 t165.length co27, .slice Ao31 t172.length co31] rfl (by (try simp only [List.map_toArray, List.map_cons, List.map_nil]); first | done | rfl | (simp only [List.length_drop, List.length_take]; rfl)) ?_; (with_reducible refine (laws_eqIntSS.calls k _ _ t165 _ _ t172 true _ ?side1 ?side2 ?side3 ?side4 A15.out).mono ?_); (case side1 => repeat (first | exact (Kd.S_reads' HO167.out).2.2 | (with_reducible refine Kd.C_alloc ?_ _) | (with_reducible refine Kd.C_drewN ?_ _) | (with_reducible refine Kd.C_drew ?_))); (case side2 => exact (Kd.S_reads' HO167.out).2.1); (case side3 => repeat (first | exact (Kd.S_reads' HO174.out).2.2 | (with_reducible refine Kd.C_alloc ?_ _) | (with_reducible refine Kd.C_drewN ?_ _) | (with_reducible refine Kd.C_drew ?_))); (case side4 => exact (Kd.S_reads' HO174.out).2.1); rintro e w' ⟨rfl, ⟨nd, rfl⟩⟩; refine ⟨_, rfl, ?_⟩) | ((with_reducible refine gate_callee (f := 12) rfl ?_); refine goesL_ (some 42) rfl rfl Try.func12 (by kernel_rfl) rfl #[.slice A1 l1.length c1] rfl (by (try simp only [List.map_toArray, List.map_cons, List.map_nil]); first | done | rfl | (simp only [List.length_drop, List.length_take]; rfl)) ?_; (with_reducible refine (laws_toIntSS.calls k _ _ l1 t176 _ ?side1 ?side2 A17.out).mono ?_); (case side1 => repeat (first | exact (Kd.C_below HR1.out (by repeat (first | (with_reducible first | exact HB.out | apply below_alloc | apply pw_below_drewN | apply below_drew1) | exact HB.out))) | (with_reducible refine Kd.C_alloc ?_ _) | (with_reducible refine Kd.C_drewN ?_ _) | (with_reducible refine Kd.C_drew ?_))); (case side2 => exact HC1.out); rintro e w32 ⟨v177, rfl, ho0, hb⟩; refine ⟨_, rfl, ?_⟩; have n0_ := Aside0.mk (Kd.S_elder' (by (with_reducible repeat (first | apply Kd.S_alloc | apply Kd.S_drewN | apply Kd.S_drew)); exact HO160.out) (Kd.S_base ho0) hb); have n1_ := Aside0.mk (Kd.S_elder' (by (with_reducible repeat (first | apply Kd.S_alloc | apply Kd.S_drewN | apply Kd.S_drew)); exact HO163.out) (Kd.S_base ho0) hb); have n2_ := Aside0.mk (Kd.S_elder' (by (with_reducible repeat (first | apply Kd.S_alloc | apply Kd.S_drewN | apply Kd.S_drew)); exact HO167.out) (Kd.S_base ho0) hb); have n3_ := Aside0.mk (Kd.S_elder' (by (with_reducible repeat (first | apply Kd.S_alloc | apply Kd.S_drewN | apply Kd.S_drew)); exact HO170.out) (Kd.S_base ho0) hb); have n4_ := Aside0.mk (Kd.S_elder' (by (with_reducible repeat (first | apply Kd.S_alloc | apply Kd.S_drewN | apply Kd.S_drew)); exact HO174.out) (Kd.S_base ho0) hb); have n5_ := Aside0.mk (Kd.S_lower (Kd.S_new' (Kd.S_new' (Kd.S_new' (Kd.S_new' (Kd.S_new' ho0 (Kd.S_lt (by (with_reducible repeat (first | apply Kd.S_alloc | apply Kd.S_drewN | apply Kd.S_drew)); exact HO160.out))) (Kd.S_lt (by (with_reducible repeat (first | apply Kd.S_alloc | apply Kd.S_drewN | apply Kd.S_drew)); exact HO163.out))) (Kd.S_lt (by (with_reducible repeat (first | apply Kd.S_alloc | apply Kd.S_drewN | apply Kd.S_drew)); exact HO167.out))) (Kd.S_lt (by (with_reducible repeat (first | apply Kd.S_alloc | apply Kd.S_drewN | apply Kd.S_drew)); exact HO170.out))) (Kd.S_lt (by (with_reducible repeat (first | apply Kd.S_alloc | apply Kd.S_drewN | apply Kd.S_drew)); exact HO174.out))) (below_size (by repeat (first | (with_reducible first | exact HB.out | apply below_alloc | apply pw_below_drewN | apply below_drew1) | exact HB.out)))); have n6_ := Aside0.mk (below_step (by repeat (first | (with_reducible first | exact HB.out | apply below_alloc | apply pw_below_drewN | apply below_drew1) | exact HB.out)) hb); clear HO160; clear HO163; clear HO167; clear HO170; clear HO174; clear HB; have HO160 := n0_; have HO163 := n1_; have HO167 := n2_; have HO170 := n3_; have HO174 := n4_; have HO178 := n5_; have HB := n6_; clear n0_ n1_ n2_ n3_ n4_ n5_ n6_; (try clear hb); (try clear hb2); (try clear hk); (try clear hi); (try clear ho0); obtain ⟨Ao33, co33, eo33⟩ := Kd.S_slice HO178.out; subst eo33) | ((with_reducible refine gate_callee (f := 15) rfl ?_); refine goesL_ (some 43) rfl rfl Try.func15 (by kernel_rfl) rfl #[.slice Ao28 t168.length co28, .slice Ao33 t176.length co33] rfl (by (try simp only [List.map_toArray, List.map_cons, List.map_nil]); first | done | rfl | (simp only [List.length_drop, List.length_take]; rfl)) ?_; (with_reducible refine (laws_eqIntSS.calls k _ _ t168 _ _ t176 true _ ?side1 ?side2 ?side3 ?side4 A18.out).mono ?_); (case side1 => repeat (first | exact (Kd.S_reads' HO170.out).2.2 | (with_reducible refine Kd.C_alloc ?_ _) | (with_reducible refine Kd.C_drewN ?_ _) | (with_reducible refine Kd.C_drew ?_))); (case side2 => exact (Kd.S_reads' HO170.out).2.1); (case side3 => repeat (first | exact (Kd.S_reads' HO178.out).2.2 | (with_reducible refine Kd.C_alloc ?_ _) | (with_reducible refine Kd.C_drewN ?_ _) | (with_reducible refine Kd.C_drew ?_))); (case side4 => exact (Kd.S_reads' HO178.out).2.1); rintro e w' ⟨rfl, ⟨nd, rfl⟩⟩; refine ⟨_, rfl, ?_⟩))
            go_ret
            exact ⟨by first | rfl | (simp [errW_none, errW_some] <;> rfl) | (simp [*, errW_none, errW_some] <;> rfl), by repeat (first | (with_reducible first | exact HB.out | apply below_alloc | apply pw_below_drewN | apply below_drew1) | exact HB.out)⟩
          · replace c19 := Bool.eq_false_iff.mpr c19
            subst c19
            have H1 : (some false) = some r := by rw [if_neg (show ¬ (false = true) by decide)] at H; exact H
            clear H
            have H := H1
            clear H1
            obtain rfl := Option.some.inj H
            go_enter Try.func8, Try.ntmps8
            go_wp2_with (first | ((with_reducible refine gate_callee (f := 10) rfl ?_); refine goesL_ (some 12) rfl rfl Try.func10 (by kernel_rfl) rfl #[.slice A0 l0.length c0, .int .i64 1048576] rfl (by (try simp only [List.map_toArray, List.map_cons, List.map_nil]); first | done | rfl | (simp only [List.length_drop, List.length_take]; rfl)) ?_; (with_reducible refine (laws_szIntSS.calls k _ _ l0 1048576 t156 _ ?side1 ?side2 A3.out).mono ?_); (case side1 => repeat (first | exact HR0.out | (with_reducible refine Kd.C_alloc ?_ _) | (with_reducible refine Kd.C_drewN ?_ _) | (with_reducible refine Kd.C_drew ?_))); (case side2 => exact HC0.out); rintro e w' ⟨rfl, ⟨nd, rfl⟩⟩; refine ⟨_, rfl, ?_⟩) | ((with_reducible refine gate_callee (f := 10) rfl ?_); refine goesL_ (some 17) rfl rfl Try.func10 (by kernel_rfl) rfl #[.slice A1 l1.length c1, .int .i64 t156] rfl (by (try simp only [List.map_toArray, List.map_cons, List.map_nil]); first | done | rfl | (simp only [List.length_drop, List.length_take]; rfl)) ?_; (with_reducible refine (laws_szIntSS.calls k _ _ l1 t156 t157 _ ?side1 ?side2 A5.out).mono ?_); (case side1 => repeat (first | exact HR1.out | (with_reducible refine Kd.C_alloc ?_ _) | (with_reducible refine Kd.C_drewN ?_ _) | (with_reducible refine Kd.C_drew ?_))); (case side2 => exact HC1.out); rintro e w' ⟨rfl, ⟨nd, rfl⟩⟩; refine ⟨_, rfl, ?_⟩) | ((with_reducible refine gate_callee (f := 12) rfl ?_); refine goesL_ (some 21) rfl rfl Try.func12 (by kernel_rfl) rfl #[.slice A0 l0.length c0] rfl (by (try simp only [List.map_toArray, List.map_cons, List.map_nil]); first | done | rfl | (simp only [List.length_drop, List.length_take]; rfl)) ?_; (with_reducible refine (laws_toIntSS.calls k _ _ l0 t158 _ ?side1 ?side2 A7.out).mono ?_); (case side1 => repeat (first | exact HR0.out | (with_reducible refine Kd.C_alloc ?_ _) | (with_reducible refine Kd.C_drewN ?_ _) | (with_reducible refine Kd.C_drew ?_))); (case side2 => exact HC0.out); rintro e w34 ⟨v159, rfl, ho0, hb⟩; refine ⟨_, rfl, ?_⟩; have n0_ := Aside0.mk (Kd.S_lower ho0 (below_size (by repeat (first | (with_reducible first | exact HB.out | apply below_alloc | apply pw_below_drewN | apply below_drew1) | exact HB.out)))); have n1_ := Aside0.mk (below_step (by repeat (first | (with_reducible first | exact HB.out | apply below_alloc | apply pw_below_drewN | apply below_drew1) | exact HB.out)) hb); clear HB; have HO160 := n0_; have HB := n1_; clear n0_ n1_; (try clear hb); (try clear hb2); (try clear hk); (try clear hi); (try clear ho0)) | ((with_reducible refine gate_callee (f := 12) rfl ?_); refine goesL_ (some 23) rfl rfl Try.func12 (by kernel_rfl) rfl #[.slice A1 l1.length c1] rfl (by (try simp only [List.map_toArray, List.map_cons, List.map_nil]); first | done | rfl | (simp only [List.length_drop, List.length_take]; rfl)) ?_; (with_reducible refine (laws_toIntSS.calls k _ _ l1 t161 _ ?side1 ?side2 A8.out).mono ?_); (case side1 => repeat (first | exact (Kd.C_below HR1.out HB.out) | (with_reducible refine Kd.C_alloc ?_ _) | (with_reducible refine Kd.C_drewN ?_ _) | (with_reducible refine Kd.C_drew ?_))); (case side2 => exact HC1.out); rintro e w35 ⟨v162, rfl, ho0, hb⟩; refine ⟨_, rfl, ?_⟩; have n0_ := Aside0.mk (Kd.S_elder' (by (with_reducible repeat (first | apply Kd.S_alloc | apply Kd.S_drewN | apply Kd.S_drew)); exact HO160.out) (Kd.S_base ho0) hb); have n1_ := Aside0.mk (Kd.S_lower (Kd.S_new' ho0 (Kd.S_lt (by (with_reducible repeat (first | apply Kd.S_alloc | apply Kd.S_drewN | apply Kd.S_drew)); exact HO160.out))) (below_size (by repeat (first | (with_reducible first | exact HB.out | apply below_alloc | apply pw_below_drewN | apply below_drew1) | exact HB.out)))); have n2_ := Aside0.mk (below_step (by repeat (first | (with_reducible first | exact HB.out | apply below_alloc | apply pw_below_drewN | apply below_drew1) | exact HB.out)) hb); clear HO160; clear HB; have HO160 := n0_; have HO163 := n1_; have HB := n2_; clear n0_ n1_ n2_; (try clear hb); (try clear hb2); (try clear hk); (try clear hi); (try clear ho0); obtain ⟨Ao36, co36, eo36⟩ := Kd.S_slice HO160.out; subst eo36; obtain ⟨Ao37, co37, eo37⟩ := Kd.S_slice HO163.out; subst eo37) | ((with_reducible refine gate_callee (f := 28) rfl ?_); refine goesL_ (some 24) rfl rfl Try.func28 (by kernel_rfl) rfl #[.slice Ao36 t158.length co36, .slice Ao37 t161.length co37] rfl (by (try simp only [List.map_toArray, List.map_cons, List.map_nil]); first | done | rfl | (simp only [List.length_drop, List.length_take]; rfl)) ?_; (with_reducible refine (spec_LeastDepth.calls k _ _ t158 _ _ t161 t164 _ ?side1 ?side2 ?side3 ?side4 A9.out).mono ?_); (case side1 => repeat (first | exact (Kd.S_reads' HO160.out).2.2 | (with_reducible refine Kd.C_alloc ?_ _) | (with_reducible refine Kd.C_drewN ?_ _) | (with_reducible refine Kd.C_drew ?_))); (case side2 => exact (Kd.S_reads' HO160.out).2.1); (case side3 => repeat (first | exact (Kd.S_reads' HO163.out).2.2 | (with_reducible refine Kd.C_alloc ?_ _) | (with_reducible refine Kd.C_drewN ?_ _) | (with_reducible refine Kd.C_drew ?_))); (case side4 => exact (Kd.S_reads' HO163.out).2.1); rintro e w38 ⟨rfl, hb⟩; refine ⟨_, rfl, ?_⟩; have n0_ := Aside0.mk (Kd.S_below (by (with_reducible repeat (first | apply Kd.S_alloc | apply Kd.S_drewN | apply Kd.S_drew)); exact HO160.out) hb); have n1_ := Aside0.mk (Kd.S_below (by (with_reducible repeat (first | apply Kd.S_alloc | apply Kd.S_drewN | apply Kd.S_drew)); exact HO163.out) hb); have n2_ := Aside0.mk (below_step (by repeat (first | (with_reducible first | exact HB.out | apply below_alloc | apply pw_below_drewN | apply below_drew1) | exact HB.out)) hb); clear HO160; clear HO163; clear HB; have HO160 := n0_; have HO163 := n1_; have HB := n2_; clear n0_ n1_ n2_; (try clear hb); (try clear hb2); (try clear hk); (try clear hi)) | ((with_reducible refine gate_callee (f := 12) rfl ?_); refine goesL_ (some 26) rfl rfl Try.func12 (by kernel_rfl) rfl #[.slice A0 l0.length c0] rfl (by (try simp only [List.map_toArray, List.map_cons, List.map_nil]); first | done | rfl | (simp only [List.length_drop, List.length_take]; rfl)) ?_; (with_reducible refine (laws_toIntSS.calls k _ _ l0 t165 _ ?side1 ?side2 A10.out).mono ?_); (case side1 => repeat (first | exact (Kd.C_below HR0.out HB.out) | (with_reducible refine Kd.C_alloc ?_ _) | (with_reducible refine Kd.C_drewN ?_ _) | (with_reducible refine Kd.C_drew ?_))); (case side2 => exact HC0.out); rintro e w39 ⟨v166, rfl, ho0, hb⟩; refine ⟨_, rfl, ?_⟩; have n0_ := Aside0.mk (Kd.S_elder' (by (with_reducible repeat (first | apply Kd.S_alloc | apply Kd.S_drewN | apply Kd.S_drew)); exact HO160.out) (Kd.S_base ho0) hb); have n1_ := Aside0.mk (Kd.S_elder' (by (with_reducible repeat (first | apply Kd.S_alloc | apply Kd.S_drewN | apply Kd.S_drew)); exact HO163.out) (Kd.S_base ho0) hb); have n2_ := Aside0.mk (Kd.S_lower (Kd.S_new' (Kd.S_new' ho0 (Kd.S_lt (by (with_reducible repeat (first | apply Kd.S_alloc | apply Kd.S_drewN | apply Kd.S_drew)); exact HO160.out))) (Kd.S_lt (by (with_reducible repeat (first | apply Kd.S_alloc | apply Kd.S_drewN | apply Kd.S_drew)); exact HO163.out))) (below_size (by repeat (first | (with_reducible first | exact HB.out | apply below_alloc | apply pw_below_drewN | apply below_drew1) | exact HB.out)))); have n3_ := Aside0.mk (below_step (by repeat (first | (with_reducible first | exact HB.out | apply below_alloc | apply pw_below_drewN | apply below_drew1) | exact HB.out)) hb); clear HO160; clear HO163; clear HB; have HO160 := n0_; have HO163 := n1_; have HO167 := n2_; have HB := n3_; clear n0_ n1_ n2_ n3_; (try clear hb); (try clear hb2); (try clear hk); (try clear hi); (try clear ho0)) | ((with_reducible refine gate_callee (f := 12) rfl ?_); refine goesL_ (some 28) rfl rfl Try.func12 (by kernel_rfl) rfl #[.slice A1 l1.length c1] rfl (by (try simp only [List.map_toArray, List.map_cons, List.map_nil]); first | done | rfl | (simp only [List.length_drop, List.length_take]; rfl)) ?_; (with_reducible refine (laws_toIntSS.calls k _ _ l1 t168 _ ?side1 ?side2 A11.out).mono ?_); (case side1 => repeat (first | exact (Kd.C_below HR1.out HB.out) | (with_reducible refine Kd.C_alloc ?_ _) | (with_reducible refine Kd.C_drewN ?_ _) | (with_reducible refine Kd.C_drew ?_))); (case side2 => exact HC1.out); rintro e w40 ⟨v169, rfl, ho0, hb⟩; refine ⟨_, rfl, ?_⟩; have n0_ := Aside0.mk (Kd.S_elder' (by (with_reducible repeat (first | apply Kd.S_alloc | apply Kd.S_drewN | apply Kd.S_drew)); exact HO160.out) (Kd.S_base ho0) hb); have n1_ := Aside0.mk (Kd.S_elder' (by (with_reducible repeat (first | apply Kd.S_alloc | apply Kd.S_drewN | apply Kd.S_drew)); exact HO163.out) (Kd.S_base ho0) hb); have n2_ := Aside0.mk (Kd.S_elder' (by (with_reducible repeat (first | apply Kd.S_alloc | apply Kd.S_drewN | apply Kd.S_drew)); exact HO167.out) (Kd.S_base ho0) hb); have n3_ := Aside0.mk (Kd.S_lower (Kd.S_new' (Kd.S_new' (Kd.S_new' ho0 (Kd.S_lt (by (with_reducible repeat (first | apply Kd.S_alloc | apply Kd.S_drewN | apply Kd.S_drew)); exact HO160.out))) (Kd.S_lt (by (with_reducible repeat (first | apply Kd.S_alloc | apply Kd.S_drewN | apply Kd.S_drew)); exact HO163.out))) (Kd.S_lt (by (with_reducible repeat (first | apply Kd.S_alloc | apply Kd.S_drewN | apply Kd.S_drew)); exact HO167.out))) (below_size (by repeat (first | (with_reducible first | exact HB.out | apply below_alloc | apply pw_below_drewN | apply below_drew1) | exact HB.out)))); have n4_ := Aside0.mk (below_step (by repeat (first | (with_reducible first | exact HB.out | apply below_alloc | apply pw_below_drewN | apply below_drew1) | exact HB.out)) hb); clear HO160; clear HO163; clear HO167; clear HB; have HO160 := n0_; have HO163 := n1_; have HO167 := n2_; have HO170 := n3_; have HB := n4_; clear n0_ n1_ n2_ n3_ n4_; (try clear hb); (try clear hb2); (try clear hk); (try clear hi); (try clear ho0); obtain ⟨Ao41, co41, eo41⟩ := Kd.S_slice HO167.out; subst eo41; obtain ⟨Ao42, co42, eo42⟩ := Kd.S_slice HO170.out; subst eo42) | ((with_reducible refine gate_callee (f := 29) rfl ?_); refine goesL_ (some 31) rfl rfl Try.func29 (by kernel_rfl) rfl #[.slice Ao41 t165.length co41, .slice Ao42 t168.length co42] rfl (by (try simp only [List.map_toArray, List.map_cons, List.map_nil]); first | done | rfl | (simp only [List.length_drop, List.length_take]; rfl)) ?_; (with_reducible refine (impl_LeastDepth.calls _ _ t165 _ _ t168 t171 _ ?side1 ?side2 ?side3 ?side4 A12.out).mono ?_); (case side1 => repeat (first | exact (Kd.S_reads' HO167.out).2.2 | (with_reducible refine Kd.C_alloc ?_ _) | (with_reducible refine Kd.C_drewN ?_ _) | (with_reducible refine Kd.C_drew ?_))); (case side2 => exact (Kd.S_reads' HO167.out).2.1); (case side3 => repeat (first | exact (Kd.S_reads' HO170.out).2.2 | (with_reducible refine Kd.C_alloc ?_ _) | (with_reducible refine Kd.C_drewN ?_ _) | (with_reducible refine Kd.C_drew ?_))); (case side4 => exact (Kd.S_reads' HO170.out).2.1); rintro e w43 ⟨rfl, hb⟩; refine ⟨_, rfl, ?_⟩; have n0_ := Aside0.mk (Kd.S_below (by (with_reducible repeat (first | apply Kd.S_alloc | apply Kd.S_drewN | apply Kd.S_drew)); exact HO160.out) hb); have n1_ := Aside0.mk (Kd.S_below (by (with_reducible repeat (first | apply Kd.S_alloc | apply Kd.S_drewN | apply Kd.S_drew)); exact HO163.out) hb); have n2_ := Aside0.mk (Kd.S_below (by (with_reducible repeat (first | apply Kd.S_alloc | apply Kd.S_drewN | apply Kd.S_drew)); exact HO167.out) hb); have n3_ := Aside0.mk (Kd.S_below (by (with_reducible repeat (first | apply Kd.S_alloc | apply Kd.S_drewN | apply Kd.S_drew)); exact HO170.out) hb); have n4_ := Aside0.mk (below_step (by repeat (first | (with_reducible first | exact HB.out | apply below_alloc | apply pw_below_drewN | apply below_drew1) | exact HB.out)) hb); clear HO160; clear HO163; clear HO167; clear HO170; clear HB; have HO160 := n0_; have HO163 := n1_; have HO167 := n2_; have HO170 := n3_; have HB := n4_; clear n0_ n1_ n2_ n3_ n4_; (try clear hb); (try clear hb2); (try clear hk); (try clear hi)) | ((with_reducible refine gate_callee (f := 12) rfl ?_); refine goesL_ (some 37) rfl rfl Try.func12 (by kernel_rfl) rfl #[.slice A0 l0.length c0] rfl (by (try simp only [List.map_toArray, List.map_cons, List.map_nil]); first | done | rfl | (simp only [List.length_drop, List.length_take]; rfl)) ?_; (with_reducible refine (laws_toIntSS.calls k _ _ l0 t172 _ ?side1 ?side2 A14.out).mono ?_); (case side1 => repeat (first | exact (Kd.C_below HR0.out HB.out) | (with_reducible refine Kd.C_alloc ?_ _) | (with_reducible refine Kd.C_drewN ?_ _) | (with_reducible refine Kd.C_drew ?_))); (case side2 => exact HC0.out); rintro e w44 ⟨v173, rfl, ho0, hb⟩; refine ⟨_, rfl, ?_⟩; have n0_ := Aside0.mk (Kd.S_elder' (by (with_reducible repeat (first | apply Kd.S_alloc | apply Kd.S_drewN | apply Kd.S_drew)); exact HO160.out) (Kd.S_base ho0) hb); have n1_ := Aside0.mk (Kd.S_elder' (by (with_reducible repeat (first | apply Kd.S_alloc | apply Kd.S_drewN | apply Kd.S_drew)); exact HO163.out) (Kd.S_base ho0) hb); have n2_ := Aside0.mk (Kd.S_elder' (by (with_reducible repeat (first | apply Kd.S_alloc | apply Kd.S_drewN | apply Kd.S_drew)); exact HO167.out) (Kd.S_base ho0) hb); have n3_ := Aside0.mk (Kd.S_elder' (by (with_reducible repeat (first | apply Kd.S_alloc | apply Kd.S_drewN | apply Kd.S_drew)); exact HO170.out) (Kd.S_base ho0) hb); have n4_ := Aside0.mk (Kd.S_lower (Kd.S_new' (Kd.S_new' (Kd.S_new' (Kd.S_new' ho0 (Kd.S_lt (by (with_reducible repeat (first | apply Kd.S_alloc | apply Kd.S_drewN | apply Kd.S_drew)); exact HO160.out))) (Kd.S_lt (by (with_reducible repeat (first | apply Kd.S_alloc | apply Kd.S_drewN | apply Kd.S_drew)); exact HO163.out))) (Kd.S_lt (by (with_reducible repeat (first | apply Kd.S_alloc | apply Kd.S_drewN | apply Kd.S_drew)); exact HO167.out))) (Kd.S_lt (by (with_reducible repeat (first | apply Kd.S_alloc | apply Kd.S_drewN | apply Kd.S_drew)); exact HO170.out))) (below_size (by repeat (first | (with_reducible first | exact HB.out | apply below_alloc | apply pw_below_drewN | apply below_drew1) | exact HB.out)))); have n5_ := Aside0.mk (below_step (by repeat (first | (with_reducible first | exact HB.out | apply below_alloc | apply pw_below_drewN | apply below_drew1) | exact HB.out)) hb); clear HO160; clear HO163; clear HO167; clear HO170; clear HB; have HO160 := n0_; have HO163 := n1_; have HO167 := n2_; have HO170 := n3_; have HO174 := n4_; have HB := n5_; clear n0_ n1_ n2_ n3_ n4_ n5_; (try clear hb); (try clear hb2); (try clear hk); (try clear hi); (try clear ho0); obtain ⟨Ao45, co45, eo45⟩ := Kd.S_slice HO174.out; subst eo45) | ((with_reducible refine gate_callee (f := 15) rfl ?_); refine goesL_ (some 38) rfl rfl Try.func15 (by kernel_rfl) rfl #[.slice Ao41 t165.length co41, .slice Ao45 t172.length co45] rfl (by (try simp only [List.map_toArray, List.map_cons, List.map_nil]); first | done | rfl | (simp only [List.length_drop, List.length_take]; rfl)) ?_; (with_reducible refine (laws_eqIntSS.calls k _ _ t165 _ _ t172 true _ ?side1 ?side2 ?side3 ?side4 A15.out).mono ?_); (case side1 => repeat (first | exact (Kd.S_reads' HO167.out).2.2 | (with_reducible refine Kd.C_alloc ?_ _) | (with_reducible refine Kd.C_drewN ?_ _) | (with_reducible refine Kd.C_drew ?_))); (case side2 => exact (Kd.S_reads' HO167.out).2.1); (case side3 => repeat (first | exact (Kd.S_reads' HO174.out).2.2 | (with_reducible refine Kd.C_alloc ?_ _) | (with_reducible refine Kd.C_drewN ?_ _) | (with_reducible refine Kd.C_drew ?_))); (case side4 => exact (Kd.S_reads' HO174.out).2.1); rintro e w' ⟨rfl, ⟨nd, rfl⟩⟩; refine ⟨_, rfl, ?_⟩) | ((with_reducible refine gate_callee (f := 12) rfl ?_); refine goesL_ (some 42) rfl rfl Try.func12 (by kernel_rfl) rfl #[.slice A1 l1.length c1] rfl (by (try simp only [List.map_toArray, List.map_cons, List.map_nil]); first | done | rfl | (simp only [List.length_drop, List.length_take]; rfl)) ?_; (with_reducible refine (laws_toIntSS.calls k _ _ l1 t176 _ ?side1 ?side2 A17.out).mono ?_); (case side1 => repeat (first | exact (Kd.C_below HR1.out (by repeat (first | (with_reducible first | exact HB.out | apply below_alloc | apply pw_below_drewN | apply below_drew1) | exact HB.out))) | (with_reducible refine Kd.C_alloc ?_ _) | (with_reducible refine Kd.C_drewN ?_ _) | (with_reducible refine Kd.C_drew ?_))); (case side2 => exact HC1.out); rintro e w46 ⟨v177, rfl, ho0, hb⟩; refine ⟨_, rfl, ?_⟩; have n0_ := Aside0.mk (Kd.S_elder' (by (with_reducible repeat (first | apply Kd.S_alloc | apply Kd.S_drewN | apply Kd.S_drew)); exact HO160.out) (Kd.S_base ho0) hb); have n1_ := Aside0.mk (Kd.S_elder' (by (with_reducible repeat (first | apply Kd.S_alloc | apply Kd.S_drewN | apply Kd.S_drew)); exact HO163.out) (Kd.S_base ho0) hb); have n2_ := Aside0.mk (Kd.S_elder' (by (with_reducible repeat (first | apply Kd.S_alloc | apply Kd.S_drewN | apply Kd.S_drew)); exact HO167.out) (Kd.S_base ho0) hb); have n3_ := Aside0.mk (Kd.S_elder' (by (with_reducible repeat (first | apply Kd.S_alloc | apply Kd.S_drewN | apply Kd.S_drew)); exact HO170.out) (Kd.S_base ho0) hb); have n4_ := Aside0.mk (Kd.S_elder' (by (with_reducible repeat (first | apply Kd.S_alloc | apply Kd.S_drewN | apply Kd.S_drew)); exact HO174.out) (Kd.S_base ho0) hb); have n5_ := Aside0.mk (Kd.S_lower (Kd.S_new' (Kd.S_new' (Kd.S_new' (Kd.S_new' (Kd.S_new' ho0 (Kd.S_lt (by (with_reducible repeat (first | apply Kd.S_alloc | apply Kd.S_drewN | apply Kd.S_drew)); exact HO160.out))) (Kd.S_lt (by (with_reducible repeat (first | apply Kd.S_alloc | apply Kd.S_drewN | apply Kd.S_drew)); exact HO163.out))) (Kd.S_lt (by (with_reducible repeat (first | apply Kd.S_alloc | apply Kd.S_drewN | apply Kd.S_drew)); exact HO167.out))) (Kd.S_lt (by (with_reducible repeat (first | apply Kd.S_alloc | apply Kd.S_drewN | apply Kd.S_drew)); exact HO170.out))) (Kd.S_lt (by (with_reducible repeat (first | apply Kd.S_alloc | apply Kd.S_drewN | apply Kd.S_drew)); exact HO174.out))) (below_size (by repeat (first | (with_reducible first | exact HB.out | apply below_alloc | apply pw_below_drewN | apply below_drew1) | exact HB.out)))); have n6_ := Aside0.mk (below_step (by repeat (first | (with_reducible first | exact HB.out | apply below_alloc | apply pw_below_drewN | apply below_drew1) | exact HB.out)) hb); clear HO160; clear HO163; clear HO167; clear HO170; clear HO174; clear HB; have HO160 := n0_; have HO163 := n1_; have HO167 := n2_; have HO170 := n3_; have HO174 := n4_; have HO178 := n5_; have HB := n6_; clear n0_ n1_ n2_ n3_ n4_ n5_ n6_; (try clear hb); (try clear hb2); (try clear hk); (try clear hi); (try clear ho0); obtain ⟨Ao47, co47, eo47⟩ := Kd.S_slice HO178.out; subst eo47) | ((with_reducible refine gate_callee (f := 15) rfl ?_); refine goesL_ (some 43) rfl rfl Try.func15 (by kernel_rfl) rfl #[.slice Ao42 t168.length co42, .slice Ao47 t176.length co47] rfl (by (try simp only [List.map_toArray, List.map_cons, List.map_nil]); first | done | rfl | (simp only [List.length_drop, List.length_take]; rfl)) ?_; (with_reducible refine (laws_eqIntSS.calls k _ _ t168 _ _ t176 false _ ?side1 ?side2 ?side3 ?side4 A18.out).mono ?_); (case side1 => repeat (first | exact (Kd.S_reads' HO170.out).2.2 | (with_reducible refine Kd.C_alloc ?_ _) | (with_reducible refine Kd.C_drewN ?_ _) | (with_reducible refine Kd.C_drew ?_))); (case side2 => exact (Kd.S_reads' HO170.out).2.1); (case side3 => repeat (first | exact (Kd.S_reads' HO178.out).2.2 | (with_reducible refine Kd.C_alloc ?_ _) | (with_reducible refine Kd.C_drewN ?_ _) | (with_reducible refine Kd.C_drew ?_))); (case side4 => exact (Kd.S_reads' HO178.out).2.1); rintro e w' ⟨rfl, ⟨nd, rfl⟩⟩; refine ⟨_, rfl, ?_⟩))
            go_ret
            exact ⟨by first | rfl | (simp [errW_none, errW_some] <;> rfl) | (simp [*, errW_none, errW_some] <;> rfl), by repeat (first | (with_reducible first | exact HB.out | apply below_alloc | apply pw_below_drewN | apply below_drew1) | exact HB.out)⟩
        · replace c16 := Bool.eq_false_iff.mpr c16
          subst c16
          have H1 : (some false) = some r := by rw [if_neg (show ¬ (false = true) by decide)] at H; exact H
          clear H
          have H := H1
          clear H1
          obtain rfl := Option.some.inj H
          go_enter Try.func8, Try.ntmps8
          go_wp2_with (first | ((with_reducible refine gate_callee (f := 10) rfl ?_); refine goesL_ (some 12) rfl rfl Try.func10 (by kernel_rfl) rfl #[.slice A0 l0.length c0, .int .i64 1048576] rfl (by (try simp only [List.map_toArray, List.map_cons, List.map_nil]); first | done | rfl | (simp only [List.length_drop, List.length_take]; rfl)) ?_; (with_reducible refine (laws_szIntSS.calls k _ _ l0 1048576 t156 _ ?side1 ?side2 A3.out).mono ?_); (case side1 => repeat (first | exact HR0.out | (with_reducible refine Kd.C_alloc ?_ _) | (with_reducible refine Kd.C_drewN ?_ _) | (with_reducible refine Kd.C_drew ?_))); (case side2 => exact HC0.out); rintro e w' ⟨rfl, ⟨nd, rfl⟩⟩; refine ⟨_, rfl, ?_⟩) | ((with_reducible refine gate_callee (f := 10) rfl ?_); refine goesL_ (some 17) rfl rfl Try.func10 (by kernel_rfl) rfl #[.slice A1 l1.length c1, .int .i64 t156] rfl (by (try simp only [List.map_toArray, List.map_cons, List.map_nil]); first | done | rfl | (simp only [List.length_drop, List.length_take]; rfl)) ?_; (with_reducible refine (laws_szIntSS.calls k _ _ l1 t156 t157 _ ?side1 ?side2 A5.out).mono ?_); (case side1 => repeat (first | exact HR1.out | (with_reducible refine Kd.C_alloc ?_ _) | (with_reducible refine Kd.C_drewN ?_ _) | (with_reducible refine Kd.C_drew ?_))); (case side2 => exact HC1.out); rintro e w' ⟨rfl, ⟨nd, rfl⟩⟩; refine ⟨_, rfl, ?_⟩) | ((with_reducible refine gate_callee (f := 12) rfl ?_); refine goesL_ (some 21) rfl rfl Try.func12 (by kernel_rfl) rfl #[.slice A0 l0.length c0] rfl (by (try simp only [List.map_toArray, List.map_cons, List.map_nil]); first | done | rfl | (simp only [List.length_drop, List.length_take]; rfl)) ?_; (with_reducible refine (laws_toIntSS.calls k _ _ l0 t158 _ ?side1 ?side2 A7.out).mono ?_); (case side1 => repeat (first | exact HR0.out | (with_reducible refine Kd.C_alloc ?_ _) | (with_reducible refine Kd.C_drewN ?_ _) | (with_reducible refine Kd.C_drew ?_))); (case side2 => exact HC0.out); rintro e w48 ⟨v159, rfl, ho0, hb⟩; refine ⟨_, rfl, ?_⟩; have n0_ := Aside0.mk (Kd.S_lower ho0 (below_size (by repeat (first | (with_reducible first | exact HB.out | apply below_alloc | apply pw_below_drewN | apply below_drew1) | exact HB.out)))); have n1_ := Aside0.mk (below_step (by repeat (first | (with_reducible first | exact HB.out | apply below_alloc | apply pw_below_drewN | apply below_drew1) | exact HB.out)) hb); clear HB; have HO160 := n0_; have HB := n1_; clear n0_ n1_; (try clear hb); (try clear hb2); (try clear hk); (try clear hi); (try clear ho0)) | ((with_reducible refine gate_callee (f := 12) rfl ?_); refine goesL_ (some 23) rfl rfl Try.func12 (by kernel_rfl) rfl #[.slice A1 l1.length c1] rfl (by (try simp only [List.map_toArray, List.map_cons, List.map_nil]); first | done | rfl | (simp only [List.length_drop, List.length_take]; rfl)) ?_; (with_reducible refine (laws_toIntSS.calls k _ _ l1 t161 _ ?side1 ?side2 A8.out).mono ?_); (case side1 => repeat (first | exact (Kd.C_below HR1.out HB.out) | (with_reducible refine Kd.C_alloc ?_ _) | (with_reducible refine Kd.C_drewN ?_ _) | (with_reducible refine Kd.C_drew ?_))); (case side2 => exact HC1.out); rintro e w49 ⟨v162, rfl, ho0, hb⟩; refine ⟨_, rfl, ?_⟩; have n0_ := Aside0.mk (Kd.S_elder' (by (with_reducible repeat (first | apply Kd.S_alloc | apply Kd.S_drewN | apply Kd.S_drew)); exact HO160.out) (Kd.S_base ho0) hb); have n1_ := Aside0.mk (Kd.S_lower (Kd.S_new' ho0 (Kd.S_lt (by (with_reducible repeat (first | apply Kd.S_alloc | apply Kd.S_drewN | apply Kd.S_drew)); exact HO160.out))) (below_size (by repeat (first | (with_reducible first | exact HB.out | apply below_alloc | apply pw_below_drewN | apply below_drew1) | exact HB.out)))); have n2_ := Aside0.mk (below_step (by repeat (first | (with_reducible first | exact HB.out | apply below_alloc | apply pw_below_drewN | apply below_drew1) | exact HB.out)) hb); clear HO160; clear HB; have HO160 := n0_; have HO163 := n1_; have HB := n2_; clear n0_ n1_ n2_; (try clear hb); (try clear hb2); (try clear hk); (try clear hi); (try clear ho0); obtain ⟨Ao50, co50, eo50⟩ := Kd.S_slice HO160.out; subst eo50; obtain ⟨Ao51, co51, eo51⟩ := Kd.S_slice HO163.out; subst eo51) | ((with_reducible refine gate_callee (f := 28) rfl ?_); refine goesL_ (some 24) rfl rfl Try.func28 (by kernel_rfl) rfl #[.slice Ao50 t158.length co50, .slice Ao51 t161.length co51] rfl (by (try simp only [List.map_toArray, List.map_cons, List.map_nil]); first | done | rfl | (simp only [List.length_drop, List.length_take]; rfl)) ?_; (with_reducible refine (spec_LeastDepth.calls k _ _ t158 _ _ t161 t164 _ ?side1 ?side2 ?side3 ?side4 A9.out).mono ?_); (case side1 => repeat (first | exact (Kd.S_reads' HO160.out).2.2 | (with_reducible refine Kd.C_alloc ?_ _) | (with_reducible refine Kd.C_drewN ?_ _) | (with_reducible refine Kd.C_drew ?_))); (case side2 => exact (Kd.S_reads' HO160.out).2.1); (case side3 => repeat (first | exact (Kd.S_reads' HO163.out).2.2 | (with_reducible refine Kd.C_alloc ?_ _) | (with_reducible refine Kd.C_drewN ?_ _) | (with_reducible refine Kd.C_drew ?_))); (case side4 => exact (Kd.S_reads' HO163.out).2.1); rintro e w52 ⟨rfl, hb⟩; refine ⟨_, rfl, ?_⟩; have n0_ := Aside0.mk (Kd.S_below (by (with_reducible repeat (first | apply Kd.S_alloc | apply Kd.S_drewN | apply Kd.S_drew)); exact HO160.out) hb); have n1_ := Aside0.mk (Kd.S_below (by (with_reducible repeat (first | apply Kd.S_alloc | apply Kd.S_drewN | apply Kd.S_drew)); exact HO163.out) hb); have n2_ := Aside0.mk (below_step (by repeat (first | (with_reducible first | exact HB.out | apply below_alloc | apply pw_below_drewN | apply below_drew1) | exact HB.out)) hb); clear HO160; clear HO163; clear HB; have HO160 := n0_; have HO163 := n1_; have HB := n2_; clear n0_ n1_ n2_; (try clear hb); (try clear hb2); (try clear hk); (try clear hi)) | ((with_reducible refine gate_callee (f := 12) rfl ?_); refine goesL_ (some 26) rfl rfl Try.func12 (by kernel_rfl) rfl #[.slice A0 l0.length c0] rfl (by (try simp only [List.map_toArray, List.map_cons, List.map_nil]); first | done | rfl | (simp only [List.length_drop, List.length_take]; rfl)) ?_; (with_reducible refine (laws_toIntSS.calls k _ _ l0 t165 _ ?side1 ?side2 A10.out).mono ?_); (case side1 => repeat (first | exact (Kd.C_below HR0.out HB.out) | (with_reducible refine Kd.C_alloc ?_ _) | (with_reducible refine Kd.C_drewN ?_ _) | (with_reducible refine Kd.C_drew ?_))); (case side2 => exact HC0.out); rintro e w53 ⟨v166, rfl, ho0, hb⟩; refine ⟨_, rfl, ?_⟩; have n0_ := Aside0.mk (Kd.S_elder' (by (with_reducible repeat (first | apply Kd.S_alloc | apply Kd.S_drewN | apply Kd.S_drew)); exact HO160.out) (Kd.S_base ho0) hb); have n1_ := Aside0.mk (Kd.S_elder' (by (with_reducible repeat (first | apply Kd.S_alloc | apply Kd.S_drewN | apply Kd.S_drew)); exact HO163.out) (Kd.S_base ho0) hb); have n2_ := Aside0.mk (Kd.S_lower (Kd.S_new' (Kd.S_new' ho0 (Kd.S_lt (by (with_reducible repeat (first | apply Kd.S_alloc | apply Kd.S_drewN | apply Kd.S_drew)); exact HO160.out))) (Kd.S_lt (by (with_reducible repeat (first | apply Kd.S_alloc | apply Kd.S_drewN | apply Kd.S_drew)); exact HO163.out))) (below_size (by repeat (first | (with_reducible first | exact HB.out | apply below_alloc | apply pw_below_drewN | apply below_drew1) | exact HB.out)))); have n3_ := Aside0.mk (below_step (by repeat (first | (with_reducible first | exact HB.out | apply below_alloc | apply pw_below_drewN | apply below_drew1) | exact HB.out)) hb); clear HO160; clear HO163; clear HB; have HO160 := n0_; have HO163 := n1_; have HO167 := n2_; have HB := n3_; clear n0_ n1_ n2_ n3_; (try clear hb); (try clear hb2); (try clear hk); (try clear hi); (try clear ho0)) | ((with_reducible refine gate_callee (f := 12) rfl ?_); refine goesL_ (some 28) rfl rfl Try.func12 (by kernel_rfl) rfl #[.slice A1 l1.length c1] rfl (by (try simp only [List.map_toArray, List.map_cons, List.map_nil]); first | done | rfl | (simp only [List.length_drop, List.length_take]; rfl)) ?_; (with_reducible refine (laws_toIntSS.calls k _ _ l1 t168 _ ?side1 ?side2 A11.out).mono ?_); (case side1 => repeat (first | exact (Kd.C_below HR1.out HB.out) | (with_reducible refine Kd.C_alloc ?_ _) | (with_reducible refine Kd.C_drewN ?_ _) | (with_reducible refine Kd.C_drew ?_))); (case side2 => exact HC1.out); rintro e w54 ⟨v169, rfl, ho0, hb⟩; refine ⟨_, rfl, ?_⟩; have n0_ := Aside0.mk (Kd.S_elder' (by (with_reducible repeat (first | apply Kd.S_alloc | apply Kd.S_drewN | apply Kd.S_drew)); exact HO160.out) (Kd.S_base ho0) hb); have n1_ := Aside0.mk (Kd.S_elder' (by (with_reducible repeat (first | apply Kd.S_alloc | apply Kd.S_drewN | apply Kd.S_drew)); exact HO163.out) (Kd.S_base ho0) hb); have n2_ := Aside0.mk (Kd.S_elder' (by (with_reducible repeat (first | apply Kd.S_alloc | apply Kd.S_drewN | apply Kd.S_drew)); exact HO167.out) (Kd.S_base ho0) hb); have n3_ := Aside0.mk (Kd.S_lower (Kd.S_new' (Kd.S_new' (Kd.S_new' ho0 (Kd.S_lt (by (with_reducible repeat (first | apply Kd.S_alloc | apply Kd.S_drewN | apply Kd.S_drew)); exact HO160.out))) (Kd.S_lt (by (with_reducible repeat (first | apply Kd.S_alloc | apply Kd.S_drewN | apply Kd.S_drew)); exact HO163.out))) (Kd.S_lt (by (with_reducible repeat (first | apply Kd.S_alloc | apply Kd.S_drewN | apply Kd.S_drew)); exact HO167.out))) (below_size (by repeat (first | (with_reducible first | exact HB.out | apply below_alloc | apply pw_below_drewN | apply below_drew1) | exact HB.out)))); have n4_ := Aside0.mk (below_step (by repeat (first | (with_reducible first | exact HB.out | apply below_alloc | apply pw_below_drewN | apply below_drew1) | exact HB.out)) hb); clear HO160; clear HO163; clear HO167; clear HB; have HO160 := n0_; have HO163 := n1_; have HO167 := n2_; have HO170 := n3_; have HB := n4_; clear n0_ n1_ n2_ n3_ n4_; (try clear hb); (try clear hb2); (try clear hk); (try clear hi); (try clear ho0); obtain ⟨Ao55, co55, eo55⟩ := Kd.S_slice HO167.out; subst eo55; obtain ⟨Ao56, co56, eo56⟩ := Kd.S_slice HO170.out; subst eo56) | ((with_reducible refine gate_callee (f := 29) rfl ?_); refine goesL_ (some 31) rfl rfl Try.func29 (by kernel_rfl) rfl #[.slice Ao55 t165.length co55, .slice Ao56 t168.length co56] rfl (by (try simp only [List.map_toArray, List.map_cons, List.map_nil]); first | done | rfl | (simp only [List.length_drop, List.length_take]; rfl)) ?_; (with_reducible refine (impl_LeastDepth.calls _ _ t165 _ _ t168 t171 _ ?side1 ?side2 ?side3 ?side4 A12.out).mono ?_); (case side1 => repeat (first | exact (Kd.S_reads' HO167.out).2.2 | (with_reducible refine Kd.C_alloc ?_ _) | (with_reducible refine Kd.C_drewN ?_ _) | (with_reducible refine Kd.C_drew ?_))); (case side2 => exact (Kd.S_reads' HO167.out).2.1); (case side3 => repeat (first | exact (Kd.S_reads' HO170.out).2.2 | (with_reducible refine Kd.C_alloc ?_ _) | (with_reducible refine Kd.C_drewN ?_ _) | (with_reducible refine Kd.C_drew ?_))); (case side4 => exact (Kd.S_reads' HO170.out).2.1); rintro e w57 ⟨rfl, hb⟩; refine ⟨_, rfl, ?_⟩; have n0_ := Aside0.mk (Kd.S_below (by (with_reducible repeat (first | apply Kd.S_alloc | apply Kd.S_drewN | apply Kd.S_drew)); exact HO160.out) hb); have n1_ := Aside0.mk (Kd.S_below (by (with_reducible repeat (first | apply Kd.S_alloc | apply Kd.S_drewN | apply Kd.S_drew)); exact HO163.out) hb); have n2_ := Aside0.mk (Kd.S_below (by (with_reducible repeat (first | apply Kd.S_alloc | apply Kd.S_drewN | apply Kd.S_drew)); exact HO167.out) hb); have n3_ := Aside0.mk (Kd.S_below (by (with_reducible repeat (first | apply Kd.S_alloc | apply Kd.S_drewN | apply Kd.S_drew)); exact HO170.out) hb); have n4_ := Aside0.mk (below_step (by repeat (first | (with_reducible first | exact HB.out | apply below_alloc | apply pw_below_drewN | apply below_drew1) | exact HB.out)) hb); clear HO160; clear HO163; clear HO167; clear HO170; clear HB; have HO160 := n0_; have HO163 := n1_; have HO167 := n2_; have HO170 := n3_; have HB := n4_; clear n0_ n1_ n2_ n3_ n4_; (try clear hb); (try clear hb2); (try clear hk); (try clear hi)) | ((with_reducible refine gate_callee (f := 12) rfl ?_); refine goesL_ (some 37) rfl rfl Try.func12 (by kernel_rfl) rfl #[.slice A0 l0.length c0] rfl (by (try simp only [List.map_toArray, List.map_cons, List.map_nil]); first | done | rfl | (simp only [List.length_drop, List.length_take]; rfl)) ?_; (with_reducible refine (laws_toIntSS.calls k _ _ l0 t172 _ ?side1 ?side2 A14.out).mono ?_); (case side1 => repeat (first | exact (Kd.C_below HR0.out HB.out) | (with_reducible refine Kd.C_alloc ?_ _) | (with_reducible refine Kd.C_drewN ?_ _) | (with_reducible refine Kd.C_drew ?_))); (case side2 => exact HC0.out); rintro e w58 ⟨v173, rfl, ho0, hb⟩; refine ⟨_, rfl, ?_⟩; have n0_ := Aside0.mk (Kd.S_elder' (by (with_reducible repeat (first | apply Kd.S_alloc | apply Kd.S_drewN | apply Kd.S_drew)); exact HO160.out) (Kd.S_base ho0) hb); have n1_ := Aside0.mk (Kd.S_elder' (by (with_reducible repeat (first | apply Kd.S_alloc | apply Kd.S_drewN | apply Kd.S_drew)); exact HO163.out) (Kd.S_base ho0) hb); have n2_ := Aside0.mk (Kd.S_elder' (by (with_reducible repeat (first | apply Kd.S_alloc | apply Kd.S_drewN | apply Kd.S_drew)); exact HO167.out) (Kd.S_base ho0) hb); have n3_ := Aside0.mk (Kd.S_elder' (by (with_reducible repeat (first | apply Kd.S_alloc | apply Kd.S_drewN | apply Kd.S_drew)); exact HO170.out) (Kd.S_base ho0) hb); have n4_ := Aside0.mk (Kd.S_lower (Kd.S_new' (Kd.S_new' (Kd.S_new' (Kd.S_new' ho0 (Kd.S_lt (by (with_reducible repeat (first | apply Kd.S_alloc | apply Kd.S_drewN | apply Kd.S_drew)); exact HO160.out))) (Kd.S_lt (by (with_reducible repeat (first | apply Kd.S_alloc | apply Kd.S_drewN | apply Kd.S_drew)); exact HO163.out))) (Kd.S_lt (by (with_reducible repeat (first | apply Kd.S_alloc | apply Kd.S_drewN | apply Kd.S_drew)); exact HO167.out))) (Kd.S_lt (by (with_reducible repeat (first | apply Kd.S_alloc | apply Kd.S_drewN | apply Kd.S_drew)); exact HO170.out))) (below_size (by repeat (first | (with_reducible first | exact HB.out | apply below_alloc | apply pw_below_drewN | apply below_drew1) | exact HB.out)))); have n5_ := Aside0.mk (below_step (by repeat (first | (with_reducible first | exact HB.out | apply below_alloc | apply pw_below_drewN | apply below_drew1) | exact HB.out)) hb); clear HO160; clear HO163; clear HO167; clear HO170; clear HB; have HO160 := n0_; have HO163 := n1_; have HO167 := n2_; have HO170 := n3_; have HO174 := n4_; have HB := n5_; clear n0_ n1_ n2_ n3_ n4_ n5_; (try clear hb); (try clear hb2); (try clear hk); (try clear hi); (try clear ho0); obtain ⟨Ao59, co59, eo59⟩ := Kd.S_slice HO174.out; subst eo59) | ((with_reducible refine gate_callee (f := 15) rfl ?_); refine goesL_ (some 38) rfl rfl Try.func15 (by kernel_rfl) rfl #[.slice Ao55 t165.length co55, .slice Ao59 t172.length co59] rfl (by (try simp only [List.map_toArray, List.map_cons, List.map_nil]); first | done | rfl | (simp only [List.length_drop, List.length_take]; rfl)) ?_; (with_reducible refine (laws_eqIntSS.calls k _ _ t165 _ _ t172 false _ ?side1 ?side2 ?side3 ?side4 A15.out).mono ?_); (case side1 => repeat (first | exact (Kd.S_reads' HO167.out).2.2 | (with_reducible refine Kd.C_alloc ?_ _) | (with_reducible refine Kd.C_drewN ?_ _) | (with_reducible refine Kd.C_drew ?_))); (case side2 => exact (Kd.S_reads' HO167.out).2.1); (case side3 => repeat (first | exact (Kd.S_reads' HO174.out).2.2 | (with_reducible refine Kd.C_alloc ?_ _) | (with_reducible refine Kd.C_drewN ?_ _) | (with_reducible refine Kd.C_drew ?_))); (case side4 => exact (Kd.S_reads' HO174.out).2.1); rintro e w' ⟨rfl, ⟨nd, rfl⟩⟩; refine ⟨_, rfl, ?_⟩))
          go_ret
          exact ⟨by first | rfl | (simp [errW_none, errW_some] <;> rfl) | (simp [*, errW_none, errW_some] <;> rfl), by repeat (first | (with_reducible first | exact HB.out | apply below_alloc | apply pw_below_drewN | apply below_drew1) | exact HB.out)⟩
      · rw [if_neg c13] at H
        have c13b0 : (t171 == t164) = false := beq_eq_false_iff_ne.mpr c13
        have c13b1 : (t171 != t164) = true := bne_iff_ne.mpr c13
        obtain rfl := Option.some.inj H
        go_enter Try.func8, Try.ntmps8
        go_wp2_with (first | ((with_reducible refine gate_callee (f := 10) rfl ?_); refine goesL_ (some 12) rfl rfl Try.func10 (by kernel_rfl) rfl #[.slice A0 l0.length c0, .int .i64 1048576] rfl (by (try simp only [List.map_toArray, List.map_cons, List.map_nil]); first | done | rfl | (simp only [List.length_drop, List.length_take]; rfl)) ?_; (with_reducible refine (laws_szIntSS.calls k _ _ l0 1048576 t156 _ ?side1 ?side2 A3.out).mono ?_); (case side1 => repeat (first | exact HR0.out | (with_reducible refine Kd.C_alloc ?_ _) | (with_reducible refine Kd.C_drewN ?_ _) | (with_reducible refine Kd.C_drew ?_))); (case side2 => exact HC0.out); rintro e w' ⟨rfl, ⟨nd, rfl⟩⟩; refine ⟨_, rfl, ?_⟩) | ((with_reducible refine gate_callee (f := 10) rfl ?_); refine goesL_ (some 17) rfl rfl Try.func10 (by kernel_rfl) rfl #[.slice A1 l1.length c1, .int .i64 t156] rfl (by (try simp only [List.map_toArray, List.map_cons, List.map_nil]); first | done | rfl | (simp only [List.length_drop, List.length_take]; rfl)) ?_; (with_reducible refine (laws_szIntSS.calls k _ _ l1 t156 t157 _ ?side1 ?side2 A5.out).mono ?_); (case side1 => repeat (first | exact HR1.out | (with_reducible refine Kd.C_alloc ?_ _) | (with_reducible refine Kd.C_drewN ?_ _) | (with_reducible refine Kd.C_drew ?_))); (case side2 => exact HC1.out); rintro e w' ⟨rfl, ⟨nd, rfl⟩⟩; refine ⟨_, rfl, ?_⟩) | ((with_reducible refine gate_callee (f := 12) rfl ?_); refine goesL_ (some 21) rfl rfl Try.func12 (by kernel_rfl) rfl #[.slice A0 l0.length c0] rfl (by (try simp only [List.map_toArray, List.map_cons, List.map_nil]); first | done | rfl | (simp only [List.length_drop, List.length_take]; rfl)) ?_; (with_reducible refine (laws_toIntSS.calls k _ _ l0 t158 _ ?side1 ?side2 A7.out).mono ?_); (case side1 => repeat (first | exact HR0.out | (with_reducible refine Kd.C_alloc ?_ _) | (with_reducible refine Kd.C_drewN ?_ _) | (with_reducible refine Kd.C_drew ?_))); (case side2 => exact HC0.out); rintro e w60 ⟨v159, rfl, ho0, hb⟩; refine ⟨_, rfl, ?_⟩; have n0_ := Aside0.mk (Kd.S_lower ho0 (below_size (by repeat (first | (with_reducible first | exact HB.out | apply below_alloc | apply pw_below_drewN | apply below_drew1) | exact HB.out)))); have n1_ := Aside0.mk (below_step (by repeat (first | (with_reducible first | exact HB.out | apply below_alloc | apply pw_below_drewN | apply below_drew1) | exact HB.out)) hb); clear HB; have HO160 := n0_; have HB := n1_; clear n0_ n1_; (try clear hb); (try clear hb2); (try clear hk); (try clear hi); (try clear ho0)) | ((with_reducible refine gate_callee (f := 12) rfl ?_); refine goesL_ (some 23) rfl rfl Try.func12 (by kernel_rfl) rfl #[.slice A1 l1.length c1] rfl (by (try simp only [List.map_toArray, List.map_cons, List.map_nil]); first | done | rfl | (simp only [List.length_drop, List.length_take]; rfl)) ?_; (with_reducible refine (laws_toIntSS.calls k _ _ l1 t161 _ ?side1 ?side2 A8.out).mono ?_); (case side1 => repeat (first | exact (Kd.C_below HR1.out HB.out) | (with_reducible refine Kd.C_alloc ?_ _) | (with_reducible refine Kd.C_drewN ?_ _) | (with_reducible refine Kd.C_drew ?_))); (case side2 => exact HC1.out); rintro e w61 ⟨v162, rfl, ho0, hb⟩; refine ⟨_, rfl, ?_⟩; have n0_ := Aside0.mk (Kd.S_elder' (by (with_reducible repeat (first | apply Kd.S_alloc | apply Kd.S_drewN | apply Kd.S_drew)); exact HO160.out) (Kd.S_base ho0) hb); have n1_ := Aside0.mk (Kd.S_lower (Kd.S_new' ho0 (Kd.S_lt (by (with_reducible repeat (first | apply Kd.S_alloc | apply Kd.S_drewN | apply Kd.S_drew)); exact HO160.out))) (below_size (by repeat (first | (with_reducible first | exact HB.out | apply below_alloc | apply pw_below_drewN | apply below_drew1) | exact HB.out)))); have n2_ := Aside0.mk (below_step (by repeat (first | (with_reducible first | exact HB.out | apply below_alloc | apply pw_below_drewN | apply below_drew1) | exact HB.out)) hb); clear HO160; clear HB; have HO160 := n0_; have HO163 := n1_; have HB := n2_; clear n0_ n1_ n2_; (try clear hb); (try clear hb2); (try clear hk); (try clear hi); (try clear ho0); obtain ⟨Ao62, co62, eo62⟩ := Kd.S_slice HO160.out; subst eo62; obtain ⟨Ao63, co63, eo63⟩ := Kd.S_slice HO163.out; subst eo63) | ((with_reducible refine gate_callee (f := 28) rfl ?_); refine goesL_ (some 24) rfl rfl Try.func28 (by kernel_rfl) rfl #[.slice Ao62 t158.length co62, .slice Ao63 t161.length co63] rfl (by (try simp only [List.map_toArray, List.map_cons, List.map_nil]); first | done | rfl | (simp only [List.length_drop, List.length_take]; rfl)) ?_; (with_reducible refine (spec_LeastDepth.calls k _ _ t158 _ _ t161 t164 _ ?side1 ?side2 ?side3 ?side4 A9.out).mono ?_); (case side1 => repeat (first | exact (Kd.S_reads' HO160.out).2.2 | (with_reducible refine Kd.C_alloc ?_ _) | (with_reducible refine Kd.C_drewN ?_ _) | (with_reducible refine Kd.C_drew ?_))); (case side2 => exact (Kd.S_reads' HO160.out).2.1); (case side3 => repeat (first | exact (Kd.S_reads' HO163.out).2.2 | (with_reducible refine Kd.C_alloc ?_ _) | (with_reducible refine Kd.C_drewN ?_ _) | (with_reducible refine Kd.C_drew ?_))); (case side4 => exact (Kd.S_reads' HO163.out).2.1); rintro e w64 ⟨rfl, hb⟩; refine ⟨_, rfl, ?_⟩; have n0_ := Aside0.mk (Kd.S_below (by (with_reducible repeat (first | apply Kd.S_alloc | apply Kd.S_drewN | apply Kd.S_drew)); exact HO160.out) hb); have n1_ := Aside0.mk (Kd.S_below (by (with_reducible repeat (first | apply Kd.S_alloc | apply Kd.S_drewN | apply Kd.S_drew)); exact HO163.out) hb); have n2_ := Aside0.mk (below_step (by repeat (first | (with_reducible first | exact HB.out | apply below_alloc | apply pw_below_drewN | apply below_drew1) | exact HB.out)) hb); clear HO160; clear HO163; clear HB; have HO160 := n0_; have HO163 := n1_; have HB := n2_; clear n0_ n1_ n2_; (try clear hb); (try clear hb2); (try clear hk); (try clear hi)) | ((with_reducible refine gate_callee (f := 12) rfl ?_); refine goesL_ (some 26) rfl rfl Try.func12 (by kernel_rfl) rfl #[.slice A0 l0.length c0] rfl (by (try simp only [List.map_toArray, List.map_cons, List.map_nil]); first | done | rfl | (simp only [List.length_drop, List.length_take]; rfl)) ?_; (with_reducible refine (laws_toIntSS.calls k _ _ l0 t165 _ ?side1 ?side2 A10.out).mono ?_); (case side1 => repeat (first | exact (Kd.C_below HR0.out HB.out) | (with_reducible refine Kd.C_alloc ?_ _) | (with_reducible refine Kd.C_drewN ?_ _) | (with_reducible refine Kd.C_drew ?_))); (case side2 => exact HC0.out); rintro e w65 ⟨v166, rfl, ho0, hb⟩; refine ⟨_, rfl, ?_⟩; have n0_ := Aside0.mk (Kd.S_elder' (by (with_reducible repeat (first | apply Kd.S_alloc | apply Kd.S_drewN | apply Kd.S_drew)); exact HO160.out) (Kd.S_base ho0) hb); have n1_ := Aside0.mk (Kd.S_elder' (by (with_reducible repeat (first | apply Kd.S_alloc | apply Kd.S_drewN | apply Kd.S_drew)); exact HO163.out) (Kd.S_base ho0) hb); have n2_ := Aside0.mk (Kd.S_lower (Kd.S_new' (Kd.S_new' ho0 (Kd.S_lt (by (with_reducible repeat (first | apply Kd.S_alloc | apply Kd.S_drewN | apply Kd.S_drew)); exact HO160.out))) (Kd.S_lt (by (with_reducible repeat (first | apply Kd.S_alloc | apply Kd.S_drewN | apply Kd.S_drew)); exact HO163.out))) (below_size (by repeat (first | (with_reducible first | exact HB.out | apply below_alloc | apply pw_below_drewN | apply below_drew1) | exact HB.out)))); have n3_ := Aside0.mk (below_step (by repeat (first | (with_reducible first | exact HB.out | apply below_alloc | apply pw_below_drewN | apply below_drew1) | exact HB.out)) hb); clear HO160; clear HO163; clear HB; have HO160 := n0_; have HO163 := n1_; have HO167 := n2_; have HB := n3_; clear n0_ n1_ n2_ n3_; (try clear hb); (try clear hb2); (try clear hk); (try clear hi); (try clear ho0)) | ((with_reducible refine gate_callee (f := 12) rfl ?_); refine goesL_ (some 28) rfl rfl Try.func12 (by kernel_rfl) rfl #[.slice A1 l1.length c1] rfl (by (try simp only [List.map_toArray, List.map_cons, List.map_nil]); first | done | rfl | (simp only [List.length_drop, List.length_take]; rfl)) ?_; (with_reducible refine (laws_toIntSS.calls k _ _ l1 t168 _ ?side1 ?side2 A11.out).mono ?_); (case side1 => repeat (first | exact (Kd.C_below HR1.out HB.out) | (with_reducible refine Kd.C_alloc ?_ _) | (with_reducible refine Kd.C_drewN ?_ _) | (with_reducible refine Kd.C_drew ?_))); (case side2 => exact HC1.out); rintro e w66 ⟨v169, rfl, ho0, hb⟩; refine ⟨_, rfl, ?_⟩; have n0_ := Aside0.mk (Kd.S_elder' (by (with_reducible repeat (first | apply Kd.S_alloc | apply Kd.S_drewN | apply Kd.S_drew)); exact HO160.out) (Kd.S_base ho0) hb); have n1_ := Aside0.mk (Kd.S_elder' (by (with_reducible repeat (first | apply Kd.S_alloc | apply Kd.S_drewN | apply Kd.S_drew)); exact HO163.out) (Kd.S_base ho0) hb); have n2_ := Aside0.mk (Kd.S_elder' (by (with_reducible repeat (first | apply Kd.S_alloc | apply Kd.S_drewN | apply Kd.S_drew)); exact HO167.out) (Kd.S_base ho0) hb); have n3_ := Aside0.mk (Kd.S_lower (Kd.S_new' (Kd.S_new' (Kd.S_new' ho0 (Kd.S_lt (by (with_reducible repeat (first | apply Kd.S_alloc | apply Kd.S_drewN | apply Kd.S_drew)); exact HO160.out))) (Kd.S_lt (by (with_reducible repeat (first | apply Kd.S_alloc | apply Kd.S_drewN | apply Kd.S_drew)); exact HO163.out))) (Kd.S_lt (by (with_reducible repeat (first | apply Kd.S_alloc | apply Kd.S_drewN | apply Kd.S_drew)); exact HO167.out))) (below_size (by repeat (first | (with_reducible first | exact HB.out | apply below_alloc | apply pw_below_drewN | apply below_drew1) | exact HB.out)))); have n4_ := Aside0.mk (below_step (by repeat (first | (with_reducible first | exact HB.out | apply below_alloc | apply pw_below_drewN | apply below_drew1) | exact HB.out)) hb); clear HO160; clear HO163; clear HO167; clear HB; have HO160 := n0_; have HO163 := n1_; have HO167 := n2_; have HO170 := n3_; have HB := n4_; clear n0_ n1_ n2_ n3_ n4_; (try clear hb); (try clear hb2); (try clear hk); (try clear hi); (try clear ho0); obtain ⟨Ao67, co67, eo67⟩ := Kd.S_slice HO167.out; subst eo67; obtain ⟨Ao68, co68, eo68⟩ := Kd.S_slice HO170.out; subst eo68) | ((with_reducible refine gate_callee (f := 29) rfl ?_); refine goesL_ (some 31) rfl rfl Try.func29 (by kernel_rfl) rfl #[.slice Ao67 t165.length co67, .slice Ao68 t168.length co68] rfl (by (try simp only [List.map_toArray, List.map_cons, List.map_nil]); first | done | rfl | (simp only [List.length_drop, List.length_take]; rfl)) ?_; (with_reducible refine (impl_LeastDepth.calls _ _ t165 _ _ t168 t171 _ ?side1 ?side2 ?side3 ?side4 A12.out).mono ?_); (case side1 => repeat (first | exact (Kd.S_reads' HO167.out).2.2 | (with_reducible refine Kd.C_alloc ?_ _) | (with_reducible refine Kd.C_drewN ?_ _) | (with_reducible refine Kd.C_drew ?_))); (case side2 => exact (Kd.S_reads' HO167.out).2.1); (case side3 => repeat (first | exact (Kd.S_reads' HO170.out).2.2 | (with_reducible refine Kd.C_alloc ?_ _) | (with_reducible refine Kd.C_drewN ?_ _) | (with_reducible refine Kd.C_drew ?_))); (case side4 => exact (Kd.S_reads' HO170.out).2.1); rintro e w69 ⟨rfl, hb⟩; refine ⟨_, rfl, ?_⟩; have n0_ := Aside0.mk (Kd.S_below (by (with_reducible repeat (first | apply Kd.S_alloc | apply Kd.S_drewN | apply Kd.S_drew)); exact HO160.out) hb); have n1_ := Aside0.mk (Kd.S_below (by (with_reducible repeat (first | apply Kd.S_alloc | apply Kd.S_drewN | apply Kd.S_drew)); exact HO163.out) hb); have n2_ := Aside0.mk (Kd.S_below (by (with_reducible repeat (first | apply Kd.S_alloc | apply Kd.S_drewN | apply Kd.S_drew)); exact HO167.out) hb); have n3_ := Aside0.mk (Kd.S_below (by (with_reducible repeat (first | apply Kd.S_alloc | apply Kd.S_drewN | apply Kd.S_drew)); exact HO170.out) hb); have n4_ := Aside0.mk (below_step (by repeat (first | (with_reducible first | exact HB.out | apply below_alloc | apply pw_below_drewN | apply below_drew1) | exact HB.out)) hb); clear HO160; clear HO163; clear HO167; clear HO170; clear HB; have HO160 := n0_; have HO163 := n1_; have HO167 := n2_; have HO170 := n3_; have HB := n4_; clear n0_ n1_ n2_ n3_ n4_; (try clear hb); (try clear hb2); (try clear hk); (try clear hi)))
        go_ret
        exact ⟨by first | rfl | (simp [errW_none, errW_some] <;> rfl) | (simp [*, errW_none, errW_some] <;> rfl), by repeat (first | (with_reducible first | exact HB.out | apply below_alloc | apply pw_below_drewN | apply below_drew1) | exact HB.out)⟩

end Go.Proofs.Ytbbfgkjhnfcjiaa.PFnExactLeastDepth
