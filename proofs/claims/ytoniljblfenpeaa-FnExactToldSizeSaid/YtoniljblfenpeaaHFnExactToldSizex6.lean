-- Written by a program of this session out of the translation (wip/gen/hprint.sh). Lean checks it.
import Derived.Test.YtoniljblfenpeaaHFnExactToldSizex0
import Derived.Test.YtoniljblfenpeaaHFnExactToldSizex1
import Derived.Test.YtoniljblfenpeaaHFnExactToldSizex4
import Derived.Test.YtoniljblfenpeaaHFnExactToldSizex5
namespace Go.Proofs.Ytoniljblfenpeaa.PFnExactToldSize
open Go.RowKit Go.Proofs.YtoniljblfenpeaaW.PrintWords Go.Proofs.YtoniljblfenpeaaW.PrintLast Go.Proofs.YtoniljblfenpeaaW.PrintMore
attribute [local go_sem] max2_int min2_int max_two min_two max_three min_three max_four min_four   -- for this text's walks alone
set_option linter.unusedVariables false
set_option linter.unusedSimpArgs false

/-! ### impl_FailsWith: function 57 -/
def anyB_77 (n : Nat) (B : Nat → Bool) : Bool := (List.range n).any B
theorem anyB_77_hit {n : Nat} {B : Nat → Bool} {k : Nat} (h : k < n) (hb : B k = true) : anyB_77 n B = true := List.any_eq_true.2 ⟨k, List.mem_range.2 h, hb⟩
theorem anyB_77_miss {n : Nat} {B : Nat → Bool} (h : ∀ j, j < n → B j = false) : anyB_77 n B = false := List.any_eq_false.2 (fun j hj => by rw [h j (List.mem_range.1 hj)]; simp)
set_option maxHeartbeats 4000000 in
set_option maxRecDepth 100000 in
theorem idx_77 (lb : Array Value) (a : Addr) (n c : Nat) (V : Nat → Value) (B : Nat → Bool) (w : World) (hb : n ≤ 9223372036854775807)
    (hw : 0 < n → a.block < w.heap.size) (hc : ∀ j, j < n → w.cell? (a.add j) = some (V j))
    (hp : ∀ j, j < n → ∀ W, Below w.heap.size w W → Calls Try.prog 77 (#[V j] ++ lb) W fun e w' => e = .returned (.bool (B j)) ∧ Below W.heap.size W w') :
    Calls Try.prog 83 #[.slice (some a) n c, .func (.func 77) #[] lb] w fun e w' => ∃ r : Int, e = .returned (.int .i64 r) ∧ decide (0 ≤ r) = anyB_77 n B ∧ Below w.heap.size w w' := by
  have HC := Aside0.mk hc
  have HP := Aside0.mk hp
  have HW := Aside0.mk hw
  clear hc hp hw
  go_enter Try.func83, Try.ntmps83
  go_wp2
  go_loopg [5, 8] n (fun gg _ s8 wr => ∃ kk : Nat, kk ≤ n ∧ n - kk ≤ gg ∧ s8 = .int .i64 kk ∧ Aside0 (Below w.heap.size w wr) ∧ Aside0 (∀ j, j < kk → B j = false))
  case atStart => exact ⟨0, Nat.zero_le _, by omega, rfl, ⟨Below.refl _ w⟩, ⟨fun j hj => absurd hj (Nat.not_lt_zero _)⟩⟩
  case round =>
    obtain ⟨kk, hkk, hg, rfl, BW, AB⟩ := hrel
    by_cases hlt : kk < n
    · have hltz : (kk : Int) < (n : Int) := by omega
      have hcell : wr.cell? (a.add kk) = some (V kk) := (BW.out.cell (p := a.add kk) (by have h := HW.out (by omega); simpa [Addr.add] using (by unfold Addr.add; split <;> exact h : (a.add kk).block < w.heap.size))).trans (HC.out kk hlt)
      have hcall := HP.out kk hlt wr BW.out
      generalize hv : V kk = v at hcell hcall
      have HV := Aside0.mk hv
      clear hv
      cases hq : B kk with
      | true =>
        rw [hq] at hcall
        have HQ := Aside0.mk hq
        clear hq
        go_wp2_with (go_at_call 77; refine hcall.mono ?_; rintro e w' ⟨rfl, hb'⟩; have HB := Aside0.mk hb'; clear hb')
        go_ret
        exact ⟨_, rfl, by rw [anyB_77_hit hlt HQ.out]; exact decide_eq_true (by omega), below_step BW.out HB.out⟩
      | false =>
        rw [hq] at hcall
        have HQ := Aside0.mk hq
        clear hq
        go_wp2_with (go_at_call 77; refine hcall.mono ?_; rintro e w' ⟨rfl, hb'⟩; have HB := Aside0.mk hb'; clear hb')
        go_roundg (n - (kk + 1))
        case measure => omega
        case rel =>
          refine ⟨kk + 1, by omega, by omega, by go_num, ⟨below_step BW.out HB.out⟩, ⟨fun j hj => ?_⟩⟩
          by_cases e : j = kk
          · subst e; exact HQ.out
          · exact AB.out j (by omega)
    · have hltz : ¬ (kk : Int) < (n : Int) := by omega
      have hkn : kk = n := by omega
      subst hkn
      go_wp2
      go_ret
      exact ⟨-1, rfl, by rw [anyB_77_miss AB.out]; rfl, BW.out⟩
set_option maxHeartbeats 4000000 in
theorem idx_77_none (fv : Value) (c : Nat) (a : Option Addr) (w : World) :
    Calls Try.prog 83 #[.slice a 0 c, fv] w fun e w' => e = .returned (.int .i64 (-1)) ∧ w = w' := by
  go_enter Try.func83, Try.ntmps83
  go_wp2
  go_loopg [5, 8] 0 (fun _ _ s8 wr => s8 = .int .i64 0 ∧ w = wr)
  case atStart => exact ⟨rfl, rfl⟩
  case round =>
    obtain ⟨rfl, rfl⟩ := hrel
    go_wp2
    go_ret
    exact ⟨rfl, rfl⟩
set_option maxHeartbeats 4000000 in
theorem has_77 (lb : Array Value) (A0 : Option Addr) (n c : Nat) (V : Nat → Value) (B : Nat → Bool) (w : World) (hb : n ≤ 9223372036854775807)
    (hw : 0 < n → ∃ a, A0 = some a ∧ a.block < w.heap.size ∧ ∀ j, j < n → w.cell? (a.add j) = some (V j))
    (hp : ∀ j, j < n → ∀ W, Below w.heap.size w W → Calls Try.prog 77 (#[V j] ++ lb) W fun e w' => e = .returned (.bool (B j)) ∧ Below W.heap.size W w') :
    Calls Try.prog 76 #[.slice A0 n c, .func (.func 77) #[] lb] w fun e w' => e = .returned (.bool (anyB_77 n B)) ∧ Below w.heap.size w w' := by
  rcases Nat.eq_zero_or_pos n with h0 | h0
  · subst h0
    clear hw hp
    go_enter Try.func76, Try.ntmps76
    go_wp2_with (go_at_call 83; refine (idx_77_none _ _ _ _).mono ?_; rintro e w' ⟨rfl, rfl⟩)
    go_ret
    exact ⟨rfl, Below.refl _ _⟩
  · obtain ⟨a, rfl, hw1, hc⟩ := hw h0
    have hcon := idx_77 lb a n c V B w hb (fun _ => hw1) hc hp
    clear hp hc hw hw1
    go_enter Try.func76, Try.ntmps76
    go_wp2_with (go_at_call 83; refine hcon.mono ?_; rintro e w' ⟨r, rfl, hr, hb'⟩; have HR := Aside0.mk hr; have HB := Aside0.mk hb'; clear hr hb')
    all_goals (go_ret; exact ⟨by rw [← HR.out]; rfl, HB.out⟩)
theorem gv_lt_57 {w : World} {a : Addr} {v : Value} (h : w.cell? a = some v) : a.block < w.heap.size := by
  rcases Nat.lt_or_ge a.block w.heap.size with h1 | h1
  · exact h1
  · simp [World.cell?, Array.getElem?_eq_none h1] at h
/-- whether a link of the list lies on the row. -/
def failsB (row : List Int) (k : Int) : Bool := decide (0 ≤ k ∧ k < row.length ∧ rd row k = 1)
def impl_FailsWith.f (l0 : List Int) (l1 : List Int) : Option Bool := some (l1.any (failsB l0))
set_option maxHeartbeats 4000000 in
set_option maxRecDepth 100000 in
theorem fails_one (row : List Int) (A0 : Option Addr) (c0 : Nat) (x : Int) (b : Nat) (w : World) (hr : Kd.C (Kd.int .i64) w A0 row.length row) (hb : w.heap[b]? = some (.cells #[.slice A0 row.length c0] 30 (0, 0))) (W : World) (hW : Below w.heap.size w W) :
    Calls Try.prog 77 (#[.int .i64 x] ++ #[.pointer (some ⟨b, 0, none⟩)]) W fun e w' => e = .returned (.bool (failsB row x)) ∧ Below W.heap.size W w' := by
  have hcell : W.cell? ⟨b, 0, none⟩ = some (.slice A0 row.length c0) := (blk_cell (blk_below hb hW) 0).trans rfl
  have hm : row.length ≤ 9223372036854775807 := Kd.C_max hr
  have HC := Aside0.mk (Kd.C_below hr hW)
  clear hr hb hW
  show Calls Try.prog 77 #[.int .i64 x, .pointer (some ⟨b, 0, none⟩)] W _
  by_cases h0 : 0 ≤ x
  · by_cases h1 : x < (row.length : Int)
    · obtain ⟨ad, rfl, hx⟩ := Kd.at_int HC.out x h0 h1
      by_cases h2 : rd row x = 1
      · have e : failsB row x = true := by simp [failsB, h0, h1, h2]
        rw [e]; clear e
        rw [h2] at hx
        clear h2 HC
        go_enter Try.func77, Try.ntmps77
        go_wp2
        go_ret
        exact ⟨rfl, Below.refl _ _⟩
      · have e : failsB row x = false := by simp [failsB, h2]
        rw [e]; clear e
        have h3 : (rd row x == 1) = false := beq_eq_false_iff_ne.mpr h2
        clear h2 HC
        go_enter Try.func77, Try.ntmps77
        go_wp2
        go_ret
        exact ⟨rfl, Below.refl _ _⟩
    · have e : failsB row x = false := by simp [failsB, h1]
      rw [e]; clear e HC
      go_enter Try.func77, Try.ntmps77
      go_wp2
      go_ret
      exact ⟨rfl, Below.refl _ _⟩
  · have e : failsB row x = false := by simp [failsB, h0]
    rw [e]; clear e HC
    go_enter Try.func77, Try.ntmps77
    go_wp2
    go_ret
    exact ⟨rfl, Below.refl _ _⟩
set_option maxHeartbeats 4000000 in
set_option maxRecDepth 100000 in
theorem impl_FailsWith.calls (A0 : Option Addr) (c0 : Nat) (l0 : List Int) (A1 : Option Addr) (c1 : Nat) (l1 : List Int) (r : Bool) (w : World) (hr0 : Kd.C (Kd.int .i64) w A0 l0.length l0) (hc0 : l0.length ≤ c0) (hr1 : Kd.C (Kd.int .i64) w A1 l1.length l1) (hc1 : l1.length ≤ c1) (h : impl_FailsWith.f l0 l1 = some r) :
    Calls Try.prog 57 #[.slice A0 l0.length c0, .slice A1 l1.length c1] w fun e w' => e = .returned (.bool r) ∧ Below w.heap.size w w' := by
  obtain rfl : l1.any (failsB l0) = r := Option.some.inj h
  clear h hc0 hc1
  have hcon := has_77 #[.pointer (some ⟨w.heap.size, 0, none⟩)] A1 l1.length c1 (fun j => .int .i64 (l1.getD j 0)) (fun j => failsB l0 (l1.getD j 0)) (w.alloc (.cells #[.slice A0 l0.length c0] 30)) (Kd.C_max hr1)
    (fun h0 => by
      obtain ⟨a, e, hc⟩ := (Kd.reads_of_C (d := (0 : Int)) hr1).2.2 h0
      refine ⟨a, e, ?_, fun j hj => ?_⟩
      · have h2 := gv_lt_57 (hc 0 h0)
        have h3 : (a.add 0).block = a.block := by unfold Addr.add; split <;> rfl
        have h4 : (w.alloc (.cells #[.slice A0 l0.length c0] 30)).heap.size = w.heap.size + 1 := by simp
        omega
      · exact Lib.cell?_alloc_some _ (hc j hj))
    (fun j hj W hW => fails_one l0 A0 c0 (l1.getD j 0) w.heap.size (w.alloc (.cells #[.slice A0 l0.length c0] 30)) (Kd.C_alloc hr0 _) (blk_new w _) W hW)
  have e : anyB_77 l1.length (fun j => failsB l0 (l1.getD j 0)) = l1.any (failsB l0) := by
    unfold anyB_77
    rw [Bool.eq_iff_iff, List.any_eq_true, List.any_eq_true]
    constructor
    · rintro ⟨j, hj, h⟩
      have hlt := List.mem_range.1 hj
      exact ⟨l1[j], List.getElem_mem hlt, by simpa [List.getD, hlt] using h⟩
    · rintro ⟨x, hx, h⟩
      obtain ⟨j, hlt, rfl⟩ := List.mem_iff_getElem.1 hx
      exact ⟨j, List.mem_range.2 hlt, by simpa [List.getD, hlt] using h⟩
  rw [e] at hcon
  clear e hr0 hr1
  generalize l1.any (failsB l0) = q at hcon ⊢
  go_enter Try.func57, Try.ntmps57
  go_wp2_with (go_at_call 76; refine hcon.mono ?_; rintro e w' ⟨rfl, hb⟩; have HB := Aside0.mk hb; clear hb)
  go_ret
  exact ⟨rfl, below_step (below_alloc (Below.refl _ w) _) HB.out⟩

/-! ### impl_CountClasses: function 29 -/
section
open Go.Maps
/-- the rows that fail with a set, one bit each. -/
def failBits (m : List (List Int)) (s : List Int) : Nat → Nat
  | 0 => 0
  | i + 1 => failBits m s i + (if s.any (failsB (rd_L1 m (i : Int))) = true then 2 ^ i else 0)
theorem failBits_lt (m : List (List Int)) (s : List Int) : ∀ i, failBits m s i < 2 ^ i
  | 0 => Nat.one_pos
  | i + 1 => by
    have := failBits_lt m s i
    unfold failBits
    rw [Nat.pow_succ]
    split <;> omega
theorem failBits_small (m : List (List Int)) (s : List Int) (i : Nat) (h : i ≤ 12) : failBits m s i < 4096 := Nat.lt_of_lt_of_le (failBits_lt m s i) (Nat.pow_le_pow_right (by decide) h)
theorem failBits_or {x i : Nat} (hx : x < 2 ^ i) (hi : i < 12) : Go.bits .or .i64 (x : Int) ((2 ^ i : Nat) : Int) = ((x + 2 ^ i : Nat) : Int) := by
  have h12 : 2 ^ i < 4096 := Nat.pow_lt_pow_of_lt (by decide) hi
  have h := Nat.two_pow_add_eq_or_of_lt hx 1
  rw [Nat.mul_one] at h
  simp only [Go.bits, BitVec.toNat_or, BitVec.ofInt_natCast, BitVec.toNat_ofNat]
  have e1 : x % 2 ^ IntKind.i64.bits = x := Nat.mod_eq_of_lt (by show x < 2 ^ 64; omega)
  have e2 : 2 ^ i % 2 ^ IntKind.i64.bits = 2 ^ i := Nat.mod_eq_of_lt (by show 2 ^ i < 2 ^ 64; omega)
  rw [e1, e2, Nat.or_comm, ← h, i64_w]
  unfold wrap64
  omega
def bitKeys (m : List (List Int)) (ss : List (List Int)) : List Lit := ss.map (fun s => Lit.int .i64 (failBits m s m.length : Nat))
theorem bitKeys_succ (m ss : List (List Int)) (j : Nat) (hj : j < ss.length) : bitKeys m (ss.take (j + 1)) = bitKeys m (ss.take j) ++ [Lit.int .i64 (failBits m (rd_L1 ss (j : Int)) m.length : Nat)] := by
  have : rd_L1 ss (j : Int) = ss[j] := by simp [rd_L1, List.getD, hj]
  rw [this]
  unfold bitKeys
  rw [List.take_succ_eq_append_getElem hj, List.map_append]; rfl
def classesN (m ss : List (List Int)) : Nat := Maps.size (setOf (H := Unit) (.lit (.int .i64 1)) (bitKeys m ss))
def impl_CountClasses.f (k : Nat) (l0 : List (List Int)) (a1 : Int) (a2 : Int) : Option Int := (impl_isBits.f k l0 a1).bind fun t => if t = true then (if a2 < 0 then some 0 else (impl_setsTo.f k a1 a2).bind fun ss => if l0.length ≤ 12 ∧ ss.length ≤ 1000000 then some ((classesN l0 ss : Nat) : Int) else none) else some 0
theorem impl_CountClasses.mono : ∀ a0 a1 a2 k, LeO (impl_CountClasses.f k a0 a1 a2) (impl_CountClasses.f (k + 1) a0 a1 a2) := by
  intro a0 a1 a2 k
  unfold impl_CountClasses.f
  exact LeO.bind (impl_isBits.mono _ _ _) (fun t => LeO.ite (LeO.ite (LeO.refl _) (LeO.bind (impl_setsTo.mono _ _ _) (fun _ => LeO.refl _))) (LeO.refl _))
theorem count_key : Keyed Try.prog 3 := int_keyed Try.underlying3
theorem count_step {m ss : List (List Int)} {j : Nat} (hj : j < ss.length) : setOf (H := Unit) (.lit (.int .i64 1)) (bitKeys m (ss.take (j + 1))) = (setOf (H := Unit) (.lit (.int .i64 1)) (bitKeys m (ss.take j))).put (Lit.int .i64 (failBits m (rd_L1 ss (j : Int)) m.length : Nat)) (.lit (.int .i64 1)) := by
  rw [bitKeys_succ m ss j hj, setOf_snoc]
theorem count_at0 {w1 w2 : World} {m ss : List (List Int)} (hb : Below (w1.alloc (.map #[] 0)).heap.size (w1.alloc (.map #[] 0)) w2) : Aside0 (w2.ownsMap Try.prog 3 (plainElem (H := Unit) Try.prog 3) w1.heap.size 0 (setOf (H := Unit) (.lit (.int .i64 1)) (bitKeys m (ss.take 0)))) := ⟨by
  have h := World.ownsMap_made w1 Try.prog 3 (plainElem (H := Unit) Try.prog 3)
  exact h.kept (row := none) ⟨hb.os, hb.tape, hb.output, hb.size, fun k hk _ => hb.block k hk⟩ (by simp)⟩
theorem count_N0 {w1 w2 : World} {o : Obj} {v : Value} {ss : List (List Int)} (h : Kd.N (Kd.slice 3 (Kd.int .i64)) 30 w2 (w1.alloc o).heap.size (fun k_ => (w1.alloc o).heap.size ≤ k_) v ss) : Aside0 (Kd.N (Kd.slice 3 (Kd.int .i64)) 30 w2 (w1.heap.size + 1) (fun k_ => w1.heap.size + 1 ≤ k_) v ss) := ⟨by
  have e : (w1.alloc o).heap.size = w1.heap.size + 1 := by simp
  rw [e] at h
  exact h⟩
theorem count_B0 {w1 w2 : World} {o : Obj} (hb : Below (w1.alloc o).heap.size (w1.alloc o) w2) : Aside0 (Below w1.heap.size w1 w2) := ⟨below_step (below_alloc (Below.refl _ _) _) hb⟩
theorem count_size {m ss : List (List Int)} {e : Value} (h : e = .int .i64 (Maps.size (setOf (H := Unit) (.lit (.int .i64 1)) (bitKeys m ss)) : Int)) : Ending.returned e = .returned (.int .i64 ((classesN m ss : Nat) : Int)) := by
  rw [h]; rfl
theorem below_grown0 {w w' : World} {row : Option Nat} (hb : Below w.heap.size w w') : w.grownBy w' row := ⟨hb.os, hb.tape, hb.output, hb.size, fun k hk _ => hb.block k hk⟩
theorem failBits_wf (m : List (List Int)) (s : List Int) (h : m.length ≤ 12) : (Lit.int .i64 ((failBits m s m.length : Nat) : Int)).wf = true := by
  have := failBits_small m s m.length h
  exact WalkArith.wf_i64 (by omega)
theorem count_or {x i : Nat} {e : Value} (hx : x < 2 ^ i) (hi : i < 12) (h : e = .int .i64 (Go.bits .or .i64 (x : Int) (wrap64 ((2 : Int) ^ i))) := by rfl) : e = .int .i64 ((x + 2 ^ i : Nat) : Int) := by
  have h12 : 2 ^ i < 4096 := Nat.pow_lt_pow_of_lt (by decide) hi
  have e1 : wrap64 ((2 : Int) ^ i) = ((2 ^ i : Nat) : Int) := by
    have : ((2 : Int) ^ i) = ((2 ^ i : Nat) : Int) := by rw [Int.natCast_pow]; rfl
    unfold wrap64
    omega
  rw [h, e1, failBits_or hx hi]
theorem count_below {w1 wr wi w4 : World} (h1 : Below w1.heap.size w1 wr) (h2 : Below wr.heap.size wr wi) (h3 : wi.grownBy w4 (some w1.heap.size)) : Below w1.heap.size w1 w4 :=
  (below_step h1 h2).grown h3 (below_step h1 h2).size (fun j hj => by cases hj; exact Nat.le_refl _)
set_option maxHeartbeats 4000000 in
set_option maxRecDepth 100000 in
theorem impl_CountClasses.calls (k : Nat) (A0 : Option Addr) (c0 : Nat) (l0 : List (List Int)) (a1 a2 : Int) (r : Int) (w : World) (hr0 : Kd.C (Kd.slice 3 (Kd.int .i64)) w A0 l0.length l0) (hc0 : l0.length ≤ c0) (h : impl_CountClasses.f k l0 a1 a2 = some r) :
    Calls Try.prog 29 #[.slice A0 l0.length c0, .int .i64 a1, .int .i64 a2] w fun e w' => e = .returned (.int .i64 r) ∧ Below w.heap.size w w' := by
  obtain ⟨t, ht, h⟩ := Option.bind_eq_some_iff.mp h
  have k1 := impl_isBits.calls k A0 c0 l0 a1 t w hr0 hc0 ht
  have HR0 := Aside0.mk hr0
  have HC0 := Aside0.mk hc0
  clear ht hr0 hc0
  cases t with
  | false =>
    have e : 0 = r := by simpa using h
    subst e
    clear h
    go_enter Try.func29, Try.ntmps29
    go_wp2_with (first | (go_at_call 50; refine k1.mono ?_; rintro e w1 ⟨rfl, hb⟩; have HB := Aside0.mk hb; clear hb) | fail)
    go_ret
    exact ⟨rfl, HB.out⟩
  | true =>
    rw [if_pos rfl] at h
    by_cases h2 : a2 < 0
    · rw [if_pos h2] at h
      obtain rfl := Option.some.inj h
      have d2 : decide (a2 < 0) = true := decide_eq_true h2
      clear h h2
      go_enter Try.func29, Try.ntmps29
      go_wp2_with (first | (go_at_call 50; refine k1.mono ?_; rintro e w1 ⟨rfl, hb⟩; have HB := Aside0.mk hb; clear hb) | fail)
      go_ret
      exact ⟨rfl, HB.out⟩
    · rw [if_neg h2] at h
      obtain ⟨ss, hs, h⟩ := Option.bind_eq_some_iff.mp h
      have hbd : l0.length ≤ 12 ∧ ss.length ≤ 1000000 := by
        by_cases hq : l0.length ≤ 12 ∧ ss.length ≤ 1000000
        · exact hq
        · rw [if_neg hq] at h; cases h
      rw [if_pos hbd] at h
      obtain rfl := Option.some.inj h
      obtain ⟨hl12, hss⟩ := hbd
      have d2 : decide (a2 < 0) = false := decide_eq_false h2
      have HS := Aside0.mk hs
      clear h h2 hs
      have hmm := @run_makeMap Try.prog
      go_enter Try.func29, Try.ntmps29
      go_wp2_with (first | (go_at_call 50; refine k1.mono ?_; rintro e w1 ⟨rfl, hb⟩; have HB := Aside0.mk hb; clear hb k1) | (go_at_call 56; refine (impl_setsTo.calls k a1 a2 ss _ HS.out).mono ?_; rintro e w2 ⟨v2, rfl, ho, hb⟩; obtain ⟨Ao, co, rfl⟩ := Kd.N_slice ho; have HN := Aside0.mk ho; have HB2 := Aside0.mk hb; clear ho hb) | fail)
      go_loopg [26] ss.length (fun gg s26 wr => ∃ j : Nat, j ≤ ss.length ∧ ss.length - j ≤ gg ∧ s26 = .int .i64 (j : Int) ∧ Aside0 (wr.ownsMap Try.prog 3 (plainElem (H := Unit) Try.prog 3) w1.heap.size j (setOf (H := Unit) (.lit (.int .i64 1)) (bitKeys l0 (ss.take j)))) ∧ Aside0 (Kd.N (Kd.slice 3 (Kd.int .i64)) 30 wr (w1.heap.size + 1) (fun k_ => w1.heap.size + 1 ≤ k_) (.slice Ao ss.length co) ss) ∧ Aside0 (Below w1.heap.size w1 wr))
      case atStart => exact ⟨0, Nat.zero_le _, Nat.le_refl _, rfl, count_at0 HB2.out, count_N0 HN.out, count_B0 HB2.out⟩
      case round =>
        clear HN HB2 hmm
        obtain ⟨j, hj, hg, rfl, HM, HN, HW⟩ := hrel
        by_cases hlt : j < ss.length
        · have hltz : (j : Int) < (ss.length : Int) := by omega
          obtain ⟨ad, Aj, cj, e, hcell, hlen, hC⟩ := at_L1 (Kd.N_reads' HN.out).2.2 (j : Int) (by omega) (by omega)
          subst e
          rw [show (j : Int).toNat = j from rfl] at hcell
          have HLEN := Aside0.mk hlen
          have HC := Aside0.mk hC
          clear hlen hC
          go_wp2
          go_loopg [10, 32] l0.length (fun gg s10 s32 wi => ∃ i : Nat, i ≤ l0.length ∧ l0.length - i ≤ gg ∧ s32 = .int .i64 (i : Int) ∧ s10 = .int .i64 ((failBits l0 (rd_L1 ss (j : Int)) i : Nat) : Int) ∧ Aside0 (Below wr.heap.size wr wi))
          case atStart => exact ⟨0, Nat.zero_le _, Nat.le_refl _, rfl, rfl, ⟨Below.refl _ _⟩⟩
          case round =>
            obtain ⟨i, hi, hgi, rfl, rfl, BW⟩ := hrel
            by_cases hil : i < l0.length
            · have hilz : (i : Int) < (l0.length : Int) := by omega
              obtain ⟨ad0, Ai, ci, e0, hcell0, hlen0, hC0⟩ := at_L1 (Kd.C_below HR0.out ((below_step HB.out HW.out).trans (BW.out.mono (below_step HB.out HW.out).size))) (i : Int) (by omega) (by omega)
              subst e0
              rw [show (i : Int).toNat = i from rfl] at hcell0
              have hcall := impl_FailsWith.calls Ai ci (rd_L1 l0 (i : Int)) Aj cj (rd_L1 ss (j : Int)) _ _ hC0 hlen0 (Kd.C_below HC.out BW.out) HLEN.out rfl
              have hfs : failBits l0 (rd_L1 ss (j : Int)) (i + 1) = failBits l0 (rd_L1 ss (j : Int)) i + (if (rd_L1 ss (j : Int)).any (failsB (rd_L1 l0 (i : Int))) = true then 2 ^ i else 0) := rfl
              have hfl := failBits_lt l0 (rd_L1 ss (j : Int)) i
              have HHC := Aside0.mk hcall
              have HFS := Aside0.mk hfs
              have HFL := Aside0.mk hfl
              clear hcall hfs hfl hlen0 hC0
              have hi64 : (i : Int) ≤ 64 := by omega
              cases hq : (rd_L1 ss (j : Int)).any (failsB (rd_L1 l0 (i : Int))) with
              | true =>
                rw [hq] at HHC HFS
                rw [if_pos rfl] at HFS
                clear hq
                go_wp2_with (first | (go_at_call 57; refine HHC.out.mono ?_; rintro e w3 ⟨rfl, hb⟩; have HB3 := Aside0.mk hb; clear hb) | fail)
                go_roundg (l0.length - (i + 1))
                case measure => omega
                case rel => exact ⟨i + 1, by omega, by omega, by go_num, by rw [HFS.out]; exact count_or HFL.out (by omega), ⟨below_step BW.out HB3.out⟩⟩
              | false =>
                rw [hq] at HHC HFS
                rw [if_neg (by simp), Nat.add_zero] at HFS
                clear hq
                go_wp2_with (first | (go_at_call 57; refine HHC.out.mono ?_; rintro e w3 ⟨rfl, hb⟩; have HB3 := Aside0.mk hb; clear hb) | fail)
                go_roundg (l0.length - (i + 1))
                case measure => omega
                case rel => exact ⟨i + 1, by omega, by omega, by go_num, by rw [HFS.out]; rfl, ⟨below_step BW.out HB3.out⟩⟩
            · have hilz : ¬ (i : Int) < (l0.length : Int) := by omega
              have hin : i = l0.length := by omega
              subst hin
              have hown := HM.out.kept (row := none) (below_grown0 BW.out) (by simp)
              have hnx := HN.out
              have hkey : keyOf Try.prog 3 (.int .i64 ((failBits l0 (rd_L1 ss (j : Int)) l0.length : Nat) : Int)) = some (.int .i64 ((failBits l0 (rd_L1 ss (j : Int)) l0.length : Nat) : Int)) := keyOf_int_mk Try.underlying3 (failBits_wf l0 _ hl12)
              have HNW := Aside0.mk (Kd.N_below hnx BW.out)
              have HST := Aside0.mk (count_step (m := l0) hlt)
              clear hnx
              go_wp2_with (first | (at_mapUpdate; refine wpList_mapUpdate_own _ rfl _ _ _ 59 rfl 3 3 count_key Try.underlying59 _ w1.heap.size j _ rfl hown (by unfold maxLen; omega) _ _ _ rfl rfl hkey _ [] (plainElem_int Try.underlying3 (by decide)) ?_; intro w4 hown1 hgrow1; have HOW := Aside0.mk hown1; have HGR := Aside0.mk hgrow1; clear hown1 hgrow1 hown) | go_in)
              go_roundg (ss.length - (j + 1))
              case measure => omega
              case rel => exact ⟨j + 1, by omega, by omega, by go_num, ⟨by rw [HST.out]; exact HOW.out⟩, ⟨Kd.N_grown HNW.out HGR.out (fun k_ hk e => by injection e with e; omega)⟩, ⟨count_below HW.out BW.out HGR.out⟩⟩
        · have hltz : ¬ (j : Int) < (ss.length : Int) := by omega
          have hkn : j = ss.length := by omega
          subst hkn
          have hown := HM.out
          go_wp2_with (first | (at_len; refine wpList_len_own _ rfl _ 59 rfl 3 3 Try.underlying59 _ w1.heap.size ss.length _ rfl hown ?_) | go_in)
          go_ret
          exact ⟨count_size rfl, below_step HB.out HW.out⟩
end

/-! ### impl_ToldSize: function 31 -/
def impl_ToldSize.l0 : Nat → List (List Int) → Int → Int → Option (Int)
  | 0, _, _, _ => none
  | k + 1, x0, x1, x5 => if x5 > 0 then ((impl_CountClasses.f k x0 x1 x5).bind fun t198 => ((impl_setsTo.f k x1 x5).bind fun t199 => (if t198 = (t199.length : Int) then (some x5) else (impl_ToldSize.l0 k x0 x1 (wrap64 (x5 - 1)))))) else (some 0)
def impl_ToldSize.f (k : Nat) (l0 : List (List Int)) (a1 : Int) : Option (Int) := (impl_isBits.f k l0 a1).bind fun t197 => (if t197 = true then (impl_ToldSize.l0 k l0 a1 a1) else (some (-1)))
theorem impl_ToldSize.mono_l : ∀ k, (∀ y0 y1 y2, LeO (impl_ToldSize.l0 k y0 y1 y2) (impl_ToldSize.l0 (k + 1) y0 y1 y2))
  | 0 => fun _ _ _ r h => by simp [impl_ToldSize.l0] at h
  | k + 1 => by
    have ih0 := impl_ToldSize.mono_l k
    · intro y0 y1 y2
      unfold impl_ToldSize.l0
      repeat' first
      | (with_reducible exact ih0 _ _ _)
      | (with_reducible exact impl_CountClasses.mono _ _ _ _)
      | (with_reducible exact impl_isBits.mono _ _ _)
      | (with_reducible exact impl_setsTo.mono _ _ _)
      | (with_reducible exact LeO.refl _)
      | (with_reducible exact LeO.none _)
      | (with_reducible refine LeO.ite ?_ ?_)
      | (with_reducible refine LeO.bind ?_ (fun _ => ?_))
      | exact ih0 _ _ _
      | exact impl_CountClasses.mono _ _ _ _
      | exact impl_isBits.mono _ _ _
      | exact impl_setsTo.mono _ _ _
      | exact LeO.none _
      | refine LeO.ite ?_ ?_
      | refine LeO.bind ?_ (fun _ => ?_)
theorem impl_ToldSize.mono : ∀ a0 a1 k, LeO (impl_ToldSize.f k a0 a1) (impl_ToldSize.f (k + 1) a0 a1) := by
  intro a0 a1 k
  have ih0 := impl_ToldSize.mono_l k
  unfold impl_ToldSize.f
  repeat' first
      | (with_reducible exact ih0 _ _ _)
      | (with_reducible exact impl_CountClasses.mono _ _ _ _)
      | (with_reducible exact impl_isBits.mono _ _ _)
      | (with_reducible exact impl_setsTo.mono _ _ _)
      | (with_reducible exact LeO.refl _)
      | (with_reducible exact LeO.none _)
      | (with_reducible refine LeO.ite ?_ ?_)
      | (with_reducible refine LeO.bind ?_ (fun _ => ?_))
      | exact ih0 _ _ _
      | exact impl_CountClasses.mono _ _ _ _
      | exact impl_isBits.mono _ _ _
      | exact impl_setsTo.mono _ _ _
      | exact LeO.none _
      | refine LeO.ite ?_ ?_
      | refine LeO.bind ?_ (fun _ => ?_)
set_option maxHeartbeats 8000000 in
set_option maxRecDepth 100000 in
theorem impl_ToldSize.calls (k : Nat) (A0 : Option Addr) (c0 : Nat) (l0 : List (List Int)) (a1 : Int) (r : Int) (w : World) (hr0 : Kd.C (Kd.slice 3 (Kd.int .i64)) w A0 l0.length l0) (hc0 : l0.length ≤ c0) (h : impl_ToldSize.f k l0 a1 = some r) :
    Calls Try.prog 31 #[.slice A0 l0.length c0, .int .i64 a1] w fun e w' => e = .returned (.int .i64 r) ∧ Below w.heap.size w w' := by
  have HR0 := Aside0.mk hr0
  have HC0 := Aside0.mk hc0
  clear hr0 hc0
  have HB := Aside0.mk (Below.refl w.heap.size w)
  have H : ((impl_isBits.f k l0 a1).bind fun t197 => (if t197 = true then (impl_ToldSize.l0 k l0 a1 a1) else (some (-1)))) = some r := h
  clear h
  replace H := Option.bind_eq_some_iff.mp H
  obtain ⟨t197, A30, H⟩ := H
  replace H : (if t197 = true then (impl_ToldSize.l0 k l0 a1 a1) else (some (-1))) = some r := H
  have A3 := Aside0.mk A30
  clear A30
  by_cases c4 : t197 = true
  · subst c4
    have H1 : (impl_ToldSize.l0 k l0 a1 a1) = some r := by rw [if_pos rfl] at H; exact H
    clear H
    have H := H1
    clear H1
    have H' := Aside0.mk H
    clear H
    go_enter Try.func31, Try.ntmps31
    go_wp2_with (first | ((with_reducible refine gate_callee (f := 50) rfl ?_); refine goesL_ (some 8) rfl rfl Try.func50 (by kernel_rfl) rfl #[.slice A0 l0.length c0, .int .i64 a1] rfl (by (try simp only [List.map_toArray, List.map_cons, List.map_nil]); first | done | rfl | (simp only [List.length_drop, List.length_take]; rfl)) ?_; (with_reducible refine (impl_isBits.calls k _ _ l0 a1 true _ ?side1 ?side2 A3.out).mono ?_); (case side1 => repeat (first | exact HR0.out | (with_reducible refine Kd.C_alloc ?_ _) | (with_reducible refine Kd.C_drewN ?_ _) | (with_reducible refine Kd.C_drew ?_))); (case side2 => exact HC0.out); rintro e w5 ⟨rfl, hb⟩; refine ⟨_, rfl, ?_⟩; have n0_ := Aside0.mk (below_step (by repeat (first | (with_reducible first | exact HB.out | apply below_alloc | apply pw_below_drewN | apply below_drew1) | exact HB.out)) hb); clear HB; have HB := n0_; clear n0_; (try clear hb); (try clear hb2); (try clear hk); (try clear hi)))
    go_loopg [5] k (fun kq v5 w' => ∃ (x5_1 : Int), v5 = .int .i64 x5_1 ∧ Aside0 (impl_ToldSize.l0 kq l0 a1 x5_1 = some r) ∧ Aside0 (kq ≤ k) ∧ Aside0 (Below w.heap.size w w'))
    case atStart => exact ⟨(a1), (by first | rfl | (simp; done) | (simp [*]; done)), H', ⟨Nat.le_refl _⟩, ⟨by repeat (first | (with_reducible first | exact HB.out | apply below_alloc | apply pw_below_drewN | apply below_drew1) | exact HB.out)⟩⟩
    case round =>
      clear H'
      try clear p2
      try clear c3
      try clear c4
      try clear c5
      obtain ⟨x5_1, rfl, HA, HK1, HB⟩ := hrel
      cases gk with
      | zero => exact absurd HA.out (by simp [impl_ToldSize.l0])
      | succ k1 =>
        have H := HA.out
        clear HA
        simp only [impl_ToldSize.l0] at H
        by_cases c6 : x5_1 > 0
        · rw [if_pos c6] at H
          have c6b0 : decide (0 < x5_1) = true := decide_eq_true c6
          clear c6
          replace H := Option.bind_eq_some_iff.mp H
          obtain ⟨t198, A70, H⟩ := H
          replace H : ((impl_setsTo.f k1 a1 x5_1).bind fun t199 => (if t198 = (t199.length : Int) then (some x5_1) else (impl_ToldSize.l0 k1 l0 a1 (wrap64 (x5_1 - 1))))) = some r := H
          have A7 := Aside0.mk A70
          clear A70
          replace H := Option.bind_eq_some_iff.mp H
          obtain ⟨t199, A80, H⟩ := H
          replace H : (if t198 = (t199.length : Int) then (some x5_1) else (impl_ToldSize.l0 k1 l0 a1 (wrap64 (x5_1 - 1)))) = some r := H
          have A8 := Aside0.mk A80
          clear A80
          by_cases c9 : t198 = (t199.length : Int)
          · rw [if_pos c9] at H
            have c9b0 : (t198 == (t199.length : Int)) = true := beq_iff_eq.mpr c9
            have c9b1 : (t198 != (t199.length : Int)) = false := bne_eq_false_iff_eq.mpr c9
            clear c9
            obtain rfl := Option.some.inj H
            go_wp2_with (first | ((with_reducible refine gate_callee (f := 29) rfl ?_); refine goesL_ (some 18) rfl rfl Try.func29 (by kernel_rfl) rfl #[.slice A0 l0.length c0, .int .i64 a1, .int .i64 x5_1] rfl (by (try simp only [List.map_toArray, List.map_cons, List.map_nil]); first | done | rfl | (simp only [List.length_drop, List.length_take]; rfl)) ?_; (with_reducible refine (impl_CountClasses.calls k1 _ _ l0 a1 x5_1 t198 _ ?side1 ?side2 A7.out).mono ?_); (case side1 => repeat (first | exact (Kd.C_below HR0.out HB.out) | (with_reducible refine Kd.C_alloc ?_ _) | (with_reducible refine Kd.C_drewN ?_ _) | (with_reducible refine Kd.C_drew ?_))); (case side2 => exact HC0.out); rintro e w10 ⟨rfl, hb⟩; refine ⟨_, rfl, ?_⟩; have n0_ := Aside0.mk (below_step (by repeat (first | (with_reducible first | exact HB.out | apply below_alloc | apply pw_below_drewN | apply below_drew1) | exact HB.out)) hb); clear HB; have HB := n0_; clear n0_; (try clear hb); (try clear hb2); (try clear hk); (try clear hi)) | ((with_reducible refine gate_callee (f := 56) rfl ?_); refine goesL_ (some 21) rfl rfl Try.func56 (by kernel_rfl) rfl #[.int .i64 a1, .int .i64 x5_1] rfl (by (try simp only [List.map_toArray, List.map_cons, List.map_nil]); first | done | rfl | (simp only [List.length_drop, List.length_take]; rfl)) ?_; (with_reducible refine (impl_setsTo.calls k1 a1 x5_1 t199 _ A8.out).mono ?_); rintro e w11 ⟨v200, rfl, ho0, hb⟩; refine ⟨_, rfl, ?_⟩; have n0_ := Aside0.mk (Kd.N_lower (Kd.N_mono (ok' := fun k_ => True) ho0 (fun k_ hk_ => trivial)) (below_size (by repeat (first | (with_reducible first | exact HB.out | apply below_alloc | apply pw_below_drewN | apply below_drew1) | exact HB.out)))); have n1_ := Aside0.mk (below_step (by repeat (first | (with_reducible first | exact HB.out | apply below_alloc | apply pw_below_drewN | apply below_drew1) | exact HB.out)) hb); clear HB; have HO201 := n0_; have HB := n1_; clear n0_ n1_; (try clear hb); (try clear hb2); (try clear hk); (try clear hi); (try clear ho0); obtain ⟨Ao12, co12, eo12⟩ := Kd.N_slice HO201.out; subst eo12))
            go_ret
            exact ⟨by first | rfl | (simp [errW_none, errW_some] <;> rfl) | (simp [*, errW_none, errW_some] <;> rfl), by repeat (first | (with_reducible first | exact HB.out | apply below_alloc | apply pw_below_drewN | apply below_drew1) | exact HB.out)⟩
          · rw [if_neg c9] at H
            have c9b0 : (t198 == (t199.length : Int)) = false := beq_eq_false_iff_ne.mpr c9
            have c9b1 : (t198 != (t199.length : Int)) = true := bne_iff_ne.mpr c9
            have H' := Aside0.mk H
            clear H
            go_wp2_with (first | ((with_reducible refine gate_callee (f := 29) rfl ?_); refine goesL_ (some 18) rfl rfl Try.func29 (by kernel_rfl) rfl #[.slice A0 l0.length c0, .int .i64 a1, .int .i64 x5_1] rfl (by (try simp only [List.map_toArray, List.map_cons, List.map_nil]); first | done | rfl | (simp only [List.length_drop, List.length_take]; rfl)) ?_; (with_reducible refine (impl_CountClasses.calls k1 _ _ l0 a1 x5_1 t198 _ ?side1 ?side2 A7.out).mono ?_); (case side1 => repeat (first | exact (Kd.C_below HR0.out HB.out) | (with_reducible refine Kd.C_alloc ?_ _) | (with_reducible refine Kd.C_drewN ?_ _) | (with_reducible refine Kd.C_drew ?_))); (case side2 => exact HC0.out); rintro e w13 ⟨rfl, hb⟩; refine ⟨_, rfl, ?_⟩; have n0_ := Aside0.mk (below_step (by repeat (first | (with_reducible first | exact HB.out | apply below_alloc | apply pw_below_drewN | apply below_drew1) | exact HB.out)) hb); clear HB; have HB := n0_; clear n0_; (try clear hb); (try clear hb2); (try clear hk); (try clear hi)) | ((with_reducible refine gate_callee (f := 56) rfl ?_); refine goesL_ (some 21) rfl rfl Try.func56 (by kernel_rfl) rfl #[.int .i64 a1, .int .i64 x5_1] rfl (by (try simp only [List.map_toArray, List.map_cons, List.map_nil]); first | done | rfl | (simp only [List.length_drop, List.length_take]; rfl)) ?_; (with_reducible refine (impl_setsTo.calls k1 a1 x5_1 t199 _ A8.out).mono ?_); rintro e w14 ⟨v200, rfl, ho0, hb⟩; refine ⟨_, rfl, ?_⟩; have n0_ := Aside0.mk (Kd.N_lower (Kd.N_mono (ok' := fun k_ => True) ho0 (fun k_ hk_ => trivial)) (below_size (by repeat (first | (with_reducible first | exact HB.out | apply below_alloc | apply pw_below_drewN | apply below_drew1) | exact HB.out)))); have n1_ := Aside0.mk (below_step (by repeat (first | (with_reducible first | exact HB.out | apply below_alloc | apply pw_below_drewN | apply below_drew1) | exact HB.out)) hb); clear HB; have HO201 := n0_; have HB := n1_; clear n0_ n1_; (try clear hb); (try clear hb2); (try clear hk); (try clear hi); (try clear ho0); obtain ⟨Ao15, co15, eo15⟩ := Kd.N_slice HO201.out; subst eo15))
            go_roundg k1
            case measure => have := HK1.out; omega
            case rel => exact ⟨(wrap64 (x5_1 - 1)), (by first | rfl | (simp; done) | (simp [*]; done)), H', ⟨by have := HK1.out; omega⟩, ⟨by repeat (first | (with_reducible first | exact HB.out | apply below_alloc | apply pw_below_drewN | apply below_drew1) | exact HB.out)⟩⟩
        · rw [if_neg c6] at H
          have c6b0 : decide (0 < x5_1) = false := decide_eq_false c6
          clear c6
          obtain rfl := Option.some.inj H
          go_wp2
          go_ret
          exact ⟨by first | rfl | (simp [errW_none, errW_some] <;> rfl) | (simp [*, errW_none, errW_some] <;> rfl), by repeat (first | (with_reducible first | exact HB.out | apply below_alloc | apply pw_below_drewN | apply below_drew1) | exact HB.out)⟩
  · replace c4 := Bool.eq_false_iff.mpr c4
    subst c4
    have H1 : (some (-1)) = some r := by rw [if_neg (show ¬ (false = true) by decide)] at H; exact H
    clear H
    have H := H1
    clear H1
    obtain rfl := Option.some.inj H
    go_enter Try.func31, Try.ntmps31
    go_wp2_with (first | ((with_reducible refine gate_callee (f := 50) rfl ?_); refine goesL_ (some 8) rfl rfl Try.func50 (by kernel_rfl) rfl #[.slice A0 l0.length c0, .int .i64 a1] rfl (by (try simp only [List.map_toArray, List.map_cons, List.map_nil]); first | done | rfl | (simp only [List.length_drop, List.length_take]; rfl)) ?_; (with_reducible refine (impl_isBits.calls k _ _ l0 a1 false _ ?side1 ?side2 A3.out).mono ?_); (case side1 => repeat (first | exact HR0.out | (with_reducible refine Kd.C_alloc ?_ _) | (with_reducible refine Kd.C_drewN ?_ _) | (with_reducible refine Kd.C_drew ?_))); (case side2 => exact HC0.out); rintro e w16 ⟨rfl, hb⟩; refine ⟨_, rfl, ?_⟩; have n0_ := Aside0.mk (below_step (by repeat (first | (with_reducible first | exact HB.out | apply below_alloc | apply pw_below_drewN | apply below_drew1) | exact HB.out)) hb); clear HB; have HB := n0_; clear n0_; (try clear hb); (try clear hb2); (try clear hk); (try clear hi)))
    go_ret
    exact ⟨by first | rfl | (simp [errW_none, errW_some] <;> rfl) | (simp [*, errW_none, errW_some] <;> rfl), by repeat (first | (with_reducible first | exact HB.out | apply below_alloc | apply pw_below_drewN | apply below_drew1) | exact HB.out)⟩

/-! ### laws_FnExactToldSize: function 7 -/
def laws_FnExactToldSize.f (k : Nat) (l0 : List (List Int)) (a1 : Int) : Option (Bool) := (laws_szIntSS.f k l0 1048576).bind fun t202 => (if t202 < 0 then (some true) else ((laws_toIntSS.f k l0).bind fun t203 => ((spec_ToldSize.f k t203 a1).bind fun t206 => ((laws_toIntSS.f k l0).bind fun t207 => ((impl_ToldSize.f k t207 a1).bind fun t210 => (if t210 = t206 then ((laws_toIntSS.f k l0).bind fun t211 => ((laws_eqIntSS.f k t207 t211).bind fun t214 => (if t214 = true then (some true) else (some false)))) else (some false)))))))
theorem laws_FnExactToldSize.mono : ∀ a0 a1 k, LeO (laws_FnExactToldSize.f k a0 a1) (laws_FnExactToldSize.f (k + 1) a0 a1) := by
  intro a0 a1 k
  unfold laws_FnExactToldSize.f
  repeat' first
      | (with_reducible exact impl_ToldSize.mono _ _ _)
      | (with_reducible exact laws_eqIntSS.mono _ _ _)
      | (with_reducible exact laws_szIntSS.mono _ _ _)
      | (with_reducible exact laws_toIntSS.mono _ _)
      | (with_reducible exact spec_ToldSize.mono _ _ _)
      | (with_reducible exact LeO.refl _)
      | (with_reducible exact LeO.none _)
      | (with_reducible refine LeO.ite ?_ ?_)
      | (with_reducible refine LeO.bind ?_ (fun _ => ?_))
      | exact impl_ToldSize.mono _ _ _
      | exact laws_eqIntSS.mono _ _ _
      | exact laws_szIntSS.mono _ _ _
      | exact laws_toIntSS.mono _ _
      | exact spec_ToldSize.mono _ _ _
      | exact LeO.none _
      | refine LeO.ite ?_ ?_
      | refine LeO.bind ?_ (fun _ => ?_)
set_option maxHeartbeats 8000000 in
set_option maxRecDepth 100000 in
theorem laws_FnExactToldSize.calls (k : Nat) (A0 : Option Addr) (c0 : Nat) (l0 : List (List Int)) (a1 : Int) (r : Bool) (w : World) (hr0 : Kd.C (Kd.slice 3 (Kd.int .i64)) w A0 l0.length l0) (hc0 : l0.length ≤ c0) (h : laws_FnExactToldSize.f k l0 a1 = some r) :
    Calls Try.prog 7 #[.slice A0 l0.length c0, .int .i64 a1] w fun e w' => e = .returned (.bool r) ∧ Below w.heap.size w w' := by
  have HR0 := Aside0.mk hr0
  have HC0 := Aside0.mk hc0
  clear hr0 hc0
  have HB := Aside0.mk (Below.refl w.heap.size w)
  have H : ((laws_szIntSS.f k l0 1048576).bind fun t202 => (if t202 < 0 then (some true) else ((laws_toIntSS.f k l0).bind fun t203 => ((spec_ToldSize.f k t203 a1).bind fun t206 => ((laws_toIntSS.f k l0).bind fun t207 => ((impl_ToldSize.f k t207 a1).bind fun t210 => (if t210 = t206 then ((laws_toIntSS.f k l0).bind fun t211 => ((laws_eqIntSS.f k t207 t211).bind fun t214 => (if t214 = true then (some true) else (some false)))) else (some false)))))))) = some r := h
  clear h
  replace H := Option.bind_eq_some_iff.mp H
  obtain ⟨t202, A30, H⟩ := H
  replace H : (if t202 < 0 then (some true) else ((laws_toIntSS.f k l0).bind fun t203 => ((spec_ToldSize.f k t203 a1).bind fun t206 => ((laws_toIntSS.f k l0).bind fun t207 => ((impl_ToldSize.f k t207 a1).bind fun t210 => (if t210 = t206 then ((laws_toIntSS.f k l0).bind fun t211 => ((laws_eqIntSS.f k t207 t211).bind fun t214 => (if t214 = true then (some true) else (some false)))) else (some false))))))) = some r := H
  have A3 := Aside0.mk A30
  clear A30
  by_cases c4 : t202 < 0
  · rw [if_pos c4] at H
    have c4b0 : decide (t202 < 0) = true := decide_eq_true c4
    clear c4
    obtain rfl := Option.some.inj H
    go_enter Try.func7, Try.ntmps7
    go_wp2_with (first | ((with_reducible refine gate_callee (f := 12) rfl ?_); refine goesL_ (some 11) rfl rfl Try.func12 (by kernel_rfl) rfl #[.slice A0 l0.length c0, .int .i64 1048576] rfl (by (try simp only [List.map_toArray, List.map_cons, List.map_nil]); first | done | rfl | (simp only [List.length_drop, List.length_take]; rfl)) ?_; (with_reducible refine (laws_szIntSS.calls k _ _ l0 1048576 t202 _ ?side1 ?side2 A3.out).mono ?_); (case side1 => repeat (first | exact HR0.out | (with_reducible refine Kd.C_alloc ?_ _) | (with_reducible refine Kd.C_drewN ?_ _) | (with_reducible refine Kd.C_drew ?_))); (case side2 => exact HC0.out); rintro e w' ⟨rfl, ⟨nd, rfl⟩⟩; refine ⟨_, rfl, ?_⟩))
    go_ret
    exact ⟨by first | rfl | (simp [errW_none, errW_some] <;> rfl) | (simp [*, errW_none, errW_some] <;> rfl), by repeat (first | (with_reducible first | exact HB.out | apply below_alloc | apply pw_below_drewN | apply below_drew1) | exact HB.out)⟩
  · rw [if_neg c4] at H
    have c4b0 : decide (t202 < 0) = false := decide_eq_false c4
    clear c4
    replace H := Option.bind_eq_some_iff.mp H
    obtain ⟨t203, A50, H⟩ := H
    replace H : ((spec_ToldSize.f k t203 a1).bind fun t206 => ((laws_toIntSS.f k l0).bind fun t207 => ((impl_ToldSize.f k t207 a1).bind fun t210 => (if t210 = t206 then ((laws_toIntSS.f k l0).bind fun t211 => ((laws_eqIntSS.f k t207 t211).bind fun t214 => (if t214 = true then (some true) else (some false)))) else (some false))))) = some r := H
    have A5 := Aside0.mk A50
    clear A50
    replace H := Option.bind_eq_some_iff.mp H
    obtain ⟨t206, A60, H⟩ := H
    replace H : ((laws_toIntSS.f k l0).bind fun t207 => ((impl_ToldSize.f k t207 a1).bind fun t210 => (if t210 = t206 then ((laws_toIntSS.f k l0).bind fun t211 => ((laws_eqIntSS.f k t207 t211).bind fun t214 => (if t214 = true then (some true) else (some false)))) else (some false)))) = some r := H
    have A6 := Aside0.mk A60
    clear A60
    replace H := Option.bind_eq_some_iff.mp H
    obtain ⟨t207, A70, H⟩ := H
    replace H : ((impl_ToldSize.f k t207 a1).bind fun t210 => (if t210 = t206 then ((laws_toIntSS.f k l0).bind fun t211 => ((laws_eqIntSS.f k t207 t211).bind fun t214 => (if t214 = true then (some true) else (some false)))) else (some false))) = some r := H
    have A7 := Aside0.mk A70
    clear A70
    replace H := Option.bind_eq_some_iff.mp H
    obtain ⟨t210, A80, H⟩ := H
    replace H : (if t210 = t206 then ((laws_toIntSS.f k l0).bind fun t211 => ((laws_eqIntSS.f k t207 t211).bind fun t214 => (if t214 = true then (some true) else (some false)))) else (some false)) = some r := H
    have A8 := Aside0.mk A80
    clear A80
    by_cases c9 : t210 = t206
    · rw [if_pos c9] at H
      have c9b0 : (t210 == t206) = true := beq_iff_eq.mpr c9
      have c9b1 : (t210 != t206) = false := bne_eq_false_iff_eq.mpr c9
      clear c9
      replace H := Option.bind_eq_some_iff.mp H
      obtain ⟨t211, A100, H⟩ := H
      replace H : ((laws_eqIntSS.f k t207 t211).bind fun t214 => (if t214 = true then (some true) else (some false))) = some r := H
      have A10 := Aside0.mk A100
      clear A100
      replace H := Option.bind_eq_some_iff.mp H
      obtain ⟨t214, A110, H⟩ := H
      replace H : (if t214 = true then (some true) else (some false)) = some r := H
      have A11 := Aside0.mk A110
      clear A110
      by_cases c12 : t214 = true
      · subst c12
        have H1 : (some true) = some r := by rw [if_pos rfl] at H; exact H
        clear H
        have H := H1
        clear H1
        obtain rfl := Option.some.inj H
        go_enter Try.func7, Try.ntmps7
        go_wp2_with (first | ((with_reducible refine gate_callee (f := 12) rfl ?_); refine goesL_ (some 11) rfl rfl Try.func12 (by kernel_rfl) rfl #[.slice A0 l0.length c0, .int .i64 1048576] rfl (by (try simp only [List.map_toArray, List.map_cons, List.map_nil]); first | done | rfl | (simp only [List.length_drop, List.length_take]; rfl)) ?_; (with_reducible refine (laws_szIntSS.calls k _ _ l0 1048576 t202 _ ?side1 ?side2 A3.out).mono ?_); (case side1 => repeat (first | exact HR0.out | (with_reducible refine Kd.C_alloc ?_ _) | (with_reducible refine Kd.C_drewN ?_ _) | (with_reducible refine Kd.C_drew ?_))); (case side2 => exact HC0.out); rintro e w' ⟨rfl, ⟨nd, rfl⟩⟩; refine ⟨_, rfl, ?_⟩) | ((with_reducible refine gate_callee (f := 14) rfl ?_); refine goesL_ (some 15) rfl rfl Try.func14 (by kernel_rfl) rfl #[.slice A0 l0.length c0] rfl (by (try simp only [List.map_toArray, List.map_cons, List.map_nil]); first | done | rfl | (simp only [List.length_drop, List.length_take]; rfl)) ?_; (with_reducible refine (laws_toIntSS.calls k _ _ l0 t203 _ ?side1 ?side2 A5.out).mono ?_); (case side1 => repeat (first | exact HR0.out | (with_reducible refine Kd.C_alloc ?_ _) | (with_reducible refine Kd.C_drewN ?_ _) | (with_reducible refine Kd.C_drew ?_))); (case side2 => exact HC0.out); rintro e w13 ⟨v204, rfl, ho0, hb⟩; refine ⟨_, rfl, ?_⟩; have n0_ := Aside0.mk (Kd.S_lower ho0 (below_size (by repeat (first | (with_reducible first | exact HB.out | apply below_alloc | apply pw_below_drewN | apply below_drew1) | exact HB.out)))); have n1_ := Aside0.mk (below_step (by repeat (first | (with_reducible first | exact HB.out | apply below_alloc | apply pw_below_drewN | apply below_drew1) | exact HB.out)) hb); clear HB; have HO205 := n0_; have HB := n1_; clear n0_ n1_; (try clear hb); (try clear hb2); (try clear hk); (try clear hi); (try clear ho0); obtain ⟨Ao14, co14, eo14⟩ := Kd.S_slice HO205.out; subst eo14) | ((with_reducible refine gate_callee (f := 30) rfl ?_); refine goesL_ (some 17) rfl rfl Try.func30 (by kernel_rfl) rfl #[.slice Ao14 t203.length co14, .int .i64 a1] rfl (by (try simp only [List.map_toArray, List.map_cons, List.map_nil]); first | done | rfl | (simp only [List.length_drop, List.length_take]; rfl)) ?_; (with_reducible refine (spec_ToldSize.calls k _ _ t203 a1 t206 _ ?side1 ?side2 A6.out).mono ?_); (case side1 => repeat (first | exact (Kd.S_reads' HO205.out).2.2 | (with_reducible refine Kd.C_alloc ?_ _) | (with_reducible refine Kd.C_drewN ?_ _) | (with_reducible refine Kd.C_drew ?_))); (case side2 => exact (Kd.S_reads' HO205.out).2.1); rintro e w15 ⟨rfl, hb⟩; refine ⟨_, rfl, ?_⟩; have n0_ := Aside0.mk (Kd.S_below (by (with_reducible repeat (first | apply Kd.S_alloc | apply Kd.S_drewN | apply Kd.S_drew)); exact HO205.out) hb); have n1_ := Aside0.mk (below_step (by repeat (first | (with_reducible first | exact HB.out | apply below_alloc | apply pw_below_drewN | apply below_drew1) | exact HB.out)) hb); clear HO205; clear HB; have HO205 := n0_; have HB := n1_; clear n0_ n1_; (try clear hb); (try clear hb2); (try clear hk); (try clear hi)) | ((with_reducible refine gate_callee (f := 14) rfl ?_); refine goesL_ (some 19) rfl rfl Try.func14 (by kernel_rfl) rfl #[.slice A0 l0.length c0] rfl (by (try simp only [List.map_toArray, List.map_cons, List.map_nil]); first | done | rfl | (simp only [List.length_drop, List.length_take]; rfl)) ?_; (with_reducible refine (laws_toIntSS.calls k _ _ l0 t207 _ ?side1 ?side2 A7.out).mono ?_); (case side1 => repeat (first | exact (Kd.C_below HR0.out HB.out) | (with_reducible refine Kd.C_alloc ?_ _) | (with_reducible refine Kd.C_drewN ?_ _) | (with_reducible refine Kd.C_drew ?_))); (case side2 => exact HC0.out); rintro e w16 ⟨v208, rfl, ho0, hb⟩; refine ⟨_, rfl, ?_⟩; have n0_ := Aside0.mk (Kd.S_elder' (by (with_reducible repeat (first | apply Kd.S_alloc | apply Kd.S_drewN | apply Kd.S_drew)); exact HO205.out) (Kd.S_base ho0) hb); have n1_ := Aside0.mk (Kd.S_lower (Kd.S_new' ho0 (Kd.S_lt (by (with_reducible repeat (first | apply Kd.S_alloc | apply Kd.S_drewN | apply Kd.S_drew)); exact HO205.out))) (below_size (by repeat (first | (with_reducible first | exact HB.out | apply below_alloc | apply pw_below_drewN | apply below_drew1) | exact HB.out)))); have n2_ := Aside0.mk (below_step (by repeat (first | (with_reducible first | exact HB.out | apply below_alloc | apply pw_below_drewN | apply below_drew1) | exact HB.out)) hb); clear HO205; clear HB; have HO205 := n0_; have HO209 := n1_; have HB := n2_; clear n0_ n1_ n2_; (try clear hb); (try clear hb2); (try clear hk); (try clear hi); (try clear ho0); obtain ⟨Ao17, co17, eo17⟩ := Kd.S_slice HO209.out; subst eo17) | ((with_reducible refine gate_callee (f := 31) rfl ?_); refine goesL_ (some 22) rfl rfl Try.func31 (by kernel_rfl) rfl #[.slice Ao17 t207.length co17, .int .i64 a1] rfl (by (try simp only [List.map_toArray, List.map_cons, List.map_nil]); first | done | rfl | (simp only [List.length_drop, List.length_take]; rfl)) ?_; (with_reducible refine (impl_ToldSize.calls k _ _ t207 a1 t210 _ ?side1 ?side2 A8.out).mono ?_); (case side1 => repeat (first | exact (Kd.S_reads' HO209.out).2.2 | (with_reducible refine Kd.C_alloc ?_ _) | (with_reducible refine Kd.C_drewN ?_ _) | (with_reducible refine Kd.C_drew ?_))); (case side2 => exact (Kd.S_reads' HO209.out).2.1); rintro e w18 ⟨rfl, hb⟩; refine ⟨_, rfl, ?_⟩; have n0_ := Aside0.mk (Kd.S_below (by (with_reducible repeat (first | apply Kd.S_alloc | apply Kd.S_drewN | apply Kd.S_drew)); exact HO205.out) hb); have n1_ := Aside0.mk (Kd.S_below (by (with_reducible repeat (first | apply Kd.S_alloc | apply Kd.S_drewN | apply Kd.S_drew)); exact HO209.out) hb); have n2_ := Aside0.mk (below_step (by repeat (first | (with_reducible first | exact HB.out | apply below_alloc | apply pw_below_drewN | apply below_drew1) | exact HB.out)) hb); clear HO205; clear HO209; clear HB; have HO205 := n0_; have HO209 := n1_; have HB := n2_; clear n0_ n1_ n2_; (try clear hb); (try clear hb2); (try clear hk); (try clear hi)) | ((with_reducible refine gate_callee (f := 14) rfl ?_); refine goesL_ (some 28) rfl rfl Try.func14 (by kernel_rfl) rfl #[.slice A0 l0.length c0] rfl (by (try simp only [List.map_toArray, List.map_cons, List.map_nil]); first | done | rfl | (simp only [List.length_drop, List.length_take]; rfl)) ?_; (with_reducible refine (laws_toIntSS.calls k _ _ l0 t211 _ ?side1 ?side2 A10.out).mono ?_); (case side1 => repeat (first | exact (Kd.C_below HR0.out HB.out) | (with_reducible refine Kd.C_alloc ?_ _) | (with_reducible refine Kd.C_drewN ?_ _) | (with_reducible refine Kd.C_drew ?_))); (case side2 => exact HC0.out); rintro e w19 ⟨v212, rfl, ho0, hb⟩; refine ⟨_, rfl, ?_⟩; have n0_ := Aside0.mk (Kd.S_elder' (by (with_reducible repeat (first | apply Kd.S_alloc | apply Kd.S_drewN | apply Kd.S_drew)); exact HO205.out) (Kd.S_base ho0) hb); have n1_ := Aside0.mk (Kd.S_elder' (by (with_reducible repeat (first | apply Kd.S_alloc | apply Kd.S_drewN | apply Kd.S_drew)); exact HO209.out) (Kd.S_base ho0) hb); have n2_ := Aside0.mk (Kd.S_lower (Kd.S_new' (Kd.S_new' ho0 (Kd.S_lt (by (with_reducible repeat (first | apply Kd.S_alloc | apply Kd.S_drewN | apply Kd.S_drew)); exact HO205.out))) (Kd.S_lt (by (with_reducible repeat (first | apply Kd.S_alloc | apply Kd.S_drewN | apply Kd.S_drew)); exact HO209.out))) (below_size (by repeat (first | (with_reducible first | exact HB.out | apply below_alloc | apply pw_below_drewN | apply below_drew1) | exact HB.out)))); have n3_ := Aside0.mk (below_step (by repeat (first | (with_reducible first | exact HB.out | apply below_alloc | apply pw_below_drewN | apply below_drew1) | exact HB.out)) hb); clear HO205; clear HO209; clear HB; have HO205 := n0_; have HO209 := n1_; have HO213 := n2_; have HB := n3_; clear n0_ n1_ n2_ n3_; (try clear hb); (try clear hb2); (try clear hk); (try clear hi); (try clear ho0); obtain ⟨Ao20, co20, eo20⟩ := Kd.S_slice HO213.out; subst eo20) | ((with_reducible refine gate_callee (f := 17) rfl ?_); refine goesL_ (some 29) rfl rfl Try.func17 (by kernel_rfl) rfl #[.slice Ao17 t207.length co17, .slice Ao20 t211.length co20] rfl (by (try simp only [List.map_toArray, List.map_cons, List.map_nil]); first | done | rfl | (simp only [List.length_drop, List.length_take]; rfl)) ?_; (with_reducible refine (laws_eqIntSS.calls k _ _ t207 _ _ t211 true _ ?side1 ?side2 ?side3 ?side4 A11.out).mono ?_); (case side1 => repeat (first | exact (Kd.S_reads' HO209.out).2.2 | (with_reducible refine Kd.C_alloc ?_ _) | (with_reducible refine Kd.C_drewN ?_ _) | (with_reducible refine Kd.C_drew ?_))); (case side2 => exact (Kd.S_reads' HO209.out).2.1); (case side3 => repeat (first | exact (Kd.S_reads' HO213.out).2.2 | (with_reducible refine Kd.C_alloc ?_ _) | (with_reducible refine Kd.C_drewN ?_ _) | (with_reducible refine Kd.C_drew ?_))); (case side4 => exact (Kd.S_reads' HO213.out).2.1); rintro e w' ⟨rfl, ⟨nd, rfl⟩⟩; refine ⟨_, rfl, ?_⟩))
        go_ret
        exact ⟨by first | rfl | (simp [errW_none, errW_some] <;> rfl) | (simp [*, errW_none, errW_some] <;> rfl), by repeat (first | (with_reducible first | exact HB.out | apply below_alloc | apply pw_below_drewN | apply below_drew1) | exact HB.out)⟩
      · replace c12 := Bool.eq_false_iff.mpr c12
        subst c12
        have H1 : (some false) = some r := by rw [if_neg (show ¬ (false = true) by decide)] at H; exact H
        clear H
        have H := H1
        clear H1
        obtain rfl := Option.some.inj H
        go_enter Try.func7, Try.ntmps7
        go_wp2_with (first | ((with_reducible refine gate_callee (f := 12) rfl ?_); refine goesL_ (some 11) rfl rfl Try.func12 (by kernel_rfl) rfl #[.slice A0 l0.length c0, .int .i64 1048576] rfl (by (try simp only [List.map_toArray, List.map_cons, List.map_nil]); first | done | rfl | (simp only [List.length_drop, List.length_take]; rfl)) ?_; (with_reducible refine (laws_szIntSS.calls k _ _ l0 1048576 t202 _ ?side1 ?side2 A3.out).mono ?_); (case side1 => repeat (first | exact HR0.out | (with_reducible refine Kd.C_alloc ?_ _) | (with_reducible refine Kd.C_drewN ?_ _) | (with_reducible refine Kd.C_drew ?_))); (case side2 => exact HC0.out); rintro e w' ⟨rfl, ⟨nd, rfl⟩⟩; refine ⟨_, rfl, ?_⟩) | ((with_reducible refine gate_callee (f := 14) rfl ?_); refine goesL_ (some 15) rfl rfl Try.func14 (by kernel_rfl) rfl #[.slice A0 l0.length c0] rfl (by (try simp only [List.map_toArray, List.map_cons, List.map_nil]); first | done | rfl | (simp only [List.length_drop, List.length_take]; rfl)) ?_; (with_reducible refine (laws_toIntSS.calls k _ _ l0 t203 _ ?side1 ?side2 A5.out).mono ?_); (case side1 => repeat (first | exact HR0.out | (with_reducible refine Kd.C_alloc ?_ _) | (with_reducible refine Kd.C_drewN ?_ _) | (with_reducible refine Kd.C_drew ?_))); (case side2 => exact HC0.out); rintro e w21 ⟨v204, rfl, ho0, hb⟩; refine ⟨_, rfl, ?_⟩; have n0_ := Aside0.mk (Kd.S_lower ho0 (below_size (by repeat (first | (with_reducible first | exact HB.out | apply below_alloc | apply pw_below_drewN | apply below_drew1) | exact HB.out)))); have n1_ := Aside0.mk (below_step (by repeat (first | (with_reducible first | exact HB.out | apply below_alloc | apply pw_below_drewN | apply below_drew1) | exact HB.out)) hb); clear HB; have HO205 := n0_; have HB := n1_; clear n0_ n1_; (try clear hb); (try clear hb2); (try clear hk); (try clear hi); (try clear ho0); obtain ⟨Ao22, co22, eo22⟩ := Kd.S_slice HO205.out; subst eo22) | ((with_reducible refine gate_callee (f := 30) rfl ?_); refine goesL_ (some 17) rfl rfl Try.func30 (by kernel_rfl) rfl #[.slice Ao22 t203.length co22, .int .i64 a1] rfl (by (try simp only [List.map_toArray, List.map_cons, List.map_nil]); first | done | rfl | (simp only [List.length_drop, List.length_take]; rfl)) ?_; (with_reducible refine (spec_ToldSize.calls k _ _ t203 a1 t206 _ ?side1 ?side2 A6.out).mono ?_); (case side1 => repeat (first | exact (Kd.S_reads' HO205.out).2.2 | (with_reducible refine Kd.C_alloc ?_ _) | (with_reducible refine Kd.C_drewN ?_ _) | (with_reducible refine Kd.C_drew ?_))); (case side2 => exact (Kd.S_reads' HO205.out).2.1); rintro e w23 ⟨rfl, hb⟩; refine ⟨_, rfl, ?_⟩; have n0_ := Aside0.mk (Kd.S_below (by (with_reducible repeat (first | apply Kd.S_alloc | apply Kd.S_drewN | apply Kd.S_drew)); exact HO205.out) hb); have n1_ := Aside0.mk (below_step (by repeat (first | (with_reducible first | exact HB.out | apply below_alloc | apply pw_below_drewN | apply below_drew1) | exact HB.out)) hb); clear HO205; clear HB; have HO205 := n0_; have HB := n1_; clear n0_ n1_; (try clear hb); (try clear hb2); (try clear hk); (try clear hi)) | ((with_reducible refine gate_callee (f := 14) rfl ?_); refine goesL_ (some 19) rfl rfl Try.func14 (by kernel_rfl) rfl #[.slice A0 l0.length c0] rfl (by (try simp only [List.map_toArray, List.map_cons, List.map_nil]); first | done | rfl | (simp only [List.length_drop, List.length_take]; rfl)) ?_; (with_reducible refine (laws_toIntSS.calls k _ _ l0 t207 _ ?side1 ?side2 A7.out).mono ?_); (case side1 => repeat (first | exact (Kd.C_below HR0.out HB.out) | (with_reducible refine Kd.C_alloc ?_ _) | (with_reducible refine Kd.C_drewN ?_ _) | (with_reducible refine Kd.C_drew ?_))); (case side2 => exact HC0.out); rintro e w24 ⟨v208, rfl, ho0, hb⟩; refine ⟨_, rfl, ?_⟩; have n0_ := Aside0.mk (Kd.S_elder' (by (with_reducible repeat (first | apply Kd.S_alloc | apply Kd.S_drewN | apply Kd.S_drew)); exact HO205.out) (Kd.S_base ho0) hb); have n1_ := Aside0.mk (Kd.S_lower (Kd.S_new' ho0 (Kd.S_lt (by (with_reducible repeat (first | apply Kd.S_alloc | apply Kd.S_drewN | apply Kd.S_drew)); exact HO205.out))) (below_size (by repeat (first | (with_reducible first | exact HB.out | apply below_alloc | apply pw_below_drewN | apply below_drew1) | exact HB.out)))); have n2_ := Aside0.mk (below_step (by repeat (first | (with_reducible first | exact HB.out | apply below_alloc | apply pw_below_drewN | apply below_drew1) | exact HB.out)) hb); clear HO205; clear HB; have HO205 := n0_; have HO209 := n1_; have HB := n2_; clear n0_ n1_ n2_; (try clear hb); (try clear hb2); (try clear hk); (try clear hi); (try clear ho0); obtain ⟨Ao25, co25, eo25⟩ := Kd.S_slice HO209.out; subst eo25) | ((with_reducible refine gate_callee (f := 31) rfl ?_); refine goesL_ (some 22) rfl rfl Try.func31 (by kernel_rfl) rfl #[.slice Ao25 t207.length co25, .int .i64 a1] rfl (by (try simp only [List.map_toArray, List.map_cons, List.map_nil]); first | done | rfl | (simp only [List.length_drop, List.length_take]; rfl)) ?_; (with_reducible refine (impl_ToldSize.calls k _ _ t207 a1 t210 _ ?side1 ?side2 A8.out).mono ?_); (case side1 => repeat (first | exact (Kd.S_reads' HO209.out).2.2 | (with_reducible refine Kd.C_alloc ?_ _) | (with_reducible refine Kd.C_drewN ?_ _) | (with_reducible refine Kd.C_drew ?_))); (case side2 => exact (Kd.S_reads' HO209.out).2.1); rintro e w26 ⟨rfl, hb⟩; refine ⟨_, rfl, ?_⟩; have n0_ := Aside0.mk (Kd.S_below (by (with_reducible repeat (first | apply Kd.S_alloc | apply Kd.S_drewN | apply Kd.S_drew)); exact HO205.out) hb); have n1_ := Aside0.mk (Kd.S_below (by (with_reducible repeat (first | apply Kd.S_alloc | apply Kd.S_drewN | apply Kd.S_drew)); exact HO209.out) hb); have n2_ := Aside0.mk (below_step (by repeat (first | (with_reducible first | exact HB.out | apply below_alloc | apply pw_below_drewN | apply below_drew1) | exact HB.out)) hb); clear HO205; clear HO209; clear HB; have HO205 := n0_; have HO209 := n1_; have HB := n2_; clear n0_ n1_ n2_; (try clear hb); (try clear hb2); (try clear hk); (try clear hi)) | ((with_reducible refine gate_callee (f := 14) rfl ?_); refine goesL_ (some 28) rfl rfl Try.func14 (by kernel_rfl) rfl #[.slice A0 l0.length c0] rfl (by (try simp only [List.map_toArray, List.map_cons, List.map_nil]); first | done | rfl | (simp only [List.length_drop, List.length_take]; rfl)) ?_; (with_reducible refine (laws_toIntSS.calls k _ _ l0 t211 _ ?side1 ?side2 A10.out).mono ?_); (case side1 => repeat (first | exact (Kd.C_below HR0.out HB.out) | (with_reducible refine Kd.C_alloc ?_ _) | (with_reducible refine Kd.C_drewN ?_ _) | (with_reducible refine Kd.C_drew ?_))); (case side2 => exact HC0.out); rintro e w27 ⟨v212, rfl, ho0, hb⟩; refine ⟨_, rfl, ?_⟩; have n0_ := Aside0.mk (Kd.S_elder' (by (with_reducible repeat (first | apply Kd.S_alloc | apply Kd.S_drewN | apply Kd.S_drew)); exact HO205.out) (Kd.S_base ho0) hb); have n1_ := Aside0.mk (Kd.S_elder' (by (with_reducible repeat (first | apply Kd.S_alloc | apply Kd.S_drewN | apply Kd.S_drew)); exact HO209.out) (Kd.S_base ho0) hb); have n2_ := Aside0.mk (Kd.S_lower (Kd.S_new' (Kd.S_new' ho0 (Kd.S_lt (by (with_reducible repeat (first | apply Kd.S_alloc | apply Kd.S_drewN | apply Kd.S_drew)); exact HO205.out))) (Kd.S_lt (by (with_reducible repeat (first | apply Kd.S_alloc | apply Kd.S_drewN | apply Kd.S_drew)); exact HO209.out))) (below_size (by repeat (first | (with_reducible first | exact HB.out | apply below_alloc | apply pw_below_drewN | apply below_drew1) | exact HB.out)))); have n3_ := Aside0.mk (below_step (by repeat (first | (with_reducible first | exact HB.out | apply below_alloc | apply pw_below_drewN | apply below_drew1) | exact HB.out)) hb); clear HO205; clear HO209; clear HB; have HO205 := n0_; have HO209 := n1_; have HO213 := n2_; have HB := n3_; clear n0_ n1_ n2_ n3_; (try clear hb); (try clear hb2); (try clear hk); (try clear hi); (try clear ho0); obtain ⟨Ao28, co28, eo28⟩ := Kd.S_slice HO213.out; subst eo28) | ((with_reducible refine gate_callee (f := 17) rfl ?_); refine goesL_ (some 29) rfl rfl Try.func17 (by kernel_rfl) rfl #[.slice Ao25 t207.length co25, .slice Ao28 t211.length co28] rfl (by (try simp only [List.map_toArray, List.map_cons, List.map_nil]); first | done | rfl | (simp only [List.length_drop, List.length_take]; rfl)) ?_; (with_reducible refine (laws_eqIntSS.calls k _ _ t207 _ _ t211 false _ ?side1 ?side2 ?side3 ?side4 A11.out).mono ?_); (case side1 => repeat (first | exact (Kd.S_reads' HO209.out).2.2 | (with_reducible refine Kd.C_alloc ?_ _) | (with_reducible refine Kd.C_drewN ?_ _) | (with_reducible refine Kd.C_drew ?_))); (case side2 => exact (Kd.S_reads' HO209.out).2.1); (case side3 => repeat (first | exact (Kd.S_reads' HO213.out).2.2 | (with_reducible refine Kd.C_alloc ?_ _) | (with_reducible refine Kd.C_drewN ?_ _) | (with_reducible refine Kd.C_drew ?_))); (case side4 => exact (Kd.S_reads' HO213.out).2.1); rintro e w' ⟨rfl, ⟨nd, rfl⟩⟩; refine ⟨_, rfl, ?_⟩))
        go_ret
        exact ⟨by first | rfl | (simp [errW_none, errW_some] <;> rfl) | (simp [*, errW_none, errW_some] <;> rfl), by repeat (first | (with_reducible first | exact HB.out | apply below_alloc | apply pw_below_drewN | apply below_drew1) | exact HB.out)⟩
    · rw [if_neg c9] at H
      have c9b0 : (t210 == t206) = false := beq_eq_false_iff_ne.mpr c9
      have c9b1 : (t210 != t206) = true := bne_iff_ne.mpr c9
      obtain rfl := Option.some.inj H
      go_enter Try.func7, Try.ntmps7
      go_wp2_with (first | ((with_reducible refine gate_callee (f := 12) rfl ?_); refine goesL_ (some 11) rfl rfl Try.func12 (by kernel_rfl) rfl #[.slice A0 l0.length c0, .int .i64 1048576] rfl (by (try simp only [List.map_toArray, List.map_cons, List.map_nil]); first | done | rfl | (simp only [List.length_drop, List.length_take]; rfl)) ?_; (with_reducible refine (laws_szIntSS.calls k _ _ l0 1048576 t202 _ ?side1 ?side2 A3.out).mono ?_); (case side1 => repeat (first | exact HR0.out | (with_reducible refine Kd.C_alloc ?_ _) | (with_reducible refine Kd.C_drewN ?_ _) | (with_reducible refine Kd.C_drew ?_))); (case side2 => exact HC0.out); rintro e w' ⟨rfl, ⟨nd, rfl⟩⟩; refine ⟨_, rfl, ?_⟩) | ((with_reducible refine gate_callee (f := 14) rfl ?_); refine goesL_ (some 15) rfl rfl Try.func14 (by kernel_rfl) rfl #[.slice A0 l0.length c0] rfl (by (try simp only [List.map_toArray, List.map_cons, List.map_nil]); first | done | rfl | (simp only [List.length_drop, List.length_take]; rfl)) ?_; (with_reducible refine (laws_toIntSS.calls k _ _ l0 t203 _ ?side1 ?side2 A5.out).mono ?_); (case side1 => repeat (first | exact HR0.out | (with_reducible refine Kd.C_alloc ?_ _) | (with_reducible refine Kd.C_drewN ?_ _) | (with_reducible refine Kd.C_drew ?_))); (case side2 => exact HC0.out); rintro e w29 ⟨v204, rfl, ho0, hb⟩; refine ⟨_, rfl, ?_⟩; have n0_ := Aside0.mk (Kd.S_lower ho0 (below_size (by repeat (first | (with_reducible first | exact HB.out | apply below_alloc | apply pw_below_drewN | apply below_drew1) | exact HB.out)))); have n1_ := Aside0.mk (below_step (by repeat (first | (with_reducible first | exact HB.out | apply below_alloc | apply pw_below_drewN | apply below_drew1) | exact HB.out)) hb); clear HB; have HO205 := n0_; have HB := n1_; clear n0_ n1_; (try clear hb); (try clear hb2); (try clear hk); (try clear hi); (try clear ho0); obtain ⟨Ao30, co30, eo30⟩ := Kd.S_slice HO205.out; subst eo30) | ((with_reducible refine gate_callee (f := 30) rfl ?_); refine goesL_ (some 17) rfl rfl Try.func30 (by kernel_rfl) rfl #[.slice Ao30 t203.length co30, .int .i64 a1] rfl (by (try simp only [List.map_toArray, List.map_cons, List.map_nil]); first | done | rfl | (simp only [List.length_drop, List.length_take]; rfl)) ?_; (with_reducible refine (spec_ToldSize.calls k _ _ t203 a1 t206 _ ?side1 ?side2 A6.out).mono ?_); (case side1 => repeat (first | exact (Kd.S_reads' HO205.out).2.2 | (with_reducible refine Kd.C_alloc ?_ _) | (with_reducible refine Kd.C_drewN ?_ _) | (with_reducible refine Kd.C_drew ?_))); (case side2 => exact (Kd.S_reads' HO205.out).2.1); rintro e w31 ⟨rfl, hb⟩; refine ⟨_, rfl, ?_⟩; have n0_ := Aside0.mk (Kd.S_below (by (with_reducible repeat (first | apply Kd.S_alloc | apply Kd.S_drewN | apply Kd.S_drew)); exact HO205.out) hb); have n1_ := Aside0.mk (below_step (by repeat (first | (with_reducible first | exact HB.out | apply below_alloc | apply pw_below_drewN | apply below_drew1) | exact HB.out)) hb); clear HO205; clear HB; have HO205 := n0_; have HB := n1_; clear n0_ n1_; (try clear hb); (try clear hb2); (try clear hk); (try clear hi)) | ((with_reducible refine gate_callee (f := 14) rfl ?_); refine goesL_ (some 19) rfl rfl Try.func14 (by kernel_rfl) rfl #[.slice A0 l0.length c0] rfl (by (try simp only [List.map_toArray, List.map_cons, List.map_nil]); first | done | rfl | (simp only [List.length_drop, List.length_take]; rfl)) ?_; (with_reducible refine (laws_toIntSS.calls k _ _ l0 t207 _ ?side1 ?side2 A7.out).mono ?_); (case side1 => repeat (first | exact (Kd.C_below HR0.out HB.out) | (with_reducible refine Kd.C_alloc ?_ _) | (with_reducible refine Kd.C_drewN ?_ _) | (with_reducible refine Kd.C_drew ?_))); (case side2 => exact HC0.out); rintro e w32 ⟨v208, rfl, ho0, hb⟩; refine ⟨_, rfl, ?_⟩; have n0_ := Aside0.mk (Kd.S_elder' (by (with_reducible repeat (first | apply Kd.S_alloc | apply Kd.S_drewN | apply Kd.S_drew)); exact HO205.out) (Kd.S_base ho0) hb); have n1_ := Aside0.mk (Kd.S_lower (Kd.S_new' ho0 (Kd.S_lt (by (with_reducible repeat (first | apply Kd.S_alloc | apply Kd.S_drewN | apply Kd.S_drew)); exact HO205.out))) (below_size (by repeat (first | (with_reducible first | exact HB.out | apply below_alloc | apply pw_below_drewN | apply below_drew1) | exact HB.out)))); have n2_ := Aside0.mk (below_step (by repeat (first | (with_reducible first | exact HB.out | apply below_alloc | apply pw_below_drewN | apply below_drew1) | exact HB.out)) hb); clear HO205; clear HB; have HO205 := n0_; have HO209 := n1_; have HB := n2_; clear n0_ n1_ n2_; (try clear hb); (try clear hb2); (try clear hk); (try clear hi); (try clear ho0); obtain ⟨Ao33, co33, eo33⟩ := Kd.S_slice HO209.out; subst eo33) | ((with_reducible refine gate_callee (f := 31) rfl ?_); refine goesL_ (some 22) rfl rfl Try.func31 (by kernel_rfl) rfl #[.slice Ao33 t207.length co33, .int .i64 a1] rfl (by (try simp only [List.map_toArray, List.map_cons, List.map_nil]); first | done | rfl | (simp only [List.length_drop, List.length_take]; rfl)) ?_; (with_reducible refine (impl_ToldSize.calls k _ _ t207 a1 t210 _ ?side1 ?side2 A8.out).mono ?_); (case side1 => repeat (first | exact (Kd.S_reads' HO209.out).2.2 | (with_reducible refine Kd.C_alloc ?_ _) | (with_reducible refine Kd.C_drewN ?_ _) | (with_reducible refine Kd.C_drew ?_))); (case side2 => exact (Kd.S_reads' HO209.out).2.1); rintro e w34 ⟨rfl, hb⟩; refine ⟨_, rfl, ?_⟩; have n0_ := Aside0.mk (Kd.S_below (by (with_reducible repeat (first | apply Kd.S_alloc | apply Kd.S_drewN | apply Kd.S_drew)); exact HO205.out) hb); have n1_ := Aside0.mk (Kd.S_below (by (with_reducible repeat (first | apply Kd.S_alloc | apply Kd.S_drewN | apply Kd.S_drew)); exact HO209.out) hb); have n2_ := Aside0.mk (below_step (by repeat (first | (with_reducible first | exact HB.out | apply below_alloc | apply pw_below_drewN | apply below_drew1) | exact HB.out)) hb); clear HO205; clear HO209; clear HB; have HO205 := n0_; have HO209 := n1_; have HB := n2_; clear n0_ n1_ n2_; (try clear hb); (try clear hb2); (try clear hk); (try clear hi)))
      go_ret
      exact ⟨by first | rfl | (simp [errW_none, errW_some] <;> rfl) | (simp [*, errW_none, errW_some] <;> rfl), by repeat (first | (with_reducible first | exact HB.out | apply below_alloc | apply pw_below_drewN | apply below_drew1) | exact HB.out)⟩

end Go.Proofs.Ytoniljblfenpeaa.PFnExactToldSize
