-- Written by a program of this session out of the translation (wip/gen/hprint.sh). Lean checks it.
import Derived.Test.YtoniljblfenpeaaHFnExactTwinOfx0
import Derived.Test.YtoniljblfenpeaaHFnExactTwinOfx2
namespace Go.Proofs.Ytoniljblfenpeaa.PFnExactTwinOf
open Go.RowKit Go.Proofs.YtoniljblfenpeaaW.PrintWords Go.Proofs.YtoniljblfenpeaaW.PrintLast Go.Proofs.YtoniljblfenpeaaW.PrintMore
attribute [local go_sem] max2_int min2_int max_two min_two max_three min_three max_four min_four   -- for this text's walks alone
set_option linter.unusedVariables false
set_option linter.unusedSimpArgs false

/-! ### impl_IsMatrix: function 51 -/
mutual
def impl_IsMatrix.j0 : Nat → List (List Int) → Int → Bool → Option (Bool)
  | 0, _, _, _ => none
  | k + 1, x0, x1, x14 => if x14 = true then (some false) else (impl_IsMatrix.l0 k x1 x0 (x0.length : Int) 0)
def impl_IsMatrix.l0 : Nat → Int → List (List Int) → Int → Int → Option (Bool)
  | 0, _, _, _, _ => none
  | k + 1, x1, x15, x16, x17 => if x17 < x16 then (if 0 ≤ x17 then (if x17 < (x15.length : Int) then (if ((rd_L1 x15 x17).length : Int) = x1 then ((impl_allIn.f k (rd_L1 x15 x17) (-2) 2).bind fun t130 => (if t130 = true then (impl_IsMatrix.l0 k x1 x15 x16 (wrap64 (x17 + 1))) else (some false))) else (some false)) else (none)) else (none)) else (some true)
end
def impl_IsMatrix.f (k : Nat) (l0 : List (List Int)) (a1 : Int) : Option (Bool) := (impl_InRange.f a1 1 6).bind fun t128 => (if t128 = true then (impl_IsMatrix.j0 k l0 a1 (decide ((l0.length : Int) > 12))) else (impl_IsMatrix.j0 k l0 a1 true))
theorem impl_IsMatrix.mono_l : ∀ k, (∀ y0 y1 y2, LeO (impl_IsMatrix.j0 k y0 y1 y2) (impl_IsMatrix.j0 (k + 1) y0 y1 y2)) ∧ (∀ y0 y1 y2 y3, LeO (impl_IsMatrix.l0 k y0 y1 y2 y3) (impl_IsMatrix.l0 (k + 1) y0 y1 y2 y3))
  | 0 => ⟨fun _ _ _ r h => by simp [impl_IsMatrix.j0] at h, fun _ _ _ _ r h => by simp [impl_IsMatrix.l0] at h⟩
  | k + 1 => by
    obtain ⟨ih0, ih1⟩ := impl_IsMatrix.mono_l k
    refine ⟨?_, ?_⟩
    · intro y0 y1 y2
      unfold impl_IsMatrix.j0
      repeat' first
      | (with_reducible exact ih0 _ _ _)
      | (with_reducible exact ih1 _ _ _ _)
      | (with_reducible exact impl_allIn.mono _ _ _ _)
      | (with_reducible exact LeO.refl _)
      | (with_reducible exact LeO.none _)
      | (with_reducible refine LeO.ite ?_ ?_)
      | (with_reducible refine LeO.bind ?_ (fun _ => ?_))
      | exact ih0 _ _ _
      | exact ih1 _ _ _ _
      | exact impl_allIn.mono _ _ _ _
      | exact LeO.none _
      | refine LeO.ite ?_ ?_
      | refine LeO.bind ?_ (fun _ => ?_)
    · intro y0 y1 y2 y3
      unfold impl_IsMatrix.l0
      repeat' first
      | (with_reducible exact ih0 _ _ _)
      | (with_reducible exact ih1 _ _ _ _)
      | (with_reducible exact impl_allIn.mono _ _ _ _)
      | (with_reducible exact LeO.refl _)
      | (with_reducible exact LeO.none _)
      | (with_reducible refine LeO.ite ?_ ?_)
      | (with_reducible refine LeO.bind ?_ (fun _ => ?_))
      | exact ih0 _ _ _
      | exact ih1 _ _ _ _
      | exact impl_allIn.mono _ _ _ _
      | exact LeO.none _
      | refine LeO.ite ?_ ?_
      | refine LeO.bind ?_ (fun _ => ?_)
theorem impl_IsMatrix.mono : ∀ a0 a1 k, LeO (impl_IsMatrix.f k a0 a1) (impl_IsMatrix.f (k + 1) a0 a1) := by
  intro a0 a1 k
  obtain ⟨ih0, ih1⟩ := impl_IsMatrix.mono_l k
  unfold impl_IsMatrix.f
  repeat' first
      | (with_reducible exact ih0 _ _ _)
      | (with_reducible exact ih1 _ _ _ _)
      | (with_reducible exact impl_allIn.mono _ _ _ _)
      | (with_reducible exact LeO.refl _)
      | (with_reducible exact LeO.none _)
      | (with_reducible refine LeO.ite ?_ ?_)
      | (with_reducible refine LeO.bind ?_ (fun _ => ?_))
      | exact ih0 _ _ _
      | exact ih1 _ _ _ _
      | exact impl_allIn.mono _ _ _ _
      | exact LeO.none _
      | refine LeO.ite ?_ ?_
      | refine LeO.bind ?_ (fun _ => ?_)
set_option maxHeartbeats 8000000 in
set_option maxRecDepth 100000 in
theorem impl_IsMatrix.calls (k : Nat) (A0 : Option Addr) (c0 : Nat) (l0 : List (List Int)) (a1 : Int) (r : Bool) (w : World) (hr0 : Kd.C (Kd.slice 3 (Kd.int .i64)) w A0 l0.length l0) (hc0 : l0.length ≤ c0) (h : impl_IsMatrix.f k l0 a1 = some r) :
    Calls Try.prog 51 #[.slice A0 l0.length c0, .int .i64 a1] w fun e w' => e = .returned (.bool r) ∧ Drawn0 w w' := by
  have HR0 := Aside0.mk hr0
  have HC0 := Aside0.mk hc0
  clear hr0 hc0
  have H : ((impl_InRange.f a1 1 6).bind fun t128 => (if t128 = true then (impl_IsMatrix.j0 k l0 a1 (decide ((l0.length : Int) > 12))) else (impl_IsMatrix.j0 k l0 a1 true))) = some r := h
  clear h
  have HC3 := Aside0.mk H
  clear H
  go_enter Try.func51, Try.ntmps51
  go_upto_region 1 with (fail)
  go_cut [14] (fun v14 wc => ∃ (kq : Nat) (x14_2 : Bool), v14 = .bool x14_2 ∧ Aside0 (impl_IsMatrix.j0 kq l0 a1 x14_2 = some r) ∧ Aside0 (kq ≤ k) ∧ Drawn0 w wc)
  case first =>
    have H := HC3.out
    clear HC3
    replace H := Option.bind_eq_some_iff.mp H
    obtain ⟨t128, A40, H⟩ := H
    replace H : (if t128 = true then (impl_IsMatrix.j0 k l0 a1 (decide ((l0.length : Int) > 12))) else (impl_IsMatrix.j0 k l0 a1 true)) = some r := H
    have A4 := Aside0.mk A40
    clear A40
    by_cases c5 : t128 = true
    · subst c5
      have H1 : (impl_IsMatrix.j0 k l0 a1 (decide ((l0.length : Int) > 12))) = some r := by rw [if_pos rfl] at H; exact H
      clear H
      have H := H1
      clear H1
      have H' := Aside0.mk H
      clear H
      go_wp2_with (first | ((with_reducible refine gate_callee (f := 60) rfl ?_); refine goesL_ (some 8) rfl rfl Try.func60 (by kernel_rfl) rfl #[.int .i64 a1, .int .i64 1, .int .i64 6] rfl (by (try simp only [List.map_toArray, List.map_cons, List.map_nil]); first | done | rfl | (simp only [List.length_drop, List.length_take]; rfl)) ?_; (with_reducible refine (impl_InRange.calls a1 1 6 true _ A4.out).mono ?_); rintro e w' ⟨rfl, ⟨nd, rfl⟩⟩; refine ⟨_, rfl, ?_⟩))
      go_meet
      case rel => exact ⟨_, (decide ((l0.length : Int) > 12)), (by first | rfl | (simp; done) | (simp [*]; done)), H', ⟨by first | omega | exact Nat.le_refl _⟩, by repeat (first | exact Drawn0.refl _ | apply Drawn0.step)⟩
    · replace c5 := Bool.eq_false_iff.mpr c5
      subst c5
      have H1 : (impl_IsMatrix.j0 k l0 a1 true) = some r := by rw [if_neg (show ¬ (false = true) by decide)] at H; exact H
      clear H
      have H := H1
      clear H1
      have H' := Aside0.mk H
      clear H
      go_wp2_with (first | ((with_reducible refine gate_callee (f := 60) rfl ?_); refine goesL_ (some 8) rfl rfl Try.func60 (by kernel_rfl) rfl #[.int .i64 a1, .int .i64 1, .int .i64 6] rfl (by (try simp only [List.map_toArray, List.map_cons, List.map_nil]); first | done | rfl | (simp only [List.length_drop, List.length_take]; rfl)) ?_; (with_reducible refine (impl_InRange.calls a1 1 6 false _ A4.out).mono ?_); rintro e w' ⟨rfl, ⟨nd, rfl⟩⟩; refine ⟨_, rfl, ?_⟩))
      go_meet
      case rel => exact ⟨_, (true), (by first | rfl | (simp; done) | (simp [*]; done)), H', ⟨by first | omega | exact Nat.le_refl _⟩, by repeat (first | exact Drawn0.refl _ | apply Drawn0.step)⟩
  case rest =>
    clear HC3
    try clear p2
    try clear c5
    obtain ⟨kq, x14_2, rfl, HA, HJ2, ⟨mc2, rfl⟩⟩ := hcut
    cases kq with
    | zero => exact absurd HA.out (by simp [impl_IsMatrix.j0])
    | succ kj2 =>
      have H := HA.out
      clear HA
      simp only [impl_IsMatrix.j0] at H
      by_cases c6 : x14_2 = true
      · subst c6
        have H1 : (some false) = some r := by rw [if_pos rfl] at H; exact H
        clear H
        have H := H1
        clear H1
        obtain rfl := Option.some.inj H
        go_wp2
        go_ret
        exact ⟨by first | rfl | (simp; done) | (simp [*]; done), by repeat (first | exact Drawn0.refl _ | apply Drawn0.step)⟩
      · replace c6 := Bool.eq_false_iff.mpr c6
        subst c6
        have H1 : (impl_IsMatrix.l0 kj2 a1 l0 (l0.length : Int) 0) = some r := by rw [if_neg (show ¬ (false = true) by decide)] at H; exact H
        clear H
        have H := H1
        clear H1
        have H' := Aside0.mk H
        clear H
        go_wp2
        go_loopg [17] kj2 (fun kq v17 w' => ∃ (x17_2 : Int), v17 = .int .i64 x17_2 ∧ Aside0 (impl_IsMatrix.l0 kq a1 l0 (l0.length : Int) x17_2 = some r) ∧ Aside0 (kq ≤ kj2) ∧ Drawn0 w w')
        case atStart => exact ⟨(0), (by first | rfl | (simp; done) | (simp [*]; done)), H', ⟨Nat.le_refl _⟩, by repeat (first | exact Drawn0.refl _ | apply Drawn0.step)⟩
        case round =>
          clear H'
          try clear c2
          try clear p2
          try clear c5
          try clear c6
          try clear p2
          obtain ⟨x17_2, rfl, HA, HK2, ⟨m2, rfl⟩⟩ := hrel
          cases gk with
          | zero => exact absurd HA.out (by simp [impl_IsMatrix.l0])
          | succ k2 =>
            have H := HA.out
            clear HA
            simp only [impl_IsMatrix.l0] at H
            by_cases c7 : x17_2 < (l0.length : Int)
            · rw [if_pos c7] at H
              have c7b0 : decide (x17_2 < (l0.length : Int)) = true := decide_eq_true c7
              clear c7
              by_cases c8 : 0 ≤ x17_2
              · rw [if_pos c8] at H
                have c8b0 : decide (0 ≤ x17_2) = true := decide_eq_true c8
                clear c8
                by_cases c9 : x17_2 < (l0.length : Int)
                · rw [if_pos c9] at H
                  have c9b0 : decide (x17_2 < (l0.length : Int)) = true := decide_eq_true c9
                  clear c9
                  by_cases c10 : ((rd_L1 l0 x17_2).length : Int) = a1
                  · rw [if_pos c10] at H
                    have c10b0 : (((rd_L1 l0 x17_2).length : Int) == a1) = true := beq_iff_eq.mpr c10
                    have c10b1 : (((rd_L1 l0 x17_2).length : Int) != a1) = false := bne_eq_false_iff_eq.mpr c10
                    clear c10
                    replace H := Option.bind_eq_some_iff.mp H
                    obtain ⟨t130, A110, H⟩ := H
                    replace H : (if t130 = true then (impl_IsMatrix.l0 k2 a1 l0 (l0.length : Int) (wrap64 (x17_2 + 1))) else (some false)) = some r := H
                    have A11 := Aside0.mk A110
                    clear A110
                    by_cases c12 : t130 = true
                    · subst c12
                      have H1 : (impl_IsMatrix.l0 k2 a1 l0 (l0.length : Int) (wrap64 (x17_2 + 1))) = some r := by rw [if_pos rfl] at H; exact H
                      clear H
                      have H := H1
                      clear H1
                      have H' := Aside0.mk H
                      clear H
                      have p129 : 0 ≤ (x17_2 : Int) := of_decide_eq_true (by first | (with_reducible assumption) | assumption)
                      have q129 : x17_2 < (l0.length : Int) := of_decide_eq_true (by first | (with_reducible assumption) | assumption)
                      obtain ⟨ad129, A129_0, c129_0, e129, hx129_0, hl129_0, hi129_0⟩ := at_L1 HR0.out x17_2 p129 q129
                      cases e129
                      have HR129_0 := Aside0.mk hi129_0
                      have HC129_0 := Aside0.mk hl129_0
                      clear hi129_0 hl129_0
                      replace p129 := eq_true p129
                      replace q129 := eq_true q129
                      go_wp2_with (first | (go_at_call 73; (with_reducible refine (impl_allIn.calls k2 _ _ (rd_L1 l0 x17_2) (-2) 2 true _ ?side1 ?side2 A11.out).mono ?_); (case side1 => repeat (first | exact HR129_0.out | (with_reducible refine Kd.C_alloc ?_ _) | (with_reducible refine Kd.C_drewN ?_ _) | (with_reducible refine Kd.C_drew ?_))); (case side2 => exact HC129_0.out); rintro e w' ⟨rfl, ⟨nd, rfl⟩⟩))
                      go_roundg k2
                      case measure => have := HJ2.out; have := HK2.out; omega
                      case rel => exact ⟨(wrap64 (x17_2 + 1)), (by first | rfl | (simp; done) | (simp [*]; done)), H', ⟨by have := HJ2.out; have := HK2.out; omega⟩, by repeat (first | exact Drawn0.refl _ | apply Drawn0.step)⟩
                    · replace c12 := Bool.eq_false_iff.mpr c12
                      subst c12
                      have H1 : (some false) = some r := by rw [if_neg (show ¬ (false = true) by decide)] at H; exact H
                      clear H
                      have H := H1
                      clear H1
                      obtain rfl := Option.some.inj H
                      have p129 : 0 ≤ (x17_2 : Int) := of_decide_eq_true (by first | (with_reducible assumption) | assumption)
                      have q129 : x17_2 < (l0.length : Int) := of_decide_eq_true (by first | (with_reducible assumption) | assumption)
                      obtain ⟨ad129, A129_0, c129_0, e129, hx129_0, hl129_0, hi129_0⟩ := at_L1 HR0.out x17_2 p129 q129
                      cases e129
                      have HR129_0 := Aside0.mk hi129_0
                      have HC129_0 := Aside0.mk hl129_0
                      clear hi129_0 hl129_0
                      replace p129 := eq_true p129
                      replace q129 := eq_true q129
                      go_wp2_with (first | (go_at_call 73; (with_reducible refine (impl_allIn.calls k2 _ _ (rd_L1 l0 x17_2) (-2) 2 false _ ?side1 ?side2 A11.out).mono ?_); (case side1 => repeat (first | exact HR129_0.out | (with_reducible refine Kd.C_alloc ?_ _) | (with_reducible refine Kd.C_drewN ?_ _) | (with_reducible refine Kd.C_drew ?_))); (case side2 => exact HC129_0.out); rintro e w' ⟨rfl, ⟨nd, rfl⟩⟩))
                      go_ret
                      exact ⟨by first | rfl | (simp; done) | (simp [*]; done), by repeat (first | exact Drawn0.refl _ | apply Drawn0.step)⟩
                  · rw [if_neg c10] at H
                    have c10b0 : (((rd_L1 l0 x17_2).length : Int) == a1) = false := beq_eq_false_iff_ne.mpr c10
                    have c10b1 : (((rd_L1 l0 x17_2).length : Int) != a1) = true := bne_iff_ne.mpr c10
                    obtain rfl := Option.some.inj H
                    have p129 : 0 ≤ (x17_2 : Int) := of_decide_eq_true (by first | (with_reducible assumption) | assumption)
                    have q129 : x17_2 < (l0.length : Int) := of_decide_eq_true (by first | (with_reducible assumption) | assumption)
                    obtain ⟨ad129, A129_0, c129_0, e129, hx129_0, hl129_0, hi129_0⟩ := at_L1 HR0.out x17_2 p129 q129
                    cases e129
                    have HR129_0 := Aside0.mk hi129_0
                    have HC129_0 := Aside0.mk hl129_0
                    clear hi129_0 hl129_0
                    replace p129 := eq_true p129
                    replace q129 := eq_true q129
                    go_wp2
                    go_ret
                    exact ⟨by first | rfl | (simp; done) | (simp [*]; done), by repeat (first | exact Drawn0.refl _ | apply Drawn0.step)⟩
                · rw [if_neg c9] at H
                  exact absurd H (by simp)
              · rw [if_neg c8] at H
                exact absurd H (by simp)
            · rw [if_neg c7] at H
              have c7b0 : decide (x17_2 < (l0.length : Int)) = false := decide_eq_false c7
              clear c7
              obtain rfl := Option.some.inj H
              go_wp2
              go_ret
              exact ⟨by first | rfl | (simp; done) | (simp [*]; done), by repeat (first | exact Drawn0.refl _ | apply Drawn0.step)⟩

/-! ### impl_isBits: function 50 -/
def anyB_72 (n : Nat) (B : Nat → Bool) : Bool := (List.range n).any B
theorem anyB_72_hit {n : Nat} {B : Nat → Bool} {k : Nat} (h : k < n) (hb : B k = true) : anyB_72 n B = true := List.any_eq_true.2 ⟨k, List.mem_range.2 h, hb⟩
theorem anyB_72_miss {n : Nat} {B : Nat → Bool} (h : ∀ j, j < n → B j = false) : anyB_72 n B = false := List.any_eq_false.2 (fun j hj => by rw [h j (List.mem_range.1 hj)]; simp)
set_option maxHeartbeats 4000000 in
set_option maxRecDepth 100000 in
theorem idx_72 (lb : Array Value) (a : Addr) (n c : Nat) (V : Nat → Value) (B : Nat → Bool) (w : World) (hb : n ≤ 9223372036854775807)
    (hw : 0 < n → a.block < w.heap.size) (hc : ∀ j, j < n → w.cell? (a.add j) = some (V j))
    (hp : ∀ j, j < n → ∀ W, Below w.heap.size w W → Calls Try.prog 72 (#[V j] ++ lb) W fun e w' => e = .returned (.bool (B j)) ∧ Below W.heap.size W w') :
    Calls Try.prog 74 #[.slice (some a) n c, .func (.func 72) #[] lb] w fun e w' => ∃ r : Int, e = .returned (.int .i64 r) ∧ decide (0 ≤ r) = anyB_72 n B ∧ Below w.heap.size w w' := by
  have HC := Aside0.mk hc
  have HP := Aside0.mk hp
  have HW := Aside0.mk hw
  clear hc hp hw
  go_enter Try.func74, Try.ntmps74
  go_wp2
  go_loopg [5, 8] n (fun gg _ s8 wr => ∃ kk : Nat, kk ≤ n ∧ n - kk ≤ gg ∧ s8 = .int .i64 kk ∧ Aside0 (Below w.heap.size w wr) ∧ Aside0 (∀ j, j < kk → B j = false))
  case atStart => exact ⟨0, Nat.zero_le _, by omega, rfl, ⟨Below.refl _ w⟩, ⟨fun j hj => absurd hj (Nat.not_lt_zero _)⟩⟩
  case round =>
    obtain ⟨kk, hkk, hg, rfl, BW, AB⟩ := hrel
    by_cases hlt : kk < n
    · have hltz : (kk : Int) < (n : Int) := by omega
      have hcell : wr.cell? (a.add kk) = some (V kk) := (BW.out.cell (p := a.add kk) (by have h := HW.out (by omega); simpa [Addr.add] using (by unfold Addr.add; split <;> exact h : (a.add kk).block < w.heap.size))).trans (HC.out kk hlt)
      have hcall := HP.out kk hlt wr BW.out
      generalize hv : V kk = v at hcell hcall
      have HV := Aside0.mk hv
      clear hv
      cases hq : B kk with
      | true =>
        rw [hq] at hcall
        have HQ := Aside0.mk hq
        clear hq
        go_wp2_with (go_at_call 72; refine hcall.mono ?_; rintro e w' ⟨rfl, hb'⟩; have HB := Aside0.mk hb'; clear hb')
        go_ret
        exact ⟨_, rfl, by rw [anyB_72_hit hlt HQ.out]; exact decide_eq_true (by omega), below_step BW.out HB.out⟩
      | false =>
        rw [hq] at hcall
        have HQ := Aside0.mk hq
        clear hq
        go_wp2_with (go_at_call 72; refine hcall.mono ?_; rintro e w' ⟨rfl, hb'⟩; have HB := Aside0.mk hb'; clear hb')
        go_roundg (n - (kk + 1))
        case measure => omega
        case rel =>
          refine ⟨kk + 1, by omega, by omega, by go_num, ⟨below_step BW.out HB.out⟩, ⟨fun j hj => ?_⟩⟩
          by_cases e : j = kk
          · subst e; exact HQ.out
          · exact AB.out j (by omega)
    · have hltz : ¬ (kk : Int) < (n : Int) := by omega
      have hkn : kk = n := by omega
      subst hkn
      go_wp2
      go_ret
      exact ⟨-1, rfl, by rw [anyB_72_miss AB.out]; rfl, BW.out⟩
set_option maxHeartbeats 4000000 in
theorem idx_72_none (fv : Value) (c : Nat) (a : Option Addr) (w : World) :
    Calls Try.prog 74 #[.slice a 0 c, fv] w fun e w' => e = .returned (.int .i64 (-1)) ∧ w = w' := by
  go_enter Try.func74, Try.ntmps74
  go_wp2
  go_loopg [5, 8] 0 (fun _ _ s8 wr => s8 = .int .i64 0 ∧ w = wr)
  case atStart => exact ⟨rfl, rfl⟩
  case round =>
    obtain ⟨rfl, rfl⟩ := hrel
    go_wp2
    go_ret
    exact ⟨rfl, rfl⟩
set_option maxHeartbeats 4000000 in
theorem has_72 (lb : Array Value) (A0 : Option Addr) (n c : Nat) (V : Nat → Value) (B : Nat → Bool) (w : World) (hb : n ≤ 9223372036854775807)
    (hw : 0 < n → ∃ a, A0 = some a ∧ a.block < w.heap.size ∧ ∀ j, j < n → w.cell? (a.add j) = some (V j))
    (hp : ∀ j, j < n → ∀ W, Below w.heap.size w W → Calls Try.prog 72 (#[V j] ++ lb) W fun e w' => e = .returned (.bool (B j)) ∧ Below W.heap.size W w') :
    Calls Try.prog 52 #[.slice A0 n c, .func (.func 72) #[] lb] w fun e w' => e = .returned (.bool (anyB_72 n B)) ∧ Below w.heap.size w w' := by
  rcases Nat.eq_zero_or_pos n with h0 | h0
  · subst h0
    clear hw hp
    go_enter Try.func52, Try.ntmps52
    go_wp2_with (go_at_call 74; refine (idx_72_none _ _ _ _).mono ?_; rintro e w' ⟨rfl, rfl⟩)
    go_ret
    exact ⟨rfl, Below.refl _ _⟩
  · obtain ⟨a, rfl, hw1, hc⟩ := hw h0
    have hcon := idx_72 lb a n c V B w hb (fun _ => hw1) hc hp
    clear hp hc hw hw1
    go_enter Try.func52, Try.ntmps52
    go_wp2_with (go_at_call 74; refine hcon.mono ?_; rintro e w' ⟨r, rfl, hr, hb'⟩; have HR := Aside0.mk hr; have HB := Aside0.mk hb'; clear hr hb')
    all_goals (go_ret; exact ⟨by rw [← HR.out]; rfl, HB.out⟩)
theorem gv_lt_72 {w : World} {a : Addr} {v : Value} (h : w.cell? a = some v) : a.block < w.heap.size := by
  rcases Nat.lt_or_ge a.block w.heap.size with h1 | h1
  · exact h1
  · simp [World.cell?, Array.getElem?_eq_none h1] at h
theorem rows_72 (lb : Array Value) (A0 : Option Addr) (c0 : Nat) (l0 : List (List Int)) (B : List Int → Bool) (w : World) (hr0 : Kd.C (Kd.slice 3 (Kd.int .i64)) w A0 l0.length l0)
    (hp : ∀ (row : List Int) (Aj : Option Addr) (cj : Nat), row ∈ l0 → row.length ≤ cj → Kd.C (Kd.int .i64) w Aj row.length row → ∀ W, Below w.heap.size w W → Calls Try.prog 72 (#[.slice Aj row.length cj] ++ lb) W fun e w' => e = .returned (.bool (B row)) ∧ Below W.heap.size W w') :
    Calls Try.prog 52 #[.slice A0 l0.length c0, .func (.func 72) #[] lb] w fun e w' => e = .returned (.bool (l0.any B)) ∧ Below w.heap.size w w' := by
  have hh := has_72 lb A0 l0.length c0 (fun j => (A0.bind fun a => w.cell? (a.add j)).getD undef) (fun j => B (l0.getD j [])) w (Kd.C_max hr0)
    (fun h0 => by
      obtain ⟨a, Aj, cj, rfl, hcell, _, _⟩ := at_L1 hr0 0 (by omega) (by omega)
      have h2 := gv_lt_72 hcell
      have h3 : (a.add (0 : Int).toNat).block = a.block := by unfold Addr.add; split <;> rfl
      refine ⟨a, rfl, by omega, fun j hj => ?_⟩
      obtain ⟨a', Aj, cj, e, hcell, _, _⟩ := at_L1 hr0 j (by omega) (by omega)
      cases e
      rw [show (j : Int).toNat = j from rfl] at hcell
      simp only [Option.bind_some, hcell, Option.getD_some])
    (fun j hj W hW => by
      obtain ⟨a', Aj, cj, e, hcell, hlen, hC⟩ := at_L1 hr0 j (by omega) (by omega)
      subst e
      rw [show (j : Int).toNat = j from rfl] at hcell
      simp only [Option.bind_some, hcell, Option.getD_some]
      have hm : rd_L1 l0 (j : Int) ∈ l0 := by
        have : rd_L1 l0 (j : Int) = l0[j] := by simp [rd_L1, List.getD, hj]
        rw [this]; exact List.getElem_mem hj
      exact hp _ _ _ hm hlen hC W hW)
  have e : anyB_72 l0.length (fun j => B (l0.getD j [])) = l0.any B := by
    unfold anyB_72
    rw [Bool.eq_iff_iff, List.any_eq_true, List.any_eq_true]
    constructor
    · rintro ⟨j, hj, h⟩
      have hlt := List.mem_range.1 hj
      exact ⟨l0[j], List.getElem_mem hlt, by simpa [List.getD, hlt] using h⟩
    · rintro ⟨x, hx, h⟩
      obtain ⟨j, hlt, rfl⟩ := List.mem_iff_getElem.1 hx
      exact ⟨j, List.mem_range.2 hlt, by simpa [List.getD, hlt] using h⟩
  rw [e] at hh
  exact hh
def allO {α : Type} (p : α → Option Bool) : List α → Option Bool
  | [] => some false
  | x :: l => (p x).bind fun b => (allO p l).bind fun c => some (b || c)
theorem allO_some {α : Type} {p : α → Option Bool} : ∀ {l : List α} {r : Bool}, allO p l = some r → (∀ x ∈ l, p x = some ((p x).getD false)) ∧ l.any (fun x => (p x).getD false) = r
  | [], r, h => ⟨fun x hx => by simp at hx, Option.some.inj h⟩
  | x :: l, r, h => by
    obtain ⟨b, hb, h⟩ := Option.bind_eq_some_iff.mp h
    obtain ⟨c, hc, h⟩ := Option.bind_eq_some_iff.mp h
    obtain ⟨h1, h2⟩ := allO_some hc
    refine ⟨fun y hy => ?_, ?_⟩
    · rcases List.mem_cons.1 hy with rfl | hy
      · rw [hb]; rfl
      · exact h1 y hy
    · rw [List.any_cons, h2, hb]; exact Option.some.inj h
theorem allO_mono {α : Type} {p q : α → Option Bool} (h : ∀ x, LeO (p x) (q x)) : ∀ l : List α, LeO (allO p l) (allO q l)
  | [] => LeO.refl _
  | x :: l => LeO.bind (h x) (fun b => LeO.bind (allO_mono h l) (fun c => LeO.refl _))
/-- a row's answer: it holds something else than zeros and ones. -/
def noBit (k : Nat) (row : List Int) : Option Bool := (impl_allIn.f k row 0 1).bind fun b => some (!b)
def impl_isBits.f (k : Nat) (l0 : List (List Int)) (a1 : Int) : Option Bool := (impl_IsMatrix.f k l0 a1).bind fun t => if t = true then (allO (noBit k) l0).bind fun b => some (!b) else some false
theorem impl_isBits.mono : ∀ a0 a1 k, LeO (impl_isBits.f k a0 a1) (impl_isBits.f (k + 1) a0 a1) := by
  intro a0 a1 k
  unfold impl_isBits.f
  refine LeO.bind (impl_IsMatrix.mono _ _ _) (fun t => LeO.ite (LeO.bind (allO_mono (fun x => ?_) a0) (fun _ => LeO.refl _)) (LeO.refl _))
  unfold noBit
  exact LeO.bind (impl_allIn.mono _ _ _ _) (fun _ => LeO.refl _)
set_option maxHeartbeats 4000000 in
set_option maxRecDepth 100000 in
theorem nobit_one (k : Nat) (row : List Int) (Ar : Option Addr) (cr : Nat) (b : Bool) (W : World) (hr : Kd.C (Kd.int .i64) W Ar row.length row) (hcr : row.length ≤ cr) (h : noBit k row = some b) :
    Calls Try.prog 72 (#[.slice Ar row.length cr] ++ #[]) W fun e w' => e = .returned (.bool b) ∧ Below W.heap.size W w' := by
  obtain ⟨q, hq, h⟩ := Option.bind_eq_some_iff.mp h
  obtain rfl := Option.some.inj h
  have k1 := impl_allIn.calls k Ar cr row 0 1 q W hr hcr hq
  clear hr h hq
  show Calls Try.prog 72 #[.slice Ar row.length cr] W _
  go_enter Try.func72, Try.ntmps72
  go_wp2_with (go_at_call 73; refine k1.mono ?_; rintro e w1 ⟨rfl, hb⟩; have HB := Aside0.mk hb.below; clear hb)
  go_ret
  exact ⟨rfl, HB.out⟩
set_option maxHeartbeats 4000000 in
set_option maxRecDepth 100000 in
theorem impl_isBits.calls (k : Nat) (A0 : Option Addr) (c0 : Nat) (l0 : List (List Int)) (a1 : Int) (r : Bool) (w : World) (hr0 : Kd.C (Kd.slice 3 (Kd.int .i64)) w A0 l0.length l0) (hc0 : l0.length ≤ c0) (h : impl_isBits.f k l0 a1 = some r) :
    Calls Try.prog 50 #[.slice A0 l0.length c0, .int .i64 a1] w fun e w' => e = .returned (.bool r) ∧ Below w.heap.size w w' := by
  obtain ⟨t, ht, h⟩ := Option.bind_eq_some_iff.mp h
  have k1 := impl_IsMatrix.calls k A0 c0 l0 a1 t w hr0 hc0 ht
  clear ht
  cases t with
  | false =>
    have e : false = r := by simpa using h
    subst e
    clear h hr0
    go_enter Try.func50, Try.ntmps50
    go_wp2_with (go_at_call 51; refine k1.mono ?_; rintro e w1 ⟨rfl, hb⟩; have HB := Aside0.mk hb.below; clear hb)
    go_ret
    exact ⟨rfl, HB.out⟩
  | true =>
    rw [if_pos rfl] at h
    obtain ⟨q, hq, h⟩ := Option.bind_eq_some_iff.mp h
    obtain rfl := Option.some.inj h
    obtain ⟨h1, h2⟩ := allO_some hq
    have k2 : ∀ w1, Below w.heap.size w w1 → Calls Try.prog 52 #[.slice A0 l0.length c0, .func (.func 72) #[] #[]] w1 fun e w' => e = .returned (.bool q) ∧ Below w1.heap.size w1 w' := fun w1 hb => by
      have hh := rows_72 #[] A0 c0 l0 (fun row => (noBit k row).getD false) w1 (Kd.C_below hr0 hb) (fun row Aj cj hm hl hC W hW => nobit_one k row Aj cj _ W (Kd.C_below hC hW) hl (h1 row hm))
      rw [h2] at hh
      exact hh
    have K2 := Aside0.mk k2
    clear k2 h1 h2 hq h hr0
    go_enter Try.func50, Try.ntmps50
    go_wp2_with (first | (go_at_call 51; refine k1.mono ?_; rintro e w1 ⟨rfl, hb⟩; have HB := Aside0.mk hb.below; clear hb k1) | (go_at_call 52; refine (K2.out _ HB.out).mono ?_; rintro e w2 ⟨rfl, hb⟩; have HB2 := Aside0.mk (below_step HB.out hb); clear hb))
    go_ret
    exact ⟨rfl, HB2.out⟩

/-! ### slices_Clone_int_int: function 62 -/
/-- A copy, if it is not too long to be made. -/
def slices_Clone_int_int.f (l0 : List Int) : Option (List Int) := if l0.length < 17592186044416 then some l0 else none
set_option maxHeartbeats 4000000 in
set_option maxRecDepth 100000 in
theorem slices_Clone_int_int.calls (A0 : Option Addr) (c0 : Nat) (l0 : List Int) (r : List Int) (w : World) (hr0 : Kd.C (Kd.int .i64) w A0 l0.length l0) (hc0 : l0.length ≤ c0) (h : slices_Clone_int_int.f l0 = some r) :
    Calls Try.prog 62 #[.slice A0 l0.length c0] w fun e w' => ∃ v0_ : Value, e = .returned (v0_) ∧ Kd.R (Kd.int .i64) 3 w' w.heap.size (fun _ => True) v0_ r ∧ Below w.heap.size w w' := by
  have hn : l0.length < 17592186044416 ∧ l0 = r := by
    unfold slices_Clone_int_int.f at h
    split at h
    · rename_i h1; exact ⟨h1, Option.some.inj h⟩
    · cases h
  clear h
  obtain ⟨hN, rfl⟩ := hn
  rcases A0 with _ | ad
  · have h0 : l0 = [] := by
      rcases Nat.eq_zero_or_pos l0.length with h0 | h0
      · exact List.eq_nil_of_length_eq_zero h0
      · obtain ⟨ad, h1, _⟩ := hr0.2.2 h0; cases h1
    subst h0
    have hq : ∀ (w : World) (n c n' c' : Nat), (binOp .eql 30 (.slice none n c) (.slice none n' c')).run Try.prog w = .ok (.bool true) w := fun w n c n' c' => Lib.run_eql_slice_nil w _ _ none n c n' c' Try.underlying30
    clear hr0 hc0 hN
    go_enter Try.func62, Try.ntmps62
    go_wp2
    go_ret
    exact ⟨_, rfl, Kd.R_nil _ _ _ _ _, Below.refl _ _⟩
  · have hq : ∀ (w : World) (n c n' c' : Nat), (binOp .eql 30 (.slice (some ad) n c) (.slice none n' c')).run Try.prog w = .ok (.bool false) w := fun w n c n' c' => Lib.run_eql_slice_nil w _ _ (some ad) n c n' c' Try.underlying30
    have HR := Aside0.mk hr0
    have HN := Aside0.mk hN
    clear hr0 hc0 hN
    have hut := Try.underlying30
    go_enter Try.func62, Try.ntmps62
    go_wp2_with (first | ((with_reducible refine gate_dst (N := 5) rfl ?_); refine Kd.R_lit (Kd.int .i64) (w0 := w) w.heap.size 3 ?hg (N := 5) ?hd (xs := ([] : List Int)) (inner := []) (ok := fun _ => True) (okp := fun _ => True) ?hr ?hp (fun _ hk => hk) trivial (Below.refl _ _) (Nat.le_refl _) (by simp) ?_; (case hd => rfl); (case hg => rfl); (case hr => first | (go_simp; done) | (go_simp; rfl)); (case hp => exact Reps.none _ _); intro v1 w1 ho hb hg_ hnew_; have HO := Aside0.mk ho; have HB := Aside0.mk hb; clear ho hb hg_ hnew_) | (at_builtin; refine Kd.R_append_rows (Kd.int .i64) (Rr := Kd.K (Kd.int .i64) w1) (w0 := w) w.heap.size rfl (.tmp 5) (.tmp 6) 30 3 (.int .i64 0) 8 rfl Try.underlying30 info3 rfl (by decide) (by omega) v1 [] l0 _ _ _ (fun _ => True) (fun _ => False) rfl rfl HO.out ?aR (fun _ _ h => h) (fun _ h => h.elim) (fun _ _ => trivial) HB.out (below_size HB.out) ?aL ?_; (case aR => exact Kd.C_below HR.out HB.out); (case aL => have h1 := HN.out; simp only [List.length_nil, Nat.zero_add]; omega); intro v2 w2 ho hb _ _; have HO2 := Aside0.mk ho; have HB2 := Aside0.mk hb; clear ho hb))
    go_ret
    exact ⟨_, rfl, HO2.out, HB2.out⟩

/-! ### impl_SetsOf: function 34 -/
/-- The lists of n rounds, one behind the other. -/
def flatR (G : Nat → List (List Int)) (n : Nat) : List (List Int) := ((List.range n).map G).flatten
theorem flatR_succ (G : Nat → List (List Int)) (n : Nat) : flatR G (n + 1) = flatR G n ++ G n := by
  unfold flatR
  rw [List.range_succ, List.map_append, List.flatten_append]
  simp
theorem flatR_le (G : Nat → List (List Int)) (m n : Nat) (h : m ≤ n) : (flatR G m).length ≤ (flatR G n).length := by
  obtain ⟨d, rfl⟩ := Nat.exists_eq_add_of_le h
  clear h
  induction d with
  | zero => exact Nat.le_refl _
  | succ d ih => rw [← Nat.add_assoc, flatR_succ, List.length_append]; omega
/-- the sets of so many columns that go on from a set, the next column at least c0. -/
def subsF (size cols : Nat) : Nat → List Int → Nat → List (List Int)
  | 0, set, _ => if set.length = size then [set] else []
  | f + 1, set, c0 => if set.length = size then [set] else flatR (fun j => subsF size cols f (set ++ [((c0 + j : Nat) : Int)]) (c0 + j + 1)) (cols - c0)
def impl_SetsOf.f (a0 : Int) (a1 : Int) : Option (List (List Int)) := if 0 ≤ a0 ∧ a0 ≤ 6 ∧ 0 ≤ a1 ∧ a1 ≤ a0 then some (subsF a1.toNat a0.toNat a0.toNat [] 0) else some []
/-- What is of another type than the variable and its rows stays. -/
def Keeps (W w' : World) : Prop := ∀ (k : Nat) (cells : Array Value) (q : Nat), W.heap[k]? = some (.cells cells q (0, 0)) → q ≠ 22 → q ≠ 30 → w'.heap[k]? = W.heap[k]?
theorem Keeps.refl (W : World) : Keeps W W := fun _ _ _ _ _ _ => rfl
theorem Keeps.trans {W w1 w2 : World} (h1 : Keeps W w1) (h2 : Keeps w1 w2) : Keeps W w2 := fun k cells q h a b => by
  have e := h1 k cells q h a b
  rw [h2 k cells q (e.trans h) a b, e]
theorem Keeps.below {W w' : World} (hb : Below W.heap.size W w') : Keeps W w' := fun k cells q h _ _ => hb.block k (Array.getElem?_eq_some_iff.1 h).1
theorem Keeps.grown {W w' : World} {row : Option Nat} (hg : W.grownBy w' row) (hr : ∀ k, row = some k → ∃ cells, W.heap[k]? = some (.cells cells 30 (0, 0))) : Keeps W w' := fun k cells q h _ hq =>
  hg.block k (Array.getElem?_eq_some_iff.1 h).1 (fun e => by
    obtain ⟨c2, h2⟩ := hr k e.symm
    rw [h] at h2
    injection h2 with h2
    injection h2 with _ h2
    exact hq h2)
theorem Keeps.set {W : World} {b : Nat} {v0 u : Value} (hb : W.heap[b]? = some (.cells #[v0] 22 (0, 0))) : Keeps W (W.setCell ⟨b, 0, none⟩ u) := fun k cells q h hq _ => by
  have hne : k ≠ b := by
    rintro rfl
    rw [h] at hb
    injection hb with hb
    injection hb with _ hb
    exact hq hb
  exact Below.heap_setCell W ⟨b, 0, none⟩ u k hne
theorem Keeps.int {W w' : World} {base : Nat} {v : Value} {xs : List Int} (hk : Keeps W w') (h : Kd.R (Kd.int .i64) 3 W base (fun _ => True) v xs) : Kd.R (Kd.int .i64) 3 w' base (fun _ => True) v xs :=
  Kd.R_mono (Kd.R_move (Kd.R_bound h) (fun k hk2 => by
    obtain ⟨_, _, _, q, hq, cells, hc⟩ := hk2
    have hq : q = 3 := by simpa [Kd.int, Kd.scalar] using hq
    exact hk k cells q hc (by omega) (by omega))) (fun _ _ => trivial)
def AddPost (bo base : Nat) (W : World) (ys : List (List Int)) (e : Ending) (w' : World) : Prop :=
  e = .returned (.tuple #[]) ∧ ∃ v', w'.heap[bo]? = some (.cells #[v'] 22 (0, 0)) ∧ Kd.S (Kd.slice 3 (Kd.int .i64)) 30 w' base (fun _ => True) v' ys ∧ Below base W w' ∧ Keeps W w'
/-- The closure's own cells. -/
def adders (bs bo bc ba : Nat) : Array Value := #[.pointer (some ⟨bs, 0, none⟩), .pointer (some ⟨bo, 0, none⟩), .pointer (some ⟨bc, 0, none⟩), .pointer (some ⟨ba, 0, none⟩)]
theorem add_lower {W W' w1 : World} {base : Nat} {v1 : Value} {set : List Int} (ho : Kd.R (Kd.int .i64) 3 w1 W'.heap.size (fun _ => True) v1 set) (hbase : base ≤ W.heap.size) (hW : W.heap.size ≤ W'.heap.size := by (first | exact Nat.le_refl _ | omega)) : Kd.R (Kd.int .i64) 3 w1 base (fun k_ => W.heap.size ≤ k_) v1 set :=
  Kd.R_lower (Kd.R_mono (Kd.R_bound ho) (fun k hk => Nat.le_trans hW hk.2.1)) (Nat.le_trans hbase hW)
theorem add_post {W w2 : World} {bo base : Nat} {v v2 : Value} {ys : List (List Int)} (hb2 : Below base W w2) (hbo : base ≤ bo) (hbo2 : w2.heap[bo]? = some (.cells #[v] 22 (0, 0))) (ho2 : Kd.S (Kd.slice 3 (Kd.int .i64)) 30 w2 base (fun _ => True) v2 ys) (hk2 : Keeps W w2) : AddPost bo base W ys (.returned (.tuple #[])) (w2.setCell ⟨bo, 0, none⟩ v2) :=
  ⟨rfl, v2, by have h := blk_set hbo2 0 v2; simpa using h, Kd.S_set ho2 hbo2 (by decide) 0 v2, hb2.setCell hbo v2, hk2.trans (Keeps.set hbo2)⟩
set_option maxHeartbeats 4000000 in
set_option maxRecDepth 100000 in
theorem add_done (size bs bo bc ba : Nat) (set : List Int) (c0 : Nat) (A : Option Addr) (c base : Nat) (v : Value) (xs : List (List Int)) (W : World) (hl : set.length = size) (hl6 : set.length ≤ 6) (hbo : base ≤ bo) (hbase : base ≤ W.heap.size)
    (hs : W.heap[bs]? = some (.cells #[.int .i64 (size : Int)] 3 (0, 0))) (ho : W.heap[bo]? = some (.cells #[v] 22 (0, 0))) (hR : Kd.S (Kd.slice 3 (Kd.int .i64)) 30 W base (fun _ => True) v xs) (hS : Kd.R (Kd.int .i64) 3 W base (fun _ => True) (.slice A set.length c) set) (hx : xs.length + 1 ≤ 1000000) :
    Calls Try.prog 61 (#[.slice A set.length c, .int .i64 (c0 : Int)] ++ adders bs bo bc ba) W (AddPost bo base W (xs ++ [set])) := by
  show Calls Try.prog 61 #[.slice A set.length c, .int .i64 (c0 : Int), .pointer (some ⟨bs, 0, none⟩), .pointer (some ⟨bo, 0, none⟩), .pointer (some ⟨bc, 0, none⟩), .pointer (some ⟨ba, 0, none⟩)] W _
  have hcs : W.cell? ⟨bs, 0, none⟩ = some (.int .i64 (size : Int)) := (blk_cell hs 0).trans rfl
  have hco : W.cell? ⟨bo, 0, none⟩ = some v := (blk_cell ho 0).trans rfl
  have hfo : W.frozen? ⟨bo, 0, none⟩ = false := blk_frozen ho 0
  have heq : ((set.length : Int) == (size : Int)) = true := beq_iff_eq.mpr (by omega)
  have kc : ∀ W', Below W.heap.size W W' → Calls Try.prog 62 #[.slice A set.length c] W' fun e w' => ∃ v0_ : Value, e = .returned v0_ ∧ Kd.R (Kd.int .i64) 3 w' W'.heap.size (fun _ => True) v0_ set ∧ Below W'.heap.size W' w' := fun W' hb =>
    slices_Clone_int_int.calls A c set set W' (Kd.R_reads' (Kd.R_below hS hb)).2.2 (Kd.R_reads' hS).2.1 (if_pos (by omega))
  have KC := Aside0.mk kc
  have HO := Aside0.mk ho
  have HR := Aside0.mk hR
  have HX := Aside0.mk hx
  have HV : Aside0 (∀ k, W.heap.size ≤ k → True ∧ some k ≠ v.ownBlock) := ⟨fun k hk => ⟨trivial, fun e => by
    obtain ⟨inner, hw⟩ := Kd.S_own hR
    have := own_lt hw k e.symm
    omega⟩⟩
  clear kc ho hR hS hs hl hx
  go_enter Try.func61, Try.ntmps61
  go_wp2_with (fail)
  go_region_law (first | (go_simp; go_at_call 62; refine (KC.out _ (by repeat (first | exact Below.refl _ _ | apply below_drew1))).mono ?_; rintro e w1 ⟨v1, rfl, ho1, hb1⟩; obtain ⟨A1, c1, rfl⟩ := Kd.R_slice ho1; have hbW : Below W.heap.size W w1 := below_step (below_drew1 (Below.refl _ W)) hb1; have hco1 : w1.cell? ⟨bo, 0, none⟩ = some v := (blk_cell (blk_below (w := W) HO.out hbW) 0).trans rfl; have hco1b : (w1.alloc (.cells #[.slice A1 set.length c1] 30)).cell? ⟨bo, 0, none⟩ = some v := Lib.cell?_alloc_some _ hco1; have HP := Aside0.mk (add_lower ho1 hbase); have HRO := Aside0.mk (Kd.S_below (Kd.S_mono (ok' := fun k_ => True ∧ ¬ W.heap.size ≤ k_) (Kd.S_bound HR.out) (fun k_ hk => ⟨trivial, Nat.not_le.mpr hk.2.2.1⟩)) hbW); have HBB := Aside0.mk (hbW.mono hbase); have HSZ := Aside0.mk (Nat.le_trans hbase hbW.size); have HBW := Aside0.mk hbW; clear ho1 hb1 hbW) | (refine Kd.S_append_step (Kd.slice 3 (Kd.int .i64)) (w0 := W) base (by rfl) (.tmp 13) (.tmp 16) 22 30 (.slice none 0 0) 24 rfl Try.underlying22 info30 rfl (by decide) (by omega) v xs set [.slice A1 set.length c1] (fun _ => True) (fun k_ => W.heap.size ≤ k_) (by rfl) (by rfl) ?aP ?aK (fun _ _ => trivial) ?aO ?aB ?aS ?aL ?_; (case aP => exact ⟨_, rfl, HP.out⟩); (case aK => exact HV.out); (case aO => exact HRO.out); (case aB => exact HBB.out); (case aS => exact HSZ.out); (case aL => have := HX.out; omega); intro v2 w2 ho2 hb2 hg2 _; obtain ⟨A2, c2, rfl⟩ := Kd.S_slice ho2; have hbo2 : w2.heap[bo]? = some (.cells #[v] 22 (0, 0)) := blk_grown (blk_below HO.out HBW.out) hg2 (Kd.S_ne HRO.out (blk_below HO.out HBW.out) (by decide)); have hco2 : w2.cell? ⟨bo, 0, none⟩ = some v := (blk_cell hbo2 0).trans rfl; have hfo2 : w2.frozen? ⟨bo, 0, none⟩ = false := blk_frozen hbo2 0; have HK2 := Aside0.mk ((Keeps.below HBW.out).trans (Keeps.grown hg2 (fun k hk => by obtain ⟨inner, hw⟩ := Kd.S_own HRO.out; exact own_typed hw k hk))); have HB2 := Aside0.mk hb2; have HO2 := Aside0.mk ho2; have HBO2 := Aside0.mk hbo2; clear ho2 hb2 hg2 hbo2) | fail)
  all_goals (go_wp2; go_end0; exact add_post HB2.out hbo HBO2.out (by have h := HO2.out; rw [List.length_append] at h; exact h) HK2.out)
theorem one_C {W : World} {g : Nat} {x : Int} (h : W.cell? ⟨g, 0, none⟩ = some (.int .i64 x)) : Kd.C (Kd.int .i64) W (some ⟨g, 0, none⟩) 1 [x] := by
  refine Kd.C_of_reads (enc := Value.int .i64) (d := (0 : Int)) (h1 := fun _ => rfl) ⟨rfl, by omega, fun _ => ⟨_, rfl, fun j hj => ?_⟩⟩
  have : j = 0 := by omega
  subst this
  exact h
theorem low_R {w W' w1 : World} {v : Value} {set : List Int} (hW : Below w.heap.size w W') (ho : Kd.R (Kd.int .i64) 3 w1 W'.heap.size (fun _ => True) v set) : Kd.R (Kd.int .i64) 3 w1 w.heap.size (fun _ => True) v set := Kd.R_lower ho hW.size
set_option maxHeartbeats 4000000 in
set_option maxRecDepth 100000 in
theorem add_more (size cols bs bo bc ba : Nat) (hcols : cols ≤ 6) (F : List Int → Nat → List (List Int)) (set : List Int) (c0 : Nat) (A : Option Addr) (c base : Nat) (v : Value) (xs : List (List Int)) (W : World) (hl : set.length ≠ size) (hl6 : set.length ≤ c0) (hc0 : c0 ≤ cols) (hbo : base ≤ bo) (hbase : base ≤ W.heap.size)
    (ih : ∀ (set : List Int) (c1 : Nat) (A : Option Addr) (c base : Nat) (v : Value) (xs : List (List Int)) (W : World), c0 < c1 → c1 ≤ cols → set.length ≤ c1 → base ≤ bo → base ≤ W.heap.size → W.heap[bs]? = some (.cells #[.int .i64 (size : Int)] 3 (0, 0)) → W.heap[bc]? = some (.cells #[.int .i64 (cols : Int)] 3 (0, 0)) → W.heap[ba]? = some (.cells #[.func (.func 61) #[] (adders bs bo bc ba)] 64 (0, 0)) → W.heap[bo]? = some (.cells #[v] 22 (0, 0)) →
      Kd.S (Kd.slice 3 (Kd.int .i64)) 30 W base (fun _ => True) v xs → Kd.R (Kd.int .i64) 3 W base (fun _ => True) (.slice A set.length c) set → xs.length + (F set c1).length ≤ 1000000 →
      Calls Try.prog 61 (#[.slice A set.length c, .int .i64 (c1 : Int)] ++ adders bs bo bc ba) W (AddPost bo base W (xs ++ F set c1)))
    (hs : W.heap[bs]? = some (.cells #[.int .i64 (size : Int)] 3 (0, 0))) (hc : W.heap[bc]? = some (.cells #[.int .i64 (cols : Int)] 3 (0, 0))) (ha : W.heap[ba]? = some (.cells #[.func (.func 61) #[] (adders bs bo bc ba)] 64 (0, 0))) (ho : W.heap[bo]? = some (.cells #[v] 22 (0, 0)))
    (hR : Kd.S (Kd.slice 3 (Kd.int .i64)) 30 W base (fun _ => True) v xs) (hS : Kd.R (Kd.int .i64) 3 W base (fun _ => True) (.slice A set.length c) set) (hx : xs.length + (flatR (fun j => F (set ++ [((c0 + j : Nat) : Int)]) (c0 + j + 1)) (cols - c0)).length ≤ 1000000) :
    Calls Try.prog 61 (#[.slice A set.length c, .int .i64 (c0 : Int)] ++ adders bs bo bc ba) W (AddPost bo base W (xs ++ flatR (fun j => F (set ++ [((c0 + j : Nat) : Int)]) (c0 + j + 1)) (cols - c0))) := by
  show Calls Try.prog 61 #[.slice A set.length c, .int .i64 (c0 : Int), .pointer (some ⟨bs, 0, none⟩), .pointer (some ⟨bo, 0, none⟩), .pointer (some ⟨bc, 0, none⟩), .pointer (some ⟨ba, 0, none⟩)] W _
  have hcs : W.cell? ⟨bs, 0, none⟩ = some (.int .i64 (size : Int)) := (blk_cell hs 0).trans rfl
  have heq : ((set.length : Int) == (size : Int)) = false := beq_eq_false_iff_ne.mpr (by omega)
  have HH := Aside0.mk (And.intro hs (And.intro hc (And.intro ha hS)))
  have IH := Aside0.mk ih
  have HX := Aside0.mk hx
  have HST : Aside0 (∃ vr, W.heap[bo]? = some (.cells #[vr] 22 (0, 0)) ∧ Kd.S (Kd.slice 3 (Kd.int .i64)) 30 W base (fun _ => True) vr (xs ++ flatR (fun j => F (set ++ [((c0 + j : Nat) : Int)]) (c0 + j + 1)) 0)) := ⟨v, ho, by simpa [flatR] using hR⟩
  have HG := Aside0.mk (fun j => flatR_succ (fun j => F (set ++ [((c0 + j : Nat) : Int)]) (c0 + j + 1)) j)
  have HLE := Aside0.mk (fun m n h => flatR_le (fun j => F (set ++ [((c0 + j : Nat) : Int)]) (c0 + j + 1)) m n h)
  clear hs hc ha ho hR hS hx ih
  generalize hG : (fun j => F (set ++ [((c0 + j : Nat) : Int)]) (c0 + j + 1)) = G at HX HST HG HLE ⊢
  have HGE := Aside0.mk hG
  clear hG
  go_enter Try.func61, Try.ntmps61
  go_wp2
  go_loopg [8] (cols - c0) (fun gg s8 wr => ∃ j : Nat, c0 ≤ j ∧ j ≤ cols ∧ cols - j ≤ gg ∧ s8 = .int .i64 (j : Int) ∧ Aside0 (∃ vr, wr.heap[bo]? = some (.cells #[vr] 22 (0, 0)) ∧ Kd.S (Kd.slice 3 (Kd.int .i64)) 30 wr base (fun _ => True) vr (xs ++ flatR G (j - c0))) ∧ Aside0 (Below base W wr) ∧ Aside0 (Keeps W wr))
  case atStart => exact ⟨c0, Nat.le_refl _, hc0, Nat.le_refl _, rfl, by rw [Nat.sub_self]; exact HST, ⟨Below.refl _ _⟩, ⟨Keeps.refl _⟩⟩
  case round =>
    clear HST hcs heq
    obtain ⟨j, hj0, hj1, hg, rfl, HST, BW, KW⟩ := hrel
    obtain ⟨hs, hc, ha, hS⟩ := HH.out
    have hcc : wr.cell? ⟨bc, 0, none⟩ = some (.int .i64 (cols : Int)) := (blk_cell ((KW.out bc _ _ hc (by decide) (by decide)).trans hc) 0).trans rfl
    by_cases hlt : j < cols
    · have hltz : (j : Int) < (cols : Int) := by omega
      obtain ⟨kk, hjk⟩ : ∃ kk, j = c0 + kk := ⟨j - c0, by omega⟩
      have hjk2 : j - c0 = kk := by omega
      obtain ⟨vr, h1, h2⟩ := HST.out
      have hs' := (KW.out bs _ _ hs (by decide) (by decide)).trans hs
      have hc' := (KW.out bc _ _ hc (by decide) (by decide)).trans hc
      have ha' := (KW.out ba _ _ ha (by decide) (by decide)).trans ha
      have hS' := KW.out.int hS
      have hbw : base ≤ wr.heap.size := Nat.le_trans hbase BW.out.size
      have hca : wr.cell? ⟨ba, 0, none⟩ = some (.func (.func 61) #[] (adders bs bo bc ba)) := (blk_cell ha' 0).trans rfl
      have hlen : (set ++ [(j : Int)]).length = set.length + 1 := by simp
      have hGk : G kk = F (set ++ [(j : Int)]) (j + 1) := by rw [hjk]; exact (congrFun HGE.out kk).symm
      rw [hjk2] at h2
      have hbnd : xs.length + (flatR G (kk + 1)).length ≤ 1000000 := Nat.le_trans (Nat.add_le_add_left (HLE.out (kk + 1) (cols - c0) (by omega)) _) HX.out
      have key : ∀ (A2 : Option Addr) (c2 : Nat) (w2 : World), Below wr.heap.size wr w2 → Kd.R (Kd.int .i64) 3 w2 base (fun _ => True) (.slice A2 (set.length + 1) c2) (set ++ [(j : Int)]) →
          Calls Try.prog 61 (#[.slice A2 (set.length + 1) c2, .int .i64 ((j : Int) + 1)] ++ adders bs bo bc ba) w2 (AddPost bo base w2 (xs ++ flatR G (kk + 1))) := by
        intro A2 c2 w2 hb hr
        rw [flatR_succ, List.length_append] at hbnd
        rw [hGk] at hbnd
        have h := IH.out (set ++ [(j : Int)]) (j + 1) A2 c2 base vr (xs ++ flatR G kk) w2 (by omega) (by omega) (by rw [hlen]; omega) hbo (Nat.le_trans hbw hb.size) (blk_below hs' hb) (blk_below hc' hb) (blk_below ha' hb) (blk_below h1 hb) (Kd.S_below h2 hb) (by rw [hlen]; exact hr) (by rw [List.length_append]; omega)
        rw [hlen, List.append_assoc, ← hGk, ← flatR_succ] at h
        exact h
      have kc : ∀ W', Below wr.heap.size wr W' → Calls Try.prog 62 #[.slice A set.length c] W' fun e w' => ∃ v0_ : Value, e = .returned v0_ ∧ Kd.R (Kd.int .i64) 3 w' W'.heap.size (fun _ => True) v0_ set ∧ Below W'.heap.size W' w' := fun W' hb =>
        slices_Clone_int_int.calls A c set set W' (Kd.R_reads' (Kd.R_below hS' hb)).2.2 (Kd.R_reads' hS').2.1 (if_pos (by omega))
      have hka : ∀ w2, Below wr.heap.size wr w2 → w2.cell? ⟨ba, 0, none⟩ = some (.func (.func 61) #[] (adders bs bo bc ba)) := fun w2 hb => (blk_cell (blk_below ha' hb) 0).trans rfl
      have hka3 : ∀ w2 w3, Below wr.heap.size wr w2 → Keeps w2 w3 → w3.cell? ⟨ba, 0, none⟩ = some (.func (.func 61) #[] (adders bs bo bc ba)) := fun w2 w3 hb hk => (blk_cell ((hk ba _ _ (blk_below ha' hb) (by decide) (by decide)).trans (blk_below ha' hb)) 0).trans rfl
      have KEY := Aside0.mk key
      have KC := Aside0.mk kc
      have HKA := Aside0.mk hka
      have HKA3 := Aside0.mk hka3
      have hw1 : IntKind.i64.wrap ((j : Int) + 1) = (j : Int) + 1 := by rw [i64_w]; unfold wrap64; omega
      have HLEN := Aside0.mk hlen
      have HBW := Aside0.mk hbw
      have HJ := Aside0.mk (show j + 1 - c0 = kk + 1 by omega)
      clear hjk hjk2 key kc hka hka3 hs hc ha hS hs' hc' ha' hS' h1 h2 hGk hbnd hlen HST hbw
      go_wp2_with (fail)
      go_region_held3 (fun w' => w'.cell? ⟨ba, 0, none⟩ = some (.func (.func 61) #[] (adders bs bo bc ba))) (first | assumption | go_keep)
        (first
          | (go_at_call 62; refine (KC.out _ (by repeat (first | exact Below.refl _ _ | apply below_drew1 | apply below_alloc))).mono ?_; rintro e w1 ⟨v1, rfl, ho1, hb1⟩; obtain ⟨A1, c1, rfl⟩ := Kd.R_slice ho1; have hbW : Below wr.heap.size wr w1 := below_step (by repeat (first | exact Below.refl _ _ | apply below_drew1 | apply below_alloc)) hb1; have hca1 := HKA.out w1 hbW; have hbox : w1.cell? ⟨wr.heap.size, 0, none⟩ = some (.int .i64 (j : Int)) := (blk_cell (blk_below (blk_new wr (.cells #[.int .i64 (j : Int)] 3)) (below_step (below_drew1 (Below.refl _ _)) hb1)) 0).trans rfl; have HBX := Aside0.mk hbox; have HB1 := Aside0.mk hbW; have HO1 : Aside0 (Kd.R (Kd.int .i64) 3 w1 wr.heap.size (fun _ => True) (.slice A1 set.length c1) set) := ⟨low_R (by repeat (first | exact Below.refl _ _ | apply below_drew1 | apply below_alloc)) ho1⟩; clear ho1 hb1 hbW hbox)
          | (go_at_call 62; refine (KC.out _ (by repeat (first | exact Below.refl _ _ | apply below_drew1 | apply below_alloc))).mono ?_; rintro e w1 ⟨v1, rfl, ho1, hb1⟩; obtain ⟨A1, c1, rfl⟩ := Kd.R_slice ho1; have hbW : Below wr.heap.size wr w1 := below_step (by repeat (first | exact Below.refl _ _ | apply below_drew1 | apply below_alloc)) hb1; have hca1 := HKA.out w1 hbW; have hca1b : (w1.alloc (.cells #[.int .i64 (j : Int)] 3)).cell? ⟨ba, 0, none⟩ = some (.func (.func 61) #[] (adders bs bo bc ba)) := Lib.cell?_alloc_some _ hca1; have HB1 := Aside0.mk hbW; have HO1 : Aside0 (Kd.R (Kd.int .i64) 3 w1 wr.heap.size (fun _ => True) (.slice A1 set.length c1) set) := ⟨low_R (by repeat (first | exact Below.refl _ _ | apply below_drew1 | apply below_alloc)) ho1⟩; clear ho1 hb1 hbW)
          | (go_at_call 61; refine (KEY.out A2 c2 _ HB2.out (by have h := HO2.out; rw [HLEN.out] at h; exact h)).mono ?_; rintro e w3 ⟨rfl, vr3, k1, k2, k3, k4⟩; have hca3 := HKA3.out w2 w3 HB2.out k4; have K1 := Aside0.mk k1; have K2 := Aside0.mk k2; have K3 := Aside0.mk k3; have K4 := Aside0.mk k4; clear k1 k2 k3 k4)
          | (refine Kd.R_append_rows_step (Kd.int .i64) (Rr := Kd.K (Kd.int .i64) w1) (w0 := wr) wr.heap.size (by rfl) (.tmp 26) (.tmp 28) 30 3 (.int .i64 0) 8 rfl Try.underlying30 info3 rfl (by decide) (by omega) (.slice A1 set.length c1) set [(j : Int)] (some ⟨wr.heap.size, 0, none⟩) 1 1 (fun _ => True) (fun _ => False) (by rfl) (by rfl) ?aO ?aP (fun _ _ h => h) (fun _ h => h.elim) (fun _ _ => trivial) ?aB ?aS ?aL ?_; (case aP => exact one_C HBX.out); (case aO => exact HO1.out); (case aB => exact HB1.out); (case aS => exact HB1.out.size); (case aL => omega); intro v2 w2 ho2 hb2 hg2 _; obtain ⟨A2, c2, rfl⟩ := Kd.R_slice ho2; have hca2 := HKA.out w2 hb2; have HB2 := Aside0.mk hb2; have HO2 := Aside0.mk (Kd.R_lower ho2 HBW.out); clear ho2 hb2 hg2)
          | (refine Kd.R_append_step (Kd.int .i64) (w0 := wr) wr.heap.size (by rfl) (.tmp 26) (.tmp 28) 30 3 (.int .i64 0) 8 rfl Try.underlying30 info3 rfl (by decide) (by omega) (.slice A1 set.length c1) set ((j : Int)) [.int .i64 (j : Int)] (fun _ => True) (fun _ => False) (by rfl) (by rfl) ?aP (fun _ h => h.elim) (fun _ _ => trivial) ?aO ?aB ?aS ?aL ?_; (case aP => exact rfl); (case aO => exact HO1.out); (case aB => exact HB1.out); (case aS => exact HB1.out.size); (case aL => omega); intro v2 w2 ho2 hb2 hg2 _; obtain ⟨A2, c2, rfl⟩ := Kd.R_slice ho2; have hca2 := HKA.out w2 hb2; have HB2 := Aside0.mk hb2; have HO2 := Aside0.mk (Kd.R_lower ho2 HBW.out); clear ho2 hb2 hg2)
          | fail)
      all_goals
        go_wp2
        go_roundg (cols - (j + 1))
        case measure => omega
        case rel => exact ⟨j + 1, by omega, by omega, Nat.le_refl _, by go_num, ⟨vr3, K1.out, by rw [HJ.out]; exact K2.out⟩, ⟨BW.out.trans ((HB2.out.mono HBW.out).trans K3.out)⟩, ⟨KW.out.trans ((Keeps.below HB2.out).trans K4.out)⟩⟩
    · have hltz : ¬ (j : Int) < (cols : Int) := by omega
      have hkn : j = cols := by omega
      subst hkn
      obtain ⟨vr, h1, h2⟩ := HST.out
      have H1 := Aside0.mk h1
      have H2 := Aside0.mk h2
      clear h1 h2 hs hc ha hS
      go_wp2
      go_end0
      exact ⟨rfl, vr, H1.out, H2.out, BW.out, KW.out⟩
theorem add_calls (size cols bs bo bc ba : Nat) (hcols : cols ≤ 6) (hsize : size ≤ 6) : ∀ (f : Nat) (set : List Int) (c0 : Nat) (A : Option Addr) (c base : Nat) (v : Value) (xs : List (List Int)) (W : World), c0 ≤ cols → cols ≤ c0 + f → set.length ≤ c0 → base ≤ bo → base ≤ W.heap.size → W.heap[bs]? = some (.cells #[.int .i64 (size : Int)] 3 (0, 0)) → W.heap[bc]? = some (.cells #[.int .i64 (cols : Int)] 3 (0, 0)) → W.heap[ba]? = some (.cells #[.func (.func 61) #[] (adders bs bo bc ba)] 64 (0, 0)) → W.heap[bo]? = some (.cells #[v] 22 (0, 0)) →
    Kd.S (Kd.slice 3 (Kd.int .i64)) 30 W base (fun _ => True) v xs → Kd.R (Kd.int .i64) 3 W base (fun _ => True) (.slice A set.length c) set → xs.length + (subsF size cols f set c0).length ≤ 1000000 →
    Calls Try.prog 61 (#[.slice A set.length c, .int .i64 (c0 : Int)] ++ adders bs bo bc ba) W (AddPost bo base W (xs ++ subsF size cols f set c0)) := by
  intro f
  induction f with
  | zero =>
    intro set c0 A c base v xs W h1 h2 h3 h4 h5 hs hc ha ho hR hS hx
    unfold subsF at hx ⊢
    by_cases h : set.length = size
    · rw [if_pos h] at hx ⊢
      exact add_done size bs bo bc ba set c0 A c base v xs W h (by omega) h4 h5 hs ho hR hS (by simpa using hx)
    · rw [if_neg h] at hx ⊢
      have hz : cols - c0 = 0 := by omega
      have e := add_more size cols bs bo bc ba hcols (fun _ _ => []) set c0 A c base v xs W h h3 h1 h4 h5 (fun _ c1 _ _ _ _ _ _ a b => absurd b (by omega)) hs hc ha ho hR hS (by rw [hz]; simp [flatR]; simpa using hx)
      rw [hz] at e
      simpa [flatR] using e
  | succ f ih =>
    intro set c0 A c base v xs W h1 h2 h3 h4 h5 hs hc ha ho hR hS hx
    unfold subsF at hx ⊢
    by_cases h : set.length = size
    · rw [if_pos h] at hx ⊢
      exact add_done size bs bo bc ba set c0 A c base v xs W h (by omega) h4 h5 hs ho hR hS (by simpa using hx)
    · rw [if_neg h] at hx ⊢
      exact add_more size cols bs bo bc ba hcols (subsF size cols f) set c0 A c base v xs W h h3 h1 h4 h5 (fun set c1 A c base v xs W a b d e g k1 k2 k3 k4 k5 k6 k7 => ih set c1 A c base v xs W b (by omega) d e g k1 k2 k3 k4 k5 k6 k7) hs hc ha ho hR hS hx
theorem subs_small : (List.range 7).all (fun c => (List.range 7).all (fun s => decide ((subsF s c c [] 0).length ≤ 64))) = true := by decide +kernel
theorem subs_le (s c : Nat) (hs : s ≤ 6) (hc : c ≤ 6) : (subsF s c c [] 0).length ≤ 64 := by
  have h := List.all_eq_true.1 subs_small c (List.mem_range.2 (by omega))
  have h := List.all_eq_true.1 h s (List.mem_range.2 (by omega))
  exact of_decide_eq_true h
theorem in_range_is (a l h : Int) : impl_InRange.f a l h = some (decide (l ≤ a ∧ a ≤ h)) := by
  unfold impl_InRange.f
  by_cases h1 : l ≤ a <;> simp [h1]
theorem four_boxes (w : World) (n : Nat) (a b c d : Obj) (X : World) (hX : ((((w.alloc a).alloc b).drewN n).alloc c).alloc d = X) : X.heap[w.heap.size]? = some a ∧ X.heap[w.heap.size + 1]? = some b ∧ X.heap[w.heap.size + 1 + 1]? = some c ∧ X.heap[w.heap.size + 1 + 1 + 1]? = some d ∧ Below w.heap.size w X := by
  subst hX
  have h1 := blk_new w a
  have h2 := blk_new (w.alloc a) b
  have h3 := blk_new (((w.alloc a).alloc b).drewN n) c
  have h4 := blk_new ((((w.alloc a).alloc b).drewN n).alloc c) d
  have e2 : (w.alloc a).heap.size = w.heap.size + 1 := by simp
  have e3 : (((w.alloc a).alloc b).drewN n).heap.size = w.heap.size + 1 + 1 := by simp
  have e4 : ((((w.alloc a).alloc b).drewN n).alloc c).heap.size = w.heap.size + 1 + 1 + 1 := by simp
  rw [e2] at h2
  rw [e3] at h3
  rw [e4] at h4
  exact ⟨blk_alloc (blk_alloc (blk_drewN (blk_alloc h1 _) _) _) _, blk_alloc (blk_alloc (blk_drewN h2 _) _) _, blk_alloc h3 _, h4, below_alloc (below_alloc (pw_below_drewN (below_alloc (below_alloc (Below.refl _ _) _) _) _) _) _⟩
theorem first_call (size cols : Nat) (hc6 : cols ≤ 6) (hs6 : size ≤ 6) (w X w1 : World) (n : Nat) (A1 : Option Addr) (c1 : Nat)
    (hX : ((((w.alloc (.cells #[.int .i64 (cols : Int)] 3)).alloc (.cells #[.int .i64 (size : Int)] 3)).drewN n).alloc (.cells #[.slice none 0 0] 22)).alloc (.cells #[.func (.func 61) #[] (adders (w.heap.size + 1) (w.heap.size + 1 + 1) w.heap.size (w.heap.size + 1 + 1 + 1))] 64) = X)
    (hb : Below X.heap.size X w1) (ho : Kd.R (Kd.int .i64) 3 w1 X.heap.size (fun _ => True) (.slice A1 0 c1) []) :
    Calls Try.prog 61 #[.slice A1 0 c1, .int .i64 0, .pointer (some ⟨w.heap.size + 1, 0, none⟩), .pointer (some ⟨w.heap.size + 1 + 1, 0, none⟩), .pointer (some ⟨w.heap.size, 0, none⟩), .pointer (some ⟨w.heap.size + 1 + 1 + 1, 0, none⟩)] w1 fun e w' => e = .returned (.tuple #[]) ∧ ∃ v', w'.cell? ⟨w.heap.size + 1 + 1, 0, none⟩ = some v' ∧ Kd.S (Kd.slice 3 (Kd.int .i64)) 30 w' w.heap.size (fun _ => True) v' (subsF size cols cols [] 0) ∧ Below w.heap.size w w' := by
  obtain ⟨h1, h2, h3, h4, h5⟩ := four_boxes w n _ _ _ _ X hX
  have e := add_calls size cols (w.heap.size + 1) (w.heap.size + 1 + 1) w.heap.size (w.heap.size + 1 + 1 + 1) hc6 hs6 cols [] 0 A1 c1 w.heap.size (.slice none 0 0) [] w1 (by omega) (by omega) (by simp) (by omega) (Nat.le_trans h5.size hb.size) (blk_below h2 hb) (blk_below h1 hb) (blk_below h4 hb) (blk_below h3 hb) (Kd.S_nil _ _ _ _ _) (Kd.R_lower ho h5.size) (by have := subs_le size cols hs6 hc6; simp; omega)
  refine e.mono ?_
  rintro e' w' ⟨rfl, v', k1, k2, k3, k4⟩
  exact ⟨rfl, v', (blk_cell k1 0).trans rfl, by simpa using k2, (below_step h5 hb).trans k3⟩
set_option maxHeartbeats 4000000 in
set_option maxRecDepth 100000 in
theorem impl_SetsOf.calls (a0 : Int) (a1 : Int) (r : List (List Int)) (w : World) (h : impl_SetsOf.f a0 a1 = some r) :
    Calls Try.prog 34 #[.int .i64 a0, .int .i64 a1] w fun e w' => ∃ v0_ : Value, e = .returned (v0_) ∧ Kd.S (Kd.slice 3 (Kd.int .i64)) 30 w' w.heap.size (fun _ => True) v0_ r ∧ Below w.heap.size w w' := by
  unfold impl_SetsOf.f at h
  have q1 : ∀ w, Calls Try.prog 60 #[.int .i64 a0, .int .i64 0, .int .i64 6] w fun e w' => e = .returned (.bool (decide (0 ≤ a0 ∧ a0 ≤ 6))) ∧ Drawn0 w w' := fun w => impl_InRange.calls a0 0 6 _ w (in_range_is _ _ _)
  have q2 : ∀ w, Calls Try.prog 60 #[.int .i64 a1, .int .i64 0, .int .i64 a0] w fun e w' => e = .returned (.bool (decide (0 ≤ a1 ∧ a1 ≤ a0))) ∧ Drawn0 w w' := fun w => impl_InRange.calls a1 0 a0 _ w (in_range_is _ _ _)
  have Q1 := Aside0.mk q1
  have Q2 := Aside0.mk q2
  clear q1 q2
  by_cases h1 : 0 ≤ a0 ∧ a0 ≤ 6
  · by_cases h2 : 0 ≤ a1 ∧ a1 ≤ a0
    · rw [if_pos ⟨h1.1, h1.2, h2.1, h2.2⟩] at h
      obtain rfl := Option.some.inj h
      rw [decide_eq_true h1] at Q1
      rw [decide_eq_true h2] at Q2
      obtain ⟨cols, rfl⟩ := Int.eq_ofNat_of_zero_le h1.1
      obtain ⟨size, rfl⟩ := Int.eq_ofNat_of_zero_le h2.1
      have hc6 : cols ≤ 6 := by omega
      have hs6 : size ≤ 6 := by omega
      clear h h1 h2
      simp only [Int.ofNat_eq_natCast, Int.toNat_natCast] at Q1 Q2 ⊢
      go_enter Try.func34, Try.ntmps34
      go_wp2_with (first | (go_at_call 60; (with_reducible refine (Q1.out _).mono ?_); rintro e w1 ⟨rfl, ⟨nd, rfl⟩⟩) | (go_at_call 60; (with_reducible refine (Q2.out _).mono ?_); rintro e w1 ⟨rfl, ⟨nd2, rfl⟩⟩) | ((with_reducible refine gate_dst (N := 18) rfl ?_); refine Kd.R_lit (Kd.int .i64) (w0 := _) _ 3 ?hg (N := 18) ?hd (xs := ([] : List Int)) (inner := []) (ok := fun _ => True) (okp := fun _ => True) ?hr ?hp (fun _ hk => hk) trivial (Below.refl _ _) (Nat.le_refl _) (by simp) ?_; (case hd => rfl); (case hg => rfl); (case hr => first | (go_simp; done) | (go_simp; rfl)); (case hp => exact Reps.none _ _); intro v1 w1 ho hb hg_ hnew_; obtain ⟨A1, c1, rfl⟩ := Kd.R_slice ho; have HO := Aside0.mk ho; have HB := Aside0.mk hb; clear ho hb hg_ hnew_) | (go_at_call 61; (with_reducible refine (first_call size cols hc6 hs6 w _ w1 _ A1 c1 rfl HB.out HO.out).mono ?_); rintro e w2 ⟨rfl, v2, hcell2, ho2, hb2⟩; have HO2 := Aside0.mk ho2; have HB2 := Aside0.mk hb2; clear ho2 hb2) | fail)
      go_ret
      exact ⟨_, rfl, HO2.out, HB2.out⟩
    · rw [if_neg (fun hq => h2 hq.2.2)] at h
      obtain rfl := Option.some.inj h
      rw [decide_eq_true h1] at Q1
      rw [decide_eq_false h2] at Q2
      clear h h1 h2
      go_enter Try.func34, Try.ntmps34
      go_wp2_with (first | (go_at_call 60; (with_reducible refine (Q1.out _).mono ?_); rintro e w1 ⟨rfl, ⟨nd, rfl⟩⟩) | (go_at_call 60; (with_reducible refine (Q2.out _).mono ?_); rintro e w1 ⟨rfl, ⟨nd2, rfl⟩⟩) | fail)
      go_ret
      exact ⟨_, rfl, Kd.S_nil _ _ _ _ _, by repeat (first | exact Below.refl _ _ | apply pw_below_drewN | apply below_alloc | apply below_drew1)⟩
  · rw [if_neg (fun hq => h1 ⟨hq.1, hq.2.1⟩)] at h
    obtain rfl := Option.some.inj h
    rw [decide_eq_false h1] at Q1
    clear h h1 Q2
    go_enter Try.func34, Try.ntmps34
    go_wp2_with (first | (go_at_call 60; (with_reducible refine (Q1.out _).mono ?_); rintro e w1 ⟨rfl, ⟨nd, rfl⟩⟩) | fail)
    go_ret
    exact ⟨_, rfl, Kd.S_nil _ _ _ _ _, by repeat (first | exact Below.refl _ _ | apply pw_below_drewN | apply below_alloc | apply below_drew1)⟩

/-- One row of a list of own rows is one's own. -/
theorem own_row {w : World} {base : Nat} {ok : Nat → Prop} {ad : Addr} {n c : Nat} {T : List (List Int)} (h : Kd.R (Kd.slice 3 (Kd.int .i64)) 30 w base ok (.slice (some ad) n c) T) (i : Int) (h0 : 0 ≤ i) (h1 : i < (n : Int)) {u : Value} (hc : w.cell? (ad.add i.toNat) = some u) : Kd.R (Kd.int .i64) 3 w base (fun k_ => ok k_ ∧ some k_ ≠ (Value.slice (some ad) n c).ownBlock) u (rd_L1 T i) := by
  obtain ⟨cs, hcl, hM, hcc⟩ := Kd.R_getA h [] i h0 h1
  obtain ⟨v, rfl, hR⟩ := hM
  have hx := hcc 0 v rfl
  rw [Nat.add_zero, show (Kd.slice 3 (Kd.int .i64)).sz = 1 from rfl, Nat.mul_one, hc] at hx
  obtain rfl := Option.some.inj hx
  exact hR
theorem own_rows {w : World} {base : Nat} {ok : Nat → Prop} {A : Option Addr} {n c : Nat} {T : List (List Int)} (h : Kd.R (Kd.slice 3 (Kd.int .i64)) 30 w base ok (.slice A n c) T) : ReadsRow ((Kd.slice 3 (Kd.int .i64)).M w base ok) 1 w A n T := by
  obtain ⟨A', c', he, hl, hr⟩ := OwnRow.reads h.2
  injection he with h1 h2 h3
  subst h1
  subst h2
  exact hr.imp_ (Below.refl _ _) (fun _ _ hp => Kd.M_mono _ (fun _ hk => hk.1) hp)
/-! ### impl_setsTo: function 56 -/
def impl_setsTo.l0 : Nat → Int → Int → List (List Int) → Int → Option ((List (List Int)))
  | 0, _, _, _, _ => none
  | k + 1, x0, x1, x5, x6 => if x6 ≤ (mn x0 x1) then ((impl_SetsOf.f x0 x6).bind fun t131 => (if x5.length + t131.length < 5864062014805 then (impl_setsTo.l0 k x0 x1 (x5 ++ t131) (wrap64 (x6 + 1))) else (none))) else (some x5)
def impl_setsTo.f (k : Nat) (a0 : Int) (a1 : Int) : Option ((List (List Int))) := impl_setsTo.l0 k a0 a1 ([] : List (List Int)) 0
theorem impl_setsTo.mono_l : ∀ k, (∀ y0 y1 y2 y3, LeO (impl_setsTo.l0 k y0 y1 y2 y3) (impl_setsTo.l0 (k + 1) y0 y1 y2 y3))
  | 0 => fun _ _ _ _ r h => by simp [impl_setsTo.l0] at h
  | k + 1 => by
    have ih0 := impl_setsTo.mono_l k
    · intro y0 y1 y2 y3
      unfold impl_setsTo.l0
      repeat' first
      | (with_reducible exact ih0 _ _ _ _)
      | (with_reducible exact LeO.refl _)
      | (with_reducible exact LeO.none _)
      | (with_reducible refine LeO.ite ?_ ?_)
      | (with_reducible refine LeO.bind ?_ (fun _ => ?_))
      | exact ih0 _ _ _ _
      | exact LeO.none _
      | refine LeO.ite ?_ ?_
      | refine LeO.bind ?_ (fun _ => ?_)
theorem impl_setsTo.mono : ∀ a0 a1 k, LeO (impl_setsTo.f k a0 a1) (impl_setsTo.f (k + 1) a0 a1) := by
  intro a0 a1 k
  have ih0 := impl_setsTo.mono_l k
  unfold impl_setsTo.f
  repeat' first
      | (with_reducible exact ih0 _ _ _ _)
      | (with_reducible exact LeO.refl _)
      | (with_reducible exact LeO.none _)
      | (with_reducible refine LeO.ite ?_ ?_)
      | (with_reducible refine LeO.bind ?_ (fun _ => ?_))
      | exact ih0 _ _ _ _
      | exact LeO.none _
      | refine LeO.ite ?_ ?_
      | refine LeO.bind ?_ (fun _ => ?_)
set_option maxHeartbeats 8000000 in
set_option maxRecDepth 100000 in
theorem impl_setsTo.calls (k : Nat) (a0 : Int) (a1 : Int) (r : List (List Int)) (w : World) (h : impl_setsTo.f k a0 a1 = some r) :
    Calls Try.prog 56 #[.int .i64 a0, .int .i64 a1] w fun e w' => ∃ v0_ : Value, e = .returned (v0_) ∧ Kd.R (Kd.slice 3 (Kd.int .i64)) 30 w' w.heap.size (fun k_ => (w.heap.size ≤ k_)) v0_ r ∧ Below w.heap.size w w' := by
  have HB := Aside0.mk (Below.refl w.heap.size w)
  have H : (impl_setsTo.l0 k a0 a1 ([] : List (List Int)) 0) = some r := h
  clear h
  have H' := Aside0.mk H
  clear H
  go_enter Try.func56, Try.ntmps56
  go_wp2
  go_loopg [5, 6] k (fun kq v5 v6 w' => ∃ (x5_1 : List (List Int)) (x6_1 : Int), v6 = .int .i64 x6_1 ∧ Aside0 (impl_setsTo.l0 kq a0 a1 x5_1 x6_1 = some r) ∧ Aside0 (kq ≤ k) ∧ Aside0 (Kd.R (Kd.slice 3 (Kd.int .i64)) 30 w' w.heap.size (fun k_ => (w.heap.size ≤ k_)) v5 x5_1) ∧ Aside0 (Below w.heap.size w w'))
  case atStart => exact ⟨(([] : List (List Int))), (0), (by first | rfl | (simp; done) | (simp [*]; done)), H', ⟨Nat.le_refl _⟩, ⟨by first | exact Kd.S_nil _ _ _ _ _ | exact Kd.R_nil _ _ _ _ _ | exact Kd.V_nil _ _ _ _ _ | exact Kd.Q_nil _ _ _ _ _ | exact Kd.R_nil _ _ _ _ _⟩, ⟨by repeat (first | (with_reducible first | exact HB.out | apply below_alloc | apply pw_below_drewN | apply below_drew1) | exact HB.out)⟩⟩
  case round =>
    clear H'
    try clear p2
    obtain ⟨x5_1, x6_1, rfl, HA, HK1, HO_5, HB⟩ := hrel
    cases gk with
    | zero => exact absurd HA.out (by simp [impl_setsTo.l0])
    | succ k1 =>
      have H := HA.out
      clear HA
      simp only [impl_setsTo.l0] at H
      obtain ⟨ji3, hji3⟩ : ∃ j_ : Int, (mn a0 a1) = j_ := ⟨_, rfl⟩
      replace H : (if x6_1 ≤ (ji3) then ((impl_SetsOf.f a0 x6_1).bind fun t131 => (if x5_1.length + t131.length < 5864062014805 then (impl_setsTo.l0 k1 a0 a1 (x5_1 ++ t131) (wrap64 (x6_1 + 1))) else (none))) else (some x5_1)) = some r := by first | (rw [hji3] at H; exact H) | (simp only [hji3] at H ⊢; exact H)
      have hji3_ : (if a1 < a0 then a1 else a0) = ji3 := hji3
      by_cases c4 : x6_1 ≤ (ji3)
      · rw [if_pos c4] at H
        have c4b0 : decide (x6_1 ≤ (ji3)) = true := decide_eq_true c4
        clear c4
        replace H := Option.bind_eq_some_iff.mp H
        obtain ⟨t131, A50, H⟩ := H
        replace H : (if x5_1.length + t131.length < 5864062014805 then (impl_setsTo.l0 k1 a0 a1 (x5_1 ++ t131) (wrap64 (x6_1 + 1))) else (none)) = some r := H
        have A5 := Aside0.mk A50
        clear A50
        by_cases c6 : x5_1.length + t131.length < 5864062014805
        · rw [if_pos c6] at H
          have LMc6 := Aside0.mk c6
          clear c6
          obtain ⟨y134, hy134⟩ : ∃ y_ : List (List Int), y_ = (x5_1 ++ t131) := ⟨_, rfl⟩
          replace H : (impl_setsTo.l0 k1 a0 a1 y134 (wrap64 (x6_1 + 1))) = some r := by first | (rw [hy134]; with_reducible exact H) | (have H2_ := (Option.bind_some _ _).symm.trans H; rw [hy134]; with_reducible exact H2_) | (have H2_ := (Option.bind_some _ _).symm.trans H; with_reducible exact H2_) | with_reducible exact H | (rw [hy134]; exact H) | exact H
          have Ny134 := Aside0.mk hy134
          clear hy134
          have H' := Aside0.mk H
          clear H
          go_wp2_with (first | ((with_reducible refine gate_callee (f := 34) rfl ?_); refine goesL_ (some 17) rfl rfl Try.func34 (by kernel_rfl) rfl #[.int .i64 a0, .int .i64 x6_1] rfl (by (try simp only [List.map_toArray, List.map_cons, List.map_nil]); first | done | rfl | (simp only [List.length_drop, List.length_take]; rfl)) ?_; (with_reducible refine (impl_SetsOf.calls a0 x6_1 t131 _ A5.out).mono ?_); rintro e w7 ⟨v132, rfl, ho0, hb⟩; refine ⟨_, rfl, ?_⟩; have n0_ := Aside0.mk (Kd.R_elder' (by (with_reducible repeat (first | apply Kd.R_alloc | apply Kd.R_drewN | apply Kd.R_drew)); exact HO_5.out) (Kd.R_base (Kd.S_R ho0)) hb); have n1_ := Aside0.mk (Kd.R_lower (Kd.R_mono (ok' := fun k_ => (w.heap.size ≤ k_) ∧ some k_ ≠ (u5 : Value).ownBlock) (Kd.R_bound (Kd.S_R ho0)) (fun k_ hk_ => ⟨(Nat.le_trans (below_size (by repeat (first | (with_reducible first | exact HB.out | apply below_alloc | apply pw_below_drewN | apply below_drew1) | exact HB.out))) hk_.2.1), (Kd.fresh' (Kd.R_lt (by (with_reducible repeat (first | apply Kd.R_alloc | apply Kd.R_drewN | apply Kd.R_drew)); exact HO_5.out)) k_ hk_.2.1)⟩)) (below_size (by repeat (first | (with_reducible first | exact HB.out | apply below_alloc | apply pw_below_drewN | apply below_drew1) | exact HB.out)))); have n2_ := Aside0.mk (below_step (by repeat (first | (with_reducible first | exact HB.out | apply below_alloc | apply pw_below_drewN | apply below_drew1) | exact HB.out)) hb); clear HO_5; clear HB; have HO_5 := n0_; have HO133 := n1_; have HB := n2_; clear n0_ n1_ n2_; (try clear hb); (try clear hb2); (try clear hk); (try clear hi); (try clear ho0); obtain ⟨Ao9, co9, eo9⟩ := Kd.R_slice HO133.out; subst eo9) | ((with_reducible refine gate_builtin (b := .append) (xs := #[.tmp 14, .tmp 17]) rfl ?_); at_builtin; refine Kd.R_append_rows (Kd.slice 3 (Kd.int .i64)) (Rr := (Kd.slice 3 (Kd.int .i64)).M _ w.heap.size (fun k_ => (w.heap.size ≤ k_) ∧ some k_ ≠ (u5 : Value).ownBlock)) (w0 := w) w.heap.size rfl (.tmp 14) (.tmp 17) 22 30 (.slice none 0 0) 24 rfl Try.underlying22 info30 rfl (by decide) (by omega) u5 x5_1 t131 _ _ _ (fun k_ => (w.heap.size ≤ k_)) (fun k_ => ((fun k_ => (w.heap.size ≤ k_))) k_ ∧ some k_ ≠ (u5 : Value).ownBlock) rfl rfl ?aO ?aR (fun _ _ h_ => h_) (fun _ hk => hk) ?aF ?aB ?aS ?aL ?_; (case aR => exact own_rows HO133.out); (case aB => exact (by repeat (first | (with_reducible first | exact HB.out | apply below_alloc | apply pw_below_drewN | apply below_drew1) | exact HB.out))); (case aF => exact (fun k_ hk => (Nat.le_trans (below_size (by repeat (first | (with_reducible first | exact HB.out | apply below_alloc | apply pw_below_drewN | apply below_drew1) | exact HB.out))) hk))); (case aO => exact (by (with_reducible repeat (first | apply Kd.R_alloc | apply Kd.R_drewN | apply Kd.R_drew)); exact Kd.R_mono HO_5.out (fun _ hk => hk.1))); (case aS => exact (below_size (by repeat (first | (with_reducible first | exact HB.out | apply below_alloc | apply pw_below_drewN | apply below_drew1) | exact HB.out)))); (case aL => have := LMc6.out; omega); intro v135 w8 ho hb hg hat; rw [← Ny134.out] at ho; have n0_ := Aside0.mk True.intro; have n1_ := Aside0.mk (hb); have n2_ := Aside0.mk (ho); clear HO133; clear HB; clear HO_5; have HO133 := n0_; have HB := n1_; have HO136 := n2_; clear n0_ n1_ n2_; clear ho hb hg hat))
          go_roundg k1
          case measure => have := HK1.out; omega
          case rel => exact ⟨(y134), (wrap64 (x6_1 + 1)), (by first | rfl | (simp; done) | (simp [*]; done)), H', ⟨by have := HK1.out; omega⟩, ⟨by (with_reducible repeat (first | apply Kd.R_alloc | apply Kd.R_drewN | apply Kd.R_drew)); exact HO136.out⟩, ⟨by repeat (first | (with_reducible first | exact HB.out | apply below_alloc | apply pw_below_drewN | apply below_drew1) | exact HB.out)⟩⟩
        · rw [if_neg c6] at H
          exact absurd H (by simp)
      · rw [if_neg c4] at H
        have c4b0 : decide (x6_1 ≤ (ji3)) = false := decide_eq_false c4
        clear c4
        obtain rfl := Option.some.inj H
        go_wp2
        go_ret
        exact ⟨_, by first | rfl | (simp [errW_none, errW_some] <;> rfl) | (simp only [← hji3]; first | rfl | (simp [errW_none, errW_some] <;> rfl)) | (simp [*, errW_none, errW_some] <;> rfl), by (with_reducible repeat (first | apply Kd.R_alloc | apply Kd.R_drewN | apply Kd.R_drew)); exact HO_5.out, by repeat (first | (with_reducible first | exact HB.out | apply below_alloc | apply pw_below_drewN | apply below_drew1) | exact HB.out)⟩


end Go.Proofs.Ytoniljblfenpeaa.PFnExactTwinOf
