-- Written by a program of this session out of the translation (wip/gen/hprint.sh). Lean checks it.
import Derived.Test.YtoniljblfenpeaaHFnIdentifiedx0
namespace Go.Proofs.Ytoniljblfenpeaa.PFnIdentified
open Go.RowKit Go.Proofs.YtoniljblfenpeaaW.PrintWords Go.Proofs.YtoniljblfenpeaaW.PrintLast Go.Proofs.YtoniljblfenpeaaW.PrintMore
attribute [local go_sem] max2_int min2_int max_two min_two max_three min_three max_four min_four   -- for this text's walks alone
set_option linter.unusedVariables false
set_option linter.unusedSimpArgs false

/-! ### impl_InRange: function 60 -/
def impl_InRange.f (a0 : Int) (a1 : Int) (a2 : Int) : Option (Bool) := if a1 ≤ a0 then (some (decide (a0 ≤ a2))) else (some false)
set_option maxHeartbeats 8000000 in
set_option maxRecDepth 100000 in
theorem impl_InRange.calls (a0 : Int) (a1 : Int) (a2 : Int) (r : Bool) (w : World) (h : impl_InRange.f a0 a1 a2 = some r) :
    Calls Try.prog 60 #[.int .i64 a0, .int .i64 a1, .int .i64 a2] w fun e w' => e = .returned (.bool r) ∧ Drawn0 w w' := by
  have H : (if a1 ≤ a0 then (some (decide (a0 ≤ a2))) else (some false)) = some r := h
  clear h
  by_cases c4 : a1 ≤ a0
  · rw [if_pos c4] at H
    have c4b0 : decide (a1 ≤ a0) = true := decide_eq_true c4
    clear c4
    obtain rfl := Option.some.inj H
    go_enter Try.func60, Try.ntmps60
    go_wp2
    go_ret
    exact ⟨by first | rfl | (simp; done) | (simp [*]; done), by repeat (first | exact Drawn0.refl _ | apply Drawn0.step)⟩
  · rw [if_neg c4] at H
    have c4b0 : decide (a1 ≤ a0) = false := decide_eq_false c4
    clear c4
    obtain rfl := Option.some.inj H
    go_enter Try.func60, Try.ntmps60
    go_wp2
    go_ret
    exact ⟨by first | rfl | (simp; done) | (simp [*]; done), by repeat (first | exact Drawn0.refl _ | apply Drawn0.step)⟩

/-! ### impl_allIn: function 73 -/
def impl_allIn.l0 : Nat → Int → Int → List Int → Int → Int → Option (Bool)
  | 0, _, _, _, _, _ => none
  | k + 1, x1, x2, x9, x10, x11 => if x11 < x10 then (if 0 ≤ x11 then (if x11 < (x9.length : Int) then ((impl_InRange.f (rd x9 x11) x1 x2).bind fun t102 => (if t102 = true then (impl_allIn.l0 k x1 x2 x9 x10 (wrap64 (x11 + 1))) else (some false))) else (none)) else (none)) else (some true)
def impl_allIn.f (k : Nat) (l0 : List Int) (a1 : Int) (a2 : Int) : Option (Bool) := impl_allIn.l0 k a1 a2 l0 (l0.length : Int) 0
theorem impl_allIn.mono_l : ∀ k, (∀ y0 y1 y2 y3 y4, LeO (impl_allIn.l0 k y0 y1 y2 y3 y4) (impl_allIn.l0 (k + 1) y0 y1 y2 y3 y4))
  | 0 => fun _ _ _ _ _ r h => by simp [impl_allIn.l0] at h
  | k + 1 => by
    have ih0 := impl_allIn.mono_l k
    · intro y0 y1 y2 y3 y4
      unfold impl_allIn.l0
      repeat' first
      | (with_reducible exact ih0 _ _ _ _ _)
      | (with_reducible exact LeO.refl _)
      | (with_reducible exact LeO.none _)
      | (with_reducible refine LeO.ite ?_ ?_)
      | (with_reducible refine LeO.bind ?_ (fun _ => ?_))
      | exact ih0 _ _ _ _ _
      | exact LeO.none _
      | refine LeO.ite ?_ ?_
      | refine LeO.bind ?_ (fun _ => ?_)
theorem impl_allIn.mono : ∀ a0 a1 a2 k, LeO (impl_allIn.f k a0 a1 a2) (impl_allIn.f (k + 1) a0 a1 a2) := by
  intro a0 a1 a2 k
  have ih0 := impl_allIn.mono_l k
  unfold impl_allIn.f
  repeat' first
      | (with_reducible exact ih0 _ _ _ _ _)
      | (with_reducible exact LeO.refl _)
      | (with_reducible exact LeO.none _)
      | (with_reducible refine LeO.ite ?_ ?_)
      | (with_reducible refine LeO.bind ?_ (fun _ => ?_))
      | exact ih0 _ _ _ _ _
      | exact LeO.none _
      | refine LeO.ite ?_ ?_
      | refine LeO.bind ?_ (fun _ => ?_)
set_option maxHeartbeats 8000000 in
set_option maxRecDepth 100000 in
theorem impl_allIn.calls (k : Nat) (A0 : Option Addr) (c0 : Nat) (l0 : List Int) (a1 : Int) (a2 : Int) (r : Bool) (w : World) (hr0 : Kd.C (Kd.int .i64) w A0 l0.length l0) (hc0 : l0.length ≤ c0) (h : impl_allIn.f k l0 a1 a2 = some r) :
    Calls Try.prog 73 #[.slice A0 l0.length c0, .int .i64 a1, .int .i64 a2] w fun e w' => e = .returned (.bool r) ∧ Drawn0 w w' := by
  have HR0 := Aside0.mk hr0
  have HC0 := Aside0.mk hc0
  clear hr0 hc0
  have H : (impl_allIn.l0 k a1 a2 l0 (l0.length : Int) 0) = some r := h
  clear h
  have H' := Aside0.mk H
  clear H
  go_enter Try.func73, Try.ntmps73
  go_wp2
  go_loopg [11] k (fun kq v11 w' => ∃ (x11_1 : Int), v11 = .int .i64 x11_1 ∧ Aside0 (impl_allIn.l0 kq a1 a2 l0 (l0.length : Int) x11_1 = some r) ∧ Aside0 (kq ≤ k) ∧ Drawn0 w w')
  case atStart => exact ⟨(0), (by first | rfl | (simp; done) | (simp [*]; done)), H', ⟨Nat.le_refl _⟩, by repeat (first | exact Drawn0.refl _ | apply Drawn0.step)⟩
  case round =>
    clear H'
    try clear p2
    obtain ⟨x11_1, rfl, HA, HK1, ⟨m1, rfl⟩⟩ := hrel
    cases gk with
    | zero => exact absurd HA.out (by simp [impl_allIn.l0])
    | succ k1 =>
      have H := HA.out
      clear HA
      simp only [impl_allIn.l0] at H
      by_cases c4 : x11_1 < (l0.length : Int)
      · rw [if_pos c4] at H
        have c4b0 : decide (x11_1 < (l0.length : Int)) = true := decide_eq_true c4
        clear c4
        by_cases c5 : 0 ≤ x11_1
        · rw [if_pos c5] at H
          have c5b0 : decide (0 ≤ x11_1) = true := decide_eq_true c5
          clear c5
          by_cases c6 : x11_1 < (l0.length : Int)
          · rw [if_pos c6] at H
            have c6b0 : decide (x11_1 < (l0.length : Int)) = true := decide_eq_true c6
            clear c6
            replace H := Option.bind_eq_some_iff.mp H
            obtain ⟨t102, A70, H⟩ := H
            replace H : (if t102 = true then (impl_allIn.l0 k1 a1 a2 l0 (l0.length : Int) (wrap64 (x11_1 + 1))) else (some false)) = some r := H
            have A7 := Aside0.mk A70
            clear A70
            by_cases c8 : t102 = true
            · subst c8
              have H1 : (impl_allIn.l0 k1 a1 a2 l0 (l0.length : Int) (wrap64 (x11_1 + 1))) = some r := by rw [if_pos rfl] at H; exact H
              clear H
              have H := H1
              clear H1
              have H' := Aside0.mk H
              clear H
              have p101 : 0 ≤ (x11_1 : Int) := of_decide_eq_true (by first | (with_reducible assumption) | assumption)
              have q101 : x11_1 < (l0.length : Int) := of_decide_eq_true (by first | (with_reducible assumption) | assumption)
              obtain ⟨ad101, e101, hx101_0⟩ := Kd.at_int HR0.out x11_1 p101 q101
              cases e101
              replace p101 := eq_true p101
              replace q101 := eq_true q101
              go_wp2_with (first | ((with_reducible refine gate_callee (f := 60) rfl ?_); refine goesL_ (some 18) rfl rfl Try.func60 (by kernel_rfl) rfl #[.int .i64 (rd l0 x11_1), .int .i64 a1, .int .i64 a2] rfl (by (try simp only [List.map_toArray, List.map_cons, List.map_nil]); first | done | rfl | (simp only [List.length_drop, List.length_take]; rfl)) ?_; (with_reducible refine (impl_InRange.calls (rd l0 x11_1) a1 a2 true _ A7.out).mono ?_); rintro e w' ⟨rfl, ⟨nd, rfl⟩⟩; refine ⟨_, rfl, ?_⟩))
              go_roundg k1
              case measure => have := HK1.out; omega
              case rel => exact ⟨(wrap64 (x11_1 + 1)), (by first | rfl | (simp; done) | (simp [*]; done)), H', ⟨by have := HK1.out; omega⟩, by repeat (first | exact Drawn0.refl _ | apply Drawn0.step)⟩
            · replace c8 := Bool.eq_false_iff.mpr c8
              subst c8
              have H1 : (some false) = some r := by rw [if_neg (show ¬ (false = true) by decide)] at H; exact H
              clear H
              have H := H1
              clear H1
              obtain rfl := Option.some.inj H
              have p101 : 0 ≤ (x11_1 : Int) := of_decide_eq_true (by first | (with_reducible assumption) | assumption)
              have q101 : x11_1 < (l0.length : Int) := of_decide_eq_true (by first | (with_reducible assumption) | assumption)
              obtain ⟨ad101, e101, hx101_0⟩ := Kd.at_int HR0.out x11_1 p101 q101
              cases e101
              replace p101 := eq_true p101
              replace q101 := eq_true q101
              go_wp2_with (first | ((with_reducible refine gate_callee (f := 60) rfl ?_); refine goesL_ (some 18) rfl rfl Try.func60 (by kernel_rfl) rfl #[.int .i64 (rd l0 x11_1), .int .i64 a1, .int .i64 a2] rfl (by (try simp only [List.map_toArray, List.map_cons, List.map_nil]); first | done | rfl | (simp only [List.length_drop, List.length_take]; rfl)) ?_; (with_reducible refine (impl_InRange.calls (rd l0 x11_1) a1 a2 false _ A7.out).mono ?_); rintro e w' ⟨rfl, ⟨nd, rfl⟩⟩; refine ⟨_, rfl, ?_⟩))
              go_ret
              exact ⟨by first | rfl | (simp; done) | (simp [*]; done), by repeat (first | exact Drawn0.refl _ | apply Drawn0.step)⟩
          · rw [if_neg c6] at H
            exact absurd H (by simp)
        · rw [if_neg c5] at H
          exact absurd H (by simp)
      · rw [if_neg c4] at H
        have c4b0 : decide (x11_1 < (l0.length : Int)) = false := decide_eq_false c4
        clear c4
        obtain rfl := Option.some.inj H
        go_wp2
        go_ret
        exact ⟨by first | rfl | (simp; done) | (simp [*]; done), by repeat (first | exact Drawn0.refl _ | apply Drawn0.step)⟩

/-! ### impl_IsMatrix: function 51 -/
mutual
def impl_IsMatrix.j0 : Nat → List (List Int) → Int → Bool → Option (Bool)
  | 0, _, _, _ => none
  | k + 1, x0, x1, x14 => if x14 = true then (some false) else (impl_IsMatrix.l0 k x1 x0 (x0.length : Int) 0)
def impl_IsMatrix.l0 : Nat → Int → List (List Int) → Int → Int → Option (Bool)
  | 0, _, _, _, _ => none
  | k + 1, x1, x15, x16, x17 => if x17 < x16 then (if 0 ≤ x17 then (if x17 < (x15.length : Int) then (if ((rd_L1 x15 x17).length : Int) = x1 then ((impl_allIn.f k (rd_L1 x15 x17) (-2) 2).bind fun t105 => (if t105 = true then (impl_IsMatrix.l0 k x1 x15 x16 (wrap64 (x17 + 1))) else (some false))) else (some false)) else (none)) else (none)) else (some true)
end
def impl_IsMatrix.f (k : Nat) (l0 : List (List Int)) (a1 : Int) : Option (Bool) := (impl_InRange.f a1 1 6).bind fun t103 => (if t103 = true then (impl_IsMatrix.j0 k l0 a1 (decide ((l0.length : Int) > 12))) else (impl_IsMatrix.j0 k l0 a1 true))
theorem impl_IsMatrix.mono_l : ∀ k, (∀ y0 y1 y2, LeO (impl_IsMatrix.j0 k y0 y1 y2) (impl_IsMatrix.j0 (k + 1) y0 y1 y2)) ∧ (∀ y0 y1 y2 y3, LeO (impl_IsMatrix.l0 k y0 y1 y2 y3) (impl_IsMatrix.l0 (k + 1) y0 y1 y2 y3))
  | 0 => ⟨fun _ _ _ r h => by simp [impl_IsMatrix.j0] at h, fun _ _ _ _ r h => by simp [impl_IsMatrix.l0] at h⟩
  | k + 1 => by
    obtain ⟨ih0, ih1⟩ := impl_IsMatrix.mono_l k
    refine ⟨?_, ?_⟩
    · intro y0 y1 y2
      unfold impl_IsMatrix.j0
      repeat' first
      | (with_reducible exact ih0 _ _ _)
      | (with_reducible exact ih1 _ _ _ _)
      | (with_reducible exact impl_allIn.mono _ _ _ _)
      | (with_reducible exact LeO.refl _)
      | (with_reducible exact LeO.none _)
      | (with_reducible refine LeO.ite ?_ ?_)
      | (with_reducible refine LeO.bind ?_ (fun _ => ?_))
      | exact ih0 _ _ _
      | exact ih1 _ _ _ _
      | exact impl_allIn.mono _ _ _ _
      | exact LeO.none _
      | refine LeO.ite ?_ ?_
      | refine LeO.bind ?_ (fun _ => ?_)
    · intro y0 y1 y2 y3
      unfold impl_IsMatrix.l0
      repeat' first
      | (with_reducible exact ih0 _ _ _)
      | (with_reducible exact ih1 _ _ _ _)
      | (with_reducible exact impl_allIn.mono _ _ _ _)
      | (with_reducible exact LeO.refl _)
      | (with_reducible exact LeO.none _)
      | (with_reducible refine LeO.ite ?_ ?_)
      | (with_reducible refine LeO.bind ?_ (fun _ => ?_))
      | exact ih0 _ _ _
      | exact ih1 _ _ _ _
      | exact impl_allIn.mono _ _ _ _
      | exact LeO.none _
      | refine LeO.ite ?_ ?_
      | refine LeO.bind ?_ (fun _ => ?_)
theorem impl_IsMatrix.mono : ∀ a0 a1 k, LeO (impl_IsMatrix.f k a0 a1) (impl_IsMatrix.f (k + 1) a0 a1) := by
  intro a0 a1 k
  obtain ⟨ih0, ih1⟩ := impl_IsMatrix.mono_l k
  unfold impl_IsMatrix.f
  repeat' first
      | (with_reducible exact ih0 _ _ _)
      | (with_reducible exact ih1 _ _ _ _)
      | (with_reducible exact impl_allIn.mono _ _ _ _)
      | (with_reducible exact LeO.refl _)
      | (with_reducible exact LeO.none _)
      | (with_reducible refine LeO.ite ?_ ?_)
      | (with_reducible refine LeO.bind ?_ (fun _ => ?_))
      | exact ih0 _ _ _
      | exact ih1 _ _ _ _
      | exact impl_allIn.mono _ _ _ _
      | exact LeO.none _
      | refine LeO.ite ?_ ?_
      | refine LeO.bind ?_ (fun _ => ?_)
set_option maxHeartbeats 8000000 in
set_option maxRecDepth 100000 in
theorem impl_IsMatrix.calls (k : Nat) (A0 : Option Addr) (c0 : Nat) (l0 : List (List Int)) (a1 : Int) (r : Bool) (w : World) (hr0 : Kd.C (Kd.slice 3 (Kd.int .i64)) w A0 l0.length l0) (hc0 : l0.length ≤ c0) (h : impl_IsMatrix.f k l0 a1 = some r) :
    Calls Try.prog 51 #[.slice A0 l0.length c0, .int .i64 a1] w fun e w' => e = .returned (.bool r) ∧ Drawn0 w w' := by
  have HR0 := Aside0.mk hr0
  have HC0 := Aside0.mk hc0
  clear hr0 hc0
  have H : ((impl_InRange.f a1 1 6).bind fun t103 => (if t103 = true then (impl_IsMatrix.j0 k l0 a1 (decide ((l0.length : Int) > 12))) else (impl_IsMatrix.j0 k l0 a1 true))) = some r := h
  clear h
  have HC3 := Aside0.mk H
  clear H
  go_enter Try.func51, Try.ntmps51
  go_upto_region 1 with (fail)
  go_cut [14] (fun v14 wc => ∃ (kq : Nat) (x14_2 : Bool), v14 = .bool x14_2 ∧ Aside0 (impl_IsMatrix.j0 kq l0 a1 x14_2 = some r) ∧ Aside0 (kq ≤ k) ∧ Drawn0 w wc)
  case first =>
    have H := HC3.out
    clear HC3
    replace H := Option.bind_eq_some_iff.mp H
    obtain ⟨t103, A40, H⟩ := H
    replace H : (if t103 = true then (impl_IsMatrix.j0 k l0 a1 (decide ((l0.length : Int) > 12))) else (impl_IsMatrix.j0 k l0 a1 true)) = some r := H
    have A4 := Aside0.mk A40
    clear A40
    by_cases c5 : t103 = true
    · subst c5
      have H1 : (impl_IsMatrix.j0 k l0 a1 (decide ((l0.length : Int) > 12))) = some r := by rw [if_pos rfl] at H; exact H
      clear H
      have H := H1
      clear H1
      have H' := Aside0.mk H
      clear H
      go_wp2_with (first | ((with_reducible refine gate_callee (f := 60) rfl ?_); refine goesL_ (some 8) rfl rfl Try.func60 (by kernel_rfl) rfl #[.int .i64 a1, .int .i64 1, .int .i64 6] rfl (by (try simp only [List.map_toArray, List.map_cons, List.map_nil]); first | done | rfl | (simp only [List.length_drop, List.length_take]; rfl)) ?_; (with_reducible refine (impl_InRange.calls a1 1 6 true _ A4.out).mono ?_); rintro e w' ⟨rfl, ⟨nd, rfl⟩⟩; refine ⟨_, rfl, ?_⟩))
      go_meet
      case rel => exact ⟨_, (decide ((l0.length : Int) > 12)), (by first | rfl | (simp; done) | (simp [*]; done)), H', ⟨by first | omega | exact Nat.le_refl _⟩, by repeat (first | exact Drawn0.refl _ | apply Drawn0.step)⟩
    · replace c5 := Bool.eq_false_iff.mpr c5
      subst c5
      have H1 : (impl_IsMatrix.j0 k l0 a1 true) = some r := by rw [if_neg (show ¬ (false = true) by decide)] at H; exact H
      clear H
      have H := H1
      clear H1
      have H' := Aside0.mk H
      clear H
      go_wp2_with (first | ((with_reducible refine gate_callee (f := 60) rfl ?_); refine goesL_ (some 8) rfl rfl Try.func60 (by kernel_rfl) rfl #[.int .i64 a1, .int .i64 1, .int .i64 6] rfl (by (try simp only [List.map_toArray, List.map_cons, List.map_nil]); first | done | rfl | (simp only [List.length_drop, List.length_take]; rfl)) ?_; (with_reducible refine (impl_InRange.calls a1 1 6 false _ A4.out).mono ?_); rintro e w' ⟨rfl, ⟨nd, rfl⟩⟩; refine ⟨_, rfl, ?_⟩))
      go_meet
      case rel => exact ⟨_, (true), (by first | rfl | (simp; done) | (simp [*]; done)), H', ⟨by first | omega | exact Nat.le_refl _⟩, by repeat (first | exact Drawn0.refl _ | apply Drawn0.step)⟩
  case rest =>
    clear HC3
    try clear p2
    try clear c5
    obtain ⟨kq, x14_2, rfl, HA, HJ2, ⟨mc2, rfl⟩⟩ := hcut
    cases kq with
    | zero => exact absurd HA.out (by simp [impl_IsMatrix.j0])
    | succ kj2 =>
      have H := HA.out
      clear HA
      simp only [impl_IsMatrix.j0] at H
      by_cases c6 : x14_2 = true
      · subst c6
        have H1 : (some false) = some r := by rw [if_pos rfl] at H; exact H
        clear H
        have H := H1
        clear H1
        obtain rfl := Option.some.inj H
        go_wp2
        go_ret
        exact ⟨by first | rfl | (simp; done) | (simp [*]; done), by repeat (first | exact Drawn0.refl _ | apply Drawn0.step)⟩
      · replace c6 := Bool.eq_false_iff.mpr c6
        subst c6
        have H1 : (impl_IsMatrix.l0 kj2 a1 l0 (l0.length : Int) 0) = some r := by rw [if_neg (show ¬ (false = true) by decide)] at H; exact H
        clear H
        have H := H1
        clear H1
        have H' := Aside0.mk H
        clear H
        go_wp2
        go_loopg [17] kj2 (fun kq v17 w' => ∃ (x17_2 : Int), v17 = .int .i64 x17_2 ∧ Aside0 (impl_IsMatrix.l0 kq a1 l0 (l0.length : Int) x17_2 = some r) ∧ Aside0 (kq ≤ kj2) ∧ Drawn0 w w')
        case atStart => exact ⟨(0), (by first | rfl | (simp; done) | (simp [*]; done)), H', ⟨Nat.le_refl _⟩, by repeat (first | exact Drawn0.refl _ | apply Drawn0.step)⟩
        case round =>
          clear H'
          try clear c2
          try clear p2
          try clear c5
          try clear c6
          try clear p2
          obtain ⟨x17_2, rfl, HA, HK2, ⟨m2, rfl⟩⟩ := hrel
          cases gk with
          | zero => exact absurd HA.out (by simp [impl_IsMatrix.l0])
          | succ k2 =>
            have H := HA.out
            clear HA
            simp only [impl_IsMatrix.l0] at H
            by_cases c7 : x17_2 < (l0.length : Int)
            · rw [if_pos c7] at H
              have c7b0 : decide (x17_2 < (l0.length : Int)) = true := decide_eq_true c7
              clear c7
              by_cases c8 : 0 ≤ x17_2
              · rw [if_pos c8] at H
                have c8b0 : decide (0 ≤ x17_2) = true := decide_eq_true c8
                clear c8
                by_cases c9 : x17_2 < (l0.length : Int)
                · rw [if_pos c9] at H
                  have c9b0 : decide (x17_2 < (l0.length : Int)) = true := decide_eq_true c9
                  clear c9
                  by_cases c10 : ((rd_L1 l0 x17_2).length : Int) = a1
                  · rw [if_pos c10] at H
                    have c10b0 : (((rd_L1 l0 x17_2).length : Int) == a1) = true := beq_iff_eq.mpr c10
                    have c10b1 : (((rd_L1 l0 x17_2).length : Int) != a1) = false := bne_eq_false_iff_eq.mpr c10
                    clear c10
                    replace H := Option.bind_eq_some_iff.mp H
                    obtain ⟨t105, A110, H⟩ := H
                    replace H : (if t105 = true then (impl_IsMatrix.l0 k2 a1 l0 (l0.length : Int) (wrap64 (x17_2 + 1))) else (some false)) = some r := H
                    have A11 := Aside0.mk A110
                    clear A110
                    by_cases c12 : t105 = true
                    · subst c12
                      have H1 : (impl_IsMatrix.l0 k2 a1 l0 (l0.length : Int) (wrap64 (x17_2 + 1))) = some r := by rw [if_pos rfl] at H; exact H
                      clear H
                      have H := H1
                      clear H1
                      have H' := Aside0.mk H
                      clear H
                      have p104 : 0 ≤ (x17_2 : Int) := of_decide_eq_true (by first | (with_reducible assumption) | assumption)
                      have q104 : x17_2 < (l0.length : Int) := of_decide_eq_true (by first | (with_reducible assumption) | assumption)
                      obtain ⟨ad104, A104_0, c104_0, e104, hx104_0, hl104_0, hi104_0⟩ := at_L1 HR0.out x17_2 p104 q104
                      cases e104
                      have HR104_0 := Aside0.mk hi104_0
                      have HC104_0 := Aside0.mk hl104_0
                      clear hi104_0 hl104_0
                      replace p104 := eq_true p104
                      replace q104 := eq_true q104
                      go_wp2_with (first | (go_at_call 73; (with_reducible refine (impl_allIn.calls k2 _ _ (rd_L1 l0 x17_2) (-2) 2 true _ ?side1 ?side2 A11.out).mono ?_); (case side1 => repeat (first | exact HR104_0.out | (with_reducible refine Kd.C_alloc ?_ _) | (with_reducible refine Kd.C_drewN ?_ _) | (with_reducible refine Kd.C_drew ?_))); (case side2 => exact HC104_0.out); rintro e w' ⟨rfl, ⟨nd, rfl⟩⟩))
                      go_roundg k2
                      case measure => have := HJ2.out; have := HK2.out; omega
                      case rel => exact ⟨(wrap64 (x17_2 + 1)), (by first | rfl | (simp; done) | (simp [*]; done)), H', ⟨by have := HJ2.out; have := HK2.out; omega⟩, by repeat (first | exact Drawn0.refl _ | apply Drawn0.step)⟩
                    · replace c12 := Bool.eq_false_iff.mpr c12
                      subst c12
                      have H1 : (some false) = some r := by rw [if_neg (show ¬ (false = true) by decide)] at H; exact H
                      clear H
                      have H := H1
                      clear H1
                      obtain rfl := Option.some.inj H
                      have p104 : 0 ≤ (x17_2 : Int) := of_decide_eq_true (by first | (with_reducible assumption) | assumption)
                      have q104 : x17_2 < (l0.length : Int) := of_decide_eq_true (by first | (with_reducible assumption) | assumption)
                      obtain ⟨ad104, A104_0, c104_0, e104, hx104_0, hl104_0, hi104_0⟩ := at_L1 HR0.out x17_2 p104 q104
                      cases e104
                      have HR104_0 := Aside0.mk hi104_0
                      have HC104_0 := Aside0.mk hl104_0
                      clear hi104_0 hl104_0
                      replace p104 := eq_true p104
                      replace q104 := eq_true q104
                      go_wp2_with (first | (go_at_call 73; (with_reducible refine (impl_allIn.calls k2 _ _ (rd_L1 l0 x17_2) (-2) 2 false _ ?side1 ?side2 A11.out).mono ?_); (case side1 => repeat (first | exact HR104_0.out | (with_reducible refine Kd.C_alloc ?_ _) | (with_reducible refine Kd.C_drewN ?_ _) | (with_reducible refine Kd.C_drew ?_))); (case side2 => exact HC104_0.out); rintro e w' ⟨rfl, ⟨nd, rfl⟩⟩))
                      go_ret
                      exact ⟨by first | rfl | (simp; done) | (simp [*]; done), by repeat (first | exact Drawn0.refl _ | apply Drawn0.step)⟩
                  · rw [if_neg c10] at H
                    have c10b0 : (((rd_L1 l0 x17_2).length : Int) == a1) = false := beq_eq_false_iff_ne.mpr c10
                    have c10b1 : (((rd_L1 l0 x17_2).length : Int) != a1) = true := bne_iff_ne.mpr c10
                    obtain rfl := Option.some.inj H
                    have p104 : 0 ≤ (x17_2 : Int) := of_decide_eq_true (by first | (with_reducible assumption) | assumption)
                    have q104 : x17_2 < (l0.length : Int) := of_decide_eq_true (by first | (with_reducible assumption) | assumption)
                    obtain ⟨ad104, A104_0, c104_0, e104, hx104_0, hl104_0, hi104_0⟩ := at_L1 HR0.out x17_2 p104 q104
                    cases e104
                    have HR104_0 := Aside0.mk hi104_0
                    have HC104_0 := Aside0.mk hl104_0
                    clear hi104_0 hl104_0
                    replace p104 := eq_true p104
                    replace q104 := eq_true q104
                    go_wp2
                    go_ret
                    exact ⟨by first | rfl | (simp; done) | (simp [*]; done), by repeat (first | exact Drawn0.refl _ | apply Drawn0.step)⟩
                · rw [if_neg c9] at H
                  exact absurd H (by simp)
              · rw [if_neg c8] at H
                exact absurd H (by simp)
            · rw [if_neg c7] at H
              have c7b0 : decide (x17_2 < (l0.length : Int)) = false := decide_eq_false c7
              clear c7
              obtain rfl := Option.some.inj H
              go_wp2
              go_ret
              exact ⟨by first | rfl | (simp; done) | (simp [*]; done), by repeat (first | exact Drawn0.refl _ | apply Drawn0.step)⟩

-- NOT PRINTED: function 74 (slices_IndexFunc_int_int_74)

-- NOT PRINTED: function 52 (slices_ContainsFunc_int_int_52)

/-! ### impl_Unseen: function 20 -/
def anyB_53 (n : Nat) (B : Nat → Bool) : Bool := (List.range n).any B
theorem anyB_53_hit {n : Nat} {B : Nat → Bool} {k : Nat} (h : k < n) (hb : B k = true) : anyB_53 n B = true := List.any_eq_true.2 ⟨k, List.mem_range.2 h, hb⟩
theorem anyB_53_miss {n : Nat} {B : Nat → Bool} (h : ∀ j, j < n → B j = false) : anyB_53 n B = false := List.any_eq_false.2 (fun j hj => by rw [h j (List.mem_range.1 hj)]; simp)
set_option maxHeartbeats 4000000 in
set_option maxRecDepth 100000 in
theorem idx_53 (lb : Array Value) (a : Addr) (n c : Nat) (V : Nat → Value) (B : Nat → Bool) (w : World) (hb : n ≤ 9223372036854775807)
    (hw : 0 < n → a.block < w.heap.size) (hc : ∀ j, j < n → w.cell? (a.add j) = some (V j))
    (hp : ∀ j, j < n → ∀ W, Below w.heap.size w W → Calls Try.prog 53 (#[V j] ++ lb) W fun e w' => e = .returned (.bool (B j)) ∧ Below W.heap.size W w') :
    Calls Try.prog 74 #[.slice (some a) n c, .func (.func 53) #[] lb] w fun e w' => ∃ r : Int, e = .returned (.int .i64 r) ∧ decide (0 ≤ r) = anyB_53 n B ∧ Below w.heap.size w w' := by
  have HC := Aside0.mk hc
  have HP := Aside0.mk hp
  have HW := Aside0.mk hw
  clear hc hp hw
  go_enter Try.func74, Try.ntmps74
  go_wp2
  go_loopg [5, 8] n (fun gg _ s8 wr => ∃ kk : Nat, kk ≤ n ∧ n - kk ≤ gg ∧ s8 = .int .i64 kk ∧ Aside0 (Below w.heap.size w wr) ∧ Aside0 (∀ j, j < kk → B j = false))
  case atStart => exact ⟨0, Nat.zero_le _, by omega, rfl, ⟨Below.refl _ w⟩, ⟨fun j hj => absurd hj (Nat.not_lt_zero _)⟩⟩
  case round =>
    obtain ⟨kk, hkk, hg, rfl, BW, AB⟩ := hrel
    by_cases hlt : kk < n
    · have hltz : (kk : Int) < (n : Int) := by omega
      have hcell : wr.cell? (a.add kk) = some (V kk) := (BW.out.cell (p := a.add kk) (by have h := HW.out (by omega); simpa [Addr.add] using (by unfold Addr.add; split <;> exact h : (a.add kk).block < w.heap.size))).trans (HC.out kk hlt)
      have hcall := HP.out kk hlt wr BW.out
      generalize hv : V kk = v at hcell hcall
      have HV := Aside0.mk hv
      clear hv
      cases hq : B kk with
      | true =>
        rw [hq] at hcall
        have HQ := Aside0.mk hq
        clear hq
        go_wp2_with (go_at_call 53; refine hcall.mono ?_; rintro e w' ⟨rfl, hb'⟩; have HB := Aside0.mk hb'; clear hb')
        go_ret
        exact ⟨_, rfl, by rw [anyB_53_hit hlt HQ.out]; exact decide_eq_true (by omega), below_step BW.out HB.out⟩
      | false =>
        rw [hq] at hcall
        have HQ := Aside0.mk hq
        clear hq
        go_wp2_with (go_at_call 53; refine hcall.mono ?_; rintro e w' ⟨rfl, hb'⟩; have HB := Aside0.mk hb'; clear hb')
        go_roundg (n - (kk + 1))
        case measure => omega
        case rel =>
          refine ⟨kk + 1, by omega, by omega, by go_num, ⟨below_step BW.out HB.out⟩, ⟨fun j hj => ?_⟩⟩
          by_cases e : j = kk
          · subst e; exact HQ.out
          · exact AB.out j (by omega)
    · have hltz : ¬ (kk : Int) < (n : Int) := by omega
      have hkn : kk = n := by omega
      subst hkn
      go_wp2
      go_ret
      exact ⟨-1, rfl, by rw [anyB_53_miss AB.out]; rfl, BW.out⟩
set_option maxHeartbeats 4000000 in
theorem idx_53_none (fv : Value) (c : Nat) (a : Option Addr) (w : World) :
    Calls Try.prog 74 #[.slice a 0 c, fv] w fun e w' => e = .returned (.int .i64 (-1)) ∧ w = w' := by
  go_enter Try.func74, Try.ntmps74
  go_wp2
  go_loopg [5, 8] 0 (fun _ _ s8 wr => s8 = .int .i64 0 ∧ w = wr)
  case atStart => exact ⟨rfl, rfl⟩
  case round =>
    obtain ⟨rfl, rfl⟩ := hrel
    go_wp2
    go_ret
    exact ⟨rfl, rfl⟩
set_option maxHeartbeats 4000000 in
theorem has_53 (lb : Array Value) (A0 : Option Addr) (n c : Nat) (V : Nat → Value) (B : Nat → Bool) (w : World) (hb : n ≤ 9223372036854775807)
    (hw : 0 < n → ∃ a, A0 = some a ∧ a.block < w.heap.size ∧ ∀ j, j < n → w.cell? (a.add j) = some (V j))
    (hp : ∀ j, j < n → ∀ W, Below w.heap.size w W → Calls Try.prog 53 (#[V j] ++ lb) W fun e w' => e = .returned (.bool (B j)) ∧ Below W.heap.size W w') :
    Calls Try.prog 52 #[.slice A0 n c, .func (.func 53) #[] lb] w fun e w' => e = .returned (.bool (anyB_53 n B)) ∧ Below w.heap.size w w' := by
  rcases Nat.eq_zero_or_pos n with h0 | h0
  · subst h0
    clear hw hp
    go_enter Try.func52, Try.ntmps52
    go_wp2_with (go_at_call 74; refine (idx_53_none _ _ _ _).mono ?_; rintro e w' ⟨rfl, rfl⟩)
    go_ret
    exact ⟨rfl, Below.refl _ _⟩
  · obtain ⟨a, rfl, hw1, hc⟩ := hw h0
    have hcon := idx_53 lb a n c V B w hb (fun _ => hw1) hc hp
    clear hp hc hw hw1
    go_enter Try.func52, Try.ntmps52
    go_wp2_with (go_at_call 74; refine hcon.mono ?_; rintro e w' ⟨r, rfl, hr, hb'⟩; have HR := Aside0.mk hr; have HB := Aside0.mk hb'; clear hr hb')
    all_goals (go_ret; exact ⟨by rw [← HR.out]; rfl, HB.out⟩)
theorem gv_lt_53 {w : World} {a : Addr} {v : Value} (h : w.cell? a = some v) : a.block < w.heap.size := by
  rcases Nat.lt_or_ge a.block w.heap.size with h1 | h1
  · exact h1
  · simp [World.cell?, Array.getElem?_eq_none h1] at h
theorem rows_53 (lb : Array Value) (A0 : Option Addr) (c0 : Nat) (l0 : List (List Int)) (B : List Int → Bool) (w : World) (hr0 : Kd.C (Kd.slice 3 (Kd.int .i64)) w A0 l0.length l0)
    (hp : ∀ (row : List Int) (Aj : Option Addr) (cj : Nat), row ∈ l0 → row.length ≤ cj → Kd.C (Kd.int .i64) w Aj row.length row → ∀ W, Below w.heap.size w W → Calls Try.prog 53 (#[.slice Aj row.length cj] ++ lb) W fun e w' => e = .returned (.bool (B row)) ∧ Below W.heap.size W w') :
    Calls Try.prog 52 #[.slice A0 l0.length c0, .func (.func 53) #[] lb] w fun e w' => e = .returned (.bool (l0.any B)) ∧ Below w.heap.size w w' := by
  have hh := has_53 lb A0 l0.length c0 (fun j => (A0.bind fun a => w.cell? (a.add j)).getD undef) (fun j => B (l0.getD j [])) w (Kd.C_max hr0)
    (fun h0 => by
      obtain ⟨a, Aj, cj, rfl, hcell, _, _⟩ := at_L1 hr0 0 (by omega) (by omega)
      have h2 := gv_lt_53 hcell
      have h3 : (a.add (0 : Int).toNat).block = a.block := by unfold Addr.add; split <;> rfl
      refine ⟨a, rfl, by omega, fun j hj => ?_⟩
      obtain ⟨a', Aj, cj, e, hcell, _, _⟩ := at_L1 hr0 j (by omega) (by omega)
      cases e
      rw [show (j : Int).toNat = j from rfl] at hcell
      simp only [Option.bind_some, hcell, Option.getD_some])
    (fun j hj W hW => by
      obtain ⟨a', Aj, cj, e, hcell, hlen, hC⟩ := at_L1 hr0 j (by omega) (by omega)
      subst e
      rw [show (j : Int).toNat = j from rfl] at hcell
      simp only [Option.bind_some, hcell, Option.getD_some]
      have hm : rd_L1 l0 (j : Int) ∈ l0 := by
        have : rd_L1 l0 (j : Int) = l0[j] := by simp [rd_L1, List.getD, hj]
        rw [this]; exact List.getElem_mem hj
      exact hp _ _ _ hm hlen hC W hW)
  have e : anyB_53 l0.length (fun j => B (l0.getD j [])) = l0.any B := by
    unfold anyB_53
    rw [Bool.eq_iff_iff, List.any_eq_true, List.any_eq_true]
    constructor
    · rintro ⟨j, hj, h⟩
      have hlt := List.mem_range.1 hj
      exact ⟨l0[j], List.getElem_mem hlt, by simpa [List.getD, hlt] using h⟩
    · rintro ⟨x, hx, h⟩
      obtain ⟨j, hlt, rfl⟩ := List.mem_iff_getElem.1 hx
      exact ⟨j, List.mem_range.2 hlt, by simpa [List.getD, hlt] using h⟩
  rw [e] at hh
  exact hh
/-- a row's number in a column is not zero. -/
def nzB (c : Nat) (row : List Int) : Bool := rd row (c : Int) != 0
/-- of the first n columns those that no row uses. -/
def unsL (m : List (List Int)) (n : Nat) : List Int := ((List.range n).filter (fun c => !(m.any (nzB c)))).map (fun c : Nat => (c : Int))
theorem unsL_succ (m : List (List Int)) (n : Nat) : unsL m (n + 1) = unsL m n ++ (if m.any (nzB n) = true then [] else [(n : Int)]) := by
  unfold unsL
  rw [List.range_succ, List.filter_append, List.map_append]
  congr 1
  cases h : m.any (nzB n) <;> simp [List.filter_cons, h]
theorem unsL_len (m : List (List Int)) (n : Nat) : (unsL m n).length ≤ n := by
  unfold unsL
  rw [List.length_map]
  refine Nat.le_trans (List.length_filter_le _ _) ?_
  rw [List.length_range]
  exact Nat.le_refl _
def impl_Unseen.f (k : Nat) (l0 : List (List Int)) (a1 : Int) : Option (List Int) := (impl_IsMatrix.f k l0 a1).bind fun t => if t = true then (if 0 ≤ a1 ∧ a1 ≤ 1048576 ∧ (∀ row ∈ l0, (row.length : Int) = a1) then some (unsL l0 a1.toNat) else none) else some []
theorem impl_Unseen.mono : ∀ a0 a1 k, LeO (impl_Unseen.f k a0 a1) (impl_Unseen.f (k + 1) a0 a1) := by
  intro a0 a1 k
  unfold impl_Unseen.f
  exact LeO.bind (impl_IsMatrix.mono _ _ _) (fun t => LeO.refl _)
set_option maxHeartbeats 4000000 in
set_option maxRecDepth 100000 in
theorem nz_one (row : List Int) (c : Nat) (Ar : Option Addr) (cr b : Nat) (w : World) (hr : Kd.C (Kd.int .i64) w Ar row.length row) (hb : w.heap[b]? = some (.cells #[.int .i64 (c : Int)] 3 (0, 0))) (hc : c < row.length) (W : World) (hW : Below w.heap.size w W) :
    Calls Try.prog 53 (#[.slice Ar row.length cr] ++ #[.pointer (some ⟨b, 0, none⟩)]) W fun e w' => e = .returned (.bool (nzB c row)) ∧ Below W.heap.size W w' := by
  have hcell : W.cell? ⟨b, 0, none⟩ = some (.int .i64 (c : Int)) := (blk_cell (blk_below hb hW) 0).trans rfl
  have hm : row.length ≤ 9223372036854775807 := Kd.C_max hr
  have HC := Aside0.mk (Kd.C_below hr hW)
  clear hr hb hW
  show Calls Try.prog 53 #[.slice Ar row.length cr, .pointer (some ⟨b, 0, none⟩)] W _
  have h0 : 0 ≤ (c : Int) := by omega
  have h1 : (c : Int) < (row.length : Int) := by omega
  obtain ⟨ad, rfl, hx⟩ := Kd.at_int HC.out (c : Int) h0 h1
  clear HC
  unfold nzB
  generalize rd row (c : Int) = q at hx ⊢
  simp only [Int.toNat_natCast] at hx
  go_enter Try.func53, Try.ntmps53
  go_wp2
  go_ret
  exact ⟨rfl, Below.refl _ _⟩
set_option maxHeartbeats 4000000 in
set_option maxRecDepth 100000 in
theorem impl_Unseen.calls (k : Nat) (A0 : Option Addr) (c0 : Nat) (l0 : List (List Int)) (a1 : Int) (r : List Int) (w : World) (hr0 : Kd.C (Kd.slice 3 (Kd.int .i64)) w A0 l0.length l0) (hc0 : l0.length ≤ c0) (h : impl_Unseen.f k l0 a1 = some r) :
    Calls Try.prog 20 #[.slice A0 l0.length c0, .int .i64 a1] w fun e w' => ∃ v0_ : Value, e = .returned (v0_) ∧ Kd.R (Kd.int .i64) 3 w' w.heap.size (fun _ => True) v0_ r ∧ Below w.heap.size w w' := by
  obtain ⟨t, ht, h⟩ := Option.bind_eq_some_iff.mp h
  have k1 := impl_IsMatrix.calls k A0 c0 l0 a1 t w hr0 hc0 ht
  clear ht
  cases t with
  | false =>
    have e : [] = r := by simpa using h
    subst e
    clear h hr0
    go_enter Try.func20, Try.ntmps20
    go_wp2_with (go_at_call 51; refine k1.mono ?_; rintro e w1 ⟨rfl, hb⟩; have HB := Aside0.mk hb.below; clear hb)
    go_ret
    exact ⟨_, rfl, Kd.R_nil _ _ _ _ _, HB.out⟩
  | true =>
    rw [if_pos rfl] at h
    have hg : 0 ≤ a1 ∧ a1 ≤ 1048576 ∧ (∀ row ∈ l0, (row.length : Int) = a1) := by
      by_cases hq : 0 ≤ a1 ∧ a1 ≤ 1048576 ∧ (∀ row ∈ l0, (row.length : Int) = a1)
      · exact hq
      · rw [if_neg hq] at h; cases h
    rw [if_pos hg] at h
    obtain rfl := Option.some.inj h
    obtain ⟨h0, h1, h2⟩ := hg
    obtain ⟨n, rfl⟩ := Int.eq_ofNat_of_zero_le h0
    have hn : n ≤ 1048576 := by omega
    have HR := Aside0.mk hr0
    have HL := Aside0.mk h2
    clear h h0 h1 h2 hr0
    simp only [Int.ofNat_eq_natCast, Int.toNat_natCast] at k1 HL ⊢
    go_enter Try.func20, Try.ntmps20
    go_wp2_with (go_at_call 51; refine k1.mono ?_; rintro e w1 ⟨rfl, hb⟩; have HB := Aside0.mk hb.below; clear hb)
    go_loopg [5, 12] n (fun gg s5 s12 wr => ∃ kk : Nat, kk ≤ n ∧ n - kk ≤ gg ∧ s12 = .int .i64 kk ∧ Aside0 (Kd.R (Kd.int .i64) 3 wr w.heap.size (fun _ => True) s5 (unsL l0 kk)) ∧ Aside0 (Below w.heap.size w wr))
    case atStart => exact ⟨0, Nat.zero_le _, by omega, rfl, ⟨Kd.R_nil _ _ _ _ _⟩, HB⟩
    case round =>
      clear HB
      obtain ⟨kk, hkk, hg, rfl, HO, BW⟩ := hrel
      by_cases hlt : kk < n
      · have hltz : (kk : Int) < (n : Int) := by omega
        have hcon : Calls Try.prog 52 #[.slice A0 l0.length c0, .func (.func 53) #[] #[.pointer (some ⟨wr.heap.size, 0, none⟩)]] (wr.alloc (.cells #[.int .i64 (kk : Int)] 3)) fun e w' => e = .returned (.bool (l0.any (nzB kk))) ∧ Below (wr.alloc (.cells #[.int .i64 (kk : Int)] 3)).heap.size (wr.alloc (.cells #[.int .i64 (kk : Int)] 3)) w' :=
          rows_53 #[.pointer (some ⟨wr.heap.size, 0, none⟩)] A0 c0 l0 (nzB kk) (wr.alloc (.cells #[.int .i64 (kk : Int)] 3)) (Kd.C_alloc (Kd.C_below HR.out BW.out) _) (fun row Aj cj hm _ hC W hW => nz_one row kk Aj cj _ (wr.alloc (.cells #[.int .i64 (kk : Int)] 3)) hC (blk_new wr _) (by have := HL.out row hm; omega) W hW)
        have HS := Aside0.mk (unsL_succ l0 kk)
        have HN := Aside0.mk (unsL_len l0 kk)
        have hca : ∀ w2, Below (wr.alloc (.cells #[.int .i64 (kk : Int)] 3)).heap.size (wr.alloc (.cells #[.int .i64 (kk : Int)] 3)) w2 → w2.cell? ⟨wr.heap.size, 0, none⟩ = some (.int .i64 (kk : Int)) := fun w2 hb => (blk_cell (blk_below (blk_new wr _) hb) 0).trans rfl
        have HCA := Aside0.mk hca
        clear hca
        cases hq : l0.any (nzB kk) with
        | true =>
          have HQ := Aside0.mk hq
          rw [hq] at hcon
          clear hq
          go_wp2_with (go_at_call 52; refine hcon.mono ?_; rintro e w2 ⟨rfl, hb⟩; have HO2 := Aside0.mk (Kd.R_below (Kd.R_alloc HO.out _) hb); have HB2 := Aside0.mk (below_step (below_alloc BW.out _) hb); clear hb)
          go_roundg (n - (kk + 1))
          case measure => omega
          case rel => exact ⟨kk + 1, by omega, by omega, by go_num, ⟨by rw [HS.out, HQ.out, if_pos rfl, List.append_nil]; exact HO2.out⟩, HB2⟩
        | false =>
          have HQ := Aside0.mk hq
          rw [hq] at hcon
          clear hq
          go_wp2_with (first | (go_at_call 52; refine hcon.mono ?_; rintro e w2 ⟨rfl, hb⟩; have hcell := HCA.out _ hb; have HO2 := Aside0.mk (Kd.R_below (Kd.R_alloc HO.out _) hb); have HB2 := Aside0.mk (below_step (below_alloc BW.out _) hb); clear hb) | ((with_reducible refine gate_builtin (b := .append) (xs := #[.tmp 19, .tmp 21]) rfl ?_); at_builtin; refine Kd.R_append (Kd.int .i64) (w0 := w) w.heap.size rfl (.tmp 19) (.tmp 21) 30 3 (.int .i64 0) 8 rfl Try.underlying30 info3 rfl (by decide) (by omega) u5 (unsL l0 kk) (kk : Int) [.int .i64 (kk : Int)] (fun _ => True) (fun _ => False) rfl rfl ?aP (fun _ hk => hk.elim) ?aF ?aO ?aB ?aS ?aL ?_; (case aP => exact rfl); (case aB => exact (by repeat (first | (with_reducible first | exact HB2.out | apply below_alloc | apply pw_below_drewN | apply below_drew1) | exact HB2.out))); (case aF => exact (fun _ _ => trivial)); (case aO => exact (by (with_reducible repeat (first | apply Kd.R_alloc | apply Kd.R_drewN | apply Kd.R_drew)); exact HO2.out)); (case aS => exact (below_size (by repeat (first | (with_reducible first | exact HB2.out | apply below_alloc | apply pw_below_drewN | apply below_drew1) | exact HB2.out)))); (case aL => have := HN.out; omega); intro v_ w3 ho hb hg hat; have HO3 := Aside0.mk ho; have HB3 := Aside0.mk hb; clear ho hb hg hat))
          go_roundg (n - (kk + 1))
          case measure => omega
          case rel => exact ⟨kk + 1, by omega, by omega, by go_num, ⟨by rw [HS.out, HQ.out, if_neg (by simp)]; exact HO3.out⟩, HB3⟩
      · have hltz : ¬ (kk : Int) < (n : Int) := by omega
        have hkn : kk = n := by omega
        subst hkn
        go_wp2
        go_ret
        exact ⟨_, rfl, HO.out, BW.out⟩

/-! ### impl_isBits: function 50 -/
def anyB_72 (n : Nat) (B : Nat → Bool) : Bool := (List.range n).any B
theorem anyB_72_hit {n : Nat} {B : Nat → Bool} {k : Nat} (h : k < n) (hb : B k = true) : anyB_72 n B = true := List.any_eq_true.2 ⟨k, List.mem_range.2 h, hb⟩
theorem anyB_72_miss {n : Nat} {B : Nat → Bool} (h : ∀ j, j < n → B j = false) : anyB_72 n B = false := List.any_eq_false.2 (fun j hj => by rw [h j (List.mem_range.1 hj)]; simp)
set_option maxHeartbeats 4000000 in
set_option maxRecDepth 100000 in
theorem idx_72 (lb : Array Value) (a : Addr) (n c : Nat) (V : Nat → Value) (B : Nat → Bool) (w : World) (hb : n ≤ 9223372036854775807)
    (hw : 0 < n → a.block < w.heap.size) (hc : ∀ j, j < n → w.cell? (a.add j) = some (V j))
    (hp : ∀ j, j < n → ∀ W, Below w.heap.size w W → Calls Try.prog 72 (#[V j] ++ lb) W fun e w' => e = .returned (.bool (B j)) ∧ Below W.heap.size W w') :
    Calls Try.prog 74 #[.slice (some a) n c, .func (.func 72) #[] lb] w fun e w' => ∃ r : Int, e = .returned (.int .i64 r) ∧ decide (0 ≤ r) = anyB_72 n B ∧ Below w.heap.size w w' := by
  have HC := Aside0.mk hc
  have HP := Aside0.mk hp
  have HW := Aside0.mk hw
  clear hc hp hw
  go_enter Try.func74, Try.ntmps74
  go_wp2
  go_loopg [5, 8] n (fun gg _ s8 wr => ∃ kk : Nat, kk ≤ n ∧ n - kk ≤ gg ∧ s8 = .int .i64 kk ∧ Aside0 (Below w.heap.size w wr) ∧ Aside0 (∀ j, j < kk → B j = false))
  case atStart => exact ⟨0, Nat.zero_le _, by omega, rfl, ⟨Below.refl _ w⟩, ⟨fun j hj => absurd hj (Nat.not_lt_zero _)⟩⟩
  case round =>
    obtain ⟨kk, hkk, hg, rfl, BW, AB⟩ := hrel
    by_cases hlt : kk < n
    · have hltz : (kk : Int) < (n : Int) := by omega
      have hcell : wr.cell? (a.add kk) = some (V kk) := (BW.out.cell (p := a.add kk) (by have h := HW.out (by omega); simpa [Addr.add] using (by unfold Addr.add; split <;> exact h : (a.add kk).block < w.heap.size))).trans (HC.out kk hlt)
      have hcall := HP.out kk hlt wr BW.out
      generalize hv : V kk = v at hcell hcall
      have HV := Aside0.mk hv
      clear hv
      cases hq : B kk with
      | true =>
        rw [hq] at hcall
        have HQ := Aside0.mk hq
        clear hq
        go_wp2_with (go_at_call 72; refine hcall.mono ?_; rintro e w' ⟨rfl, hb'⟩; have HB := Aside0.mk hb'; clear hb')
        go_ret
        exact ⟨_, rfl, by rw [anyB_72_hit hlt HQ.out]; exact decide_eq_true (by omega), below_step BW.out HB.out⟩
      | false =>
        rw [hq] at hcall
        have HQ := Aside0.mk hq
        clear hq
        go_wp2_with (go_at_call 72; refine hcall.mono ?_; rintro e w' ⟨rfl, hb'⟩; have HB := Aside0.mk hb'; clear hb')
        go_roundg (n - (kk + 1))
        case measure => omega
        case rel =>
          refine ⟨kk + 1, by omega, by omega, by go_num, ⟨below_step BW.out HB.out⟩, ⟨fun j hj => ?_⟩⟩
          by_cases e : j = kk
          · subst e; exact HQ.out
          · exact AB.out j (by omega)
    · have hltz : ¬ (kk : Int) < (n : Int) := by omega
      have hkn : kk = n := by omega
      subst hkn
      go_wp2
      go_ret
      exact ⟨-1, rfl, by rw [anyB_72_miss AB.out]; rfl, BW.out⟩
set_option maxHeartbeats 4000000 in
theorem idx_72_none (fv : Value) (c : Nat) (a : Option Addr) (w : World) :
    Calls Try.prog 74 #[.slice a 0 c, fv] w fun e w' => e = .returned (.int .i64 (-1)) ∧ w = w' := by
  go_enter Try.func74, Try.ntmps74
  go_wp2
  go_loopg [5, 8] 0 (fun _ _ s8 wr => s8 = .int .i64 0 ∧ w = wr)
  case atStart => exact ⟨rfl, rfl⟩
  case round =>
    obtain ⟨rfl, rfl⟩ := hrel
    go_wp2
    go_ret
    exact ⟨rfl, rfl⟩
set_option maxHeartbeats 4000000 in
theorem has_72 (lb : Array Value) (A0 : Option Addr) (n c : Nat) (V : Nat → Value) (B : Nat → Bool) (w : World) (hb : n ≤ 9223372036854775807)
    (hw : 0 < n → ∃ a, A0 = some a ∧ a.block < w.heap.size ∧ ∀ j, j < n → w.cell? (a.add j) = some (V j))
    (hp : ∀ j, j < n → ∀ W, Below w.heap.size w W → Calls Try.prog 72 (#[V j] ++ lb) W fun e w' => e = .returned (.bool (B j)) ∧ Below W.heap.size W w') :
    Calls Try.prog 52 #[.slice A0 n c, .func (.func 72) #[] lb] w fun e w' => e = .returned (.bool (anyB_72 n B)) ∧ Below w.heap.size w w' := by
  rcases Nat.eq_zero_or_pos n with h0 | h0
  · subst h0
    clear hw hp
    go_enter Try.func52, Try.ntmps52
    go_wp2_with (go_at_call 74; refine (idx_72_none _ _ _ _).mono ?_; rintro e w' ⟨rfl, rfl⟩)
    go_ret
    exact ⟨rfl, Below.refl _ _⟩
  · obtain ⟨a, rfl, hw1, hc⟩ := hw h0
    have hcon := idx_72 lb a n c V B w hb (fun _ => hw1) hc hp
    clear hp hc hw hw1
    go_enter Try.func52, Try.ntmps52
    go_wp2_with (go_at_call 74; refine hcon.mono ?_; rintro e w' ⟨r, rfl, hr, hb'⟩; have HR := Aside0.mk hr; have HB := Aside0.mk hb'; clear hr hb')
    all_goals (go_ret; exact ⟨by rw [← HR.out]; rfl, HB.out⟩)
theorem gv_lt_72 {w : World} {a : Addr} {v : Value} (h : w.cell? a = some v) : a.block < w.heap.size := by
  rcases Nat.lt_or_ge a.block w.heap.size with h1 | h1
  · exact h1
  · simp [World.cell?, Array.getElem?_eq_none h1] at h
theorem rows_72 (lb : Array Value) (A0 : Option Addr) (c0 : Nat) (l0 : List (List Int)) (B : List Int → Bool) (w : World) (hr0 : Kd.C (Kd.slice 3 (Kd.int .i64)) w A0 l0.length l0)
    (hp : ∀ (row : List Int) (Aj : Option Addr) (cj : Nat), row ∈ l0 → row.length ≤ cj → Kd.C (Kd.int .i64) w Aj row.length row → ∀ W, Below w.heap.size w W → Calls Try.prog 72 (#[.slice Aj row.length cj] ++ lb) W fun e w' => e = .returned (.bool (B row)) ∧ Below W.heap.size W w') :
    Calls Try.prog 52 #[.slice A0 l0.length c0, .func (.func 72) #[] lb] w fun e w' => e = .returned (.bool (l0.any B)) ∧ Below w.heap.size w w' := by
  have hh := has_72 lb A0 l0.length c0 (fun j => (A0.bind fun a => w.cell? (a.add j)).getD undef) (fun j => B (l0.getD j [])) w (Kd.C_max hr0)
    (fun h0 => by
      obtain ⟨a, Aj, cj, rfl, hcell, _, _⟩ := at_L1 hr0 0 (by omega) (by omega)
      have h2 := gv_lt_72 hcell
      have h3 : (a.add (0 : Int).toNat).block = a.block := by unfold Addr.add; split <;> rfl
      refine ⟨a, rfl, by omega, fun j hj => ?_⟩
      obtain ⟨a', Aj, cj, e, hcell, _, _⟩ := at_L1 hr0 j (by omega) (by omega)
      cases e
      rw [show (j : Int).toNat = j from rfl] at hcell
      simp only [Option.bind_some, hcell, Option.getD_some])
    (fun j hj W hW => by
      obtain ⟨a', Aj, cj, e, hcell, hlen, hC⟩ := at_L1 hr0 j (by omega) (by omega)
      subst e
      rw [show (j : Int).toNat = j from rfl] at hcell
      simp only [Option.bind_some, hcell, Option.getD_some]
      have hm : rd_L1 l0 (j : Int) ∈ l0 := by
        have : rd_L1 l0 (j : Int) = l0[j] := by simp [rd_L1, List.getD, hj]
        rw [this]; exact List.getElem_mem hj
      exact hp _ _ _ hm hlen hC W hW)
  have e : anyB_72 l0.length (fun j => B (l0.getD j [])) = l0.any B := by
    unfold anyB_72
    rw [Bool.eq_iff_iff, List.any_eq_true, List.any_eq_true]
    constructor
    · rintro ⟨j, hj, h⟩
      have hlt := List.mem_range.1 hj
      exact ⟨l0[j], List.getElem_mem hlt, by simpa [List.getD, hlt] using h⟩
    · rintro ⟨x, hx, h⟩
      obtain ⟨j, hlt, rfl⟩ := List.mem_iff_getElem.1 hx
      exact ⟨j, List.mem_range.2 hlt, by simpa [List.getD, hlt] using h⟩
  rw [e] at hh
  exact hh
def allO {α : Type} (p : α → Option Bool) : List α → Option Bool
  | [] => some false
  | x :: l => (p x).bind fun b => (allO p l).bind fun c => some (b || c)
theorem allO_some {α : Type} {p : α → Option Bool} : ∀ {l : List α} {r : Bool}, allO p l = some r → (∀ x ∈ l, p x = some ((p x).getD false)) ∧ l.any (fun x => (p x).getD false) = r
  | [], r, h => ⟨fun x hx => by simp at hx, Option.some.inj h⟩
  | x :: l, r, h => by
    obtain ⟨b, hb, h⟩ := Option.bind_eq_some_iff.mp h
    obtain ⟨c, hc, h⟩ := Option.bind_eq_some_iff.mp h
    obtain ⟨h1, h2⟩ := allO_some hc
    refine ⟨fun y hy => ?_, ?_⟩
    · rcases List.mem_cons.1 hy with rfl | hy
      · rw [hb]; rfl
      · exact h1 y hy
    · rw [List.any_cons, h2, hb]; exact Option.some.inj h
theorem allO_mono {α : Type} {p q : α → Option Bool} (h : ∀ x, LeO (p x) (q x)) : ∀ l : List α, LeO (allO p l) (allO q l)
  | [] => LeO.refl _
  | x :: l => LeO.bind (h x) (fun b => LeO.bind (allO_mono h l) (fun c => LeO.refl _))
/-- a row's answer: it holds something else than zeros and ones. -/
def noBit (k : Nat) (row : List Int) : Option Bool := (impl_allIn.f k row 0 1).bind fun b => some (!b)
def impl_isBits.f (k : Nat) (l0 : List (List Int)) (a1 : Int) : Option Bool := (impl_IsMatrix.f k l0 a1).bind fun t => if t = true then (allO (noBit k) l0).bind fun b => some (!b) else some false
theorem impl_isBits.mono : ∀ a0 a1 k, LeO (impl_isBits.f k a0 a1) (impl_isBits.f (k + 1) a0 a1) := by
  intro a0 a1 k
  unfold impl_isBits.f
  refine LeO.bind (impl_IsMatrix.mono _ _ _) (fun t => LeO.ite (LeO.bind (allO_mono (fun x => ?_) a0) (fun _ => LeO.refl _)) (LeO.refl _))
  unfold noBit
  exact LeO.bind (impl_allIn.mono _ _ _ _) (fun _ => LeO.refl _)
set_option maxHeartbeats 4000000 in
set_option maxRecDepth 100000 in
theorem nobit_one (k : Nat) (row : List Int) (Ar : Option Addr) (cr : Nat) (b : Bool) (W : World) (hr : Kd.C (Kd.int .i64) W Ar row.length row) (hcr : row.length ≤ cr) (h : noBit k row = some b) :
    Calls Try.prog 72 (#[.slice Ar row.length cr] ++ #[]) W fun e w' => e = .returned (.bool b) ∧ Below W.heap.size W w' := by
  obtain ⟨q, hq, h⟩ := Option.bind_eq_some_iff.mp h
  obtain rfl := Option.some.inj h
  have k1 := impl_allIn.calls k Ar cr row 0 1 q W hr hcr hq
  clear hr h hq
  show Calls Try.prog 72 #[.slice Ar row.length cr] W _
  go_enter Try.func72, Try.ntmps72
  go_wp2_with (go_at_call 73; refine k1.mono ?_; rintro e w1 ⟨rfl, hb⟩; have HB := Aside0.mk hb.below; clear hb)
  go_ret
  exact ⟨rfl, HB.out⟩
set_option maxHeartbeats 4000000 in
set_option maxRecDepth 100000 in
theorem impl_isBits.calls (k : Nat) (A0 : Option Addr) (c0 : Nat) (l0 : List (List Int)) (a1 : Int) (r : Bool) (w : World) (hr0 : Kd.C (Kd.slice 3 (Kd.int .i64)) w A0 l0.length l0) (hc0 : l0.length ≤ c0) (h : impl_isBits.f k l0 a1 = some r) :
    Calls Try.prog 50 #[.slice A0 l0.length c0, .int .i64 a1] w fun e w' => e = .returned (.bool r) ∧ Below w.heap.size w w' := by
  obtain ⟨t, ht, h⟩ := Option.bind_eq_some_iff.mp h
  have k1 := impl_IsMatrix.calls k A0 c0 l0 a1 t w hr0 hc0 ht
  clear ht
  cases t with
  | false =>
    have e : false = r := by simpa using h
    subst e
    clear h hr0
    go_enter Try.func50, Try.ntmps50
    go_wp2_with (go_at_call 51; refine k1.mono ?_; rintro e w1 ⟨rfl, hb⟩; have HB := Aside0.mk hb.below; clear hb)
    go_ret
    exact ⟨rfl, HB.out⟩
  | true =>
    rw [if_pos rfl] at h
    obtain ⟨q, hq, h⟩ := Option.bind_eq_some_iff.mp h
    obtain rfl := Option.some.inj h
    obtain ⟨h1, h2⟩ := allO_some hq
    have k2 : ∀ w1, Below w.heap.size w w1 → Calls Try.prog 52 #[.slice A0 l0.length c0, .func (.func 72) #[] #[]] w1 fun e w' => e = .returned (.bool q) ∧ Below w1.heap.size w1 w' := fun w1 hb => by
      have hh := rows_72 #[] A0 c0 l0 (fun row => (noBit k row).getD false) w1 (Kd.C_below hr0 hb) (fun row Aj cj hm hl hC W hW => nobit_one k row Aj cj _ W (Kd.C_below hC hW) hl (h1 row hm))
      rw [h2] at hh
      exact hh
    have K2 := Aside0.mk k2
    clear k2 h1 h2 hq h hr0
    go_enter Try.func50, Try.ntmps50
    go_wp2_with (first | (go_at_call 51; refine k1.mono ?_; rintro e w1 ⟨rfl, hb⟩; have HB := Aside0.mk hb.below; clear hb k1) | (go_at_call 52; refine (K2.out _ HB.out).mono ?_; rintro e w2 ⟨rfl, hb⟩; have HB2 := Aside0.mk (below_step HB.out hb); clear hb))
    go_ret
    exact ⟨rfl, HB2.out⟩

end Go.Proofs.Ytoniljblfenpeaa.PFnIdentified
