-- Written by a program of this session out of the translation (wip/gen/hprint.sh). Lean checks it.
import Derived.Test.YtoniljblfenpeaaHFnExactTwinOfx0
import Derived.Test.YtoniljblfenpeaaHFnExactTwinOfx1
import Derived.Test.YtoniljblfenpeaaHFnExactTwinOfx2
import Derived.Test.YtoniljblfenpeaaHFnExactTwinOfx4
import Derived.Test.YtoniljblfenpeaaHFnExactTwinOfx5
namespace Go.Proofs.Ytoniljblfenpeaa.PFnExactTwinOf
open Go.RowKit Go.Proofs.YtoniljblfenpeaaW.PrintWords Go.Proofs.YtoniljblfenpeaaW.PrintLast Go.Proofs.YtoniljblfenpeaaW.PrintMore
attribute [local go_sem] max2_int min2_int max_two min_two max_three min_three max_four min_four   -- for this text's walks alone
set_option linter.unusedVariables false
set_option linter.unusedSimpArgs false

/-! ### spec_SameVerdicts: function 55 -/
def spec_SameVerdicts.l0 : Nat → List (List Int) → List Int → List Int → Int → Option (Bool)
  | 0, _, _, _, _ => none
  | k + 1, x0, x1, x2, x7 => if x7 < (x0.length : Int) then (if 0 ≤ x7 then ((spec_FailsWith.f k (rd_L1 x0 x7) x1).bind fun t185 => ((spec_FailsWith.f k (rd_L1 x0 x7) x2).bind fun t187 => (if (t185 != t187) = true then (some false) else (spec_SameVerdicts.l0 k x0 x1 x2 (wrap64 (x7 + 1)))))) else (none)) else (some true)
def spec_SameVerdicts.f (k : Nat) (l0 : List (List Int)) (l1 : List Int) (l2 : List Int) : Option (Bool) := spec_SameVerdicts.l0 k l0 l1 l2 0
theorem spec_SameVerdicts.mono_l : ∀ k, (∀ y0 y1 y2 y3, LeO (spec_SameVerdicts.l0 k y0 y1 y2 y3) (spec_SameVerdicts.l0 (k + 1) y0 y1 y2 y3))
  | 0 => fun _ _ _ _ r h => by simp [spec_SameVerdicts.l0] at h
  | k + 1 => by
    have ih0 := spec_SameVerdicts.mono_l k
    · intro y0 y1 y2 y3
      unfold spec_SameVerdicts.l0
      repeat' first
      | (with_reducible exact ih0 _ _ _ _)
      | (with_reducible exact spec_FailsWith.mono _ _ _)
      | (with_reducible exact LeO.refl _)
      | (with_reducible exact LeO.none _)
      | (with_reducible refine LeO.ite ?_ ?_)
      | (with_reducible refine LeO.bind ?_ (fun _ => ?_))
      | exact ih0 _ _ _ _
      | exact spec_FailsWith.mono _ _ _
      | exact LeO.none _
      | refine LeO.ite ?_ ?_
      | refine LeO.bind ?_ (fun _ => ?_)
theorem spec_SameVerdicts.mono : ∀ a0 a1 a2 k, LeO (spec_SameVerdicts.f k a0 a1 a2) (spec_SameVerdicts.f (k + 1) a0 a1 a2) := by
  intro a0 a1 a2 k
  have ih0 := spec_SameVerdicts.mono_l k
  unfold spec_SameVerdicts.f
  repeat' first
      | (with_reducible exact ih0 _ _ _ _)
      | (with_reducible exact spec_FailsWith.mono _ _ _)
      | (with_reducible exact LeO.refl _)
      | (with_reducible exact LeO.none _)
      | (with_reducible refine LeO.ite ?_ ?_)
      | (with_reducible refine LeO.bind ?_ (fun _ => ?_))
      | exact ih0 _ _ _ _
      | exact spec_FailsWith.mono _ _ _
      | exact LeO.none _
      | refine LeO.ite ?_ ?_
      | refine LeO.bind ?_ (fun _ => ?_)
set_option maxHeartbeats 8000000 in
set_option maxRecDepth 100000 in
theorem spec_SameVerdicts.calls (k : Nat) (A0 : Option Addr) (c0 : Nat) (l0 : List (List Int)) (A1 : Option Addr) (c1 : Nat) (l1 : List Int) (A2 : Option Addr) (c2 : Nat) (l2 : List Int) (r : Bool) (w : World) (hr0 : Kd.C (Kd.slice 3 (Kd.int .i64)) w A0 l0.length l0) (hc0 : l0.length ≤ c0) (hr1 : Kd.C (Kd.int .i64) w A1 l1.length l1) (hc1 : l1.length ≤ c1) (hr2 : Kd.C (Kd.int .i64) w A2 l2.length l2) (hc2 : l2.length ≤ c2) (h : spec_SameVerdicts.f k l0 l1 l2 = some r) :
    Calls Try.prog 55 #[.slice A0 l0.length c0, .slice A1 l1.length c1, .slice A2 l2.length c2] w fun e w' => e = .returned (.bool r) ∧ Drawn0 w w' := by
  have HR0 := Aside0.mk hr0
  have HC0 := Aside0.mk hc0
  clear hr0 hc0
  have HR1 := Aside0.mk hr1
  have HC1 := Aside0.mk hc1
  clear hr1 hc1
  have HR2 := Aside0.mk hr2
  have HC2 := Aside0.mk hc2
  clear hr2 hc2
  have H : (spec_SameVerdicts.l0 k l0 l1 l2 0) = some r := h
  clear h
  have H' := Aside0.mk H
  clear H
  go_enter Try.func55, Try.ntmps55
  go_wp2
  repeat (go_quiet (fail); try go_wp2)
  go_loopg [7] k (fun kq v7 w' => ∃ (x7_1 : Int), v7 = .int .i64 x7_1 ∧ Aside0 (spec_SameVerdicts.l0 kq l0 l1 l2 x7_1 = some r) ∧ Aside0 (kq ≤ k) ∧ Drawn0 w w')
  case atStart => exact ⟨(0), (by first | rfl | (simp; done) | (simp [*]; done)), H', ⟨Nat.le_refl _⟩, by repeat (first | exact Drawn0.refl _ | apply Drawn0.step)⟩
  case round =>
    clear H'
    try clear c1
    try clear c2
    try clear p2
    obtain ⟨x7_1, rfl, HA, HK1, ⟨m1, rfl⟩⟩ := hrel
    cases gk with
    | zero => exact absurd HA.out (by simp [spec_SameVerdicts.l0])
    | succ k1 =>
      have H := HA.out
      clear HA
      simp only [spec_SameVerdicts.l0] at H
      by_cases c4 : x7_1 < (l0.length : Int)
      · rw [if_pos c4] at H
        have c4b0 : decide (x7_1 < (l0.length : Int)) = true := decide_eq_true c4
        clear c4
        by_cases c5 : 0 ≤ x7_1
        · rw [if_pos c5] at H
          have c5b0 : decide (0 ≤ x7_1) = true := decide_eq_true c5
          clear c5
          replace H := Option.bind_eq_some_iff.mp H
          obtain ⟨t185, A60, H⟩ := H
          replace H : ((spec_FailsWith.f k1 (rd_L1 l0 x7_1) l2).bind fun t187 => (if (t185 != t187) = true then (some false) else (spec_SameVerdicts.l0 k1 l0 l1 l2 (wrap64 (x7_1 + 1))))) = some r := H
          have A6 := Aside0.mk A60
          clear A60
          replace H := Option.bind_eq_some_iff.mp H
          obtain ⟨t187, A70, H⟩ := H
          replace H : (if (t185 != t187) = true then (some false) else (spec_SameVerdicts.l0 k1 l0 l1 l2 (wrap64 (x7_1 + 1)))) = some r := H
          have A7 := Aside0.mk A70
          clear A70
          by_cases c8 : (t185 != t187) = true
          · rw [if_pos c8] at H
            have c8b0 : (t185 != t187) = true := c8
            (try (have c8b1 : decide (t185 = t187) = false := by simpa using c8))
            (try (have c8b2 : (t185 == t187) = false := by simpa using c8))
            (try (have c8b3 : ¬ (t185 = t187) := by simpa using c8))
            clear c8
            obtain rfl := Option.some.inj H
            have p184 : 0 ≤ (x7_1 : Int) := of_decide_eq_true (by first | (with_reducible assumption) | assumption)
            have q184 : x7_1 < (l0.length : Int) := of_decide_eq_true (by first | (with_reducible assumption) | assumption)
            obtain ⟨ad184, A184_0, c184_0, e184, hx184_0, hl184_0, hi184_0⟩ := at_L1 HR0.out x7_1 p184 q184
            cases e184
            have HR184_0 := Aside0.mk hi184_0
            have HC184_0 := Aside0.mk hl184_0
            clear hi184_0 hl184_0
            replace p184 := eq_true p184
            replace q184 := eq_true q184
            go_wp2_with (first | (go_at_call 75; (with_reducible refine (spec_FailsWith.calls k1 _ _ (rd_L1 l0 x7_1) _ _ l1 t185 _ ?side1 ?side2 ?side3 ?side4 A6.out).mono ?_); (case side1 => repeat (first | exact HR184_0.out | (with_reducible refine Kd.C_alloc ?_ _) | (with_reducible refine Kd.C_drewN ?_ _) | (with_reducible refine Kd.C_drew ?_))); (case side2 => exact HC184_0.out); (case side3 => repeat (first | exact HR1.out | (with_reducible refine Kd.C_alloc ?_ _) | (with_reducible refine Kd.C_drewN ?_ _) | (with_reducible refine Kd.C_drew ?_))); (case side4 => exact HC1.out); rintro e w' ⟨rfl, ⟨nd, rfl⟩⟩; (try first | exact ⟨rfl, _, World.drewN_drewN _ _ _⟩ | exact ⟨rfl, _, Eq.trans (World.drewN_drewN _ _ _) (congrArg (World.drewN _) (Nat.add_assoc _ _ _))⟩); have p186 : 0 ≤ (x7_1 : Int) := of_decide_eq_true (by first | (with_reducible assumption) | assumption); have q186 : x7_1 < (l0.length : Int) := of_decide_eq_true (by first | (with_reducible assumption) | assumption); obtain ⟨ad186, A186_0, c186_0, e186, hx186_0, hl186_0, hi186_0⟩ := at_L1 HR0.out x7_1 p186 q186; obtain rfl : ad184 = ad186 := (by injection e186); have HR186_0 := Aside0.mk hi186_0; have HC186_0 := Aside0.mk hl186_0; clear hi186_0 hl186_0; replace p186 := eq_true p186; replace q186 := eq_true q186; have ea_ := Option.some.inj (hx184_0.symm.trans hx186_0); injection ea_ with ea_ en_ ec_; subst ea_; subst ec_; clear en_) | (go_at_call 75; (with_reducible refine (spec_FailsWith.calls k1 _ _ (rd_L1 l0 x7_1) _ _ l2 t187 _ ?side1 ?side2 ?side3 ?side4 A7.out).mono ?_); (case side1 => repeat (first | exact HR186_0.out | (with_reducible refine Kd.C_alloc ?_ _) | (with_reducible refine Kd.C_drewN ?_ _) | (with_reducible refine Kd.C_drew ?_))); (case side2 => exact HC186_0.out); (case side3 => repeat (first | exact HR2.out | (with_reducible refine Kd.C_alloc ?_ _) | (with_reducible refine Kd.C_drewN ?_ _) | (with_reducible refine Kd.C_drew ?_))); (case side4 => exact HC2.out); rintro e w' ⟨rfl, ⟨nd, rfl⟩⟩; (try first | exact ⟨rfl, _, World.drewN_drewN _ _ _⟩ | exact ⟨rfl, _, Eq.trans (World.drewN_drewN _ _ _) (congrArg (World.drewN _) (Nat.add_assoc _ _ _))⟩)))
            repeat (go_quiet (first | (go_at_call 75; (with_reducible refine (spec_FailsWith.calls k1 _ _ (rd_L1 l0 x7_1) _ _ l1 t185 _ ?side1 ?side2 ?side3 ?side4 A6.out).mono ?_); (case side1 => repeat (first | exact HR184_0.out | (with_reducible refine Kd.C_alloc ?_ _) | (with_reducible refine Kd.C_drewN ?_ _) | (with_reducible refine Kd.C_drew ?_))); (case side2 => exact HC184_0.out); (case side3 => repeat (first | exact HR1.out | (with_reducible refine Kd.C_alloc ?_ _) | (with_reducible refine Kd.C_drewN ?_ _) | (with_reducible refine Kd.C_drew ?_))); (case side4 => exact HC1.out); rintro e w' ⟨rfl, ⟨nd, rfl⟩⟩; (try first | exact ⟨rfl, _, World.drewN_drewN _ _ _⟩ | exact ⟨rfl, _, Eq.trans (World.drewN_drewN _ _ _) (congrArg (World.drewN _) (Nat.add_assoc _ _ _))⟩); have p186 : 0 ≤ (x7_1 : Int) := of_decide_eq_true (by first | (with_reducible assumption) | assumption); have q186 : x7_1 < (l0.length : Int) := of_decide_eq_true (by first | (with_reducible assumption) | assumption); obtain ⟨ad186, A186_0, c186_0, e186, hx186_0, hl186_0, hi186_0⟩ := at_L1 HR0.out x7_1 p186 q186; obtain rfl : ad184 = ad186 := (by injection e186); have HR186_0 := Aside0.mk hi186_0; have HC186_0 := Aside0.mk hl186_0; clear hi186_0 hl186_0; replace p186 := eq_true p186; replace q186 := eq_true q186; have ea_ := Option.some.inj (hx184_0.symm.trans hx186_0); injection ea_ with ea_ en_ ec_; subst ea_; subst ec_; clear en_) | (go_at_call 75; (with_reducible refine (spec_FailsWith.calls k1 _ _ (rd_L1 l0 x7_1) _ _ l2 t187 _ ?side1 ?side2 ?side3 ?side4 A7.out).mono ?_); (case side1 => repeat (first | exact HR186_0.out | (with_reducible refine Kd.C_alloc ?_ _) | (with_reducible refine Kd.C_drewN ?_ _) | (with_reducible refine Kd.C_drew ?_))); (case side2 => exact HC186_0.out); (case side3 => repeat (first | exact HR2.out | (with_reducible refine Kd.C_alloc ?_ _) | (with_reducible refine Kd.C_drewN ?_ _) | (with_reducible refine Kd.C_drew ?_))); (case side4 => exact HC2.out); rintro e w' ⟨rfl, ⟨nd, rfl⟩⟩; (try first | exact ⟨rfl, _, World.drewN_drewN _ _ _⟩ | exact ⟨rfl, _, Eq.trans (World.drewN_drewN _ _ _) (congrArg (World.drewN _) (Nat.add_assoc _ _ _))⟩))); try go_wp2_with (first | (go_at_call 75; (with_reducible refine (spec_FailsWith.calls k1 _ _ (rd_L1 l0 x7_1) _ _ l1 t185 _ ?side1 ?side2 ?side3 ?side4 A6.out).mono ?_); (case side1 => repeat (first | exact HR184_0.out | (with_reducible refine Kd.C_alloc ?_ _) | (with_reducible refine Kd.C_drewN ?_ _) | (with_reducible refine Kd.C_drew ?_))); (case side2 => exact HC184_0.out); (case side3 => repeat (first | exact HR1.out | (with_reducible refine Kd.C_alloc ?_ _) | (with_reducible refine Kd.C_drewN ?_ _) | (with_reducible refine Kd.C_drew ?_))); (case side4 => exact HC1.out); rintro e w' ⟨rfl, ⟨nd, rfl⟩⟩; (try first | exact ⟨rfl, _, World.drewN_drewN _ _ _⟩ | exact ⟨rfl, _, Eq.trans (World.drewN_drewN _ _ _) (congrArg (World.drewN _) (Nat.add_assoc _ _ _))⟩); have p186 : 0 ≤ (x7_1 : Int) := of_decide_eq_true (by first | (with_reducible assumption) | assumption); have q186 : x7_1 < (l0.length : Int) := of_decide_eq_true (by first | (with_reducible assumption) | assumption); obtain ⟨ad186, A186_0, c186_0, e186, hx186_0, hl186_0, hi186_0⟩ := at_L1 HR0.out x7_1 p186 q186; obtain rfl : ad184 = ad186 := (by injection e186); have HR186_0 := Aside0.mk hi186_0; have HC186_0 := Aside0.mk hl186_0; clear hi186_0 hl186_0; replace p186 := eq_true p186; replace q186 := eq_true q186; have ea_ := Option.some.inj (hx184_0.symm.trans hx186_0); injection ea_ with ea_ en_ ec_; subst ea_; subst ec_; clear en_) | (go_at_call 75; (with_reducible refine (spec_FailsWith.calls k1 _ _ (rd_L1 l0 x7_1) _ _ l2 t187 _ ?side1 ?side2 ?side3 ?side4 A7.out).mono ?_); (case side1 => repeat (first | exact HR186_0.out | (with_reducible refine Kd.C_alloc ?_ _) | (with_reducible refine Kd.C_drewN ?_ _) | (with_reducible refine Kd.C_drew ?_))); (case side2 => exact HC186_0.out); (case side3 => repeat (first | exact HR2.out | (with_reducible refine Kd.C_alloc ?_ _) | (with_reducible refine Kd.C_drewN ?_ _) | (with_reducible refine Kd.C_drew ?_))); (case side4 => exact HC2.out); rintro e w' ⟨rfl, ⟨nd, rfl⟩⟩; (try first | exact ⟨rfl, _, World.drewN_drewN _ _ _⟩ | exact ⟨rfl, _, Eq.trans (World.drewN_drewN _ _ _) (congrArg (World.drewN _) (Nat.add_assoc _ _ _))⟩))))
            go_ret
            exact ⟨by first | rfl | (simp; done) | (simp [*]; done), by repeat (first | exact Drawn0.refl _ | apply Drawn0.step)⟩
          · rw [if_neg c8] at H
            have c8b0 : (t185 != t187) = false := by simpa using c8
            (try (have c8b1 : decide (t185 = t187) = true := by simpa using c8))
            (try (have c8b2 : (t185 == t187) = true := by simpa using c8))
            clear c8
            have H' := Aside0.mk H
            clear H
            have p184 : 0 ≤ (x7_1 : Int) := of_decide_eq_true (by first | (with_reducible assumption) | assumption)
            have q184 : x7_1 < (l0.length : Int) := of_decide_eq_true (by first | (with_reducible assumption) | assumption)
            obtain ⟨ad184, A184_0, c184_0, e184, hx184_0, hl184_0, hi184_0⟩ := at_L1 HR0.out x7_1 p184 q184
            cases e184
            have HR184_0 := Aside0.mk hi184_0
            have HC184_0 := Aside0.mk hl184_0
            clear hi184_0 hl184_0
            replace p184 := eq_true p184
            replace q184 := eq_true q184
            go_wp2_with (first | (go_at_call 75; (with_reducible refine (spec_FailsWith.calls k1 _ _ (rd_L1 l0 x7_1) _ _ l1 t185 _ ?side1 ?side2 ?side3 ?side4 A6.out).mono ?_); (case side1 => repeat (first | exact HR184_0.out | (with_reducible refine Kd.C_alloc ?_ _) | (with_reducible refine Kd.C_drewN ?_ _) | (with_reducible refine Kd.C_drew ?_))); (case side2 => exact HC184_0.out); (case side3 => repeat (first | exact HR1.out | (with_reducible refine Kd.C_alloc ?_ _) | (with_reducible refine Kd.C_drewN ?_ _) | (with_reducible refine Kd.C_drew ?_))); (case side4 => exact HC1.out); rintro e w' ⟨rfl, ⟨nd, rfl⟩⟩; (try first | exact ⟨rfl, _, World.drewN_drewN _ _ _⟩ | exact ⟨rfl, _, Eq.trans (World.drewN_drewN _ _ _) (congrArg (World.drewN _) (Nat.add_assoc _ _ _))⟩); have p186 : 0 ≤ (x7_1 : Int) := of_decide_eq_true (by first | (with_reducible assumption) | assumption); have q186 : x7_1 < (l0.length : Int) := of_decide_eq_true (by first | (with_reducible assumption) | assumption); obtain ⟨ad186, A186_0, c186_0, e186, hx186_0, hl186_0, hi186_0⟩ := at_L1 HR0.out x7_1 p186 q186; obtain rfl : ad184 = ad186 := (by injection e186); have HR186_0 := Aside0.mk hi186_0; have HC186_0 := Aside0.mk hl186_0; clear hi186_0 hl186_0; replace p186 := eq_true p186; replace q186 := eq_true q186; have ea_ := Option.some.inj (hx184_0.symm.trans hx186_0); injection ea_ with ea_ en_ ec_; subst ea_; subst ec_; clear en_) | (go_at_call 75; (with_reducible refine (spec_FailsWith.calls k1 _ _ (rd_L1 l0 x7_1) _ _ l2 t187 _ ?side1 ?side2 ?side3 ?side4 A7.out).mono ?_); (case side1 => repeat (first | exact HR186_0.out | (with_reducible refine Kd.C_alloc ?_ _) | (with_reducible refine Kd.C_drewN ?_ _) | (with_reducible refine Kd.C_drew ?_))); (case side2 => exact HC186_0.out); (case side3 => repeat (first | exact HR2.out | (with_reducible refine Kd.C_alloc ?_ _) | (with_reducible refine Kd.C_drewN ?_ _) | (with_reducible refine Kd.C_drew ?_))); (case side4 => exact HC2.out); rintro e w' ⟨rfl, ⟨nd, rfl⟩⟩; (try first | exact ⟨rfl, _, World.drewN_drewN _ _ _⟩ | exact ⟨rfl, _, Eq.trans (World.drewN_drewN _ _ _) (congrArg (World.drewN _) (Nat.add_assoc _ _ _))⟩)))
            repeat (go_quiet (first | (go_at_call 75; (with_reducible refine (spec_FailsWith.calls k1 _ _ (rd_L1 l0 x7_1) _ _ l1 t185 _ ?side1 ?side2 ?side3 ?side4 A6.out).mono ?_); (case side1 => repeat (first | exact HR184_0.out | (with_reducible refine Kd.C_alloc ?_ _) | (with_reducible refine Kd.C_drewN ?_ _) | (with_reducible refine Kd.C_drew ?_))); (case side2 => exact HC184_0.out); (case side3 => repeat (first | exact HR1.out | (with_reducible refine Kd.C_alloc ?_ _) | (with_reducible refine Kd.C_drewN ?_ _) | (with_reducible refine Kd.C_drew ?_))); (case side4 => exact HC1.out); rintro e w' ⟨rfl, ⟨nd, rfl⟩⟩; (try first | exact ⟨rfl, _, World.drewN_drewN _ _ _⟩ | exact ⟨rfl, _, Eq.trans (World.drewN_drewN _ _ _) (congrArg (World.drewN _) (Nat.add_assoc _ _ _))⟩); have p186 : 0 ≤ (x7_1 : Int) := of_decide_eq_true (by first | (with_reducible assumption) | assumption); have q186 : x7_1 < (l0.length : Int) := of_decide_eq_true (by first | (with_reducible assumption) | assumption); obtain ⟨ad186, A186_0, c186_0, e186, hx186_0, hl186_0, hi186_0⟩ := at_L1 HR0.out x7_1 p186 q186; obtain rfl : ad184 = ad186 := (by injection e186); have HR186_0 := Aside0.mk hi186_0; have HC186_0 := Aside0.mk hl186_0; clear hi186_0 hl186_0; replace p186 := eq_true p186; replace q186 := eq_true q186; have ea_ := Option.some.inj (hx184_0.symm.trans hx186_0); injection ea_ with ea_ en_ ec_; subst ea_; subst ec_; clear en_) | (go_at_call 75; (with_reducible refine (spec_FailsWith.calls k1 _ _ (rd_L1 l0 x7_1) _ _ l2 t187 _ ?side1 ?side2 ?side3 ?side4 A7.out).mono ?_); (case side1 => repeat (first | exact HR186_0.out | (with_reducible refine Kd.C_alloc ?_ _) | (with_reducible refine Kd.C_drewN ?_ _) | (with_reducible refine Kd.C_drew ?_))); (case side2 => exact HC186_0.out); (case side3 => repeat (first | exact HR2.out | (with_reducible refine Kd.C_alloc ?_ _) | (with_reducible refine Kd.C_drewN ?_ _) | (with_reducible refine Kd.C_drew ?_))); (case side4 => exact HC2.out); rintro e w' ⟨rfl, ⟨nd, rfl⟩⟩; (try first | exact ⟨rfl, _, World.drewN_drewN _ _ _⟩ | exact ⟨rfl, _, Eq.trans (World.drewN_drewN _ _ _) (congrArg (World.drewN _) (Nat.add_assoc _ _ _))⟩))); try go_wp2_with (first | (go_at_call 75; (with_reducible refine (spec_FailsWith.calls k1 _ _ (rd_L1 l0 x7_1) _ _ l1 t185 _ ?side1 ?side2 ?side3 ?side4 A6.out).mono ?_); (case side1 => repeat (first | exact HR184_0.out | (with_reducible refine Kd.C_alloc ?_ _) | (with_reducible refine Kd.C_drewN ?_ _) | (with_reducible refine Kd.C_drew ?_))); (case side2 => exact HC184_0.out); (case side3 => repeat (first | exact HR1.out | (with_reducible refine Kd.C_alloc ?_ _) | (with_reducible refine Kd.C_drewN ?_ _) | (with_reducible refine Kd.C_drew ?_))); (case side4 => exact HC1.out); rintro e w' ⟨rfl, ⟨nd, rfl⟩⟩; (try first | exact ⟨rfl, _, World.drewN_drewN _ _ _⟩ | exact ⟨rfl, _, Eq.trans (World.drewN_drewN _ _ _) (congrArg (World.drewN _) (Nat.add_assoc _ _ _))⟩); have p186 : 0 ≤ (x7_1 : Int) := of_decide_eq_true (by first | (with_reducible assumption) | assumption); have q186 : x7_1 < (l0.length : Int) := of_decide_eq_true (by first | (with_reducible assumption) | assumption); obtain ⟨ad186, A186_0, c186_0, e186, hx186_0, hl186_0, hi186_0⟩ := at_L1 HR0.out x7_1 p186 q186; obtain rfl : ad184 = ad186 := (by injection e186); have HR186_0 := Aside0.mk hi186_0; have HC186_0 := Aside0.mk hl186_0; clear hi186_0 hl186_0; replace p186 := eq_true p186; replace q186 := eq_true q186; have ea_ := Option.some.inj (hx184_0.symm.trans hx186_0); injection ea_ with ea_ en_ ec_; subst ea_; subst ec_; clear en_) | (go_at_call 75; (with_reducible refine (spec_FailsWith.calls k1 _ _ (rd_L1 l0 x7_1) _ _ l2 t187 _ ?side1 ?side2 ?side3 ?side4 A7.out).mono ?_); (case side1 => repeat (first | exact HR186_0.out | (with_reducible refine Kd.C_alloc ?_ _) | (with_reducible refine Kd.C_drewN ?_ _) | (with_reducible refine Kd.C_drew ?_))); (case side2 => exact HC186_0.out); (case side3 => repeat (first | exact HR2.out | (with_reducible refine Kd.C_alloc ?_ _) | (with_reducible refine Kd.C_drewN ?_ _) | (with_reducible refine Kd.C_drew ?_))); (case side4 => exact HC2.out); rintro e w' ⟨rfl, ⟨nd, rfl⟩⟩; (try first | exact ⟨rfl, _, World.drewN_drewN _ _ _⟩ | exact ⟨rfl, _, Eq.trans (World.drewN_drewN _ _ _) (congrArg (World.drewN _) (Nat.add_assoc _ _ _))⟩))))
            go_roundg k1
            case measure => have := HK1.out; omega
            case rel => exact ⟨(wrap64 (x7_1 + 1)), (by first | rfl | (simp; done) | (simp [*]; done)), H', ⟨by have := HK1.out; omega⟩, by repeat (first | exact Drawn0.refl _ | apply Drawn0.step)⟩
        · rw [if_neg c5] at H
          exact absurd H (by simp)
      · rw [if_neg c4] at H
        have c4b0 : decide (x7_1 < (l0.length : Int)) = false := decide_eq_false c4
        clear c4
        obtain rfl := Option.some.inj H
        go_wp2
        repeat (go_quiet (fail); try go_wp2)
        go_ret
        exact ⟨by first | rfl | (simp; done) | (simp [*]; done), by repeat (first | exact Drawn0.refl _ | apply Drawn0.step)⟩

/-! ### spec_EqualInts: function 67 -/
def spec_EqualInts.l0 : Nat → List Int → List Int → Int → Option (Bool)
  | 0, _, _, _ => none
  | k + 1, x0, x1, x5 => if x5 < (x0.length : Int) then (if 0 ≤ x5 then (if x5 < (x1.length : Int) then (if (rd x0 x5) = (rd x1 x5) then (spec_EqualInts.l0 k x0 x1 (wrap64 (x5 + 1))) else (some false)) else (none)) else (none)) else (some true)
def spec_EqualInts.f (k : Nat) (l0 : List Int) (l1 : List Int) : Option (Bool) := if (l0.length : Int) = (l1.length : Int) then (spec_EqualInts.l0 k l0 l1 0) else (some false)
theorem spec_EqualInts.mono_l : ∀ k, (∀ y0 y1 y2, LeO (spec_EqualInts.l0 k y0 y1 y2) (spec_EqualInts.l0 (k + 1) y0 y1 y2))
  | 0 => fun _ _ _ r h => by simp [spec_EqualInts.l0] at h
  | k + 1 => by
    have ih0 := spec_EqualInts.mono_l k
    · intro y0 y1 y2
      unfold spec_EqualInts.l0
      repeat' first
      | (with_reducible exact ih0 _ _ _)
      | (with_reducible exact LeO.refl _)
      | (with_reducible exact LeO.none _)
      | (with_reducible refine LeO.ite ?_ ?_)
      | (with_reducible refine LeO.bind ?_ (fun _ => ?_))
      | exact ih0 _ _ _
      | exact LeO.none _
      | refine LeO.ite ?_ ?_
      | refine LeO.bind ?_ (fun _ => ?_)
theorem spec_EqualInts.mono : ∀ a0 a1 k, LeO (spec_EqualInts.f k a0 a1) (spec_EqualInts.f (k + 1) a0 a1) := by
  intro a0 a1 k
  have ih0 := spec_EqualInts.mono_l k
  unfold spec_EqualInts.f
  repeat' first
      | (with_reducible exact ih0 _ _ _)
      | (with_reducible exact LeO.refl _)
      | (with_reducible exact LeO.none _)
      | (with_reducible refine LeO.ite ?_ ?_)
      | (with_reducible refine LeO.bind ?_ (fun _ => ?_))
      | exact ih0 _ _ _
      | exact LeO.none _
      | refine LeO.ite ?_ ?_
      | refine LeO.bind ?_ (fun _ => ?_)
set_option maxHeartbeats 8000000 in
set_option maxRecDepth 100000 in
theorem spec_EqualInts.calls (k : Nat) (A0 : Option Addr) (c0 : Nat) (l0 : List Int) (A1 : Option Addr) (c1 : Nat) (l1 : List Int) (r : Bool) (w : World) (hr0 : Kd.C (Kd.int .i64) w A0 l0.length l0) (hc0 : l0.length ≤ c0) (hr1 : Kd.C (Kd.int .i64) w A1 l1.length l1) (hc1 : l1.length ≤ c1) (h : spec_EqualInts.f k l0 l1 = some r) :
    Calls Try.prog 67 #[.slice A0 l0.length c0, .slice A1 l1.length c1] w fun e w' => e = .returned (.bool r) ∧ Drawn0 w w' := by
  have HR0 := Aside0.mk hr0
  have HC0 := Aside0.mk hc0
  clear hr0 hc0
  have HR1 := Aside0.mk hr1
  have HC1 := Aside0.mk hc1
  clear hr1 hc1
  have H : (if (l0.length : Int) = (l1.length : Int) then (spec_EqualInts.l0 k l0 l1 0) else (some false)) = some r := h
  clear h
  by_cases c3 : (l0.length : Int) = (l1.length : Int)
  · rw [if_pos c3] at H
    have c3b0 : ((l0.length : Int) == (l1.length : Int)) = true := beq_iff_eq.mpr c3
    have c3b1 : ((l0.length : Int) != (l1.length : Int)) = false := bne_eq_false_iff_eq.mpr c3
    have c3b2 : (l0.length == l1.length) = true := by first | simpa using c3 | (simp at c3 ⊢; omega)
    clear c3
    have H' := Aside0.mk H
    clear H
    go_enter Try.func67, Try.ntmps67
    go_wp2
    repeat (go_quiet (fail); try go_wp2)
    go_loopg [5] k (fun kq v5 w' => ∃ (x5_1 : Int), v5 = .int .i64 x5_1 ∧ Aside0 (spec_EqualInts.l0 kq l0 l1 x5_1 = some r) ∧ Aside0 (kq ≤ k) ∧ Drawn0 w w')
    case atStart => exact ⟨(0), (by first | rfl | (simp; done) | (simp [*]; done)), H', ⟨Nat.le_refl _⟩, by repeat (first | exact Drawn0.refl _ | apply Drawn0.step)⟩
    case round =>
      clear H'
      try clear c1
      try clear p2
      try clear c3
      try clear c3b0
      try clear c3b1
      try clear c3b2
      obtain ⟨x5_1, rfl, HA, HK1, ⟨m1, rfl⟩⟩ := hrel
      cases gk with
      | zero => exact absurd HA.out (by simp [spec_EqualInts.l0])
      | succ k1 =>
        have H := HA.out
        clear HA
        simp only [spec_EqualInts.l0] at H
        by_cases c4 : x5_1 < (l0.length : Int)
        · rw [if_pos c4] at H
          have c4b0 : decide (x5_1 < (l0.length : Int)) = true := decide_eq_true c4
          clear c4
          by_cases c5 : 0 ≤ x5_1
          · rw [if_pos c5] at H
            have c5b0 : decide (0 ≤ x5_1) = true := decide_eq_true c5
            clear c5
            by_cases c6 : x5_1 < (l1.length : Int)
            · rw [if_pos c6] at H
              have c6b0 : decide (x5_1 < (l1.length : Int)) = true := decide_eq_true c6
              clear c6
              by_cases c7 : (rd l0 x5_1) = (rd l1 x5_1)
              · rw [if_pos c7] at H
                have c7b0 : ((rd l0 x5_1) == (rd l1 x5_1)) = true := beq_iff_eq.mpr c7
                have c7b1 : ((rd l0 x5_1) != (rd l1 x5_1)) = false := bne_eq_false_iff_eq.mpr c7
                clear c7
                have H' := Aside0.mk H
                clear H
                have p188 : 0 ≤ (x5_1 : Int) := of_decide_eq_true (by first | (with_reducible assumption) | assumption)
                have q188 : x5_1 < (l0.length : Int) := of_decide_eq_true (by first | (with_reducible assumption) | assumption)
                obtain ⟨ad188, e188, hx188_0⟩ := Kd.at_int HR0.out x5_1 p188 q188
                cases e188
                replace p188 := eq_true p188
                replace q188 := eq_true q188
                have p189 : 0 ≤ (x5_1 : Int) := of_decide_eq_true (by first | (with_reducible assumption) | assumption)
                have q189 : x5_1 < (l1.length : Int) := of_decide_eq_true (by first | (with_reducible assumption) | assumption)
                obtain ⟨ad189, e189, hx189_0⟩ := Kd.at_int HR1.out x5_1 p189 q189
                cases e189
                replace p189 := eq_true p189
                replace q189 := eq_true q189
                go_wp2
                repeat (go_quiet (fail); try go_wp2)
                go_roundg k1
                case measure => have := HK1.out; omega
                case rel => exact ⟨(wrap64 (x5_1 + 1)), (by first | rfl | (simp; done) | (simp [*]; done)), H', ⟨by have := HK1.out; omega⟩, by repeat (first | exact Drawn0.refl _ | apply Drawn0.step)⟩
              · rw [if_neg c7] at H
                have c7b0 : ((rd l0 x5_1) == (rd l1 x5_1)) = false := beq_eq_false_iff_ne.mpr c7
                have c7b1 : ((rd l0 x5_1) != (rd l1 x5_1)) = true := bne_iff_ne.mpr c7
                obtain rfl := Option.some.inj H
                have p188 : 0 ≤ (x5_1 : Int) := of_decide_eq_true (by first | (with_reducible assumption) | assumption)
                have q188 : x5_1 < (l0.length : Int) := of_decide_eq_true (by first | (with_reducible assumption) | assumption)
                obtain ⟨ad188, e188, hx188_0⟩ := Kd.at_int HR0.out x5_1 p188 q188
                cases e188
                replace p188 := eq_true p188
                replace q188 := eq_true q188
                have p189 : 0 ≤ (x5_1 : Int) := of_decide_eq_true (by first | (with_reducible assumption) | assumption)
                have q189 : x5_1 < (l1.length : Int) := of_decide_eq_true (by first | (with_reducible assumption) | assumption)
                obtain ⟨ad189, e189, hx189_0⟩ := Kd.at_int HR1.out x5_1 p189 q189
                cases e189
                replace p189 := eq_true p189
                replace q189 := eq_true q189
                go_wp2
                repeat (go_quiet (fail); try go_wp2)
                go_ret
                exact ⟨by first | rfl | (simp; done) | (simp [*]; done), by repeat (first | exact Drawn0.refl _ | apply Drawn0.step)⟩
            · rw [if_neg c6] at H
              exact absurd H (by simp)
          · rw [if_neg c5] at H
            exact absurd H (by simp)
        · rw [if_neg c4] at H
          have c4b0 : decide (x5_1 < (l0.length : Int)) = false := decide_eq_false c4
          clear c4
          obtain rfl := Option.some.inj H
          go_wp2
          repeat (go_quiet (fail); try go_wp2)
          go_ret
          exact ⟨by first | rfl | (simp; done) | (simp [*]; done), by repeat (first | exact Drawn0.refl _ | apply Drawn0.step)⟩
  · rw [if_neg c3] at H
    have c3b0 : ((l0.length : Int) == (l1.length : Int)) = false := beq_eq_false_iff_ne.mpr c3
    have c3b1 : ((l0.length : Int) != (l1.length : Int)) = true := bne_iff_ne.mpr c3
    have c3b2 : (l0.length == l1.length) = false := by first | simpa using c3 | (simp at c3 ⊢; omega)
    obtain rfl := Option.some.inj H
    go_enter Try.func67, Try.ntmps67
    go_wp2
    repeat (go_quiet (fail); try go_wp2)
    go_ret
    exact ⟨by first | rfl | (simp; done) | (simp [*]; done), by repeat (first | exact Drawn0.refl _ | apply Drawn0.step)⟩

/-! ### spec_TwinOf: function 39 -/
mutual
def spec_TwinOf.j0 : Nat → List (List Int) → List Int → Int → Bool → Option (List Int × Bool)
  | 0, _, _, _, _ => none
  | k + 1, x0, x1, x2, x18 => if x18 = true then (some ((([] : List Int)), false)) else ((spec_l16Sets.f k x2 (x1.length : Int)).bind fun t195 => (spec_TwinOf.l0 k x0 x1 t195 0))
def spec_TwinOf.l0 : Nat → List (List Int) → List Int → List (List Int) → Int → Option (List Int × Bool)
  | 0, _, _, _, _ => none
  | k + 1, x0, x1, x8, x9 => if x9 < (x8.length : Int) then (if 0 ≤ x9 then ((spec_EqualInts.f k (rd_L1 x8 x9) x1).bind fun t202 => (if t202 = true then (spec_TwinOf.l0 k x0 x1 x8 (wrap64 (x9 + 1))) else ((spec_SameVerdicts.f k x0 (rd_L1 x8 x9) x1).bind fun t204 => (if t204 = true then ((some (([] : List Int) : List Int)).bind fun y205 => (if y205.length + (rd_L1 x8 x9).length < 17592186044416 then (some ((y205 ++ (rd_L1 x8 x9)), true)) else (none))) else (spec_TwinOf.l0 k x0 x1 x8 (wrap64 (x9 + 1))))))) else (none)) else (some ((([] : List Int)), false))
end
def spec_TwinOf.f (k : Nat) (l0 : List (List Int)) (l1 : List Int) (a2 : Int) : Option (List Int × Bool) := (spec_IsMatrix.f k l0 a2).bind fun t190 => (if t190 = true then ((spec_l15Bits.f k l0).bind fun t191 => (spec_TwinOf.j0 k l0 l1 a2 (!t191))) else (spec_TwinOf.j0 k l0 l1 a2 true))
theorem spec_TwinOf.mono_l : ∀ k, (∀ y0 y1 y2 y3, LeO (spec_TwinOf.j0 k y0 y1 y2 y3) (spec_TwinOf.j0 (k + 1) y0 y1 y2 y3)) ∧ (∀ y0 y1 y2 y3, LeO (spec_TwinOf.l0 k y0 y1 y2 y3) (spec_TwinOf.l0 (k + 1) y0 y1 y2 y3))
  | 0 => ⟨fun _ _ _ _ r h => by simp [spec_TwinOf.j0] at h, fun _ _ _ _ r h => by simp [spec_TwinOf.l0] at h⟩
  | k + 1 => by
    obtain ⟨ih0, ih1⟩ := spec_TwinOf.mono_l k
    refine ⟨?_, ?_⟩
    · intro y0 y1 y2 y3
      unfold spec_TwinOf.j0
      repeat' first
      | (with_reducible exact ih0 _ _ _ _)
      | (with_reducible exact ih1 _ _ _ _)
      | (with_reducible exact spec_EqualInts.mono _ _ _)
      | (with_reducible exact spec_IsMatrix.mono _ _ _)
      | (with_reducible exact spec_SameVerdicts.mono _ _ _ _)
      | (with_reducible exact spec_l15Bits.mono _ _)
      | (with_reducible exact spec_l16Sets.mono _ _ _)
      | (with_reducible exact LeO.refl _)
      | (with_reducible exact LeO.none _)
      | (with_reducible refine LeO.ite ?_ ?_)
      | (with_reducible refine LeO.bind ?_ (fun _ => ?_))
      | exact ih0 _ _ _ _
      | exact ih1 _ _ _ _
      | exact spec_EqualInts.mono _ _ _
      | exact spec_IsMatrix.mono _ _ _
      | exact spec_SameVerdicts.mono _ _ _ _
      | exact spec_l15Bits.mono _ _
      | exact spec_l16Sets.mono _ _ _
      | exact LeO.none _
      | refine LeO.ite ?_ ?_
      | refine LeO.bind ?_ (fun _ => ?_)
    · intro y0 y1 y2 y3
      unfold spec_TwinOf.l0
      repeat' first
      | (with_reducible exact ih0 _ _ _ _)
      | (with_reducible exact ih1 _ _ _ _)
      | (with_reducible exact spec_EqualInts.mono _ _ _)
      | (with_reducible exact spec_IsMatrix.mono _ _ _)
      | (with_reducible exact spec_SameVerdicts.mono _ _ _ _)
      | (with_reducible exact spec_l15Bits.mono _ _)
      | (with_reducible exact spec_l16Sets.mono _ _ _)
      | (with_reducible exact LeO.refl _)
      | (with_reducible exact LeO.none _)
      | (with_reducible refine LeO.ite ?_ ?_)
      | (with_reducible refine LeO.bind ?_ (fun _ => ?_))
      | exact ih0 _ _ _ _
      | exact ih1 _ _ _ _
      | exact spec_EqualInts.mono _ _ _
      | exact spec_IsMatrix.mono _ _ _
      | exact spec_SameVerdicts.mono _ _ _ _
      | exact spec_l15Bits.mono _ _
      | exact spec_l16Sets.mono _ _ _
      | exact LeO.none _
      | refine LeO.ite ?_ ?_
      | refine LeO.bind ?_ (fun _ => ?_)
theorem spec_TwinOf.mono : ∀ a0 a1 a2 k, LeO (spec_TwinOf.f k a0 a1 a2) (spec_TwinOf.f (k + 1) a0 a1 a2) := by
  intro a0 a1 a2 k
  obtain ⟨ih0, ih1⟩ := spec_TwinOf.mono_l k
  unfold spec_TwinOf.f
  repeat' first
      | (with_reducible exact ih0 _ _ _ _)
      | (with_reducible exact ih1 _ _ _ _)
      | (with_reducible exact spec_EqualInts.mono _ _ _)
      | (with_reducible exact spec_IsMatrix.mono _ _ _)
      | (with_reducible exact spec_SameVerdicts.mono _ _ _ _)
      | (with_reducible exact spec_l15Bits.mono _ _)
      | (with_reducible exact spec_l16Sets.mono _ _ _)
      | (with_reducible exact LeO.refl _)
      | (with_reducible exact LeO.none _)
      | (with_reducible refine LeO.ite ?_ ?_)
      | (with_reducible refine LeO.bind ?_ (fun _ => ?_))
      | exact ih0 _ _ _ _
      | exact ih1 _ _ _ _
      | exact spec_EqualInts.mono _ _ _
      | exact spec_IsMatrix.mono _ _ _
      | exact spec_SameVerdicts.mono _ _ _ _
      | exact spec_l15Bits.mono _ _
      | exact spec_l16Sets.mono _ _ _
      | exact LeO.none _
      | refine LeO.ite ?_ ?_
      | refine LeO.bind ?_ (fun _ => ?_)
set_option maxHeartbeats 8000000 in
set_option maxRecDepth 100000 in
theorem spec_TwinOf.calls (k : Nat) (A0 : Option Addr) (c0 : Nat) (l0 : List (List Int)) (A1 : Option Addr) (c1 : Nat) (l1 : List Int) (a2 : Int) (r1 : List Int) (r2 : Bool) (w : World) (hr0 : Kd.C (Kd.slice 3 (Kd.int .i64)) w A0 l0.length l0) (hc0 : l0.length ≤ c0) (hr1 : Kd.C (Kd.int .i64) w A1 l1.length l1) (hc1 : l1.length ≤ c1) (h : spec_TwinOf.f k l0 l1 a2 = some (r1, r2)) :
    Calls Try.prog 39 #[.slice A0 l0.length c0, .slice A1 l1.length c1, .int .i64 a2] w fun e w' => ∃ v0_ : Value, e = .returned (.tuple #[v0_, .bool r2]) ∧ Kd.R (Kd.int .i64) 3 w' w.heap.size (fun _ => True) v0_ r1 ∧ Below w.heap.size w w' := by
  have HR0 := Aside0.mk hr0
  have HC0 := Aside0.mk hc0
  clear hr0 hc0
  have HR1 := Aside0.mk hr1
  have HC1 := Aside0.mk hc1
  clear hr1 hc1
  have HB := Aside0.mk (Below.refl w.heap.size w)
  have H : ((spec_IsMatrix.f k l0 a2).bind fun t190 => (if t190 = true then ((spec_l15Bits.f k l0).bind fun t191 => (spec_TwinOf.j0 k l0 l1 a2 (!t191))) else (spec_TwinOf.j0 k l0 l1 a2 true))) = some (r1, r2) := h
  clear h
  have HC4 := Aside0.mk H
  clear H
  go_enter Try.func39, Try.ntmps39
  go_upto_region 1 with (fail)
  go_cut [18] (fun v18 wc => ∃ (kq : Nat) (x18_3 : Bool), v18 = .bool x18_3 ∧ Aside0 (spec_TwinOf.j0 kq l0 l1 a2 x18_3 = some (r1, r2)) ∧ Aside0 (kq ≤ k) ∧ Aside0 (Below w.heap.size w wc))
  case first =>
    have H := HC4.out
    clear HC4
    replace H := Option.bind_eq_some_iff.mp H
    obtain ⟨t190, A50, H⟩ := H
    replace H : (if t190 = true then ((spec_l15Bits.f k l0).bind fun t191 => (spec_TwinOf.j0 k l0 l1 a2 (!t191))) else (spec_TwinOf.j0 k l0 l1 a2 true)) = some (r1, r2) := H
    have A5 := Aside0.mk A50
    clear A50
    by_cases c6 : t190 = true
    · subst c6
      have H1 : ((spec_l15Bits.f k l0).bind fun t191 => (spec_TwinOf.j0 k l0 l1 a2 (!t191))) = some (r1, r2) := by rw [if_pos rfl] at H; exact H
      clear H
      have H := H1
      clear H1
      replace H := Option.bind_eq_some_iff.mp H
      obtain ⟨t191, A70, H⟩ := H
      replace H : (spec_TwinOf.j0 k l0 l1 a2 (!t191)) = some (r1, r2) := H
      have A7 := Aside0.mk A70
      clear A70
      have H' := Aside0.mk H
      clear H
      go_wp2_with (first | ((with_reducible refine gate_callee (f := 48) rfl ?_); refine goesL_ (some 12) rfl rfl Try.func48 (by kernel_rfl) rfl #[.slice A0 l0.length c0, .int .i64 a2] rfl (by (try simp only [List.map_toArray, List.map_cons, List.map_nil]); first | done | rfl | (simp only [List.length_drop, List.length_take]; rfl)) ?_; (with_reducible refine (spec_IsMatrix.calls k _ _ l0 a2 true _ ?side1 ?side2 A5.out).mono ?_); (case side1 => repeat (first | exact (Kd.C_below HR0.out HB.out) | (with_reducible refine Kd.C_alloc ?_ _) | (with_reducible refine Kd.C_drewN ?_ _) | (with_reducible refine Kd.C_drew ?_))); (case side2 => exact HC0.out); rintro e w' ⟨rfl, ⟨nd, rfl⟩⟩; refine ⟨_, rfl, ?_⟩) | (go_at_call 49; (with_reducible refine (spec_l15Bits.calls k _ _ l0 t191 _ ?side1 ?side2 A7.out).mono ?_); (case side1 => repeat (first | exact (Kd.C_below HR0.out (by repeat (first | (with_reducible first | exact HB.out | apply below_alloc | apply pw_below_drewN | apply below_drew1) | exact HB.out))) | (with_reducible refine Kd.C_alloc ?_ _) | (with_reducible refine Kd.C_drewN ?_ _) | (with_reducible refine Kd.C_drew ?_))); (case side2 => exact HC0.out); rintro e w' ⟨rfl, ⟨nd, rfl⟩⟩))
      go_meet
      case rel => exact ⟨_, (!t191), (by first | rfl | (simp; done) | (simp [*]; done)), H', ⟨by first | omega | exact Nat.le_refl _⟩, ⟨by repeat (first | (with_reducible first | exact HB.out | apply below_alloc | apply pw_below_drewN | apply below_drew1) | exact HB.out)⟩⟩
    · replace c6 := Bool.eq_false_iff.mpr c6
      subst c6
      have H1 : (spec_TwinOf.j0 k l0 l1 a2 true) = some (r1, r2) := by rw [if_neg (show ¬ (false = true) by decide)] at H; exact H
      clear H
      have H := H1
      clear H1
      have H' := Aside0.mk H
      clear H
      go_wp2_with (first | ((with_reducible refine gate_callee (f := 48) rfl ?_); refine goesL_ (some 12) rfl rfl Try.func48 (by kernel_rfl) rfl #[.slice A0 l0.length c0, .int .i64 a2] rfl (by (try simp only [List.map_toArray, List.map_cons, List.map_nil]); first | done | rfl | (simp only [List.length_drop, List.length_take]; rfl)) ?_; (with_reducible refine (spec_IsMatrix.calls k _ _ l0 a2 false _ ?side1 ?side2 A5.out).mono ?_); (case side1 => repeat (first | exact (Kd.C_below HR0.out HB.out) | (with_reducible refine Kd.C_alloc ?_ _) | (with_reducible refine Kd.C_drewN ?_ _) | (with_reducible refine Kd.C_drew ?_))); (case side2 => exact HC0.out); rintro e w' ⟨rfl, ⟨nd, rfl⟩⟩; refine ⟨_, rfl, ?_⟩))
      go_meet
      case rel => exact ⟨_, (true), (by first | rfl | (simp; done) | (simp [*]; done)), H', ⟨by first | omega | exact Nat.le_refl _⟩, ⟨by repeat (first | (with_reducible first | exact HB.out | apply below_alloc | apply pw_below_drewN | apply below_drew1) | exact HB.out)⟩⟩
  case rest =>
    clear HC4
    try clear c1
    try clear p2
    try clear c3
    try clear c4
    try clear c6
    obtain ⟨kq, x18_3, rfl, HA, HJ3, HB⟩ := hcut
    cases kq with
    | zero => exact absurd HA.out (by simp [spec_TwinOf.j0])
    | succ kj3 =>
      have H := HA.out
      clear HA
      simp only [spec_TwinOf.j0] at H
      by_cases c8 : x18_3 = true
      · subst c8
        have H1 : (some ((([] : List Int)), false)) = some (r1, r2) := by rw [if_pos rfl] at H; exact H
        clear H
        have H := H1
        clear H1
        obtain ⟨y192, hy192⟩ : ∃ y_ : List Int, y_ = (([] : List Int)) := ⟨_, rfl⟩
        replace H : (some (y192, false)) = some (r1, r2) := by first | (rw [hy192]; with_reducible exact H) | (have H2_ := (Option.bind_some _ _).symm.trans H; rw [hy192]; with_reducible exact H2_) | (have H2_ := (Option.bind_some _ _).symm.trans H; with_reducible exact H2_) | with_reducible exact H | (rw [hy192]; exact H) | exact H
        have Ny192 := Aside0.mk hy192
        clear hy192
        simp only [Option.some.injEq, Prod.mk.injEq] at H
        obtain ⟨rfl, rfl⟩ := H
        go_wp2_with (first | ((with_reducible refine gate_dst (N := 19) rfl ?_); refine Kd.R_lit (Kd.int .i64) _ 3 ?hg (N := 19) ?hd (xs := ([] : List Int)) (inner := []) (ok := fun _ => True) (okp := fun _ => True) ?hr ?hp (fun _ hk => hk) trivial (Below.refl _ _) (Nat.le_refl _) (by simp) ?_; (case hd => rfl); (case hg => rfl); (case hr => first | (go_simp; done) | (go_simp; rfl)); (case hp => exact (Reps.none _ _)); intro v193 w9 ho10 hb hg_ hnew_; clear hg_ hnew_; (first | rw [← Ny192.out] at ho10 | (simp only [Int.reduceToNat] at ho10; rw [← Ny192.out] at ho10)); have n0_ := Aside0.mk (Kd.R_lower ho10 (below_size (by repeat (first | (with_reducible first | exact HB.out | apply below_alloc | apply pw_below_drewN | apply below_drew1) | exact HB.out)))); have n1_ := Aside0.mk (below_step (by repeat (first | (with_reducible first | exact HB.out | apply below_alloc | apply pw_below_drewN | apply below_drew1) | exact HB.out)) hb); clear HB; have HO194 := n0_; have HB := n1_; clear n0_ n1_; clear hb ho10))
        go_ret2
        exact ⟨_, by first | rfl | (simp [errW_none, errW_some] <;> rfl) | (simp [*, errW_none, errW_some] <;> rfl), by (with_reducible repeat (first | apply Kd.R_alloc | apply Kd.R_drewN | apply Kd.R_drew)); exact HO194.out, by repeat (first | (with_reducible first | exact HB.out | apply below_alloc | apply pw_below_drewN | apply below_drew1) | exact HB.out)⟩
      · replace c8 := Bool.eq_false_iff.mpr c8
        subst c8
        have H1 : ((spec_l16Sets.f kj3 a2 (l1.length : Int)).bind fun t195 => (spec_TwinOf.l0 kj3 l0 l1 t195 0)) = some (r1, r2) := by rw [if_neg (show ¬ (false = true) by decide)] at H; exact H
        clear H
        have H := H1
        clear H1
        replace H := Option.bind_eq_some_iff.mp H
        obtain ⟨t195, A110, H⟩ := H
        replace H : (spec_TwinOf.l0 kj3 l0 l1 t195 0) = some (r1, r2) := H
        have A11 := Aside0.mk A110
        clear A110
        have H' := Aside0.mk H
        clear H
        go_wp2_with (first | ((with_reducible refine gate_callee (f := 54) rfl ?_); refine goesL_ (some 23) rfl rfl Try.func54 (by kernel_rfl) rfl #[.int .i64 a2, .int .i64 (l1.length : Int)] rfl (by (try simp only [List.map_toArray, List.map_cons, List.map_nil]); first | done | rfl | (simp only [List.length_drop, List.length_take]; rfl)) ?_; (with_reducible refine (spec_l16Sets.calls kj3 a2 (l1.length : Int) t195 _ A11.out).mono ?_); rintro e w12 ⟨v196, rfl, ho0, hb⟩; refine ⟨_, rfl, ?_⟩; have n0_ := Aside0.mk (Kd.N_lower (Kd.N_mono (ok' := fun k_ => True) ho0 (fun k_ hk_ => trivial)) (below_size (by repeat (first | (with_reducible first | exact HB.out | apply below_alloc | apply pw_below_drewN | apply below_drew1) | exact HB.out)))); have n1_ := Aside0.mk (below_step (by repeat (first | (with_reducible first | exact HB.out | apply below_alloc | apply pw_below_drewN | apply below_drew1) | exact HB.out)) hb); clear HB; have HO197 := n0_; have HB := n1_; clear n0_ n1_; (try clear hb); (try clear hb2); (try clear hk); (try clear hi); (try clear ho0)))
        go_loopg [9] kj3 (fun kq v9 w' => ∃ (x9_2 : Int), v9 = .int .i64 x9_2 ∧ Aside0 (spec_TwinOf.l0 kq l0 l1 t195 x9_2 = some (r1, r2)) ∧ Aside0 (kq ≤ kj3) ∧ Aside0 (Kd.N (Kd.slice 3 (Kd.int .i64)) 30 w' w.heap.size (fun _ => True) v196 t195) ∧ Aside0 (Below w.heap.size w w'))
        case atStart => exact ⟨(0), (by first | rfl | (simp; done) | (simp [*]; done)), H', ⟨Nat.le_refl _⟩, ⟨by (with_reducible repeat (first | apply Kd.N_alloc | apply Kd.N_drewN | apply Kd.N_drew)); exact HO197.out⟩, ⟨by repeat (first | (with_reducible first | exact HB.out | apply below_alloc | apply pw_below_drewN | apply below_drew1) | exact HB.out)⟩⟩
        case round =>
          clear H'
          try clear c1
          try clear p2
          try clear c3
          try clear c4
          try clear c5
          try clear c6
          try clear c8
          try clear p2
          obtain ⟨x9_2, rfl, HA, HK2, HO_8, HB⟩ := hrel
          cases gk with
          | zero => exact absurd HA.out (by simp [spec_TwinOf.l0])
          | succ k2 =>
            have H := HA.out
            clear HA
            simp only [spec_TwinOf.l0] at H
            by_cases c13 : x9_2 < (t195.length : Int)
            · rw [if_pos c13] at H
              have c13b0 : decide (x9_2 < (t195.length : Int)) = true := decide_eq_true c13
              clear c13
              by_cases c14 : 0 ≤ x9_2
              · rw [if_pos c14] at H
                have c14b0 : decide (0 ≤ x9_2) = true := decide_eq_true c14
                clear c14
                replace H := Option.bind_eq_some_iff.mp H
                obtain ⟨t202, A150, H⟩ := H
                replace H : (if t202 = true then (spec_TwinOf.l0 k2 l0 l1 t195 (wrap64 (x9_2 + 1))) else ((spec_SameVerdicts.f k2 l0 (rd_L1 t195 x9_2) l1).bind fun t204 => (if t204 = true then ((some (([] : List Int) : List Int)).bind fun y205 => (if y205.length + (rd_L1 t195 x9_2).length < 17592186044416 then (some ((y205 ++ (rd_L1 t195 x9_2)), true)) else (none))) else (spec_TwinOf.l0 k2 l0 l1 t195 (wrap64 (x9_2 + 1)))))) = some (r1, r2) := H
                have A15 := Aside0.mk A150
                clear A150
                by_cases c16 : t202 = true
                · subst c16
                  have H1 : (spec_TwinOf.l0 k2 l0 l1 t195 (wrap64 (x9_2 + 1))) = some (r1, r2) := by rw [if_pos rfl] at H; exact H
                  clear H
                  have H := H1
                  clear H1
                  have H' := Aside0.mk H
                  clear H
                  obtain ⟨Ao17, co17, eo17⟩ := Kd.N_slice HO_8.out
                  subst eo17
                  have p201 : 0 ≤ (x9_2 : Int) := of_decide_eq_true (by first | (with_reducible assumption) | assumption)
                  have q201 : x9_2 < (t195.length : Int) := of_decide_eq_true (by first | (with_reducible assumption) | assumption)
                  obtain ⟨ad201, A201_0, c201_0, e201, hx201_0, hl201_0, hi201_0⟩ := at_L1 (Kd.N_reads' HO_8.out).2.2 x9_2 p201 q201
                  cases e201
                  obtain ⟨ce201, hce201, hMe201, hcc201⟩ := Kd.N_get HO_8.out [] x9_2 p201 (by first | exact q201 | exact of_decide_eq_true (by first | (with_reducible assumption) | assumption) | (have e_ := (Kd.N_reads' HO_8.out).1; omega))
                  obtain ⟨ua201_0, uc201_0, rfl, ul201_0, ge201_0⟩ := Kd.FK_slice_open hMe201
                  have hv201_0 := hcc201 0 _ rfl
                  rw [Nat.add_zero, show ((Kd.slice 3 (Kd.int .i64))).sz = 1 from rfl, Nat.mul_one] at hv201_0
                  replace hv201_0 := Option.some.inj (hv201_0.symm.trans hx201_0)
                  injection hv201_0 with hva_ hvn_ hvc_
                  rw [hva_] at ge201_0
                  rw [hvc_] at ul201_0
                  have HL201_0 := Aside0.mk (show Kd.V (Kd.int .i64) 3 _ w.heap.size _ _ (rd_L1 t195 x9_2) from Kd.V_mk ul201_0 ge201_0)
                  clear hva_ hvn_ hvc_ ge201_0 ul201_0
                  clear hcc201 hce201
                  have HR201_0 := Aside0.mk hi201_0
                  have HC201_0 := Aside0.mk hl201_0
                  clear hi201_0 hl201_0
                  replace p201 := eq_true p201
                  replace q201 := eq_true q201
                  go_wp2_with (first | ((with_reducible refine gate_callee (f := 67) rfl ?_); refine goesL_ (some 35) rfl rfl Try.func67 (by kernel_rfl) rfl #[.slice A201_0 (rd_L1 t195 x9_2).length c201_0, .slice A1 l1.length c1] rfl (by (try simp only [List.map_toArray, List.map_cons, List.map_nil]); first | done | rfl | (simp only [List.length_drop, List.length_take]; rfl)) ?_; (with_reducible refine (spec_EqualInts.calls k2 _ _ (rd_L1 t195 x9_2) _ _ l1 true _ ?side1 ?side2 ?side3 ?side4 A15.out).mono ?_); (case side1 => repeat (first | exact (by repeat (first | (with_reducible exact HR201_0.out) | (with_reducible refine Kd.C_alloc ?_ _) | (with_reducible refine Kd.C_drewN ?_ _) | (with_reducible refine Kd.C_drew ?_) | exact HR201_0.out)) | (with_reducible refine Kd.C_alloc ?_ _) | (with_reducible refine Kd.C_drewN ?_ _) | (with_reducible refine Kd.C_drew ?_))); (case side2 => exact HC201_0.out); (case side3 => repeat (first | exact (Kd.C_below HR1.out HB.out) | (with_reducible refine Kd.C_alloc ?_ _) | (with_reducible refine Kd.C_drewN ?_ _) | (with_reducible refine Kd.C_drew ?_))); (case side4 => exact HC1.out); rintro e w' ⟨rfl, ⟨nd, rfl⟩⟩; refine ⟨_, rfl, ?_⟩))
                  go_roundg k2
                  case measure => have := HJ3.out; have := HK2.out; omega
                  case rel => exact ⟨(wrap64 (x9_2 + 1)), (by first | rfl | (simp; done) | (simp [*]; done)), H', ⟨by have := HJ3.out; have := HK2.out; omega⟩, ⟨by (with_reducible repeat (first | apply Kd.N_alloc | apply Kd.N_drewN | apply Kd.N_drew)); exact HO_8.out⟩, ⟨by repeat (first | (with_reducible first | exact HB.out | apply below_alloc | apply pw_below_drewN | apply below_drew1) | exact HB.out)⟩⟩
                · replace c16 := Bool.eq_false_iff.mpr c16
                  subst c16
                  have H1 : ((spec_SameVerdicts.f k2 l0 (rd_L1 t195 x9_2) l1).bind fun t204 => (if t204 = true then ((some (([] : List Int) : List Int)).bind fun y205 => (if y205.length + (rd_L1 t195 x9_2).length < 17592186044416 then (some ((y205 ++ (rd_L1 t195 x9_2)), true)) else (none))) else (spec_TwinOf.l0 k2 l0 l1 t195 (wrap64 (x9_2 + 1))))) = some (r1, r2) := by rw [if_neg (show ¬ (false = true) by decide)] at H; exact H
                  clear H
                  have H := H1
                  clear H1
                  replace H := Option.bind_eq_some_iff.mp H
                  obtain ⟨t204, A180, H⟩ := H
                  replace H : (if t204 = true then ((some (([] : List Int) : List Int)).bind fun y205 => (if y205.length + (rd_L1 t195 x9_2).length < 17592186044416 then (some ((y205 ++ (rd_L1 t195 x9_2)), true)) else (none))) else (spec_TwinOf.l0 k2 l0 l1 t195 (wrap64 (x9_2 + 1)))) = some (r1, r2) := H
                  have A18 := Aside0.mk A180
                  clear A180
                  by_cases c19 : t204 = true
                  · subst c19
                    have H1 : ((some (([] : List Int) : List Int)).bind fun y205 => (if y205.length + (rd_L1 t195 x9_2).length < 17592186044416 then (some ((y205 ++ (rd_L1 t195 x9_2)), true)) else (none))) = some (r1, r2) := by rw [if_pos rfl] at H; exact H
                    clear H
                    have H := H1
                    clear H1
                    obtain ⟨y205, hy205⟩ : ∃ y_ : List Int, y_ = (([] : List Int)) := ⟨_, rfl⟩
                    replace H : (if y205.length + (rd_L1 t195 x9_2).length < 17592186044416 then (some ((y205 ++ (rd_L1 t195 x9_2)), true)) else (none)) = some (r1, r2) := by first | (rw [hy205]; with_reducible exact H) | (have H2_ := (Option.bind_some _ _).symm.trans H; rw [hy205]; with_reducible exact H2_) | (have H2_ := (Option.bind_some _ _).symm.trans H; with_reducible exact H2_) | with_reducible exact H | (rw [hy205]; exact H) | exact H
                    have Ny205 := Aside0.mk hy205
                    clear hy205
                    by_cases c20 : y205.length + (rd_L1 t195 x9_2).length < 17592186044416
                    · rw [if_pos c20] at H
                      have LMc20 := Aside0.mk c20
                      clear c20
                      obtain ⟨y209, hy209⟩ : ∃ y_ : List Int, y_ = (y205 ++ (rd_L1 t195 x9_2)) := ⟨_, rfl⟩
                      replace H : (some (y209, true)) = some (r1, r2) := by first | (rw [hy209]; with_reducible exact H) | (have H2_ := (Option.bind_some _ _).symm.trans H; rw [hy209]; with_reducible exact H2_) | (have H2_ := (Option.bind_some _ _).symm.trans H; with_reducible exact H2_) | with_reducible exact H | (rw [hy209]; exact H) | exact H
                      have Ny209 := Aside0.mk hy209
                      clear hy209
                      simp only [Option.some.injEq, Prod.mk.injEq] at H
                      obtain ⟨rfl, rfl⟩ := H
                      obtain ⟨Ao21, co21, eo21⟩ := Kd.N_slice HO_8.out
                      subst eo21
                      have p201 : 0 ≤ (x9_2 : Int) := of_decide_eq_true (by first | (with_reducible assumption) | assumption)
                      have q201 : x9_2 < (t195.length : Int) := of_decide_eq_true (by first | (with_reducible assumption) | assumption)
                      obtain ⟨ad201, A201_0, c201_0, e201, hx201_0, hl201_0, hi201_0⟩ := at_L1 (Kd.N_reads' HO_8.out).2.2 x9_2 p201 q201
                      cases e201
                      obtain ⟨ce201, hce201, hMe201, hcc201⟩ := Kd.N_get HO_8.out [] x9_2 p201 (by first | exact q201 | exact of_decide_eq_true (by first | (with_reducible assumption) | assumption) | (have e_ := (Kd.N_reads' HO_8.out).1; omega))
                      obtain ⟨ua201_0, uc201_0, rfl, ul201_0, ge201_0⟩ := Kd.FK_slice_open hMe201
                      have hv201_0 := hcc201 0 _ rfl
                      rw [Nat.add_zero, show ((Kd.slice 3 (Kd.int .i64))).sz = 1 from rfl, Nat.mul_one] at hv201_0
                      replace hv201_0 := Option.some.inj (hv201_0.symm.trans hx201_0)
                      injection hv201_0 with hva_ hvn_ hvc_
                      rw [hva_] at ge201_0
                      rw [hvc_] at ul201_0
                      have HL201_0 := Aside0.mk (show Kd.V (Kd.int .i64) 3 _ w.heap.size _ _ (rd_L1 t195 x9_2) from Kd.V_mk ul201_0 ge201_0)
                      clear hva_ hvn_ hvc_ ge201_0 ul201_0
                      clear hcc201 hce201
                      have HR201_0 := Aside0.mk hi201_0
                      have HC201_0 := Aside0.mk hl201_0
                      clear hi201_0 hl201_0
                      replace p201 := eq_true p201
                      replace q201 := eq_true q201
                      go_wp2_with (first | ((with_reducible refine gate_callee (f := 67) rfl ?_); refine goesL_ (some 35) rfl rfl Try.func67 (by kernel_rfl) rfl #[.slice A201_0 (rd_L1 t195 x9_2).length c201_0, .slice A1 l1.length c1] rfl (by (try simp only [List.map_toArray, List.map_cons, List.map_nil]); first | done | rfl | (simp only [List.length_drop, List.length_take]; rfl)) ?_; (with_reducible refine (spec_EqualInts.calls k2 _ _ (rd_L1 t195 x9_2) _ _ l1 false _ ?side1 ?side2 ?side3 ?side4 A15.out).mono ?_); (case side1 => repeat (first | exact (by repeat (first | (with_reducible exact HR201_0.out) | (with_reducible refine Kd.C_alloc ?_ _) | (with_reducible refine Kd.C_drewN ?_ _) | (with_reducible refine Kd.C_drew ?_) | exact HR201_0.out)) | (with_reducible refine Kd.C_alloc ?_ _) | (with_reducible refine Kd.C_drewN ?_ _) | (with_reducible refine Kd.C_drew ?_))); (case side2 => exact HC201_0.out); (case side3 => repeat (first | exact (Kd.C_below HR1.out HB.out) | (with_reducible refine Kd.C_alloc ?_ _) | (with_reducible refine Kd.C_drewN ?_ _) | (with_reducible refine Kd.C_drew ?_))); (case side4 => exact HC1.out); rintro e w' ⟨rfl, ⟨nd, rfl⟩⟩; refine ⟨_, rfl, ?_⟩; have p203 : 0 ≤ (x9_2 : Int) := of_decide_eq_true (by first | (with_reducible assumption) | assumption); have q203 : x9_2 < (t195.length : Int) := of_decide_eq_true (by first | (with_reducible assumption) | assumption); obtain ⟨ad203, A203_0, c203_0, e203, hx203_0, hl203_0, hi203_0⟩ := at_L1 (Kd.N_reads' HO_8.out).2.2 x9_2 p203 q203; obtain rfl : ad201 = ad203 := (by injection e203); obtain ⟨ce203, hce203, hMe203, hcc203⟩ := Kd.N_get HO_8.out [] x9_2 p203 (by first | exact q203 | exact of_decide_eq_true (by first | (with_reducible assumption) | assumption) | (have e_ := (Kd.N_reads' HO_8.out).1; omega)); obtain ⟨ua203_0, uc203_0, rfl, ul203_0, ge203_0⟩ := Kd.FK_slice_open hMe203; have hv203_0 := hcc203 0 _ rfl; rw [Nat.add_zero, show ((Kd.slice 3 (Kd.int .i64))).sz = 1 from rfl, Nat.mul_one] at hv203_0; replace hv203_0 := Option.some.inj (hv203_0.symm.trans hx203_0); injection hv203_0 with hva_ hvn_ hvc_; rw [hva_] at ge203_0; rw [hvc_] at ul203_0; have HL203_0 := Aside0.mk (show Kd.V (Kd.int .i64) 3 _ w.heap.size _ _ (rd_L1 t195 x9_2) from Kd.V_mk ul203_0 ge203_0); clear hva_ hvn_ hvc_ ge203_0 ul203_0; clear hcc203 hce203; have HR203_0 := Aside0.mk hi203_0; have HC203_0 := Aside0.mk hl203_0; clear hi203_0 hl203_0; replace p203 := eq_true p203; replace q203 := eq_true q203; have ea_ := Option.some.inj (hx201_0.symm.trans hx203_0); injection ea_ with ea_ en_ ec_; subst ea_; subst ec_; clear en_) | (go_at_call 55; (with_reducible refine (spec_SameVerdicts.calls k2 _ _ l0 _ _ (rd_L1 t195 x9_2) _ _ l1 true _ ?side1 ?side2 ?side3 ?side4 ?side5 ?side6 A18.out).mono ?_); (case side1 => repeat (first | exact (Kd.C_below HR0.out (by repeat (first | (with_reducible first | exact HB.out | apply below_alloc | apply pw_below_drewN | apply below_drew1) | exact HB.out))) | (with_reducible refine Kd.C_alloc ?_ _) | (with_reducible refine Kd.C_drewN ?_ _) | (with_reducible refine Kd.C_drew ?_))); (case side2 => exact HC0.out); (case side3 => repeat (first | exact (by repeat (first | (with_reducible exact HR203_0.out) | (with_reducible refine Kd.C_alloc ?_ _) | (with_reducible refine Kd.C_drewN ?_ _) | (with_reducible refine Kd.C_drew ?_) | exact HR203_0.out)) | (with_reducible refine Kd.C_alloc ?_ _) | (with_reducible refine Kd.C_drewN ?_ _) | (with_reducible refine Kd.C_drew ?_))); (case side4 => exact HC203_0.out); (case side5 => repeat (first | exact (Kd.C_below HR1.out (by repeat (first | (with_reducible first | exact HB.out | apply below_alloc | apply pw_below_drewN | apply below_drew1) | exact HB.out))) | (with_reducible refine Kd.C_alloc ?_ _) | (with_reducible refine Kd.C_drewN ?_ _) | (with_reducible refine Kd.C_drew ?_))); (case side6 => exact HC1.out); rintro e w' ⟨rfl, ⟨nd, rfl⟩⟩) | ((with_reducible refine gate_dst (N := 46) rfl ?_); refine Kd.R_lit (Kd.int .i64) _ 3 ?hg (N := 46) ?hd (xs := ([] : List Int)) (inner := []) (ok := fun _ => True) (okp := fun _ => True) ?hr ?hp (fun _ hk => hk) trivial (Below.refl _ _) (Nat.le_refl _) (by simp) ?_; (case hd => rfl); (case hg => rfl); (case hr => first | (go_simp; done) | (go_simp; rfl)); (case hp => exact (Reps.none _ _)); intro v206 w22 ho23 hb hg_ hnew_; clear hg_ hnew_; (first | rw [← Ny205.out] at ho23 | (simp only [Int.reduceToNat] at ho23; rw [← Ny205.out] at ho23)); have n0_ := Aside0.mk (Kd.N_elder' (by (with_reducible repeat (first | apply Kd.N_alloc | apply Kd.N_drewN | apply Kd.N_drew)); exact HO_8.out) (Kd.R_base ho23) hb); have n1_ := Aside0.mk (Kd.V_elder' (by (with_reducible repeat (first | apply Kd.V_alloc | apply Kd.V_drewN | apply Kd.V_drew)); exact HL201_0.out) (Kd.R_base ho23) hb); have n2_ := Aside0.mk (Kd.V_elder' (by (with_reducible repeat (first | apply Kd.V_alloc | apply Kd.V_drewN | apply Kd.V_drew)); exact HL203_0.out) (Kd.R_base ho23) hb); have n3_ := Aside0.mk (Kd.R_lower ho23 (below_size (by repeat (first | (with_reducible first | exact HB.out | apply below_alloc | apply pw_below_drewN | apply below_drew1) | exact HB.out)))); have n4_ := Aside0.mk (Kd.C_below (by repeat (first | (with_reducible exact HR201_0.out) | (with_reducible refine Kd.C_alloc ?_ _) | (with_reducible refine Kd.C_drewN ?_ _) | (with_reducible refine Kd.C_drew ?_) | exact HR201_0.out)) hb); have n5_ := Aside0.mk (Kd.C_below (by repeat (first | (with_reducible exact HR203_0.out) | (with_reducible refine Kd.C_alloc ?_ _) | (with_reducible refine Kd.C_drewN ?_ _) | (with_reducible refine Kd.C_drew ?_) | exact HR203_0.out)) hb); have n6_ := Aside0.mk (below_step (by repeat (first | (with_reducible first | exact HB.out | apply below_alloc | apply pw_below_drewN | apply below_drew1) | exact HB.out)) hb); clear HO_8; clear HL201_0; clear HL203_0; clear HR201_0; clear HR203_0; clear HB; have HO_8 := n0_; have HL201_0 := n1_; have HL203_0 := n2_; have HO207 := n3_; have HR201_0 := n4_; have HR203_0 := n5_; have HB := n6_; clear n0_ n1_ n2_ n3_ n4_ n5_ n6_; clear hb ho23; have p208 : 0 ≤ (x9_2 : Int) := of_decide_eq_true (by first | (with_reducible assumption) | assumption); have q208 : x9_2 < (t195.length : Int) := of_decide_eq_true (by first | (with_reducible assumption) | assumption); obtain ⟨ad208, A208_0, c208_0, e208, hx208_0, hl208_0, hi208_0⟩ := at_L1 (Kd.N_reads' HO_8.out).2.2 x9_2 p208 q208; obtain rfl : ad201 = ad208 := (by injection e208); obtain ⟨ce208, hce208, hMe208, hcc208⟩ := Kd.N_get HO_8.out [] x9_2 p208 (by first | exact q208 | exact of_decide_eq_true (by first | (with_reducible assumption) | assumption) | (have e_ := (Kd.N_reads' HO_8.out).1; omega)); obtain ⟨ua208_0, uc208_0, rfl, ul208_0, ge208_0⟩ := Kd.FK_slice_open hMe208; have hv208_0 := hcc208 0 _ rfl; rw [Nat.add_zero, show ((Kd.slice 3 (Kd.int .i64))).sz = 1 from rfl, Nat.mul_one] at hv208_0; replace hv208_0 := Option.some.inj (hv208_0.symm.trans hx208_0); injection hv208_0 with hva_ hvn_ hvc_; rw [hva_] at ge208_0; rw [hvc_] at ul208_0; have HL208_0 := Aside0.mk (show Kd.V (Kd.int .i64) 3 _ w.heap.size _ _ (rd_L1 t195 x9_2) from Kd.V_mk ul208_0 ge208_0); clear hva_ hvn_ hvc_ ge208_0 ul208_0; clear hcc208 hce208; have HR208_0 := Aside0.mk hi208_0; have HC208_0 := Aside0.mk hl208_0; clear hi208_0 hl208_0; replace p208 := eq_true p208; replace q208 := eq_true q208) | ((with_reducible refine gate_builtin (b := .append) (xs := #[.tmp 46, .tmp 50]) rfl ?_); at_builtin; refine Kd.R_append_rows (Kd.int .i64) (w0 := w) w.heap.size rfl (.tmp 46) (.tmp 50) 30 3 (.int .i64 0) 8 rfl Try.underlying30 info3 rfl (by decide) (by omega) v206 y205 (rd_L1 t195 x9_2) _ _ _ (fun _ => True) (fun _ => False) rfl rfl ?aO ?aR (fun _ _ h => h) (fun _ h => h.elim) ?aF ?aB ?aS ?aL ?_; (case aR => repeat (first | exact (by repeat (first | (with_reducible exact HR208_0.out) | (with_reducible refine Kd.C_alloc ?_ _) | (with_reducible refine Kd.C_drewN ?_ _) | (with_reducible refine Kd.C_drew ?_) | exact HR208_0.out)) | (with_reducible refine Kd.C_alloc ?_ _) | (with_reducible refine Kd.C_drewN ?_ _) | (with_reducible refine Kd.C_drew ?_))); (case aB => exact (by repeat (first | (with_reducible first | exact HB.out | apply below_alloc | apply pw_below_drewN | apply below_drew1) | exact HB.out))); (case aF => exact (fun _ _ => trivial)); (case aO => exact (by (with_reducible repeat (first | apply Kd.R_alloc | apply Kd.R_drewN | apply Kd.R_drew)); exact HO207.out)); (case aS => exact (below_size (by repeat (first | (with_reducible first | exact HB.out | apply below_alloc | apply pw_below_drewN | apply below_drew1) | exact HB.out)))); (case aL => have := LMc20.out; omega); intro v210 w24 ho hb hg hat; rw [← Ny209.out] at ho; have n0_ := Aside0.mk (Kd.N_afterv (ok := (fun _ => True)) (by (with_reducible repeat (first | apply Kd.N_alloc | apply Kd.N_drewN | apply Kd.N_drew)); exact HO_8.out) hg hat); have n1_ := Aside0.mk (Kd.V_afterv (ok := (fun k_ => some k_ ≠ (.slice (some ad201) t195.length co21 : Value).ownBlock)) (by (with_reducible repeat (first | apply Kd.V_alloc | apply Kd.V_drewN | apply Kd.V_drew)); exact Kd.V_mono HL201_0.out (fun _ hk => ⟨hk.1.2, hk.2⟩)) hg hat); have n2_ := Aside0.mk (Kd.V_afterv (ok := (fun k_ => some k_ ≠ (.slice (some ad201) t195.length co21 : Value).ownBlock)) (by (with_reducible repeat (first | apply Kd.V_alloc | apply Kd.V_drewN | apply Kd.V_drew)); exact Kd.V_mono HL203_0.out (fun _ hk => ⟨hk.1.2, hk.2⟩)) hg hat); have n3_ := Aside0.mk (Kd.V_afterv (ok := (fun k_ => some k_ ≠ (.slice (some ad201) t195.length co21 : Value).ownBlock)) (by (with_reducible repeat (first | apply Kd.V_alloc | apply Kd.V_drewN | apply Kd.V_drew)); exact Kd.V_mono HL208_0.out (fun _ hk => ⟨hk.2, hk.1.2⟩)) hg hat); have n4_ := Aside0.mk (hb); have n5_ := Aside0.mk (ho); clear HO_8; clear HL201_0; clear HL203_0; clear HL208_0; clear HB; clear HO207; have HO_8 := n0_; have HL201_0 := n1_; have HL203_0 := n2_; have HL208_0 := n3_; have HB := n4_; have HO211 := n5_; clear n0_ n1_ n2_ n3_ n4_ n5_; clear ho hb hg hat))
                      go_ret2
                      exact ⟨_, by first | rfl | (simp [errW_none, errW_some] <;> rfl) | (simp [*, errW_none, errW_some] <;> rfl), by (with_reducible repeat (first | apply Kd.R_alloc | apply Kd.R_drewN | apply Kd.R_drew)); exact HO211.out, by repeat (first | (with_reducible first | exact HB.out | apply below_alloc | apply pw_below_drewN | apply below_drew1) | exact HB.out)⟩
                    · rw [if_neg c20] at H
                      exact absurd H (by simp)
                  · replace c19 := Bool.eq_false_iff.mpr c19
                    subst c19
                    have H1 : (spec_TwinOf.l0 k2 l0 l1 t195 (wrap64 (x9_2 + 1))) = some (r1, r2) := by rw [if_neg (show ¬ (false = true) by decide)] at H; exact H
                    clear H
                    have H := H1
                    clear H1
                    have H' := Aside0.mk H
                    clear H
                    obtain ⟨Ao25, co25, eo25⟩ := Kd.N_slice HO_8.out
                    subst eo25
                    have p201 : 0 ≤ (x9_2 : Int) := of_decide_eq_true (by first | (with_reducible assumption) | assumption)
                    have q201 : x9_2 < (t195.length : Int) := of_decide_eq_true (by first | (with_reducible assumption) | assumption)
                    obtain ⟨ad201, A201_0, c201_0, e201, hx201_0, hl201_0, hi201_0⟩ := at_L1 (Kd.N_reads' HO_8.out).2.2 x9_2 p201 q201
                    cases e201
                    obtain ⟨ce201, hce201, hMe201, hcc201⟩ := Kd.N_get HO_8.out [] x9_2 p201 (by first | exact q201 | exact of_decide_eq_true (by first | (with_reducible assumption) | assumption) | (have e_ := (Kd.N_reads' HO_8.out).1; omega))
                    obtain ⟨ua201_0, uc201_0, rfl, ul201_0, ge201_0⟩ := Kd.FK_slice_open hMe201
                    have hv201_0 := hcc201 0 _ rfl
                    rw [Nat.add_zero, show ((Kd.slice 3 (Kd.int .i64))).sz = 1 from rfl, Nat.mul_one] at hv201_0
                    replace hv201_0 := Option.some.inj (hv201_0.symm.trans hx201_0)
                    injection hv201_0 with hva_ hvn_ hvc_
                    rw [hva_] at ge201_0
                    rw [hvc_] at ul201_0
                    have HL201_0 := Aside0.mk (show Kd.V (Kd.int .i64) 3 _ w.heap.size _ _ (rd_L1 t195 x9_2) from Kd.V_mk ul201_0 ge201_0)
                    clear hva_ hvn_ hvc_ ge201_0 ul201_0
                    clear hcc201 hce201
                    have HR201_0 := Aside0.mk hi201_0
                    have HC201_0 := Aside0.mk hl201_0
                    clear hi201_0 hl201_0
                    replace p201 := eq_true p201
                    replace q201 := eq_true q201
                    go_wp2_with (first | ((with_reducible refine gate_callee (f := 67) rfl ?_); refine goesL_ (some 35) rfl rfl Try.func67 (by kernel_rfl) rfl #[.slice A201_0 (rd_L1 t195 x9_2).length c201_0, .slice A1 l1.length c1] rfl (by (try simp only [List.map_toArray, List.map_cons, List.map_nil]); first | done | rfl | (simp only [List.length_drop, List.length_take]; rfl)) ?_; (with_reducible refine (spec_EqualInts.calls k2 _ _ (rd_L1 t195 x9_2) _ _ l1 false _ ?side1 ?side2 ?side3 ?side4 A15.out).mono ?_); (case side1 => repeat (first | exact (by repeat (first | (with_reducible exact HR201_0.out) | (with_reducible refine Kd.C_alloc ?_ _) | (with_reducible refine Kd.C_drewN ?_ _) | (with_reducible refine Kd.C_drew ?_) | exact HR201_0.out)) | (with_reducible refine Kd.C_alloc ?_ _) | (with_reducible refine Kd.C_drewN ?_ _) | (with_reducible refine Kd.C_drew ?_))); (case side2 => exact HC201_0.out); (case side3 => repeat (first | exact (Kd.C_below HR1.out HB.out) | (with_reducible refine Kd.C_alloc ?_ _) | (with_reducible refine Kd.C_drewN ?_ _) | (with_reducible refine Kd.C_drew ?_))); (case side4 => exact HC1.out); rintro e w' ⟨rfl, ⟨nd, rfl⟩⟩; refine ⟨_, rfl, ?_⟩; have p203 : 0 ≤ (x9_2 : Int) := of_decide_eq_true (by first | (with_reducible assumption) | assumption); have q203 : x9_2 < (t195.length : Int) := of_decide_eq_true (by first | (with_reducible assumption) | assumption); obtain ⟨ad203, A203_0, c203_0, e203, hx203_0, hl203_0, hi203_0⟩ := at_L1 (Kd.N_reads' HO_8.out).2.2 x9_2 p203 q203; obtain rfl : ad201 = ad203 := (by injection e203); obtain ⟨ce203, hce203, hMe203, hcc203⟩ := Kd.N_get HO_8.out [] x9_2 p203 (by first | exact q203 | exact of_decide_eq_true (by first | (with_reducible assumption) | assumption) | (have e_ := (Kd.N_reads' HO_8.out).1; omega)); obtain ⟨ua203_0, uc203_0, rfl, ul203_0, ge203_0⟩ := Kd.FK_slice_open hMe203; have hv203_0 := hcc203 0 _ rfl; rw [Nat.add_zero, show ((Kd.slice 3 (Kd.int .i64))).sz = 1 from rfl, Nat.mul_one] at hv203_0; replace hv203_0 := Option.some.inj (hv203_0.symm.trans hx203_0); injection hv203_0 with hva_ hvn_ hvc_; rw [hva_] at ge203_0; rw [hvc_] at ul203_0; have HL203_0 := Aside0.mk (show Kd.V (Kd.int .i64) 3 _ w.heap.size _ _ (rd_L1 t195 x9_2) from Kd.V_mk ul203_0 ge203_0); clear hva_ hvn_ hvc_ ge203_0 ul203_0; clear hcc203 hce203; have HR203_0 := Aside0.mk hi203_0; have HC203_0 := Aside0.mk hl203_0; clear hi203_0 hl203_0; replace p203 := eq_true p203; replace q203 := eq_true q203; have ea_ := Option.some.inj (hx201_0.symm.trans hx203_0); injection ea_ with ea_ en_ ec_; subst ea_; subst ec_; clear en_) | (go_at_call 55; (with_reducible refine (spec_SameVerdicts.calls k2 _ _ l0 _ _ (rd_L1 t195 x9_2) _ _ l1 false _ ?side1 ?side2 ?side3 ?side4 ?side5 ?side6 A18.out).mono ?_); (case side1 => repeat (first | exact (Kd.C_below HR0.out (by repeat (first | (with_reducible first | exact HB.out | apply below_alloc | apply pw_below_drewN | apply below_drew1) | exact HB.out))) | (with_reducible refine Kd.C_alloc ?_ _) | (with_reducible refine Kd.C_drewN ?_ _) | (with_reducible refine Kd.C_drew ?_))); (case side2 => exact HC0.out); (case side3 => repeat (first | exact (by repeat (first | (with_reducible exact HR203_0.out) | (with_reducible refine Kd.C_alloc ?_ _) | (with_reducible refine Kd.C_drewN ?_ _) | (with_reducible refine Kd.C_drew ?_) | exact HR203_0.out)) | (with_reducible refine Kd.C_alloc ?_ _) | (with_reducible refine Kd.C_drewN ?_ _) | (with_reducible refine Kd.C_drew ?_))); (case side4 => exact HC203_0.out); (case side5 => repeat (first | exact (Kd.C_below HR1.out (by repeat (first | (with_reducible first | exact HB.out | apply below_alloc | apply pw_below_drewN | apply below_drew1) | exact HB.out))) | (with_reducible refine Kd.C_alloc ?_ _) | (with_reducible refine Kd.C_drewN ?_ _) | (with_reducible refine Kd.C_drew ?_))); (case side6 => exact HC1.out); rintro e w' ⟨rfl, ⟨nd, rfl⟩⟩))
                    go_roundg k2
                    case measure => have := HJ3.out; have := HK2.out; omega
                    case rel => exact ⟨(wrap64 (x9_2 + 1)), (by first | rfl | (simp; done) | (simp [*]; done)), H', ⟨by have := HJ3.out; have := HK2.out; omega⟩, ⟨by (with_reducible repeat (first | apply Kd.N_alloc | apply Kd.N_drewN | apply Kd.N_drew)); exact HO_8.out⟩, ⟨by repeat (first | (with_reducible first | exact HB.out | apply below_alloc | apply pw_below_drewN | apply below_drew1) | exact HB.out)⟩⟩
              · rw [if_neg c14] at H
                exact absurd H (by simp)
            · rw [if_neg c13] at H
              have c13b0 : decide (x9_2 < (t195.length : Int)) = false := decide_eq_false c13
              clear c13
              obtain ⟨y198, hy198⟩ : ∃ y_ : List Int, y_ = (([] : List Int)) := ⟨_, rfl⟩
              replace H : (some (y198, false)) = some (r1, r2) := by first | (rw [hy198]; with_reducible exact H) | (have H2_ := (Option.bind_some _ _).symm.trans H; rw [hy198]; with_reducible exact H2_) | (have H2_ := (Option.bind_some _ _).symm.trans H; with_reducible exact H2_) | with_reducible exact H | (rw [hy198]; exact H) | exact H
              have Ny198 := Aside0.mk hy198
              clear hy198
              simp only [Option.some.injEq, Prod.mk.injEq] at H
              obtain ⟨rfl, rfl⟩ := H
              obtain ⟨Ao26, co26, eo26⟩ := Kd.N_slice HO_8.out
              subst eo26
              go_wp2_with (first | ((with_reducible refine gate_dst (N := 52) rfl ?_); refine Kd.R_lit (Kd.int .i64) _ 3 ?hg (N := 52) ?hd (xs := ([] : List Int)) (inner := []) (ok := fun _ => True) (okp := fun _ => True) ?hr ?hp (fun _ hk => hk) trivial (Below.refl _ _) (Nat.le_refl _) (by simp) ?_; (case hd => rfl); (case hg => rfl); (case hr => first | (go_simp; done) | (go_simp; rfl)); (case hp => exact (Reps.none _ _)); intro v199 w27 ho28 hb hg_ hnew_; clear hg_ hnew_; (first | rw [← Ny198.out] at ho28 | (simp only [Int.reduceToNat] at ho28; rw [← Ny198.out] at ho28)); have n0_ := Aside0.mk (Kd.N_elder' (by (with_reducible repeat (first | apply Kd.N_alloc | apply Kd.N_drewN | apply Kd.N_drew)); exact HO_8.out) (Kd.R_base ho28) hb); have n1_ := Aside0.mk (Kd.R_lower ho28 (below_size (by repeat (first | (with_reducible first | exact HB.out | apply below_alloc | apply pw_below_drewN | apply below_drew1) | exact HB.out)))); have n2_ := Aside0.mk (below_step (by repeat (first | (with_reducible first | exact HB.out | apply below_alloc | apply pw_below_drewN | apply below_drew1) | exact HB.out)) hb); clear HO_8; clear HB; have HO_8 := n0_; have HO200 := n1_; have HB := n2_; clear n0_ n1_ n2_; clear hb ho28))
              go_ret2
              exact ⟨_, by first | rfl | (simp [errW_none, errW_some] <;> rfl) | (simp [*, errW_none, errW_some] <;> rfl), by (with_reducible repeat (first | apply Kd.R_alloc | apply Kd.R_drewN | apply Kd.R_drew)); exact HO200.out, by repeat (first | (with_reducible first | exact HB.out | apply below_alloc | apply pw_below_drewN | apply below_drew1) | exact HB.out)⟩

/-! ### laws_FnExactTwinOf: function 9 -/
theorem lawm_pos {α : Type} {c : Prop} [Decidable c] {f : Option α} {r : α} (h : (if c then f else none) = some r) : c := by
  by_cases hc : c
  · exact hc
  · rw [if_neg hc] at h
    cases h
theorem Kd.madeS {α : Type} {d : Kd α} {e N : Nat} {w wk W wi : World} {v : Value} {xs : List α} (hN : N ≤ wk.heap.size) (hW : Below wk.heap.size wk W) (hb : Below W.heap.size W wi) (hB : Below w.heap.size w wk) (ho : Kd.S d e wi W.heap.size (fun _ => True) v xs) :
    ∃ n, N ≤ n ∧ n ≤ wi.heap.size ∧ Kd.S d e wi w.heap.size (fun k_ => N ≤ k_ ∧ k_ < n) v xs :=
  ⟨wi.heap.size, Nat.le_trans hN (Nat.le_trans hW.size hb.size), Nat.le_refl _, Kd.S_lower (Kd.S_mono (Kd.S_bound ho) (fun k_ hk => ⟨Nat.le_trans (Nat.le_trans hN hW.size) hk.2.1, hk.2.2.1⟩)) (Nat.le_trans hB.size hW.size)⟩
theorem Kd.madeN {α : Type} {d : Kd α} {e N : Nat} {w wk W wi : World} {v : Value} {xs : List α} (hN : N ≤ wk.heap.size) (hW : Below wk.heap.size wk W) (hb : Below W.heap.size W wi) (hB : Below w.heap.size w wk) (ho : Kd.N d e wi W.heap.size (fun k_ => W.heap.size ≤ k_) v xs) :
    ∃ n, N ≤ n ∧ n ≤ wi.heap.size ∧ Kd.N d e wi w.heap.size (fun k_ => N ≤ k_ ∧ k_ < n) v xs :=
  ⟨wi.heap.size, Nat.le_trans hN (Nat.le_trans hW.size hb.size), Nat.le_refl _, Kd.N_lower (Kd.N_mono (Kd.N_bound ho) (fun k_ hk => ⟨Nat.le_trans (Nat.le_trans hN hW.size) hk.1, hk.2⟩)) (Nat.le_trans hB.size hW.size)⟩
theorem Kd.madeR {α : Type} {d : Kd α} {e N : Nat} {w wk W wi : World} {v : Value} {xs : List α} (hN : N ≤ wk.heap.size) (hW : Below wk.heap.size wk W) (hb : Below W.heap.size W wi) (hB : Below w.heap.size w wk) (ho : Kd.R d e wi W.heap.size (fun _ => True) v xs) :
    ∃ n, N ≤ n ∧ n ≤ wi.heap.size ∧ Kd.R d e wi w.heap.size (fun k_ => N ≤ k_ ∧ k_ < n) v xs :=
  ⟨wi.heap.size, Nat.le_trans hN (Nat.le_trans hW.size hb.size), Nat.le_refl _, Kd.R_lower (Kd.R_mono (Kd.R_bound ho) (fun k_ hk => ⟨Nat.le_trans (Nat.le_trans hN hW.size) hk.2.1, hk.2.2.1⟩)) (Nat.le_trans hB.size hW.size)⟩

def laws_FnExactTwinOf.f (k : Nat) (l0 : List (List Int)) (l1 : List Int) (a2 : Int) : Option Bool := if (l1.length : Int) > 1048576 then some true else ((laws_szIntSS.f k l0 1048576).bind fun t1 => (if t1 < 0 then some true else ((laws_toIntSS.f k l0).bind fun t2 => ((laws_toIntS.f k l1).bind fun t3 => ((spec_TwinOf.f k t2 t3 a2).bind fun p4 => ((laws_toIntSS.f k l0).bind fun t5 => ((laws_toIntS.f k l1).bind fun t6 => ((impl_TwinOf.f k t5 t6 a2).bind fun p7 => ((laws_eqIntS.f k p7.1 p4.1).bind fun t8 => (if t8 = true then (if p7.2 = p4.2 then ((laws_toIntSS.f k l0).bind fun t9 => ((laws_eqIntSS.f k t5 t9).bind fun t10 => (if t10 = true then ((laws_toIntS.f k l1).bind fun t11 => ((laws_eqIntS.f k t6 t11).bind fun t12 => (if t12 = true then ((laws_markIntSS.f k t5 1).bind fun p13 => ((laws_markIntS.f k t6 p13.1).bind fun p14 => (if p14.1 < 0 then none else ((laws_eqIntS.f k p7.1 p4.1).bind fun t15 => (if t15 = true then (if p7.2 = p4.2 then ((laws_markIntS.f k p7.1 1).bind fun p16 => ((laws_heldIntS.f k p16.2 1).bind fun t17 => (if t17 < 0 then none else (if t17 = p16.1 then ((laws_toIntSS.f k l0).bind fun t18 => ((laws_toIntS.f k l1).bind fun t19 => ((impl_TwinOf.f k t18 t19 a2).bind fun p20 => ((laws_eqIntS.f k p20.1 p4.1).bind fun t21 => (if t21 = true then (if p20.2 = p4.2 then ((laws_heldIntS.f k p16.2 1).bind fun t22 => (if t22 < 0 then none else (if t22 = p16.1 then (some true) else none))) else none) else none))))) else none)))) else none) else none))))) else none))) else none))) else none) else none))))))))))
set_option maxHeartbeats 4000000 in
set_option maxRecDepth 100000 in
theorem laws_FnExactTwinOf.calls (k : Nat) (A0 : Option Addr) (c0 : Nat) (l0 : List (List Int)) (A1 : Option Addr) (c1 : Nat) (l1 : List Int) (a2 : Int) (r : Bool) (w : World) (hr0 : Kd.C (Kd.slice 3 (Kd.int .i64)) w A0 l0.length l0) (hc0 : l0.length ≤ c0) (hr1 : Kd.C (Kd.int .i64) w A1 l1.length l1) (hc1 : l1.length ≤ c1) (h : laws_FnExactTwinOf.f k l0 l1 a2 = some r) :
    Calls Try.prog 9 #[.slice A0 l0.length c0, .slice A1 l1.length c1, .int .i64 a2] w fun e w' => e = .returned (.bool r) ∧ Below w.heap.size w w' := by
  have HR0 := Aside0.mk hr0
  have HC0 := Aside0.mk hc0
  clear hr0 hc0
  have HR1 := Aside0.mk hr1
  have HC1 := Aside0.mk hc1
  clear hr1 hc1
  have HB := Aside0.mk (Below.refl w.heap.size w)
  have HN := Aside0.mk (Nat.le_refl w.heap.size)
  unfold laws_FnExactTwinOf.f at h
  have H := h
  clear h
  by_cases e1_ : (l1.length : Int) > 1048576
  · rw [if_pos e1_] at H
    have e1_0 : decide (1048576 < (l1.length : Int)) = true := decide_eq_true e1_
    have e1_1 : decide (1048576 < l1.length) = true := decide_eq_true (by omega)
    clear e1_
    obtain rfl := Option.some.inj H
    go_enter Try.func9, Try.ntmps9
    go_wp2
    go_ret
    exact ⟨rfl, below_step HB.out (by repeat (first | exact Below.refl _ _ | apply below_alloc | apply pw_below_drewN | apply below_drew1))⟩
  rw [if_neg e1_] at H
  have e1_0 : decide (1048576 < (l1.length : Int)) = false := decide_eq_false e1_
  have e1_1 : decide (1048576 < l1.length) = false := decide_eq_false (by omega)
  clear e1_
  replace H := Option.bind_eq_some_iff.mp H
  obtain ⟨t1, A10_, H⟩ := H
  try dsimp only at H
  have A1_ := Aside0.mk A10_
  clear A10_
  by_cases e2_ : t1 < 0
  · rw [if_pos e2_] at H
    have e2_0 : decide (t1 < 0) = true := decide_eq_true e2_
    clear e2_
    obtain rfl := Option.some.inj H
    go_enter Try.func9, Try.ntmps9
    go_wp2_with (first | ((with_reducible refine gate_callee (f := 12) rfl ?_); refine goesL_ (some 24) rfl rfl Try.func12 (by kernel_rfl) rfl #[.slice A0 l0.length c0, .int .i64 1048576] rfl (by (try simp only [List.map_toArray, List.map_cons, List.map_nil]); first | done | rfl | (simp only [List.length_drop, List.length_take]; rfl)) ?_; (with_reducible refine (laws_szIntSS.calls k _ _ l0 1048576 t1 _ ?side1 ?side2 A1_.out).mono ?_); (case side1 => exact Kd.C_below HR0.out (below_step HB.out (by repeat (first | exact Below.refl _ _ | apply below_alloc | apply pw_below_drewN | apply below_drew1)))); (case side2 => exact HC0.out); rintro e w' ⟨rfl, ⟨nd, rfl⟩⟩; refine ⟨_, rfl, ?_⟩))
    go_ret
    exact ⟨rfl, below_step HB.out (by repeat (first | exact Below.refl _ _ | apply below_alloc | apply pw_below_drewN | apply below_drew1))⟩
  rw [if_neg e2_] at H
  have e2_0 : decide (t1 < 0) = false := decide_eq_false e2_
  clear e2_
  replace H := Option.bind_eq_some_iff.mp H
  obtain ⟨t2, A20_, H⟩ := H
  try dsimp only at H
  have A2_ := Aside0.mk A20_
  clear A20_
  replace H := Option.bind_eq_some_iff.mp H
  obtain ⟨t3, A30_, H⟩ := H
  try dsimp only at H
  have A3_ := Aside0.mk A30_
  clear A30_
  replace H := Option.bind_eq_some_iff.mp H
  obtain ⟨⟨t4_0, t4_1⟩, A40_, H⟩ := H
  try dsimp only at H
  have A4_ := Aside0.mk A40_
  clear A40_
  replace H := Option.bind_eq_some_iff.mp H
  obtain ⟨t5, A50_, H⟩ := H
  try dsimp only at H
  have A5_ := Aside0.mk A50_
  clear A50_
  replace H := Option.bind_eq_some_iff.mp H
  obtain ⟨t6, A60_, H⟩ := H
  try dsimp only at H
  have A6_ := Aside0.mk A60_
  clear A60_
  replace H := Option.bind_eq_some_iff.mp H
  obtain ⟨⟨t7_0, t7_1⟩, A70_, H⟩ := H
  try dsimp only at H
  have A7_ := Aside0.mk A70_
  clear A70_
  replace H := Option.bind_eq_some_iff.mp H
  obtain ⟨t8, A80_, H⟩ := H
  try dsimp only at H
  have A8_ := Aside0.mk A80_
  clear A80_
  have e3_ : t8 = true := lawm_pos H
  rw [if_pos e3_] at H
  subst e3_
  have e4_ : t7_1 = t4_1 := lawm_pos H
  rw [if_pos e4_] at H
  have e4_0 : (t7_1 == t4_1) = true := beq_iff_eq.mpr e4_
  have e4_1 : (t7_1 != t4_1) = false := bne_eq_false_iff_eq.mpr e4_
  clear e4_
  replace H := Option.bind_eq_some_iff.mp H
  obtain ⟨t9, A90_, H⟩ := H
  try dsimp only at H
  have A9_ := Aside0.mk A90_
  clear A90_
  replace H := Option.bind_eq_some_iff.mp H
  obtain ⟨t10, A100_, H⟩ := H
  try dsimp only at H
  have A10_ := Aside0.mk A100_
  clear A100_
  have e5_ : t10 = true := lawm_pos H
  rw [if_pos e5_] at H
  subst e5_
  replace H := Option.bind_eq_some_iff.mp H
  obtain ⟨t11, A110_, H⟩ := H
  try dsimp only at H
  have A11_ := Aside0.mk A110_
  clear A110_
  replace H := Option.bind_eq_some_iff.mp H
  obtain ⟨t12, A120_, H⟩ := H
  try dsimp only at H
  have A12_ := Aside0.mk A120_
  clear A120_
  have e6_ : t12 = true := lawm_pos H
  rw [if_pos e6_] at H
  subst e6_
  replace H := Option.bind_eq_some_iff.mp H
  obtain ⟨⟨t13, u13⟩, A130_, H⟩ := H
  try dsimp only at H
  have A13_ := Aside0.mk A130_
  clear A130_
  replace H := Option.bind_eq_some_iff.mp H
  obtain ⟨⟨t14, u14⟩, A140_, H⟩ := H
  try dsimp only at H
  have A14_ := Aside0.mk A140_
  clear A140_
  have e7_ : ¬ (t14 < 0) := fun hc_ => by rw [if_pos hc_] at H; cases H
  rw [if_neg e7_] at H
  have e7_0 : decide (t14 < 0) = false := decide_eq_false e7_
  clear e7_
  replace H := Option.bind_eq_some_iff.mp H
  obtain ⟨t15, A150_, H⟩ := H
  try dsimp only at H
  have A15_ := Aside0.mk A150_
  clear A150_
  have e8_ : t15 = true := lawm_pos H
  rw [if_pos e8_] at H
  subst e8_
  have e9_ : t7_1 = t4_1 := lawm_pos H
  rw [if_pos e9_] at H
  have e9_0 : (t7_1 == t4_1) = true := beq_iff_eq.mpr e9_
  have e9_1 : (t7_1 != t4_1) = false := bne_eq_false_iff_eq.mpr e9_
  clear e9_
  replace H := Option.bind_eq_some_iff.mp H
  obtain ⟨⟨t16, u16⟩, A160_, H⟩ := H
  try dsimp only at H
  have A16_ := Aside0.mk A160_
  clear A160_
  replace H := Option.bind_eq_some_iff.mp H
  obtain ⟨t17, A170_, H⟩ := H
  try dsimp only at H
  have A17_ := Aside0.mk A170_
  clear A170_
  have e10_ : ¬ (t17 < 0) := fun hc_ => by rw [if_pos hc_] at H; cases H
  rw [if_neg e10_] at H
  have e10_0 : decide (t17 < 0) = false := decide_eq_false e10_
  clear e10_
  have e11_ : t17 = t16 := lawm_pos H
  rw [if_pos e11_] at H
  have e11_0 : (t17 == t16) = true := beq_iff_eq.mpr e11_
  have e11_1 : (t17 != t16) = false := bne_eq_false_iff_eq.mpr e11_
  clear e11_
  replace H := Option.bind_eq_some_iff.mp H
  obtain ⟨t18, A180_, H⟩ := H
  try dsimp only at H
  have A18_ := Aside0.mk A180_
  clear A180_
  replace H := Option.bind_eq_some_iff.mp H
  obtain ⟨t19, A190_, H⟩ := H
  try dsimp only at H
  have A19_ := Aside0.mk A190_
  clear A190_
  replace H := Option.bind_eq_some_iff.mp H
  obtain ⟨⟨t20_0, t20_1⟩, A200_, H⟩ := H
  try dsimp only at H
  have A20_ := Aside0.mk A200_
  clear A200_
  replace H := Option.bind_eq_some_iff.mp H
  obtain ⟨t21, A210_, H⟩ := H
  try dsimp only at H
  have A21_ := Aside0.mk A210_
  clear A210_
  have e12_ : t21 = true := lawm_pos H
  rw [if_pos e12_] at H
  subst e12_
  have e13_ : t20_1 = t4_1 := lawm_pos H
  rw [if_pos e13_] at H
  have e13_0 : (t20_1 == t4_1) = true := beq_iff_eq.mpr e13_
  have e13_1 : (t20_1 != t4_1) = false := bne_eq_false_iff_eq.mpr e13_
  clear e13_
  replace H := Option.bind_eq_some_iff.mp H
  obtain ⟨t22, A220_, H⟩ := H
  try dsimp only at H
  have A22_ := Aside0.mk A220_
  clear A220_
  have e14_ : ¬ (t22 < 0) := fun hc_ => by rw [if_pos hc_] at H; cases H
  rw [if_neg e14_] at H
  have e14_0 : decide (t22 < 0) = false := decide_eq_false e14_
  clear e14_
  have e15_ : t22 = t16 := lawm_pos H
  rw [if_pos e15_] at H
  have e15_0 : (t22 == t16) = true := beq_iff_eq.mpr e15_
  have e15_1 : (t22 != t16) = false := bne_eq_false_iff_eq.mpr e15_
  clear e15_
  obtain rfl := Option.some.inj H
  go_enter Try.func9, Try.ntmps9
  go_wp2_with (first | ((with_reducible refine gate_callee (f := 12) rfl ?_); refine goesL_ (some 24) rfl rfl Try.func12 (by kernel_rfl) rfl #[.slice A0 l0.length c0, .int .i64 1048576] rfl (by (try simp only [List.map_toArray, List.map_cons, List.map_nil]); first | done | rfl | (simp only [List.length_drop, List.length_take]; rfl)) ?_; (with_reducible refine (laws_szIntSS.calls k _ _ l0 1048576 t1 _ ?side1 ?side2 A1_.out).mono ?_); (case side1 => exact Kd.C_below HR0.out (below_step HB.out (by repeat (first | exact Below.refl _ _ | apply below_alloc | apply pw_below_drewN | apply below_drew1)))); (case side2 => exact HC0.out); rintro e w' ⟨rfl, ⟨nd, rfl⟩⟩; refine ⟨_, rfl, ?_⟩) | ((with_reducible refine gate_callee (f := 14) rfl ?_); refine goesL_ (some 29) rfl rfl Try.func14 (by kernel_rfl) rfl #[.slice A0 l0.length c0] rfl (by (try simp only [List.map_toArray, List.map_cons, List.map_nil]); first | done | rfl | (simp only [List.length_drop, List.length_take]; rfl)) ?_; (with_reducible refine (laws_toIntSS.calls k _ _ l0 t2 _ ?side1 ?side2 A2_.out).mono ?_); (case side1 => exact Kd.C_below HR0.out (below_step HB.out (by repeat (first | exact Below.refl _ _ | apply below_alloc | apply pw_below_drewN | apply below_drew1)))); (case side2 => exact HC0.out); rintro e w2_ ⟨v_, rfl, ho_, hb_⟩; refine ⟨_, rfl, ?_⟩; obtain ⟨n1_, hle1_, hN_, hF_⟩ := Kd.madeS (N := w.heap.size) HN.out (by repeat (first | exact Below.refl _ _ | apply below_alloc | apply pw_below_drewN | apply below_drew1)) hb_ HB.out ho_; obtain ⟨Ao2, co2, rfl⟩ := Kd.S_slice ho_; have F2 := Aside0.mk hF_; clear hF_ ho_; have g_ := Aside0.mk hN_; clear HN hN_; have HN := g_; clear g_; have g_ := Aside0.mk (below_step (below_step HB.out (by repeat (first | exact Below.refl _ _ | apply below_alloc | apply pw_below_drewN | apply below_drew1))) hb_); clear HB hb_; have HB := g_; clear g_) | ((with_reducible refine gate_callee (f := 40) rfl ?_); refine goesL_ (some 31) rfl rfl Try.func40 (by kernel_rfl) rfl #[.slice A1 l1.length c1] rfl (by (try simp only [List.map_toArray, List.map_cons, List.map_nil]); first | done | rfl | (simp only [List.length_drop, List.length_take]; rfl)) ?_; (with_reducible refine (laws_toIntS.calls k _ _ l1 t3 _ ?side1 ?side2 A3_.out).mono ?_); (case side1 => exact Kd.C_below HR1.out (below_step HB.out (by repeat (first | exact Below.refl _ _ | apply below_alloc | apply pw_below_drewN | apply below_drew1)))); (case side2 => exact HC1.out); rintro e w3_ ⟨v_, rfl, ho_, hb_⟩; refine ⟨_, rfl, ?_⟩; have g_ := Aside0.mk (Kd.S_below (Kd.S_below F2.out (by repeat (first | exact Below.refl _ _ | apply below_alloc | apply pw_below_drewN | apply below_drew1))) hb_); clear F2; have F2 := g_; clear g_; obtain ⟨n2_, hle2_, hN_, hF_⟩ := Kd.madeR (N := n1_) HN.out (by repeat (first | exact Below.refl _ _ | apply below_alloc | apply pw_below_drewN | apply below_drew1)) hb_ HB.out ho_; obtain ⟨Ao3, co3, rfl⟩ := Kd.R_slice ho_; have F3 := Aside0.mk hF_; clear hF_ ho_; have g_ := Aside0.mk hN_; clear HN hN_; have HN := g_; clear g_; have g_ := Aside0.mk (below_step (below_step HB.out (by repeat (first | exact Below.refl _ _ | apply below_alloc | apply pw_below_drewN | apply below_drew1))) hb_); clear HB hb_; have HB := g_; clear g_) | ((with_reducible refine gate_callee (f := 39) rfl ?_); refine goesL_ (some 33) rfl rfl Try.func39 (by kernel_rfl) rfl #[.slice Ao2 t2.length co2, .slice Ao3 t3.length co3, .int .i64 a2] rfl (by (try simp only [List.map_toArray, List.map_cons, List.map_nil]); first | done | rfl | (simp only [List.length_drop, List.length_take]; rfl)) ?_; (with_reducible refine (spec_TwinOf.calls k _ _ t2 _ _ t3 a2 t4_0 t4_1 _ ?side1 ?side2 ?side3 ?side4 A4_.out).mono ?_); (case side1 => exact (Kd.S_reads' (Kd.S_below F2.out (by repeat (first | exact Below.refl _ _ | apply below_alloc | apply pw_below_drewN | apply below_drew1)))).2.2); (case side2 => exact (Kd.S_reads' F2.out).2.1); (case side3 => exact (Kd.R_reads' (Kd.R_below F3.out (by repeat (first | exact Below.refl _ _ | apply below_alloc | apply pw_below_drewN | apply below_drew1)))).2.2); (case side4 => exact (Kd.R_reads' F3.out).2.1); rintro e w4_ ⟨v_, rfl, ho_, hb_⟩; refine ⟨_, rfl, ?_⟩; obtain ⟨n3_, hle3_, hN_, hF_⟩ := Kd.madeR (N := n2_) HN.out (by repeat (first | exact Below.refl _ _ | apply below_alloc | apply pw_below_drewN | apply below_drew1)) hb_ HB.out ho_; obtain ⟨Ao4_0, co4_0, rfl⟩ := Kd.R_slice ho_; have F4_0 := Aside0.mk hF_; clear hF_ ho_; have g_ := Aside0.mk hN_; clear HN hN_; have HN := g_; clear g_; have g_ := Aside0.mk (below_step (below_step HB.out (by repeat (first | exact Below.refl _ _ | apply below_alloc | apply pw_below_drewN | apply below_drew1))) hb_); clear HB hb_; have HB := g_; clear g_) | ((with_reducible refine gate_callee (f := 14) rfl ?_); refine goesL_ (some 37) rfl rfl Try.func14 (by kernel_rfl) rfl #[.slice A0 l0.length c0] rfl (by (try simp only [List.map_toArray, List.map_cons, List.map_nil]); first | done | rfl | (simp only [List.length_drop, List.length_take]; rfl)) ?_; (with_reducible refine (laws_toIntSS.calls k _ _ l0 t5 _ ?side1 ?side2 A5_.out).mono ?_); (case side1 => exact Kd.C_below HR0.out (below_step HB.out (by repeat (first | exact Below.refl _ _ | apply below_alloc | apply pw_below_drewN | apply below_drew1)))); (case side2 => exact HC0.out); rintro e w5_ ⟨v_, rfl, ho_, hb_⟩; refine ⟨_, rfl, ?_⟩; have g_ := Aside0.mk (Kd.R_below (Kd.R_below F4_0.out (by repeat (first | exact Below.refl _ _ | apply below_alloc | apply pw_below_drewN | apply below_drew1))) hb_); clear F4_0; have F4_0 := g_; clear g_; obtain ⟨n4_, hle4_, hN_, hF_⟩ := Kd.madeS (N := n3_) HN.out (by repeat (first | exact Below.refl _ _ | apply below_alloc | apply pw_below_drewN | apply below_drew1)) hb_ HB.out ho_; obtain ⟨Ao5, co5, rfl⟩ := Kd.S_slice ho_; have F5 := Aside0.mk hF_; clear hF_ ho_; have g_ := Aside0.mk hN_; clear HN hN_; have HN := g_; clear g_; have g_ := Aside0.mk (below_step (below_step HB.out (by repeat (first | exact Below.refl _ _ | apply below_alloc | apply pw_below_drewN | apply below_drew1))) hb_); clear HB hb_; have HB := g_; clear g_) | ((with_reducible refine gate_callee (f := 40) rfl ?_); refine goesL_ (some 39) rfl rfl Try.func40 (by kernel_rfl) rfl #[.slice A1 l1.length c1] rfl (by (try simp only [List.map_toArray, List.map_cons, List.map_nil]); first | done | rfl | (simp only [List.length_drop, List.length_take]; rfl)) ?_; (with_reducible refine (laws_toIntS.calls k _ _ l1 t6 _ ?side1 ?side2 A6_.out).mono ?_); (case side1 => exact Kd.C_below HR1.out (below_step HB.out (by repeat (first | exact Below.refl _ _ | apply below_alloc | apply pw_below_drewN | apply below_drew1)))); (case side2 => exact HC1.out); rintro e w6_ ⟨v_, rfl, ho_, hb_⟩; refine ⟨_, rfl, ?_⟩; have g_ := Aside0.mk (Kd.R_below (Kd.R_below F4_0.out (by repeat (first | exact Below.refl _ _ | apply below_alloc | apply pw_below_drewN | apply below_drew1))) hb_); clear F4_0; have F4_0 := g_; clear g_; have g_ := Aside0.mk (Kd.S_below (Kd.S_below F5.out (by repeat (first | exact Below.refl _ _ | apply below_alloc | apply pw_below_drewN | apply below_drew1))) hb_); clear F5; have F5 := g_; clear g_; obtain ⟨n5_, hle5_, hN_, hF_⟩ := Kd.madeR (N := n4_) HN.out (by repeat (first | exact Below.refl _ _ | apply below_alloc | apply pw_below_drewN | apply below_drew1)) hb_ HB.out ho_; obtain ⟨Ao6, co6, rfl⟩ := Kd.R_slice ho_; have F6 := Aside0.mk hF_; clear hF_ ho_; have g_ := Aside0.mk hN_; clear HN hN_; have HN := g_; clear g_; have g_ := Aside0.mk (below_step (below_step HB.out (by repeat (first | exact Below.refl _ _ | apply below_alloc | apply pw_below_drewN | apply below_drew1))) hb_); clear HB hb_; have HB := g_; clear g_) | ((with_reducible refine gate_callee (f := 36) rfl ?_); refine goesL_ (some 44) rfl rfl Try.func36 (by kernel_rfl) rfl #[.slice Ao5 t5.length co5, .slice Ao6 t6.length co6, .int .i64 a2] rfl (by (try simp only [List.map_toArray, List.map_cons, List.map_nil]); first | done | rfl | (simp only [List.length_drop, List.length_take]; rfl)) ?_; (with_reducible refine (impl_TwinOf.calls k _ _ t5 _ _ t6 a2 t7_0 t7_1 _ ?side1 ?side2 ?side3 ?side4 A7_.out).mono ?_); (case side1 => exact (Kd.S_reads' (Kd.S_below F5.out (by repeat (first | exact Below.refl _ _ | apply below_alloc | apply pw_below_drewN | apply below_drew1)))).2.2); (case side2 => exact (Kd.S_reads' F5.out).2.1); (case side3 => exact (Kd.R_reads' (Kd.R_below F6.out (by repeat (first | exact Below.refl _ _ | apply below_alloc | apply pw_below_drewN | apply below_drew1)))).2.2); (case side4 => exact (Kd.R_reads' F6.out).2.1); rintro e w7_ ⟨v_, rfl, ho_, hb_⟩; refine ⟨_, rfl, ?_⟩; have g_ := Aside0.mk (Kd.R_below (Kd.R_below F4_0.out (by repeat (first | exact Below.refl _ _ | apply below_alloc | apply pw_below_drewN | apply below_drew1))) hb_); clear F4_0; have F4_0 := g_; clear g_; have g_ := Aside0.mk (Kd.S_below (Kd.S_below F5.out (by repeat (first | exact Below.refl _ _ | apply below_alloc | apply pw_below_drewN | apply below_drew1))) hb_); clear F5; have F5 := g_; clear g_; have g_ := Aside0.mk (Kd.R_below (Kd.R_below F6.out (by repeat (first | exact Below.refl _ _ | apply below_alloc | apply pw_below_drewN | apply below_drew1))) hb_); clear F6; have F6 := g_; clear g_; obtain ⟨n6_, hle6_, hN_, hF_⟩ := Kd.madeR (N := n5_) HN.out (by repeat (first | exact Below.refl _ _ | apply below_alloc | apply pw_below_drewN | apply below_drew1)) hb_ HB.out ho_; obtain ⟨Ao7_0, co7_0, rfl⟩ := Kd.R_slice ho_; have F7_0 := Aside0.mk hF_; clear hF_ ho_; have g_ := Aside0.mk hN_; clear HN hN_; have HN := g_; clear g_; have g_ := Aside0.mk (below_step (below_step HB.out (by repeat (first | exact Below.refl _ _ | apply below_alloc | apply pw_below_drewN | apply below_drew1))) hb_); clear HB hb_; have HB := g_; clear g_) | ((with_reducible refine gate_callee (f := 21) rfl ?_); refine goesL_ (some 49) rfl rfl Try.func21 (by kernel_rfl) rfl #[.slice Ao7_0 t7_0.length co7_0, .slice Ao4_0 t4_0.length co4_0] rfl (by (try simp only [List.map_toArray, List.map_cons, List.map_nil]); first | done | rfl | (simp only [List.length_drop, List.length_take]; rfl)) ?_; (with_reducible refine (laws_eqIntS.calls k _ _ t7_0 _ _ t4_0 true _ ?side1 ?side2 ?side3 ?side4 A8_.out).mono ?_); (case side1 => exact (Kd.R_reads' (Kd.R_below F7_0.out (by repeat (first | exact Below.refl _ _ | apply below_alloc | apply pw_below_drewN | apply below_drew1)))).2.2); (case side2 => exact (Kd.R_reads' F7_0.out).2.1); (case side3 => exact (Kd.R_reads' (Kd.R_below F4_0.out (by repeat (first | exact Below.refl _ _ | apply below_alloc | apply pw_below_drewN | apply below_drew1)))).2.2); (case side4 => exact (Kd.R_reads' F4_0.out).2.1); rintro e w' ⟨rfl, ⟨nd, rfl⟩⟩; refine ⟨_, rfl, ?_⟩) | ((with_reducible refine gate_callee (f := 14) rfl ?_); refine goesL_ (some 58) rfl rfl Try.func14 (by kernel_rfl) rfl #[.slice A0 l0.length c0] rfl (by (try simp only [List.map_toArray, List.map_cons, List.map_nil]); first | done | rfl | (simp only [List.length_drop, List.length_take]; rfl)) ?_; (with_reducible refine (laws_toIntSS.calls k _ _ l0 t9 _ ?side1 ?side2 A9_.out).mono ?_); (case side1 => exact Kd.C_below HR0.out (below_step HB.out (by repeat (first | exact Below.refl _ _ | apply below_alloc | apply pw_below_drewN | apply below_drew1)))); (case side2 => exact HC0.out); rintro e w9_ ⟨v_, rfl, ho_, hb_⟩; refine ⟨_, rfl, ?_⟩; have g_ := Aside0.mk (Kd.R_below (Kd.R_below F4_0.out (by repeat (first | exact Below.refl _ _ | apply below_alloc | apply pw_below_drewN | apply below_drew1))) hb_); clear F4_0; have F4_0 := g_; clear g_; have g_ := Aside0.mk (Kd.S_below (Kd.S_below F5.out (by repeat (first | exact Below.refl _ _ | apply below_alloc | apply pw_below_drewN | apply below_drew1))) hb_); clear F5; have F5 := g_; clear g_; have g_ := Aside0.mk (Kd.R_below (Kd.R_below F6.out (by repeat (first | exact Below.refl _ _ | apply below_alloc | apply pw_below_drewN | apply below_drew1))) hb_); clear F6; have F6 := g_; clear g_; have g_ := Aside0.mk (Kd.R_below (Kd.R_below F7_0.out (by repeat (first | exact Below.refl _ _ | apply below_alloc | apply pw_below_drewN | apply below_drew1))) hb_); clear F7_0; have F7_0 := g_; clear g_; obtain ⟨n7_, hle7_, hN_, hF_⟩ := Kd.madeS (N := n6_) HN.out (by repeat (first | exact Below.refl _ _ | apply below_alloc | apply pw_below_drewN | apply below_drew1)) hb_ HB.out ho_; obtain ⟨Ao9, co9, rfl⟩ := Kd.S_slice ho_; have F9 := Aside0.mk hF_; clear hF_ ho_; have g_ := Aside0.mk hN_; clear HN hN_; have HN := g_; clear g_; have g_ := Aside0.mk (below_step (below_step HB.out (by repeat (first | exact Below.refl _ _ | apply below_alloc | apply pw_below_drewN | apply below_drew1))) hb_); clear HB hb_; have HB := g_; clear g_) | ((with_reducible refine gate_callee (f := 17) rfl ?_); refine goesL_ (some 59) rfl rfl Try.func17 (by kernel_rfl) rfl #[.slice Ao5 t5.length co5, .slice Ao9 t9.length co9] rfl (by (try simp only [List.map_toArray, List.map_cons, List.map_nil]); first | done | rfl | (simp only [List.length_drop, List.length_take]; rfl)) ?_; (with_reducible refine (laws_eqIntSS.calls k _ _ t5 _ _ t9 true _ ?side1 ?side2 ?side3 ?side4 A10_.out).mono ?_); (case side1 => exact (Kd.S_reads' (Kd.S_below F5.out (by repeat (first | exact Below.refl _ _ | apply below_alloc | apply pw_below_drewN | apply below_drew1)))).2.2); (case side2 => exact (Kd.S_reads' F5.out).2.1); (case side3 => exact (Kd.S_reads' (Kd.S_below F9.out (by repeat (first | exact Below.refl _ _ | apply below_alloc | apply pw_below_drewN | apply below_drew1)))).2.2); (case side4 => exact (Kd.S_reads' F9.out).2.1); rintro e w' ⟨rfl, ⟨nd, rfl⟩⟩; refine ⟨_, rfl, ?_⟩) | ((with_reducible refine gate_callee (f := 40) rfl ?_); refine goesL_ (some 63) rfl rfl Try.func40 (by kernel_rfl) rfl #[.slice A1 l1.length c1] rfl (by (try simp only [List.map_toArray, List.map_cons, List.map_nil]); first | done | rfl | (simp only [List.length_drop, List.length_take]; rfl)) ?_; (with_reducible refine (laws_toIntS.calls k _ _ l1 t11 _ ?side1 ?side2 A11_.out).mono ?_); (case side1 => exact Kd.C_below HR1.out (below_step HB.out (by repeat (first | exact Below.refl _ _ | apply below_alloc | apply pw_below_drewN | apply below_drew1)))); (case side2 => exact HC1.out); rintro e w11_ ⟨v_, rfl, ho_, hb_⟩; refine ⟨_, rfl, ?_⟩; have g_ := Aside0.mk (Kd.R_below (Kd.R_below F4_0.out (by repeat (first | exact Below.refl _ _ | apply below_alloc | apply pw_below_drewN | apply below_drew1))) hb_); clear F4_0; have F4_0 := g_; clear g_; have g_ := Aside0.mk (Kd.S_below (Kd.S_below F5.out (by repeat (first | exact Below.refl _ _ | apply below_alloc | apply pw_below_drewN | apply below_drew1))) hb_); clear F5; have F5 := g_; clear g_; have g_ := Aside0.mk (Kd.R_below (Kd.R_below F6.out (by repeat (first | exact Below.refl _ _ | apply below_alloc | apply pw_below_drewN | apply below_drew1))) hb_); clear F6; have F6 := g_; clear g_; have g_ := Aside0.mk (Kd.R_below (Kd.R_below F7_0.out (by repeat (first | exact Below.refl _ _ | apply below_alloc | apply pw_below_drewN | apply below_drew1))) hb_); clear F7_0; have F7_0 := g_; clear g_; obtain ⟨n8_, hle8_, hN_, hF_⟩ := Kd.madeR (N := n7_) HN.out (by repeat (first | exact Below.refl _ _ | apply below_alloc | apply pw_below_drewN | apply below_drew1)) hb_ HB.out ho_; obtain ⟨Ao11, co11, rfl⟩ := Kd.R_slice ho_; have F11 := Aside0.mk hF_; clear hF_ ho_; have g_ := Aside0.mk hN_; clear HN hN_; have HN := g_; clear g_; have g_ := Aside0.mk (below_step (below_step HB.out (by repeat (first | exact Below.refl _ _ | apply below_alloc | apply pw_below_drewN | apply below_drew1))) hb_); clear HB hb_; have HB := g_; clear g_) | ((with_reducible refine gate_callee (f := 21) rfl ?_); refine goesL_ (some 64) rfl rfl Try.func21 (by kernel_rfl) rfl #[.slice Ao6 t6.length co6, .slice Ao11 t11.length co11] rfl (by (try simp only [List.map_toArray, List.map_cons, List.map_nil]); first | done | rfl | (simp only [List.length_drop, List.length_take]; rfl)) ?_; (with_reducible refine (laws_eqIntS.calls k _ _ t6 _ _ t11 true _ ?side1 ?side2 ?side3 ?side4 A12_.out).mono ?_); (case side1 => exact (Kd.R_reads' (Kd.R_below F6.out (by repeat (first | exact Below.refl _ _ | apply below_alloc | apply pw_below_drewN | apply below_drew1)))).2.2); (case side2 => exact (Kd.R_reads' F6.out).2.1); (case side3 => exact (Kd.R_reads' (Kd.R_below F11.out (by repeat (first | exact Below.refl _ _ | apply below_alloc | apply pw_below_drewN | apply below_drew1)))).2.2); (case side4 => exact (Kd.R_reads' F11.out).2.1); rintro e w' ⟨rfl, ⟨nd, rfl⟩⟩; refine ⟨_, rfl, ?_⟩) | ((with_reducible refine gate_callee (f := 22) rfl ?_); refine goesL_ (some 68) rfl rfl Try.func22 (by kernel_rfl) rfl #[.slice Ao5 t5.length co5, .int .i64 1] rfl (by (try simp only [List.map_toArray, List.map_cons, List.map_nil]); first | done | rfl | (simp only [List.length_drop, List.length_take]; rfl)) ?_; (with_reducible refine (laws_markIntSS.calls k (fun k_ => n3_ ≤ k_ ∧ k_ < n4_) _ t5 1 t13 u13 w _ ?sideB ?sideO A13_.out).mono ?_); (case sideB => exact below_step HB.out (by repeat (first | exact Below.refl _ _ | apply below_alloc | apply pw_below_drewN | apply below_drew1))); (case sideO => exact Kd.S_below F5.out (by repeat (first | exact Below.refl _ _ | apply below_alloc | apply pw_below_drewN | apply below_drew1))); rintro e w13_ ⟨rfl, hs_, hb_, hk_⟩; refine ⟨_, rfl, ?_⟩; have g_ := Aside0.mk (Kd.R_kept (Kd.R_below F4_0.out (by repeat (first | exact Below.refl _ _ | apply below_alloc | apply pw_below_drewN | apply below_drew1))) hk_ (fun k_ h1_ h2_ => by obtain ⟨_, _⟩ := h1_; obtain ⟨_, _⟩ := h2_; omega)); clear F4_0; have F4_0 := g_; clear g_; have g_ := Aside0.mk (Kd.R_kept (Kd.R_below F6.out (by repeat (first | exact Below.refl _ _ | apply below_alloc | apply pw_below_drewN | apply below_drew1))) hk_ (fun k_ h1_ h2_ => by obtain ⟨_, _⟩ := h1_; obtain ⟨_, _⟩ := h2_; omega)); clear F6; have F6 := g_; clear g_; have g_ := Aside0.mk (Kd.R_kept (Kd.R_below F7_0.out (by repeat (first | exact Below.refl _ _ | apply below_alloc | apply pw_below_drewN | apply below_drew1))) hk_ (fun k_ h1_ h2_ => by obtain ⟨_, _⟩ := h1_; obtain ⟨_, _⟩ := h2_; omega)); clear F7_0; have F7_0 := g_; clear g_; have hl_ : t5.length = u13.length := (Kd.S_reads' hs_).1; have g_ := Aside0.mk (show Kd.S (Kd.slice 3 (Kd.int .i64)) 30 w13_ w.heap.size (fun _ => True) (.slice Ao5 u13.length co5) u13 from hl_ ▸ Kd.S_mono hs_ (fun _ _ => trivial)); clear F5; have F5 := g_; clear g_; (try rw [hl_]); clear hl_ hs_; have g_ := Aside0.mk hb_; clear HB hb_; have HB := g_; clear g_; have g_ := Aside0.mk (Nat.le_trans HN.out (Nat.le_trans (show Below w11_.heap.size w11_ _ from (by repeat (first | exact Below.refl _ _ | apply below_alloc | apply pw_below_drewN | apply below_drew1))).size hk_.1)); clear HN hk_; have HN := g_; clear g_) | ((with_reducible refine gate_callee (f := 23) rfl ?_); refine goesL_ (some 71) rfl rfl Try.func23 (by kernel_rfl) rfl #[.slice Ao6 t6.length co6, .int .i64 t13] rfl (by (try simp only [List.map_toArray, List.map_cons, List.map_nil]); first | done | rfl | (simp only [List.length_drop, List.length_take]; rfl)) ?_; (with_reducible refine (laws_markIntS.calls k (fun k_ => n4_ ≤ k_ ∧ k_ < n5_) _ t6 t13 t14 u14 w _ ?sideB ?sideO A14_.out).mono ?_); (case sideB => exact below_step HB.out (by repeat (first | exact Below.refl _ _ | apply below_alloc | apply pw_below_drewN | apply below_drew1))); (case sideO => exact Kd.R_below F6.out (by repeat (first | exact Below.refl _ _ | apply below_alloc | apply pw_below_drewN | apply below_drew1))); rintro e w14_ ⟨rfl, hs_, hb_, hk_⟩; refine ⟨_, rfl, ?_⟩; have g_ := Aside0.mk (Kd.R_kept (Kd.R_below F4_0.out (by repeat (first | exact Below.refl _ _ | apply below_alloc | apply pw_below_drewN | apply below_drew1))) hk_ (fun k_ h1_ h2_ => by obtain ⟨_, _⟩ := h1_; obtain ⟨_, _⟩ := h2_; omega)); clear F4_0; have F4_0 := g_; clear g_; have g_ := Aside0.mk (Kd.R_kept (Kd.R_below F7_0.out (by repeat (first | exact Below.refl _ _ | apply below_alloc | apply pw_below_drewN | apply below_drew1))) hk_ (fun k_ h1_ h2_ => by obtain ⟨_, _⟩ := h1_; obtain ⟨_, _⟩ := h2_; omega)); clear F7_0; have F7_0 := g_; clear g_; have hl_ : t6.length = u14.length := (Kd.R_reads' hs_).1; have g_ := Aside0.mk (show Kd.R (Kd.int .i64) 3 w14_ w.heap.size (fun _ => True) (.slice Ao6 u14.length co6) u14 from hl_ ▸ Kd.R_mono hs_ (fun _ _ => trivial)); clear F6; have F6 := g_; clear g_; (try rw [hl_]); clear hl_ hs_; have g_ := Aside0.mk hb_; clear HB hb_; have HB := g_; clear g_; have g_ := Aside0.mk (Nat.le_trans HN.out (Nat.le_trans (show Below w13_.heap.size w13_ _ from (by repeat (first | exact Below.refl _ _ | apply below_alloc | apply pw_below_drewN | apply below_drew1))).size hk_.1)); clear HN hk_; have HN := g_; clear g_) | (go_at_call 21; (with_reducible refine (laws_eqIntS.calls k _ _ t7_0 _ _ t4_0 true _ ?side1 ?side2 ?side3 ?side4 A15_.out).mono ?_); (case side1 => exact (Kd.R_reads' (Kd.R_below F7_0.out (by repeat (first | exact Below.refl _ _ | apply below_alloc | apply pw_below_drewN | apply below_drew1)))).2.2); (case side2 => exact (Kd.R_reads' F7_0.out).2.1); (case side3 => exact (Kd.R_reads' (Kd.R_below F4_0.out (by repeat (first | exact Below.refl _ _ | apply below_alloc | apply pw_below_drewN | apply below_drew1)))).2.2); (case side4 => exact (Kd.R_reads' F4_0.out).2.1); rintro e w' ⟨rfl, ⟨nd, rfl⟩⟩) | ((with_reducible refine gate_callee (f := 23) rfl ?_); refine goesL_ (some 87) rfl rfl Try.func23 (by kernel_rfl) rfl #[.slice Ao7_0 t7_0.length co7_0, .int .i64 1] rfl (by (try simp only [List.map_toArray, List.map_cons, List.map_nil]); first | done | rfl | (simp only [List.length_drop, List.length_take]; rfl)) ?_; (with_reducible refine (laws_markIntS.calls k (fun k_ => n5_ ≤ k_ ∧ k_ < n6_) _ t7_0 1 t16 u16 w _ ?sideB ?sideO A16_.out).mono ?_); (case sideB => exact below_step HB.out (by repeat (first | exact Below.refl _ _ | apply below_alloc | apply pw_below_drewN | apply below_drew1))); (case sideO => exact Kd.R_below F7_0.out (by repeat (first | exact Below.refl _ _ | apply below_alloc | apply pw_below_drewN | apply below_drew1))); rintro e w16_ ⟨rfl, hs_, hb_, hk_⟩; refine ⟨_, rfl, ?_⟩; have g_ := Aside0.mk (Kd.R_kept (Kd.R_below F4_0.out (by repeat (first | exact Below.refl _ _ | apply below_alloc | apply pw_below_drewN | apply below_drew1))) hk_ (fun k_ h1_ h2_ => by obtain ⟨_, _⟩ := h1_; obtain ⟨_, _⟩ := h2_; omega)); clear F4_0; have F4_0 := g_; clear g_; have hl_ : t7_0.length = u16.length := (Kd.R_reads' hs_).1; have g_ := Aside0.mk (show Kd.R (Kd.int .i64) 3 w16_ w.heap.size (fun _ => True) (.slice Ao7_0 u16.length co7_0) u16 from hl_ ▸ Kd.R_mono hs_ (fun _ _ => trivial)); clear F7_0; have F7_0 := g_; clear g_; (try rw [hl_]); clear hl_ hs_; have g_ := Aside0.mk hb_; clear HB hb_; have HB := g_; clear g_; have g_ := Aside0.mk (Nat.le_trans HN.out (Nat.le_trans (show Below w14_.heap.size w14_ _ from (by repeat (first | exact Below.refl _ _ | apply below_alloc | apply pw_below_drewN | apply below_drew1))).size hk_.1)); clear HN hk_; have HN := g_; clear g_) | ((with_reducible refine gate_callee (f := 24) rfl ?_); refine goesL_ (some 90) rfl rfl Try.func24 (by kernel_rfl) rfl #[.slice Ao7_0 u16.length co7_0, .int .i64 1] rfl (by (try simp only [List.map_toArray, List.map_cons, List.map_nil]); first | done | rfl | (simp only [List.length_drop, List.length_take]; rfl)) ?_; (with_reducible refine (laws_heldIntS.calls k _ _ u16 1 t17 _ ?side1 ?side2 A17_.out).mono ?_); (case side1 => exact (Kd.R_reads' (Kd.R_below F7_0.out (by repeat (first | exact Below.refl _ _ | apply below_alloc | apply pw_below_drewN | apply below_drew1)))).2.2); (case side2 => exact (Kd.R_reads' F7_0.out).2.1); rintro e w' ⟨rfl, ⟨nd, rfl⟩⟩; refine ⟨_, rfl, ?_⟩) | ((with_reducible refine gate_callee (f := 14) rfl ?_); refine goesL_ (some 98) rfl rfl Try.func14 (by kernel_rfl) rfl #[.slice A0 l0.length c0] rfl (by (try simp only [List.map_toArray, List.map_cons, List.map_nil]); first | done | rfl | (simp only [List.length_drop, List.length_take]; rfl)) ?_; (with_reducible refine (laws_toIntSS.calls k _ _ l0 t18 _ ?side1 ?side2 A18_.out).mono ?_); (case side1 => exact Kd.C_below HR0.out (below_step HB.out (by repeat (first | exact Below.refl _ _ | apply below_alloc | apply pw_below_drewN | apply below_drew1)))); (case side2 => exact HC0.out); rintro e w18_ ⟨v_, rfl, ho_, hb_⟩; refine ⟨_, rfl, ?_⟩; have g_ := Aside0.mk (Kd.R_below (Kd.R_below F4_0.out (by repeat (first | exact Below.refl _ _ | apply below_alloc | apply pw_below_drewN | apply below_drew1))) hb_); clear F4_0; have F4_0 := g_; clear g_; have g_ := Aside0.mk (Kd.R_below (Kd.R_below F7_0.out (by repeat (first | exact Below.refl _ _ | apply below_alloc | apply pw_below_drewN | apply below_drew1))) hb_); clear F7_0; have F7_0 := g_; clear g_; obtain ⟨n9_, hle9_, hN_, hF_⟩ := Kd.madeS (N := n8_) HN.out (by repeat (first | exact Below.refl _ _ | apply below_alloc | apply pw_below_drewN | apply below_drew1)) hb_ HB.out ho_; obtain ⟨Ao18, co18, rfl⟩ := Kd.S_slice ho_; have F18 := Aside0.mk hF_; clear hF_ ho_; have g_ := Aside0.mk hN_; clear HN hN_; have HN := g_; clear g_; have g_ := Aside0.mk (below_step (below_step HB.out (by repeat (first | exact Below.refl _ _ | apply below_alloc | apply pw_below_drewN | apply below_drew1))) hb_); clear HB hb_; have HB := g_; clear g_) | ((with_reducible refine gate_callee (f := 40) rfl ?_); refine goesL_ (some 100) rfl rfl Try.func40 (by kernel_rfl) rfl #[.slice A1 l1.length c1] rfl (by (try simp only [List.map_toArray, List.map_cons, List.map_nil]); first | done | rfl | (simp only [List.length_drop, List.length_take]; rfl)) ?_; (with_reducible refine (laws_toIntS.calls k _ _ l1 t19 _ ?side1 ?side2 A19_.out).mono ?_); (case side1 => exact Kd.C_below HR1.out (below_step HB.out (by repeat (first | exact Below.refl _ _ | apply below_alloc | apply pw_below_drewN | apply below_drew1)))); (case side2 => exact HC1.out); rintro e w19_ ⟨v_, rfl, ho_, hb_⟩; refine ⟨_, rfl, ?_⟩; have g_ := Aside0.mk (Kd.R_below (Kd.R_below F4_0.out (by repeat (first | exact Below.refl _ _ | apply below_alloc | apply pw_below_drewN | apply below_drew1))) hb_); clear F4_0; have F4_0 := g_; clear g_; have g_ := Aside0.mk (Kd.R_below (Kd.R_below F7_0.out (by repeat (first | exact Below.refl _ _ | apply below_alloc | apply pw_below_drewN | apply below_drew1))) hb_); clear F7_0; have F7_0 := g_; clear g_; have g_ := Aside0.mk (Kd.S_below (Kd.S_below F18.out (by repeat (first | exact Below.refl _ _ | apply below_alloc | apply pw_below_drewN | apply below_drew1))) hb_); clear F18; have F18 := g_; clear g_; obtain ⟨n10_, hle10_, hN_, hF_⟩ := Kd.madeR (N := n9_) HN.out (by repeat (first | exact Below.refl _ _ | apply below_alloc | apply pw_below_drewN | apply below_drew1)) hb_ HB.out ho_; obtain ⟨Ao19, co19, rfl⟩ := Kd.R_slice ho_; have F19 := Aside0.mk hF_; clear hF_ ho_; have g_ := Aside0.mk hN_; clear HN hN_; have HN := g_; clear g_; have g_ := Aside0.mk (below_step (below_step HB.out (by repeat (first | exact Below.refl _ _ | apply below_alloc | apply pw_below_drewN | apply below_drew1))) hb_); clear HB hb_; have HB := g_; clear g_) | ((with_reducible refine gate_callee (f := 36) rfl ?_); refine goesL_ (some 102) rfl rfl Try.func36 (by kernel_rfl) rfl #[.slice Ao18 t18.length co18, .slice Ao19 t19.length co19, .int .i64 a2] rfl (by (try simp only [List.map_toArray, List.map_cons, List.map_nil]); first | done | rfl | (simp only [List.length_drop, List.length_take]; rfl)) ?_; (with_reducible refine (impl_TwinOf.calls k _ _ t18 _ _ t19 a2 t20_0 t20_1 _ ?side1 ?side2 ?side3 ?side4 A20_.out).mono ?_); (case side1 => exact (Kd.S_reads' (Kd.S_below F18.out (by repeat (first | exact Below.refl _ _ | apply below_alloc | apply pw_below_drewN | apply below_drew1)))).2.2); (case side2 => exact (Kd.S_reads' F18.out).2.1); (case side3 => exact (Kd.R_reads' (Kd.R_below F19.out (by repeat (first | exact Below.refl _ _ | apply below_alloc | apply pw_below_drewN | apply below_drew1)))).2.2); (case side4 => exact (Kd.R_reads' F19.out).2.1); rintro e w20_ ⟨v_, rfl, ho_, hb_⟩; refine ⟨_, rfl, ?_⟩; have g_ := Aside0.mk (Kd.R_below (Kd.R_below F4_0.out (by repeat (first | exact Below.refl _ _ | apply below_alloc | apply pw_below_drewN | apply below_drew1))) hb_); clear F4_0; have F4_0 := g_; clear g_; have g_ := Aside0.mk (Kd.R_below (Kd.R_below F7_0.out (by repeat (first | exact Below.refl _ _ | apply below_alloc | apply pw_below_drewN | apply below_drew1))) hb_); clear F7_0; have F7_0 := g_; clear g_; obtain ⟨n11_, hle11_, hN_, hF_⟩ := Kd.madeR (N := n10_) HN.out (by repeat (first | exact Below.refl _ _ | apply below_alloc | apply pw_below_drewN | apply below_drew1)) hb_ HB.out ho_; obtain ⟨Ao20_0, co20_0, rfl⟩ := Kd.R_slice ho_; have F20_0 := Aside0.mk hF_; clear hF_ ho_; have g_ := Aside0.mk hN_; clear HN hN_; have HN := g_; clear g_; have g_ := Aside0.mk (below_step (below_step HB.out (by repeat (first | exact Below.refl _ _ | apply below_alloc | apply pw_below_drewN | apply below_drew1))) hb_); clear HB hb_; have HB := g_; clear g_) | ((with_reducible refine gate_callee (f := 21) rfl ?_); refine goesL_ (some 107) rfl rfl Try.func21 (by kernel_rfl) rfl #[.slice Ao20_0 t20_0.length co20_0, .slice Ao4_0 t4_0.length co4_0] rfl (by (try simp only [List.map_toArray, List.map_cons, List.map_nil]); first | done | rfl | (simp only [List.length_drop, List.length_take]; rfl)) ?_; (with_reducible refine (laws_eqIntS.calls k _ _ t20_0 _ _ t4_0 true _ ?side1 ?side2 ?side3 ?side4 A21_.out).mono ?_); (case side1 => exact (Kd.R_reads' (Kd.R_below F20_0.out (by repeat (first | exact Below.refl _ _ | apply below_alloc | apply pw_below_drewN | apply below_drew1)))).2.2); (case side2 => exact (Kd.R_reads' F20_0.out).2.1); (case side3 => exact (Kd.R_reads' (Kd.R_below F4_0.out (by repeat (first | exact Below.refl _ _ | apply below_alloc | apply pw_below_drewN | apply below_drew1)))).2.2); (case side4 => exact (Kd.R_reads' F4_0.out).2.1); rintro e w' ⟨rfl, ⟨nd, rfl⟩⟩; refine ⟨_, rfl, ?_⟩) | ((with_reducible refine gate_callee (f := 24) rfl ?_); refine goesL_ (some 116) rfl rfl Try.func24 (by kernel_rfl) rfl #[.slice Ao7_0 u16.length co7_0, .int .i64 1] rfl (by (try simp only [List.map_toArray, List.map_cons, List.map_nil]); first | done | rfl | (simp only [List.length_drop, List.length_take]; rfl)) ?_; (with_reducible refine (laws_heldIntS.calls k _ _ u16 1 t22 _ ?side1 ?side2 A22_.out).mono ?_); (case side1 => exact (Kd.R_reads' (Kd.R_below F7_0.out (by repeat (first | exact Below.refl _ _ | apply below_alloc | apply pw_below_drewN | apply below_drew1)))).2.2); (case side2 => exact (Kd.R_reads' F7_0.out).2.1); rintro e w' ⟨rfl, ⟨nd, rfl⟩⟩; refine ⟨_, rfl, ?_⟩))
  go_ret
  exact ⟨rfl, below_step HB.out (by repeat (first | exact Below.refl _ _ | apply below_alloc | apply pw_below_drewN | apply below_drew1))⟩

end Go.Proofs.Ytoniljblfenpeaa.PFnExactTwinOf
