-- Written by a program of this session out of the translation (wip/gen/hprint.sh). Lean checks it.
import Derived.Test.YtoniljblfenpeaaHFnExplainedx0
import Derived.Test.YtoniljblfenpeaaHFnExplainedx1
import Derived.Test.YtoniljblfenpeaaHFnExplainedx2
namespace Go.Proofs.Ytoniljblfenpeaa.PFnExplained
open Go.RowKit Go.Proofs.YtoniljblfenpeaaW.PrintWords Go.Proofs.YtoniljblfenpeaaW.PrintLast Go.Proofs.YtoniljblfenpeaaW.PrintMore
attribute [local go_sem] max2_int min2_int max_two min_two max_three min_three max_four min_four   -- for this text's walks alone
set_option linter.unusedVariables false
set_option linter.unusedSimpArgs false

/-! ### impl_Suspects: function 26 -/
mutual
def impl_Suspects.l0 : Nat → List (List Int) → List Bool → List Int → Int → Int → Option (List Int)
  | 0, _, _, _, _, _ => none
  | k + 1, x0, x1, x7, x18, x19 => if x19 < x18 then (impl_Suspects.l1 k x0 x1 x7 x19 false false x18 x19 x0 (x0.length : Int) 0) else (some x7)
def impl_Suspects.l1 : Nat → List (List Int) → List Bool → List Int → Int → Bool → Bool → Int → Int → List (List Int) → Int → Int → Option (List Int)
  | 0, _, _, _, _, _, _, _, _, _, _, _ => none
  | k + 1, x0, x1, x7, x8, x9, x10, x18, x19, x22, x23, x24 => if x24 < x23 then (if 0 ≤ x24 then (if x24 < (x22.length : Int) then (if x9 = true then (if x10 = true then (impl_Suspects.l1 k x0 x1 x7 x8 true true x18 x19 x22 x23 (wrap64 (x24 + 1))) else (if 0 ≤ x8 then (if x8 < ((rd_L1 x22 x24).length : Int) then (if (rd (rd_L1 x22 x24) x8) = 1 then (if x24 < (x1.length : Int) then (impl_Suspects.l1 k x0 x1 x7 x8 true (!(rdOf false x1 x24)) x18 x19 x22 x23 (wrap64 (x24 + 1))) else (none)) else (impl_Suspects.l1 k x0 x1 x7 x8 true false x18 x19 x22 x23 (wrap64 (x24 + 1)))) else (none)) else (none))) else (if 0 ≤ x8 then (if x8 < ((rd_L1 x22 x24).length : Int) then (if (rd (rd_L1 x22 x24) x8) = 1 then (if x24 < (x1.length : Int) then (if x10 = true then (impl_Suspects.l1 k x0 x1 x7 x8 (rdOf false x1 x24) true x18 x19 x22 x23 (wrap64 (x24 + 1))) else (impl_Suspects.l1 k x0 x1 x7 x8 (rdOf false x1 x24) (!(rdOf false x1 x24)) x18 x19 x22 x23 (wrap64 (x24 + 1)))) else (none)) else (if x10 = true then (impl_Suspects.l1 k x0 x1 x7 x8 false true x18 x19 x22 x23 (wrap64 (x24 + 1))) else (impl_Suspects.l1 k x0 x1 x7 x8 false false x18 x19 x22 x23 (wrap64 (x24 + 1))))) else (none)) else (none))) else (none)) else (none)) else (if x9 = true then (if x10 = true then (impl_Suspects.l0 k x0 x1 x7 x18 (wrap64 (x19 + 1))) else (if x7.length < 17592186044416 then (impl_Suspects.l0 k x0 x1 (x7 ++ [x8]) x18 (wrap64 (x19 + 1))) else (none))) else (impl_Suspects.l0 k x0 x1 x7 x18 (wrap64 (x19 + 1))))
end
def impl_Suspects.f (k : Nat) (l0 : List (List Int)) (l1 : List Bool) (a2 : Int) : Option (List Int) := (impl_AreVerdicts.f k l0 l1 a2).bind fun t118 => (if t118 = true then (impl_Suspects.l0 k l0 l1 ([] : List Int) a2 0) else (some ([] : List Int)))
theorem impl_Suspects.mono_l : ∀ k, (∀ y0 y1 y2 y3 y4, LeO (impl_Suspects.l0 k y0 y1 y2 y3 y4) (impl_Suspects.l0 (k + 1) y0 y1 y2 y3 y4)) ∧ (∀ y0 y1 y2 y3 y4 y5 y6 y7 y8 y9 y10, LeO (impl_Suspects.l1 k y0 y1 y2 y3 y4 y5 y6 y7 y8 y9 y10) (impl_Suspects.l1 (k + 1) y0 y1 y2 y3 y4 y5 y6 y7 y8 y9 y10))
  | 0 => ⟨fun _ _ _ _ _ r h => by simp [impl_Suspects.l0] at h, fun _ _ _ _ _ _ _ _ _ _ _ r h => by simp [impl_Suspects.l1] at h⟩
  | k + 1 => by
    obtain ⟨ih0, ih1⟩ := impl_Suspects.mono_l k
    refine ⟨?_, ?_⟩
    · intro y0 y1 y2 y3 y4
      unfold impl_Suspects.l0
      repeat' first
      | (with_reducible exact ih0 _ _ _ _ _)
      | (with_reducible exact ih1 _ _ _ _ _ _ _ _ _ _ _)
      | (with_reducible exact impl_AreVerdicts.mono _ _ _ _)
      | (with_reducible exact LeO.refl _)
      | (with_reducible exact LeO.none _)
      | (with_reducible refine LeO.ite ?_ ?_)
      | (with_reducible refine LeO.bind ?_ (fun _ => ?_))
      | exact ih0 _ _ _ _ _
      | exact ih1 _ _ _ _ _ _ _ _ _ _ _
      | exact impl_AreVerdicts.mono _ _ _ _
      | exact LeO.none _
      | refine LeO.ite ?_ ?_
      | refine LeO.bind ?_ (fun _ => ?_)
    · intro y0 y1 y2 y3 y4 y5 y6 y7 y8 y9 y10
      unfold impl_Suspects.l1
      repeat' first
      | (with_reducible exact ih0 _ _ _ _ _)
      | (with_reducible exact ih1 _ _ _ _ _ _ _ _ _ _ _)
      | (with_reducible exact impl_AreVerdicts.mono _ _ _ _)
      | (with_reducible exact LeO.refl _)
      | (with_reducible exact LeO.none _)
      | (with_reducible refine LeO.ite ?_ ?_)
      | (with_reducible refine LeO.bind ?_ (fun _ => ?_))
      | exact ih0 _ _ _ _ _
      | exact ih1 _ _ _ _ _ _ _ _ _ _ _
      | exact impl_AreVerdicts.mono _ _ _ _
      | exact LeO.none _
      | refine LeO.ite ?_ ?_
      | refine LeO.bind ?_ (fun _ => ?_)
theorem impl_Suspects.mono : ∀ a0 a1 a2 k, LeO (impl_Suspects.f k a0 a1 a2) (impl_Suspects.f (k + 1) a0 a1 a2) := by
  intro a0 a1 a2 k
  obtain ⟨ih0, ih1⟩ := impl_Suspects.mono_l k
  unfold impl_Suspects.f
  repeat' first
      | (with_reducible exact ih0 _ _ _ _ _)
      | (with_reducible exact ih1 _ _ _ _ _ _ _ _ _ _ _)
      | (with_reducible exact impl_AreVerdicts.mono _ _ _ _)
      | (with_reducible exact LeO.refl _)
      | (with_reducible exact LeO.none _)
      | (with_reducible refine LeO.ite ?_ ?_)
      | (with_reducible refine LeO.bind ?_ (fun _ => ?_))
      | exact ih0 _ _ _ _ _
      | exact ih1 _ _ _ _ _ _ _ _ _ _ _
      | exact impl_AreVerdicts.mono _ _ _ _
      | exact LeO.none _
      | refine LeO.ite ?_ ?_
      | refine LeO.bind ?_ (fun _ => ?_)
set_option maxHeartbeats 8000000 in
set_option maxRecDepth 100000 in
theorem impl_Suspects.calls (k : Nat) (A0 : Option Addr) (c0 : Nat) (l0 : List (List Int)) (A1 : Option Addr) (c1 : Nat) (l1 : List Bool) (a2 : Int) (r : List Int) (w : World) (hr0 : Kd.C (Kd.slice 3 (Kd.int .i64)) w A0 l0.length l0) (hc0 : l0.length ≤ c0) (hr1 : Kd.C Kd.bool w A1 l1.length l1) (hc1 : l1.length ≤ c1) (h : impl_Suspects.f k l0 l1 a2 = some r) :
    Calls Try.prog 26 #[.slice A0 l0.length c0, .slice A1 l1.length c1, .int .i64 a2] w fun e w' => ∃ v0_ : Value, e = .returned (v0_) ∧ Kd.R (Kd.int .i64) 3 w' w.heap.size (fun _ => True) v0_ r ∧ Below w.heap.size w w' := by
  have HR0 := Aside0.mk hr0
  have HC0 := Aside0.mk hc0
  clear hr0 hc0
  have HR1 := Aside0.mk hr1
  have HC1 := Aside0.mk hc1
  clear hr1 hc1
  have HB := Aside0.mk (Below.refl w.heap.size w)
  have H : ((impl_AreVerdicts.f k l0 l1 a2).bind fun t118 => (if t118 = true then (impl_Suspects.l0 k l0 l1 ([] : List Int) a2 0) else (some ([] : List Int)))) = some r := h
  clear h
  replace H := Option.bind_eq_some_iff.mp H
  obtain ⟨t118, A40, H⟩ := H
  replace H : (if t118 = true then (impl_Suspects.l0 k l0 l1 ([] : List Int) a2 0) else (some ([] : List Int))) = some r := H
  have A4 := Aside0.mk A40
  clear A40
  by_cases c5 : t118 = true
  · subst c5
    have H1 : (impl_Suspects.l0 k l0 l1 ([] : List Int) a2 0) = some r := by rw [if_pos rfl] at H; exact H
    clear H
    have H := H1
    clear H1
    have H' := Aside0.mk H
    clear H
    go_enter Try.func26, Try.ntmps26
    go_wp2_with (first | ((with_reducible refine gate_callee (f := 16) rfl ?_); refine goesL_ (some 16) rfl rfl Try.func16 (by kernel_rfl) rfl #[.slice A0 l0.length c0, .slice A1 l1.length c1, .int .i64 a2] rfl (by (try simp only [List.map_toArray, List.map_cons, List.map_nil]); first | done | rfl | (simp only [List.length_drop, List.length_take]; rfl)) ?_; (with_reducible refine (impl_AreVerdicts.calls k _ _ l0 _ _ l1 a2 true _ ?side1 ?side2 ?side3 ?side4 A4.out).mono ?_); (case side1 => repeat (first | exact HR0.out | (with_reducible refine Kd.C_alloc ?_ _) | (with_reducible refine Kd.C_drewN ?_ _) | (with_reducible refine Kd.C_drew ?_))); (case side2 => exact HC0.out); (case side3 => repeat (first | exact HR1.out | (with_reducible refine Kd.C_alloc ?_ _) | (with_reducible refine Kd.C_drewN ?_ _) | (with_reducible refine Kd.C_drew ?_))); (case side4 => exact HC1.out); rintro e w6 ⟨rfl, hb⟩; refine ⟨_, rfl, ?_⟩; have n0_ := Aside0.mk (below_step (by repeat (first | (with_reducible first | exact HB.out | apply below_alloc | apply pw_below_drewN | apply below_drew1) | exact HB.out)) hb); clear HB; have HB := n0_; clear n0_; (try clear hb); (try clear hb2); (try clear hk); (try clear hi)))
    go_loopg [7, 19] k (fun kq v7 v19 w' => ∃ (x7_1 : List Int) (x19_1 : Int), v19 = .int .i64 x19_1 ∧ Aside0 (impl_Suspects.l0 kq l0 l1 x7_1 a2 x19_1 = some r) ∧ Aside0 (kq ≤ k) ∧ Aside0 (Kd.R (Kd.int .i64) 3 w' w.heap.size (fun _ => True) v7 x7_1) ∧ Aside0 (Below w.heap.size w w'))
    case atStart => exact ⟨(([] : List Int)), (0), (by first | rfl | (simp; done) | (simp [*]; done)), H', ⟨Nat.le_refl _⟩, ⟨by first | exact Kd.R_nil _ _ _ _ _ | exact Kd.N_nil _ _ _ _ _ | exact Kd.V_nil _ _ _ _ _ | exact Kd.Q_nil _ _ _ _ _ | exact Kd.S_nil _ _ _ _ _⟩, ⟨by repeat (first | (with_reducible first | exact HB.out | apply below_alloc | apply pw_below_drewN | apply below_drew1) | exact HB.out)⟩⟩
    case round =>
      clear H'
      try clear c1
      try clear c2
      try clear p2
      try clear c5
      obtain ⟨x7_1, x19_1, rfl, HA, HK1, HO_7, HB⟩ := hrel
      cases gk with
      | zero => exact absurd HA.out (by simp [impl_Suspects.l0])
      | succ k1 =>
        have H := HA.out
        clear HA
        simp only [impl_Suspects.l0] at H
        by_cases c7 : x19_1 < a2
        · rw [if_pos c7] at H
          have c7b0 : decide (x19_1 < a2) = true := decide_eq_true c7
          clear c7
          have H' := Aside0.mk H
          clear H
          go_wp2
          go_loopg [9, 10, 24] k1 (fun kq v9 v10 v24 w' => ∃ (x9_2 : Bool) (x10_2 : Bool) (x24_2 : Int), v9 = .bool x9_2 ∧ v10 = .bool x10_2 ∧ v24 = .int .i64 x24_2 ∧ Aside0 (impl_Suspects.l1 kq l0 l1 x7_1 x19_1 x9_2 x10_2 a2 x19_1 l0 (l0.length : Int) x24_2 = some r) ∧ Aside0 (kq ≤ k1) ∧ Aside0 (Kd.R (Kd.int .i64) 3 w' w.heap.size (fun _ => True) u7 x7_1) ∧ Aside0 (Below w.heap.size w w'))
          case atStart => exact ⟨(false), (false), (0), (by first | rfl | (simp; done) | (simp [*]; done)), (by first | rfl | (simp; done) | (simp [*]; done)), (by first | rfl | (simp; done) | (simp [*]; done)), H', ⟨Nat.le_refl _⟩, ⟨by (with_reducible repeat (first | apply Kd.R_alloc | apply Kd.R_drewN | apply Kd.R_drew)); exact HO_7.out⟩, ⟨by repeat (first | (with_reducible first | exact HB.out | apply below_alloc | apply pw_below_drewN | apply below_drew1) | exact HB.out)⟩⟩
          case round =>
            clear H'
            try clear c1
            try clear c2
            try clear p2
            try clear c5
            try clear c7
            try clear c7b0
            try clear p2
            obtain ⟨x9_2, x10_2, x24_2, rfl, rfl, rfl, HA, HK2, HO_7, HB⟩ := hrel
            cases gk with
            | zero => exact absurd HA.out (by simp [impl_Suspects.l1])
            | succ k2 =>
              have H := HA.out
              clear HA
              simp only [impl_Suspects.l1] at H
              by_cases c8 : x24_2 < (l0.length : Int)
              · rw [if_pos c8] at H
                have c8b0 : decide (x24_2 < (l0.length : Int)) = true := decide_eq_true c8
                clear c8
                by_cases c9 : 0 ≤ x24_2
                · rw [if_pos c9] at H
                  have c9b0 : decide (0 ≤ x24_2) = true := decide_eq_true c9
                  clear c9
                  by_cases c10 : x24_2 < (l0.length : Int)
                  · rw [if_pos c10] at H
                    have c10b0 : decide (x24_2 < (l0.length : Int)) = true := decide_eq_true c10
                    clear c10
                    by_cases c11 : x9_2 = true
                    · subst c11
                      have H1 : (if x10_2 = true then (impl_Suspects.l1 k2 l0 l1 x7_1 x19_1 true true a2 x19_1 l0 (l0.length : Int) (wrap64 (x24_2 + 1))) else (if 0 ≤ x19_1 then (if x19_1 < ((rd_L1 l0 x24_2).length : Int) then (if (rd (rd_L1 l0 x24_2) x19_1) = 1 then (if x24_2 < (l1.length : Int) then (impl_Suspects.l1 k2 l0 l1 x7_1 x19_1 true (!(rdOf false l1 x24_2)) a2 x19_1 l0 (l0.length : Int) (wrap64 (x24_2 + 1))) else (none)) else (impl_Suspects.l1 k2 l0 l1 x7_1 x19_1 true false a2 x19_1 l0 (l0.length : Int) (wrap64 (x24_2 + 1)))) else (none)) else (none))) = some r := by rw [if_pos rfl] at H; exact H
                      clear H
                      have H := H1
                      clear H1
                      by_cases c12 : x10_2 = true
                      · subst c12
                        have H1 : (impl_Suspects.l1 k2 l0 l1 x7_1 x19_1 true true a2 x19_1 l0 (l0.length : Int) (wrap64 (x24_2 + 1))) = some r := by rw [if_pos rfl] at H; exact H
                        clear H
                        have H := H1
                        clear H1
                        have H' := Aside0.mk H
                        clear H
                        have p119 : 0 ≤ (x24_2 : Int) := of_decide_eq_true (by first | (with_reducible assumption) | assumption)
                        have q119 : x24_2 < (l0.length : Int) := of_decide_eq_true (by first | (with_reducible assumption) | assumption)
                        obtain ⟨ad119, A119_0, c119_0, e119, hx119_0, hl119_0, hi119_0⟩ := at_L1 HR0.out x24_2 p119 q119
                        cases e119
                        replace hx119_0 := (HB.out.cell (World.block_lt_of_cell? w _ hx119_0)).trans hx119_0
                        have HR119_0 := Aside0.mk hi119_0
                        have HC119_0 := Aside0.mk hl119_0
                        clear hi119_0 hl119_0
                        replace p119 := eq_true p119
                        replace q119 := eq_true q119
                        go_wp2
                        go_roundg k2
                        case measure => have := HK1.out; have := HK2.out; omega
                        case rel => exact ⟨(true), (true), (wrap64 (x24_2 + 1)), (by first | rfl | (simp; done) | (simp [*]; done)), (by first | rfl | (simp; done) | (simp [*]; done)), (by first | rfl | (simp; done) | (simp [*]; done)), H', ⟨by have := HK1.out; have := HK2.out; omega⟩, ⟨by (with_reducible repeat (first | apply Kd.R_alloc | apply Kd.R_drewN | apply Kd.R_drew)); exact HO_7.out⟩, ⟨by repeat (first | (with_reducible first | exact HB.out | apply below_alloc | apply pw_below_drewN | apply below_drew1) | exact HB.out)⟩⟩
                      · replace c12 := Bool.eq_false_iff.mpr c12
                        subst c12
                        have H1 : (if 0 ≤ x19_1 then (if x19_1 < ((rd_L1 l0 x24_2).length : Int) then (if (rd (rd_L1 l0 x24_2) x19_1) = 1 then (if x24_2 < (l1.length : Int) then (impl_Suspects.l1 k2 l0 l1 x7_1 x19_1 true (!(rdOf false l1 x24_2)) a2 x19_1 l0 (l0.length : Int) (wrap64 (x24_2 + 1))) else (none)) else (impl_Suspects.l1 k2 l0 l1 x7_1 x19_1 true false a2 x19_1 l0 (l0.length : Int) (wrap64 (x24_2 + 1)))) else (none)) else (none)) = some r := by rw [if_neg (show ¬ (false = true) by decide)] at H; exact H
                        clear H
                        have H := H1
                        clear H1
                        by_cases c13 : 0 ≤ x19_1
                        · rw [if_pos c13] at H
                          have c13b0 : decide (0 ≤ x19_1) = true := decide_eq_true c13
                          clear c13
                          by_cases c14 : x19_1 < ((rd_L1 l0 x24_2).length : Int)
                          · rw [if_pos c14] at H
                            have c14b0 : decide (x19_1 < ((rd_L1 l0 x24_2).length : Int)) = true := decide_eq_true c14
                            clear c14
                            by_cases c15 : (rd (rd_L1 l0 x24_2) x19_1) = 1
                            · rw [if_pos c15] at H
                              have c15b0 : ((rd (rd_L1 l0 x24_2) x19_1) == 1) = true := beq_iff_eq.mpr c15
                              have c15b1 : ((rd (rd_L1 l0 x24_2) x19_1) != 1) = false := bne_eq_false_iff_eq.mpr c15
                              clear c15
                              by_cases c16 : x24_2 < (l1.length : Int)
                              · rw [if_pos c16] at H
                                have c16b0 : decide (x24_2 < (l1.length : Int)) = true := decide_eq_true c16
                                clear c16
                                have H' := Aside0.mk H
                                clear H
                                have p119 : 0 ≤ (x24_2 : Int) := of_decide_eq_true (by first | (with_reducible assumption) | assumption)
                                have q119 : x24_2 < (l0.length : Int) := of_decide_eq_true (by first | (with_reducible assumption) | assumption)
                                obtain ⟨ad119, A119_0, c119_0, e119, hx119_0, hl119_0, hi119_0⟩ := at_L1 HR0.out x24_2 p119 q119
                                cases e119
                                replace hx119_0 := (HB.out.cell (World.block_lt_of_cell? w _ hx119_0)).trans hx119_0
                                have HR119_0 := Aside0.mk hi119_0
                                have HC119_0 := Aside0.mk hl119_0
                                clear hi119_0 hl119_0
                                replace p119 := eq_true p119
                                replace q119 := eq_true q119
                                have p120 : 0 ≤ (x19_1 : Int) := of_decide_eq_true (by first | (with_reducible assumption) | assumption)
                                have q120 : x19_1 < ((rd_L1 l0 x24_2).length : Int) := of_decide_eq_true (by first | (with_reducible assumption) | assumption)
                                obtain ⟨ad120, e120, hx120_0⟩ := Kd.at_int HR119_0.out x19_1 p120 q120
                                cases e120
                                replace hx120_0 := (HB.out.cell (World.block_lt_of_cell? w _ hx120_0)).trans hx120_0
                                replace p120 := eq_true p120
                                replace q120 := eq_true q120
                                have p121 : 0 ≤ (x24_2 : Int) := of_decide_eq_true (by first | (with_reducible assumption) | assumption)
                                have q121 : x24_2 < (l1.length : Int) := of_decide_eq_true (by first | (with_reducible assumption) | assumption)
                                obtain ⟨ad121, e121, hx121_0⟩ := Kd.at_bool HR1.out x24_2 p121 q121
                                cases e121
                                replace hx121_0 := (HB.out.cell (World.block_lt_of_cell? w _ hx121_0)).trans hx121_0
                                replace p121 := eq_true p121
                                replace q121 := eq_true q121
                                go_wp2
                                go_roundg k2
                                case measure => have := HK1.out; have := HK2.out; omega
                                case rel => exact ⟨(true), (!(rdOf false l1 x24_2)), (wrap64 (x24_2 + 1)), (by first | rfl | (simp; done) | (simp [*]; done)), (by first | rfl | (simp; done) | (simp [*]; done)), (by first | rfl | (simp; done) | (simp [*]; done)), H', ⟨by have := HK1.out; have := HK2.out; omega⟩, ⟨by (with_reducible repeat (first | apply Kd.R_alloc | apply Kd.R_drewN | apply Kd.R_drew)); exact HO_7.out⟩, ⟨by repeat (first | (with_reducible first | exact HB.out | apply below_alloc | apply pw_below_drewN | apply below_drew1) | exact HB.out)⟩⟩
                              · rw [if_neg c16] at H
                                exact absurd H (by simp)
                            · rw [if_neg c15] at H
                              have c15b0 : ((rd (rd_L1 l0 x24_2) x19_1) == 1) = false := beq_eq_false_iff_ne.mpr c15
                              have c15b1 : ((rd (rd_L1 l0 x24_2) x19_1) != 1) = true := bne_iff_ne.mpr c15
                              have H' := Aside0.mk H
                              clear H
                              have p119 : 0 ≤ (x24_2 : Int) := of_decide_eq_true (by first | (with_reducible assumption) | assumption)
                              have q119 : x24_2 < (l0.length : Int) := of_decide_eq_true (by first | (with_reducible assumption) | assumption)
                              obtain ⟨ad119, A119_0, c119_0, e119, hx119_0, hl119_0, hi119_0⟩ := at_L1 HR0.out x24_2 p119 q119
                              cases e119
                              replace hx119_0 := (HB.out.cell (World.block_lt_of_cell? w _ hx119_0)).trans hx119_0
                              have HR119_0 := Aside0.mk hi119_0
                              have HC119_0 := Aside0.mk hl119_0
                              clear hi119_0 hl119_0
                              replace p119 := eq_true p119
                              replace q119 := eq_true q119
                              have p120 : 0 ≤ (x19_1 : Int) := of_decide_eq_true (by first | (with_reducible assumption) | assumption)
                              have q120 : x19_1 < ((rd_L1 l0 x24_2).length : Int) := of_decide_eq_true (by first | (with_reducible assumption) | assumption)
                              obtain ⟨ad120, e120, hx120_0⟩ := Kd.at_int HR119_0.out x19_1 p120 q120
                              cases e120
                              replace hx120_0 := (HB.out.cell (World.block_lt_of_cell? w _ hx120_0)).trans hx120_0
                              replace p120 := eq_true p120
                              replace q120 := eq_true q120
                              go_wp2
                              go_roundg k2
                              case measure => have := HK1.out; have := HK2.out; omega
                              case rel => exact ⟨(true), (false), (wrap64 (x24_2 + 1)), (by first | rfl | (simp; done) | (simp [*]; done)), (by first | rfl | (simp; done) | (simp [*]; done)), (by first | rfl | (simp; done) | (simp [*]; done)), H', ⟨by have := HK1.out; have := HK2.out; omega⟩, ⟨by (with_reducible repeat (first | apply Kd.R_alloc | apply Kd.R_drewN | apply Kd.R_drew)); exact HO_7.out⟩, ⟨by repeat (first | (with_reducible first | exact HB.out | apply below_alloc | apply pw_below_drewN | apply below_drew1) | exact HB.out)⟩⟩
                          · rw [if_neg c14] at H
                            exact absurd H (by simp)
                        · rw [if_neg c13] at H
                          exact absurd H (by simp)
                    · replace c11 := Bool.eq_false_iff.mpr c11
                      subst c11
                      have H1 : (if 0 ≤ x19_1 then (if x19_1 < ((rd_L1 l0 x24_2).length : Int) then (if (rd (rd_L1 l0 x24_2) x19_1) = 1 then (if x24_2 < (l1.length : Int) then (if x10_2 = true then (impl_Suspects.l1 k2 l0 l1 x7_1 x19_1 (rdOf false l1 x24_2) true a2 x19_1 l0 (l0.length : Int) (wrap64 (x24_2 + 1))) else (impl_Suspects.l1 k2 l0 l1 x7_1 x19_1 (rdOf false l1 x24_2) (!(rdOf false l1 x24_2)) a2 x19_1 l0 (l0.length : Int) (wrap64 (x24_2 + 1)))) else (none)) else (if x10_2 = true then (impl_Suspects.l1 k2 l0 l1 x7_1 x19_1 false true a2 x19_1 l0 (l0.length : Int) (wrap64 (x24_2 + 1))) else (impl_Suspects.l1 k2 l0 l1 x7_1 x19_1 false false a2 x19_1 l0 (l0.length : Int) (wrap64 (x24_2 + 1))))) else (none)) else (none)) = some r := by rw [if_neg (show ¬ (false = true) by decide)] at H; exact H
                      clear H
                      have H := H1
                      clear H1
                      by_cases c17 : 0 ≤ x19_1
                      · rw [if_pos c17] at H
                        have c17b0 : decide (0 ≤ x19_1) = true := decide_eq_true c17
                        clear c17
                        by_cases c18 : x19_1 < ((rd_L1 l0 x24_2).length : Int)
                        · rw [if_pos c18] at H
                          have c18b0 : decide (x19_1 < ((rd_L1 l0 x24_2).length : Int)) = true := decide_eq_true c18
                          clear c18
                          by_cases c19 : (rd (rd_L1 l0 x24_2) x19_1) = 1
                          · rw [if_pos c19] at H
                            have c19b0 : ((rd (rd_L1 l0 x24_2) x19_1) == 1) = true := beq_iff_eq.mpr c19
                            have c19b1 : ((rd (rd_L1 l0 x24_2) x19_1) != 1) = false := bne_eq_false_iff_eq.mpr c19
                            clear c19
                            by_cases c20 : x24_2 < (l1.length : Int)
                            · rw [if_pos c20] at H
                              have c20b0 : decide (x24_2 < (l1.length : Int)) = true := decide_eq_true c20
                              clear c20
                              by_cases c21 : x10_2 = true
                              · subst c21
                                have H1 : (impl_Suspects.l1 k2 l0 l1 x7_1 x19_1 (rdOf false l1 x24_2) true a2 x19_1 l0 (l0.length : Int) (wrap64 (x24_2 + 1))) = some r := by rw [if_pos rfl] at H; exact H
                                clear H
                                have H := H1
                                clear H1
                                have H' := Aside0.mk H
                                clear H
                                have p119 : 0 ≤ (x24_2 : Int) := of_decide_eq_true (by first | (with_reducible assumption) | assumption)
                                have q119 : x24_2 < (l0.length : Int) := of_decide_eq_true (by first | (with_reducible assumption) | assumption)
                                obtain ⟨ad119, A119_0, c119_0, e119, hx119_0, hl119_0, hi119_0⟩ := at_L1 HR0.out x24_2 p119 q119
                                cases e119
                                replace hx119_0 := (HB.out.cell (World.block_lt_of_cell? w _ hx119_0)).trans hx119_0
                                have HR119_0 := Aside0.mk hi119_0
                                have HC119_0 := Aside0.mk hl119_0
                                clear hi119_0 hl119_0
                                replace p119 := eq_true p119
                                replace q119 := eq_true q119
                                have p122 : 0 ≤ (x19_1 : Int) := of_decide_eq_true (by first | (with_reducible assumption) | assumption)
                                have q122 : x19_1 < ((rd_L1 l0 x24_2).length : Int) := of_decide_eq_true (by first | (with_reducible assumption) | assumption)
                                obtain ⟨ad122, e122, hx122_0⟩ := Kd.at_int HR119_0.out x19_1 p122 q122
                                cases e122
                                replace hx122_0 := (HB.out.cell (World.block_lt_of_cell? w _ hx122_0)).trans hx122_0
                                replace p122 := eq_true p122
                                replace q122 := eq_true q122
                                have p123 : 0 ≤ (x24_2 : Int) := of_decide_eq_true (by first | (with_reducible assumption) | assumption)
                                have q123 : x24_2 < (l1.length : Int) := of_decide_eq_true (by first | (with_reducible assumption) | assumption)
                                obtain ⟨ad123, e123, hx123_0⟩ := Kd.at_bool HR1.out x24_2 p123 q123
                                cases e123
                                replace hx123_0 := (HB.out.cell (World.block_lt_of_cell? w _ hx123_0)).trans hx123_0
                                replace p123 := eq_true p123
                                replace q123 := eq_true q123
                                go_wp2
                                go_roundg k2
                                case measure => have := HK1.out; have := HK2.out; omega
                                case rel => exact ⟨(rdOf false l1 x24_2), (true), (wrap64 (x24_2 + 1)), (by first | rfl | (simp; done) | (simp [*]; done)), (by first | rfl | (simp; done) | (simp [*]; done)), (by first | rfl | (simp; done) | (simp [*]; done)), H', ⟨by have := HK1.out; have := HK2.out; omega⟩, ⟨by (with_reducible repeat (first | apply Kd.R_alloc | apply Kd.R_drewN | apply Kd.R_drew)); exact HO_7.out⟩, ⟨by repeat (first | (with_reducible first | exact HB.out | apply below_alloc | apply pw_below_drewN | apply below_drew1) | exact HB.out)⟩⟩
                              · replace c21 := Bool.eq_false_iff.mpr c21
                                subst c21
                                have H1 : (impl_Suspects.l1 k2 l0 l1 x7_1 x19_1 (rdOf false l1 x24_2) (!(rdOf false l1 x24_2)) a2 x19_1 l0 (l0.length : Int) (wrap64 (x24_2 + 1))) = some r := by rw [if_neg (show ¬ (false = true) by decide)] at H; exact H
                                clear H
                                have H := H1
                                clear H1
                                have H' := Aside0.mk H
                                clear H
                                have p119 : 0 ≤ (x24_2 : Int) := of_decide_eq_true (by first | (with_reducible assumption) | assumption)
                                have q119 : x24_2 < (l0.length : Int) := of_decide_eq_true (by first | (with_reducible assumption) | assumption)
                                obtain ⟨ad119, A119_0, c119_0, e119, hx119_0, hl119_0, hi119_0⟩ := at_L1 HR0.out x24_2 p119 q119
                                cases e119
                                replace hx119_0 := (HB.out.cell (World.block_lt_of_cell? w _ hx119_0)).trans hx119_0
                                have HR119_0 := Aside0.mk hi119_0
                                have HC119_0 := Aside0.mk hl119_0
                                clear hi119_0 hl119_0
                                replace p119 := eq_true p119
                                replace q119 := eq_true q119
                                have p122 : 0 ≤ (x19_1 : Int) := of_decide_eq_true (by first | (with_reducible assumption) | assumption)
                                have q122 : x19_1 < ((rd_L1 l0 x24_2).length : Int) := of_decide_eq_true (by first | (with_reducible assumption) | assumption)
                                obtain ⟨ad122, e122, hx122_0⟩ := Kd.at_int HR119_0.out x19_1 p122 q122
                                cases e122
                                replace hx122_0 := (HB.out.cell (World.block_lt_of_cell? w _ hx122_0)).trans hx122_0
                                replace p122 := eq_true p122
                                replace q122 := eq_true q122
                                have p123 : 0 ≤ (x24_2 : Int) := of_decide_eq_true (by first | (with_reducible assumption) | assumption)
                                have q123 : x24_2 < (l1.length : Int) := of_decide_eq_true (by first | (with_reducible assumption) | assumption)
                                obtain ⟨ad123, e123, hx123_0⟩ := Kd.at_bool HR1.out x24_2 p123 q123
                                cases e123
                                replace hx123_0 := (HB.out.cell (World.block_lt_of_cell? w _ hx123_0)).trans hx123_0
                                replace p123 := eq_true p123
                                replace q123 := eq_true q123
                                have p124 : 0 ≤ (x19_1 : Int) := of_decide_eq_true (by first | (with_reducible assumption) | assumption)
                                have q124 : x19_1 < ((rd_L1 l0 x24_2).length : Int) := of_decide_eq_true (by first | (with_reducible assumption) | assumption)
                                obtain ⟨ad124, e124, hx124_0⟩ := Kd.at_int HR119_0.out x19_1 p124 q124
                                obtain rfl : ad122 = ad124 := (by injection e124)
                                replace hx124_0 := (HB.out.cell (World.block_lt_of_cell? w _ hx124_0)).trans hx124_0
                                replace p124 := eq_true p124
                                replace q124 := eq_true q124
                                have p125 : 0 ≤ (x24_2 : Int) := of_decide_eq_true (by first | (with_reducible assumption) | assumption)
                                have q125 : x24_2 < (l1.length : Int) := of_decide_eq_true (by first | (with_reducible assumption) | assumption)
                                obtain ⟨ad125, e125, hx125_0⟩ := Kd.at_bool HR1.out x24_2 p125 q125
                                obtain rfl : ad123 = ad125 := (by injection e125)
                                replace hx125_0 := (HB.out.cell (World.block_lt_of_cell? w _ hx125_0)).trans hx125_0
                                replace p125 := eq_true p125
                                replace q125 := eq_true q125
                                go_wp2
                                go_roundg k2
                                case measure => have := HK1.out; have := HK2.out; omega
                                case rel => exact ⟨(rdOf false l1 x24_2), (!(rdOf false l1 x24_2)), (wrap64 (x24_2 + 1)), (by first | rfl | (simp; done) | (simp [*]; done)), (by first | rfl | (simp; done) | (simp [*]; done)), (by first | rfl | (simp; done) | (simp [*]; done)), H', ⟨by have := HK1.out; have := HK2.out; omega⟩, ⟨by (with_reducible repeat (first | apply Kd.R_alloc | apply Kd.R_drewN | apply Kd.R_drew)); exact HO_7.out⟩, ⟨by repeat (first | (with_reducible first | exact HB.out | apply below_alloc | apply pw_below_drewN | apply below_drew1) | exact HB.out)⟩⟩
                            · rw [if_neg c20] at H
                              exact absurd H (by simp)
                          · rw [if_neg c19] at H
                            have c19b0 : ((rd (rd_L1 l0 x24_2) x19_1) == 1) = false := beq_eq_false_iff_ne.mpr c19
                            have c19b1 : ((rd (rd_L1 l0 x24_2) x19_1) != 1) = true := bne_iff_ne.mpr c19
                            by_cases c22 : x10_2 = true
                            · subst c22
                              have H1 : (impl_Suspects.l1 k2 l0 l1 x7_1 x19_1 false true a2 x19_1 l0 (l0.length : Int) (wrap64 (x24_2 + 1))) = some r := by rw [if_pos rfl] at H; exact H
                              clear H
                              have H := H1
                              clear H1
                              have H' := Aside0.mk H
                              clear H
                              have p119 : 0 ≤ (x24_2 : Int) := of_decide_eq_true (by first | (with_reducible assumption) | assumption)
                              have q119 : x24_2 < (l0.length : Int) := of_decide_eq_true (by first | (with_reducible assumption) | assumption)
                              obtain ⟨ad119, A119_0, c119_0, e119, hx119_0, hl119_0, hi119_0⟩ := at_L1 HR0.out x24_2 p119 q119
                              cases e119
                              replace hx119_0 := (HB.out.cell (World.block_lt_of_cell? w _ hx119_0)).trans hx119_0
                              have HR119_0 := Aside0.mk hi119_0
                              have HC119_0 := Aside0.mk hl119_0
                              clear hi119_0 hl119_0
                              replace p119 := eq_true p119
                              replace q119 := eq_true q119
                              have p122 : 0 ≤ (x19_1 : Int) := of_decide_eq_true (by first | (with_reducible assumption) | assumption)
                              have q122 : x19_1 < ((rd_L1 l0 x24_2).length : Int) := of_decide_eq_true (by first | (with_reducible assumption) | assumption)
                              obtain ⟨ad122, e122, hx122_0⟩ := Kd.at_int HR119_0.out x19_1 p122 q122
                              cases e122
                              replace hx122_0 := (HB.out.cell (World.block_lt_of_cell? w _ hx122_0)).trans hx122_0
                              replace p122 := eq_true p122
                              replace q122 := eq_true q122
                              go_wp2
                              go_roundg k2
                              case measure => have := HK1.out; have := HK2.out; omega
                              case rel => exact ⟨(false), (true), (wrap64 (x24_2 + 1)), (by first | rfl | (simp; done) | (simp [*]; done)), (by first | rfl | (simp; done) | (simp [*]; done)), (by first | rfl | (simp; done) | (simp [*]; done)), H', ⟨by have := HK1.out; have := HK2.out; omega⟩, ⟨by (with_reducible repeat (first | apply Kd.R_alloc | apply Kd.R_drewN | apply Kd.R_drew)); exact HO_7.out⟩, ⟨by repeat (first | (with_reducible first | exact HB.out | apply below_alloc | apply pw_below_drewN | apply below_drew1) | exact HB.out)⟩⟩
                            · replace c22 := Bool.eq_false_iff.mpr c22
                              subst c22
                              have H1 : (impl_Suspects.l1 k2 l0 l1 x7_1 x19_1 false false a2 x19_1 l0 (l0.length : Int) (wrap64 (x24_2 + 1))) = some r := by rw [if_neg (show ¬ (false = true) by decide)] at H; exact H
                              clear H
                              have H := H1
                              clear H1
                              have H' := Aside0.mk H
                              clear H
                              have p119 : 0 ≤ (x24_2 : Int) := of_decide_eq_true (by first | (with_reducible assumption) | assumption)
                              have q119 : x24_2 < (l0.length : Int) := of_decide_eq_true (by first | (with_reducible assumption) | assumption)
                              obtain ⟨ad119, A119_0, c119_0, e119, hx119_0, hl119_0, hi119_0⟩ := at_L1 HR0.out x24_2 p119 q119
                              cases e119
                              replace hx119_0 := (HB.out.cell (World.block_lt_of_cell? w _ hx119_0)).trans hx119_0
                              have HR119_0 := Aside0.mk hi119_0
                              have HC119_0 := Aside0.mk hl119_0
                              clear hi119_0 hl119_0
                              replace p119 := eq_true p119
                              replace q119 := eq_true q119
                              have p122 : 0 ≤ (x19_1 : Int) := of_decide_eq_true (by first | (with_reducible assumption) | assumption)
                              have q122 : x19_1 < ((rd_L1 l0 x24_2).length : Int) := of_decide_eq_true (by first | (with_reducible assumption) | assumption)
                              obtain ⟨ad122, e122, hx122_0⟩ := Kd.at_int HR119_0.out x19_1 p122 q122
                              cases e122
                              replace hx122_0 := (HB.out.cell (World.block_lt_of_cell? w _ hx122_0)).trans hx122_0
                              replace p122 := eq_true p122
                              replace q122 := eq_true q122
                              have p126 : 0 ≤ (x19_1 : Int) := of_decide_eq_true (by first | (with_reducible assumption) | assumption)
                              have q126 : x19_1 < ((rd_L1 l0 x24_2).length : Int) := of_decide_eq_true (by first | (with_reducible assumption) | assumption)
                              obtain ⟨ad126, e126, hx126_0⟩ := Kd.at_int HR119_0.out x19_1 p126 q126
                              obtain rfl : ad122 = ad126 := (by injection e126)
                              replace hx126_0 := (HB.out.cell (World.block_lt_of_cell? w _ hx126_0)).trans hx126_0
                              replace p126 := eq_true p126
                              replace q126 := eq_true q126
                              go_wp2
                              go_roundg k2
                              case measure => have := HK1.out; have := HK2.out; omega
                              case rel => exact ⟨(false), (false), (wrap64 (x24_2 + 1)), (by first | rfl | (simp; done) | (simp [*]; done)), (by first | rfl | (simp; done) | (simp [*]; done)), (by first | rfl | (simp; done) | (simp [*]; done)), H', ⟨by have := HK1.out; have := HK2.out; omega⟩, ⟨by (with_reducible repeat (first | apply Kd.R_alloc | apply Kd.R_drewN | apply Kd.R_drew)); exact HO_7.out⟩, ⟨by repeat (first | (with_reducible first | exact HB.out | apply below_alloc | apply pw_below_drewN | apply below_drew1) | exact HB.out)⟩⟩
                        · rw [if_neg c18] at H
                          exact absurd H (by simp)
                      · rw [if_neg c17] at H
                        exact absurd H (by simp)
                  · rw [if_neg c10] at H
                    exact absurd H (by simp)
                · rw [if_neg c9] at H
                  exact absurd H (by simp)
              · rw [if_neg c8] at H
                have c8b0 : decide (x24_2 < (l0.length : Int)) = false := decide_eq_false c8
                clear c8
                by_cases c23 : x9_2 = true
                · subst c23
                  have H1 : (if x10_2 = true then (impl_Suspects.l0 k2 l0 l1 x7_1 a2 (wrap64 (x19_1 + 1))) else (if x7_1.length < 17592186044416 then (impl_Suspects.l0 k2 l0 l1 (x7_1 ++ [x19_1]) a2 (wrap64 (x19_1 + 1))) else (none))) = some r := by rw [if_pos rfl] at H; exact H
                  clear H
                  have H := H1
                  clear H1
                  by_cases c24 : x10_2 = true
                  · subst c24
                    have H1 : (impl_Suspects.l0 k2 l0 l1 x7_1 a2 (wrap64 (x19_1 + 1))) = some r := by rw [if_pos rfl] at H; exact H
                    clear H
                    have H := H1
                    clear H1
                    have H' := Aside0.mk H
                    clear H
                    go_wp2
                    go_roundg k2
                    case measure => have := HK1.out; have := HK2.out; omega
                    case rel => exact ⟨(x7_1), (wrap64 (x19_1 + 1)), (by first | rfl | (simp; done) | (simp [*]; done)), H', ⟨by have := HK1.out; have := HK2.out; omega⟩, ⟨by (with_reducible repeat (first | apply Kd.R_alloc | apply Kd.R_drewN | apply Kd.R_drew)); exact HO_7.out⟩, ⟨by repeat (first | (with_reducible first | exact HB.out | apply below_alloc | apply pw_below_drewN | apply below_drew1) | exact HB.out)⟩⟩
                  · replace c24 := Bool.eq_false_iff.mpr c24
                    subst c24
                    have H1 : (if x7_1.length < 17592186044416 then (impl_Suspects.l0 k2 l0 l1 (x7_1 ++ [x19_1]) a2 (wrap64 (x19_1 + 1))) else (none)) = some r := by rw [if_neg (show ¬ (false = true) by decide)] at H; exact H
                    clear H
                    have H := H1
                    clear H1
                    by_cases c25 : x7_1.length < 17592186044416
                    · rw [if_pos c25] at H
                      have LMc25 := Aside0.mk c25
                      clear c25
                      obtain ⟨y127, hy127⟩ : ∃ y_ : List Int, y_ = (x7_1 ++ [x19_1]) := ⟨_, rfl⟩
                      replace H : (impl_Suspects.l0 k2 l0 l1 y127 a2 (wrap64 (x19_1 + 1))) = some r := by first | (rw [hy127]; with_reducible exact H) | (have H2_ := (Option.bind_some _ _).symm.trans H; rw [hy127]; with_reducible exact H2_) | (have H2_ := (Option.bind_some _ _).symm.trans H; with_reducible exact H2_) | with_reducible exact H | (rw [hy127]; exact H) | exact H
                      have Ny127 := Aside0.mk hy127
                      clear hy127
                      have H' := Aside0.mk H
                      clear H
                      go_wp2_with (first | ((with_reducible refine gate_builtin (b := .append) (xs := #[.tmp 64, .tmp 66]) rfl ?_); at_builtin; refine Kd.R_append (Kd.int .i64) (w0 := w) w.heap.size rfl (.tmp 64) (.tmp 66) 30 3 (.int .i64 0) 8 rfl Try.underlying30 info3 rfl (by decide) (by omega) u7 x7_1 x19_1 [.int .i64 x19_1] (fun _ => True) (fun _ => False) rfl rfl ?aP (fun _ hk => hk.elim) ?aF ?aO ?aB ?aS ?aL ?_; (case aP => exact rfl); (case aB => exact (by repeat (first | (with_reducible first | exact HB.out | apply below_alloc | apply pw_below_drewN | apply below_drew1) | exact HB.out))); (case aF => exact (fun _ _ => trivial)); (case aO => exact (by (with_reducible repeat (first | apply Kd.R_alloc | apply Kd.R_drewN | apply Kd.R_drew)); exact HO_7.out)); (case aS => exact (below_size (by repeat (first | (with_reducible first | exact HB.out | apply below_alloc | apply pw_below_drewN | apply below_drew1) | exact HB.out)))); (case aL => have := LMc25.out; omega); intro v128 w26 ho hb hg hat; rw [← Ny127.out] at ho; have n0_ := Aside0.mk (hb); have n1_ := Aside0.mk (ho); clear HB; clear HO_7; have HB := n0_; have HO129 := n1_; clear n0_ n1_; clear ho hb hg hat))
                      go_roundg k2
                      case measure => have := HK1.out; have := HK2.out; omega
                      case rel => exact ⟨(y127), (wrap64 (x19_1 + 1)), (by first | rfl | (simp; done) | (simp [*]; done)), H', ⟨by have := HK1.out; have := HK2.out; omega⟩, ⟨by (with_reducible repeat (first | apply Kd.R_alloc | apply Kd.R_drewN | apply Kd.R_drew)); exact HO129.out⟩, ⟨by repeat (first | (with_reducible first | exact HB.out | apply below_alloc | apply pw_below_drewN | apply below_drew1) | exact HB.out)⟩⟩
                    · rw [if_neg c25] at H
                      exact absurd H (by simp)
                · replace c23 := Bool.eq_false_iff.mpr c23
                  subst c23
                  have H1 : (impl_Suspects.l0 k2 l0 l1 x7_1 a2 (wrap64 (x19_1 + 1))) = some r := by rw [if_neg (show ¬ (false = true) by decide)] at H; exact H
                  clear H
                  have H := H1
                  clear H1
                  have H' := Aside0.mk H
                  clear H
                  go_wp2
                  go_roundg k2
                  case measure => have := HK1.out; have := HK2.out; omega
                  case rel => exact ⟨(x7_1), (wrap64 (x19_1 + 1)), (by first | rfl | (simp; done) | (simp [*]; done)), H', ⟨by have := HK1.out; have := HK2.out; omega⟩, ⟨by (with_reducible repeat (first | apply Kd.R_alloc | apply Kd.R_drewN | apply Kd.R_drew)); exact HO_7.out⟩, ⟨by repeat (first | (with_reducible first | exact HB.out | apply below_alloc | apply pw_below_drewN | apply below_drew1) | exact HB.out)⟩⟩
        · rw [if_neg c7] at H
          have c7b0 : decide (x19_1 < a2) = false := decide_eq_false c7
          clear c7
          obtain rfl := Option.some.inj H
          go_wp2
          go_ret
          exact ⟨_, by first | rfl | (simp [errW_none, errW_some] <;> rfl) | (simp [*, errW_none, errW_some] <;> rfl), by (with_reducible repeat (first | apply Kd.R_alloc | apply Kd.R_drewN | apply Kd.R_drew)); exact HO_7.out, by repeat (first | (with_reducible first | exact HB.out | apply below_alloc | apply pw_below_drewN | apply below_drew1) | exact HB.out)⟩
  · replace c5 := Bool.eq_false_iff.mpr c5
    subst c5
    have H1 : (some ([] : List Int)) = some r := by rw [if_neg (show ¬ (false = true) by decide)] at H; exact H
    clear H
    have H := H1
    clear H1
    obtain rfl := Option.some.inj H
    go_enter Try.func26, Try.ntmps26
    go_wp2_with (first | ((with_reducible refine gate_callee (f := 16) rfl ?_); refine goesL_ (some 16) rfl rfl Try.func16 (by kernel_rfl) rfl #[.slice A0 l0.length c0, .slice A1 l1.length c1, .int .i64 a2] rfl (by (try simp only [List.map_toArray, List.map_cons, List.map_nil]); first | done | rfl | (simp only [List.length_drop, List.length_take]; rfl)) ?_; (with_reducible refine (impl_AreVerdicts.calls k _ _ l0 _ _ l1 a2 false _ ?side1 ?side2 ?side3 ?side4 A4.out).mono ?_); (case side1 => repeat (first | exact HR0.out | (with_reducible refine Kd.C_alloc ?_ _) | (with_reducible refine Kd.C_drewN ?_ _) | (with_reducible refine Kd.C_drew ?_))); (case side2 => exact HC0.out); (case side3 => repeat (first | exact HR1.out | (with_reducible refine Kd.C_alloc ?_ _) | (with_reducible refine Kd.C_drewN ?_ _) | (with_reducible refine Kd.C_drew ?_))); (case side4 => exact HC1.out); rintro e w27 ⟨rfl, hb⟩; refine ⟨_, rfl, ?_⟩; have n0_ := Aside0.mk (below_step (by repeat (first | (with_reducible first | exact HB.out | apply below_alloc | apply pw_below_drewN | apply below_drew1) | exact HB.out)) hb); clear HB; have HB := n0_; clear n0_; (try clear hb); (try clear hb2); (try clear hk); (try clear hi)))
    go_ret
    exact ⟨_, by first | rfl | (simp [errW_none, errW_some] <;> rfl) | (simp [*, errW_none, errW_some] <;> rfl), by first | exact Kd.R_nil _ _ _ _ _ | exact Kd.N_nil _ _ _ _ _ | exact Kd.V_nil _ _ _ _ _ | exact Kd.Q_nil _ _ _ _ _ | exact Kd.S_nil _ _ _ _ _, by repeat (first | (with_reducible first | exact HB.out | apply below_alloc | apply pw_below_drewN | apply below_drew1) | exact HB.out)⟩

/-! ### laws_big: function 32 -/
def laws_big.f (l0 : List Int) : Option (Bool) := some (decide ((l0.length : Int) > 1048576))
set_option maxHeartbeats 8000000 in
set_option maxRecDepth 100000 in
theorem laws_big.calls (A0 : Option Addr) (c0 : Nat) (l0 : List Int) (r : Bool) (w : World) (hr0 : Kd.C (Kd.int .u8) w A0 l0.length l0) (hc0 : l0.length ≤ c0) (h : laws_big.f l0 = some r) :
    Calls Try.prog 32 #[.slice A0 l0.length c0] w fun e w' => e = .returned (.bool r) ∧ Drawn0 w w' := by
  have HR0 := Aside0.mk hr0
  have HC0 := Aside0.mk hc0
  clear hr0 hc0
  have H : (some (decide ((l0.length : Int) > 1048576))) = some r := h
  clear h
  obtain rfl := Option.some.inj H
  go_enter Try.func32, Try.ntmps32
  go_wp2
  go_ret
  exact ⟨by first | rfl | (simp; done) | (simp [*]; done), by repeat (first | exact Drawn0.refl _ | apply Drawn0.step)⟩

/-! ### slices_Clone_int_int: function 62 -/
/-- A copy, if it is not too long to be made. -/
def slices_Clone_int_int.f (l0 : List Int) : Option (List Int) := if l0.length < 17592186044416 then some l0 else none
set_option maxHeartbeats 4000000 in
set_option maxRecDepth 100000 in
theorem slices_Clone_int_int.calls (A0 : Option Addr) (c0 : Nat) (l0 : List Int) (r : List Int) (w : World) (hr0 : Kd.C (Kd.int .i64) w A0 l0.length l0) (hc0 : l0.length ≤ c0) (h : slices_Clone_int_int.f l0 = some r) :
    Calls Try.prog 62 #[.slice A0 l0.length c0] w fun e w' => ∃ v0_ : Value, e = .returned (v0_) ∧ Kd.R (Kd.int .i64) 3 w' w.heap.size (fun _ => True) v0_ r ∧ Below w.heap.size w w' := by
  have hn : l0.length < 17592186044416 ∧ l0 = r := by
    unfold slices_Clone_int_int.f at h
    split at h
    · rename_i h1; exact ⟨h1, Option.some.inj h⟩
    · cases h
  clear h
  obtain ⟨hN, rfl⟩ := hn
  rcases A0 with _ | ad
  · have h0 : l0 = [] := by
      rcases Nat.eq_zero_or_pos l0.length with h0 | h0
      · exact List.eq_nil_of_length_eq_zero h0
      · obtain ⟨ad, h1, _⟩ := hr0.2.2 h0; cases h1
    subst h0
    have hq : ∀ (w : World) (n c n' c' : Nat), (binOp .eql 30 (.slice none n c) (.slice none n' c')).run Try.prog w = .ok (.bool true) w := fun w n c n' c' => Lib.run_eql_slice_nil w _ _ none n c n' c' Try.underlying30
    clear hr0 hc0 hN
    go_enter Try.func62, Try.ntmps62
    go_wp2
    go_ret
    exact ⟨_, rfl, Kd.R_nil _ _ _ _ _, Below.refl _ _⟩
  · have hq : ∀ (w : World) (n c n' c' : Nat), (binOp .eql 30 (.slice (some ad) n c) (.slice none n' c')).run Try.prog w = .ok (.bool false) w := fun w n c n' c' => Lib.run_eql_slice_nil w _ _ (some ad) n c n' c' Try.underlying30
    have HR := Aside0.mk hr0
    have HN := Aside0.mk hN
    clear hr0 hc0 hN
    have hut := Try.underlying30
    go_enter Try.func62, Try.ntmps62
    go_wp2_with (first | ((with_reducible refine gate_dst (N := 5) rfl ?_); refine Kd.R_lit (Kd.int .i64) (w0 := w) w.heap.size 3 ?hg (N := 5) ?hd (xs := ([] : List Int)) (inner := []) (ok := fun _ => True) (okp := fun _ => True) ?hr ?hp (fun _ hk => hk) trivial (Below.refl _ _) (Nat.le_refl _) (by simp) ?_; (case hd => rfl); (case hg => rfl); (case hr => first | (go_simp; done) | (go_simp; rfl)); (case hp => exact Reps.none _ _); intro v1 w1 ho hb hg_ hnew_; have HO := Aside0.mk ho; have HB := Aside0.mk hb; clear ho hb hg_ hnew_) | (at_builtin; refine Kd.R_append_rows (Kd.int .i64) (Rr := Kd.K (Kd.int .i64) w1) (w0 := w) w.heap.size rfl (.tmp 5) (.tmp 6) 30 3 (.int .i64 0) 8 rfl Try.underlying30 info3 rfl (by decide) (by omega) v1 [] l0 _ _ _ (fun _ => True) (fun _ => False) rfl rfl HO.out ?aR (fun _ _ h => h) (fun _ h => h.elim) (fun _ _ => trivial) HB.out (below_size HB.out) ?aL ?_; (case aR => exact Kd.C_below HR.out HB.out); (case aL => have h1 := HN.out; simp only [List.length_nil, Nat.zero_add]; omega); intro v2 w2 ho hb _ _; have HO2 := Aside0.mk ho; have HB2 := Aside0.mk hb; clear ho hb))
    go_ret
    exact ⟨_, rfl, HO2.out, HB2.out⟩

/-! ### impl_SetsOf: function 34 -/
/-- The lists of n rounds, one behind the other. -/
def flatR (G : Nat → List (List Int)) (n : Nat) : List (List Int) := ((List.range n).map G).flatten
theorem flatR_succ (G : Nat → List (List Int)) (n : Nat) : flatR G (n + 1) = flatR G n ++ G n := by
  unfold flatR
  rw [List.range_succ, List.map_append, List.flatten_append]
  simp
theorem flatR_le (G : Nat → List (List Int)) (m n : Nat) (h : m ≤ n) : (flatR G m).length ≤ (flatR G n).length := by
  obtain ⟨d, rfl⟩ := Nat.exists_eq_add_of_le h
  clear h
  induction d with
  | zero => exact Nat.le_refl _
  | succ d ih => rw [← Nat.add_assoc, flatR_succ, List.length_append]; omega
/-- the sets of so many columns that go on from a set, the next column at least c0. -/
def subsF (size cols : Nat) : Nat → List Int → Nat → List (List Int)
  | 0, set, _ => if set.length = size then [set] else []
  | f + 1, set, c0 => if set.length = size then [set] else flatR (fun j => subsF size cols f (set ++ [((c0 + j : Nat) : Int)]) (c0 + j + 1)) (cols - c0)
def impl_SetsOf.f (a0 : Int) (a1 : Int) : Option (List (List Int)) := if 0 ≤ a0 ∧ a0 ≤ 6 ∧ 0 ≤ a1 ∧ a1 ≤ a0 then some (subsF a1.toNat a0.toNat a0.toNat [] 0) else some []
/-- What is of another type than the variable and its rows stays. -/
def Keeps (W w' : World) : Prop := ∀ (k : Nat) (cells : Array Value) (q : Nat), W.heap[k]? = some (.cells cells q (0, 0)) → q ≠ 22 → q ≠ 30 → w'.heap[k]? = W.heap[k]?
theorem Keeps.refl (W : World) : Keeps W W := fun _ _ _ _ _ _ => rfl
theorem Keeps.trans {W w1 w2 : World} (h1 : Keeps W w1) (h2 : Keeps w1 w2) : Keeps W w2 := fun k cells q h a b => by
  have e := h1 k cells q h a b
  rw [h2 k cells q (e.trans h) a b, e]
theorem Keeps.below {W w' : World} (hb : Below W.heap.size W w') : Keeps W w' := fun k cells q h _ _ => hb.block k (Array.getElem?_eq_some_iff.1 h).1
theorem Keeps.grown {W w' : World} {row : Option Nat} (hg : W.grownBy w' row) (hr : ∀ k, row = some k → ∃ cells, W.heap[k]? = some (.cells cells 30 (0, 0))) : Keeps W w' := fun k cells q h _ hq =>
  hg.block k (Array.getElem?_eq_some_iff.1 h).1 (fun e => by
    obtain ⟨c2, h2⟩ := hr k e.symm
    rw [h] at h2
    injection h2 with h2
    injection h2 with _ h2
    exact hq h2)
theorem Keeps.set {W : World} {b : Nat} {v0 u : Value} (hb : W.heap[b]? = some (.cells #[v0] 22 (0, 0))) : Keeps W (W.setCell ⟨b, 0, none⟩ u) := fun k cells q h hq _ => by
  have hne : k ≠ b := by
    rintro rfl
    rw [h] at hb
    injection hb with hb
    injection hb with _ hb
    exact hq hb
  exact Below.heap_setCell W ⟨b, 0, none⟩ u k hne
theorem Keeps.int {W w' : World} {base : Nat} {v : Value} {xs : List Int} (hk : Keeps W w') (h : Kd.R (Kd.int .i64) 3 W base (fun _ => True) v xs) : Kd.R (Kd.int .i64) 3 w' base (fun _ => True) v xs :=
  Kd.R_mono (Kd.R_move (Kd.R_bound h) (fun k hk2 => by
    obtain ⟨_, _, _, q, hq, cells, hc⟩ := hk2
    have hq : q = 3 := by simpa [Kd.int, Kd.scalar] using hq
    exact hk k cells q hc (by omega) (by omega))) (fun _ _ => trivial)
def AddPost (bo base : Nat) (W : World) (ys : List (List Int)) (e : Ending) (w' : World) : Prop :=
  e = .returned (.tuple #[]) ∧ ∃ v', w'.heap[bo]? = some (.cells #[v'] 22 (0, 0)) ∧ Kd.S (Kd.slice 3 (Kd.int .i64)) 30 w' base (fun _ => True) v' ys ∧ Below base W w' ∧ Keeps W w'
/-- The closure's own cells. -/
def adders (bs bo bc ba : Nat) : Array Value := #[.pointer (some ⟨bs, 0, none⟩), .pointer (some ⟨bo, 0, none⟩), .pointer (some ⟨bc, 0, none⟩), .pointer (some ⟨ba, 0, none⟩)]
theorem add_lower {W W' w1 : World} {base : Nat} {v1 : Value} {set : List Int} (ho : Kd.R (Kd.int .i64) 3 w1 W'.heap.size (fun _ => True) v1 set) (hbase : base ≤ W.heap.size) (hW : W.heap.size ≤ W'.heap.size := by (first | exact Nat.le_refl _ | omega)) : Kd.R (Kd.int .i64) 3 w1 base (fun k_ => W.heap.size ≤ k_) v1 set :=
  Kd.R_lower (Kd.R_mono (Kd.R_bound ho) (fun k hk => Nat.le_trans hW hk.2.1)) (Nat.le_trans hbase hW)
theorem add_post {W w2 : World} {bo base : Nat} {v v2 : Value} {ys : List (List Int)} (hb2 : Below base W w2) (hbo : base ≤ bo) (hbo2 : w2.heap[bo]? = some (.cells #[v] 22 (0, 0))) (ho2 : Kd.S (Kd.slice 3 (Kd.int .i64)) 30 w2 base (fun _ => True) v2 ys) (hk2 : Keeps W w2) : AddPost bo base W ys (.returned (.tuple #[])) (w2.setCell ⟨bo, 0, none⟩ v2) :=
  ⟨rfl, v2, by have h := blk_set hbo2 0 v2; simpa using h, Kd.S_set ho2 hbo2 (by decide) 0 v2, hb2.setCell hbo v2, hk2.trans (Keeps.set hbo2)⟩
set_option maxHeartbeats 4000000 in
set_option maxRecDepth 100000 in
theorem add_done (size bs bo bc ba : Nat) (set : List Int) (c0 : Nat) (A : Option Addr) (c base : Nat) (v : Value) (xs : List (List Int)) (W : World) (hl : set.length = size) (hl6 : set.length ≤ 6) (hbo : base ≤ bo) (hbase : base ≤ W.heap.size)
    (hs : W.heap[bs]? = some (.cells #[.int .i64 (size : Int)] 3 (0, 0))) (ho : W.heap[bo]? = some (.cells #[v] 22 (0, 0))) (hR : Kd.S (Kd.slice 3 (Kd.int .i64)) 30 W base (fun _ => True) v xs) (hS : Kd.R (Kd.int .i64) 3 W base (fun _ => True) (.slice A set.length c) set) (hx : xs.length + 1 ≤ 1000000) :
    Calls Try.prog 61 (#[.slice A set.length c, .int .i64 (c0 : Int)] ++ adders bs bo bc ba) W (AddPost bo base W (xs ++ [set])) := by
  show Calls Try.prog 61 #[.slice A set.length c, .int .i64 (c0 : Int), .pointer (some ⟨bs, 0, none⟩), .pointer (some ⟨bo, 0, none⟩), .pointer (some ⟨bc, 0, none⟩), .pointer (some ⟨ba, 0, none⟩)] W _
  have hcs : W.cell? ⟨bs, 0, none⟩ = some (.int .i64 (size : Int)) := (blk_cell hs 0).trans rfl
  have hco : W.cell? ⟨bo, 0, none⟩ = some v := (blk_cell ho 0).trans rfl
  have hfo : W.frozen? ⟨bo, 0, none⟩ = false := blk_frozen ho 0
  have heq : ((set.length : Int) == (size : Int)) = true := beq_iff_eq.mpr (by omega)
  have kc : ∀ W', Below W.heap.size W W' → Calls Try.prog 62 #[.slice A set.length c] W' fun e w' => ∃ v0_ : Value, e = .returned v0_ ∧ Kd.R (Kd.int .i64) 3 w' W'.heap.size (fun _ => True) v0_ set ∧ Below W'.heap.size W' w' := fun W' hb =>
    slices_Clone_int_int.calls A c set set W' (Kd.R_reads' (Kd.R_below hS hb)).2.2 (Kd.R_reads' hS).2.1 (if_pos (by omega))
  have KC := Aside0.mk kc
  have HO := Aside0.mk ho
  have HR := Aside0.mk hR
  have HX := Aside0.mk hx
  have HV : Aside0 (∀ k, W.heap.size ≤ k → True ∧ some k ≠ v.ownBlock) := ⟨fun k hk => ⟨trivial, fun e => by
    obtain ⟨inner, hw⟩ := Kd.S_own hR
    have := own_lt hw k e.symm
    omega⟩⟩
  clear kc ho hR hS hs hl hx
  go_enter Try.func61, Try.ntmps61
  go_wp2_with (fail)
  go_region_law (first | (go_simp; go_at_call 62; refine (KC.out _ (by repeat (first | exact Below.refl _ _ | apply below_drew1))).mono ?_; rintro e w1 ⟨v1, rfl, ho1, hb1⟩; obtain ⟨A1, c1, rfl⟩ := Kd.R_slice ho1; have hbW : Below W.heap.size W w1 := below_step (below_drew1 (Below.refl _ W)) hb1; have hco1 : w1.cell? ⟨bo, 0, none⟩ = some v := (blk_cell (blk_below (w := W) HO.out hbW) 0).trans rfl; have hco1b : (w1.alloc (.cells #[.slice A1 set.length c1] 30)).cell? ⟨bo, 0, none⟩ = some v := Lib.cell?_alloc_some _ hco1; have HP := Aside0.mk (add_lower ho1 hbase); have HRO := Aside0.mk (Kd.S_below (Kd.S_mono (ok' := fun k_ => True ∧ ¬ W.heap.size ≤ k_) (Kd.S_bound HR.out) (fun k_ hk => ⟨trivial, Nat.not_le.mpr hk.2.2.1⟩)) hbW); have HBB := Aside0.mk (hbW.mono hbase); have HSZ := Aside0.mk (Nat.le_trans hbase hbW.size); have HBW := Aside0.mk hbW; clear ho1 hb1 hbW) | (refine Kd.S_append_step (Kd.slice 3 (Kd.int .i64)) (w0 := W) base (by rfl) (.tmp 13) (.tmp 16) 22 30 (.slice none 0 0) 24 rfl Try.underlying22 info30 rfl (by decide) (by omega) v xs set [.slice A1 set.length c1] (fun _ => True) (fun k_ => W.heap.size ≤ k_) (by rfl) (by rfl) ?aP ?aK (fun _ _ => trivial) ?aO ?aB ?aS ?aL ?_; (case aP => exact ⟨_, rfl, HP.out⟩); (case aK => exact HV.out); (case aO => exact HRO.out); (case aB => exact HBB.out); (case aS => exact HSZ.out); (case aL => have := HX.out; omega); intro v2 w2 ho2 hb2 hg2 _; obtain ⟨A2, c2, rfl⟩ := Kd.S_slice ho2; have hbo2 : w2.heap[bo]? = some (.cells #[v] 22 (0, 0)) := blk_grown (blk_below HO.out HBW.out) hg2 (Kd.S_ne HRO.out (blk_below HO.out HBW.out) (by decide)); have hco2 : w2.cell? ⟨bo, 0, none⟩ = some v := (blk_cell hbo2 0).trans rfl; have hfo2 : w2.frozen? ⟨bo, 0, none⟩ = false := blk_frozen hbo2 0; have HK2 := Aside0.mk ((Keeps.below HBW.out).trans (Keeps.grown hg2 (fun k hk => by obtain ⟨inner, hw⟩ := Kd.S_own HRO.out; exact own_typed hw k hk))); have HB2 := Aside0.mk hb2; have HO2 := Aside0.mk ho2; have HBO2 := Aside0.mk hbo2; clear ho2 hb2 hg2 hbo2) | fail)
  all_goals (go_wp2; go_end0; exact add_post HB2.out hbo HBO2.out (by have h := HO2.out; rw [List.length_append] at h; exact h) HK2.out)
theorem one_C {W : World} {g : Nat} {x : Int} (h : W.cell? ⟨g, 0, none⟩ = some (.int .i64 x)) : Kd.C (Kd.int .i64) W (some ⟨g, 0, none⟩) 1 [x] := by
  refine Kd.C_of_reads (enc := Value.int .i64) (d := (0 : Int)) (h1 := fun _ => rfl) ⟨rfl, by omega, fun _ => ⟨_, rfl, fun j hj => ?_⟩⟩
  have : j = 0 := by omega
  subst this
  exact h
theorem low_R {w W' w1 : World} {v : Value} {set : List Int} (hW : Below w.heap.size w W') (ho : Kd.R (Kd.int .i64) 3 w1 W'.heap.size (fun _ => True) v set) : Kd.R (Kd.int .i64) 3 w1 w.heap.size (fun _ => True) v set := Kd.R_lower ho hW.size
set_option maxHeartbeats 4000000 in
set_option maxRecDepth 100000 in
theorem add_more (size cols bs bo bc ba : Nat) (hcols : cols ≤ 6) (F : List Int → Nat → List (List Int)) (set : List Int) (c0 : Nat) (A : Option Addr) (c base : Nat) (v : Value) (xs : List (List Int)) (W : World) (hl : set.length ≠ size) (hl6 : set.length ≤ c0) (hc0 : c0 ≤ cols) (hbo : base ≤ bo) (hbase : base ≤ W.heap.size)
    (ih : ∀ (set : List Int) (c1 : Nat) (A : Option Addr) (c base : Nat) (v : Value) (xs : List (List Int)) (W : World), c0 < c1 → c1 ≤ cols → set.length ≤ c1 → base ≤ bo → base ≤ W.heap.size → W.heap[bs]? = some (.cells #[.int .i64 (size : Int)] 3 (0, 0)) → W.heap[bc]? = some (.cells #[.int .i64 (cols : Int)] 3 (0, 0)) → W.heap[ba]? = some (.cells #[.func (.func 61) #[] (adders bs bo bc ba)] 64 (0, 0)) → W.heap[bo]? = some (.cells #[v] 22 (0, 0)) →
      Kd.S (Kd.slice 3 (Kd.int .i64)) 30 W base (fun _ => True) v xs → Kd.R (Kd.int .i64) 3 W base (fun _ => True) (.slice A set.length c) set → xs.length + (F set c1).length ≤ 1000000 →
      Calls Try.prog 61 (#[.slice A set.length c, .int .i64 (c1 : Int)] ++ adders bs bo bc ba) W (AddPost bo base W (xs ++ F set c1)))
    (hs : W.heap[bs]? = some (.cells #[.int .i64 (size : Int)] 3 (0, 0))) (hc : W.heap[bc]? = some (.cells #[.int .i64 (cols : Int)] 3 (0, 0))) (ha : W.heap[ba]? = some (.cells #[.func (.func 61) #[] (adders bs bo bc ba)] 64 (0, 0))) (ho : W.heap[bo]? = some (.cells #[v] 22 (0, 0)))
    (hR : Kd.S (Kd.slice 3 (Kd.int .i64)) 30 W base (fun _ => True) v xs) (hS : Kd.R (Kd.int .i64) 3 W base (fun _ => True) (.slice A set.length c) set) (hx : xs.length + (flatR (fun j => F (set ++ [((c0 + j : Nat) : Int)]) (c0 + j + 1)) (cols - c0)).length ≤ 1000000) :
    Calls Try.prog 61 (#[.slice A set.length c, .int .i64 (c0 : Int)] ++ adders bs bo bc ba) W (AddPost bo base W (xs ++ flatR (fun j => F (set ++ [((c0 + j : Nat) : Int)]) (c0 + j + 1)) (cols - c0))) := by
  show Calls Try.prog 61 #[.slice A set.length c, .int .i64 (c0 : Int), .pointer (some ⟨bs, 0, none⟩), .pointer (some ⟨bo, 0, none⟩), .pointer (some ⟨bc, 0, none⟩), .pointer (some ⟨ba, 0, none⟩)] W _
  have hcs : W.cell? ⟨bs, 0, none⟩ = some (.int .i64 (size : Int)) := (blk_cell hs 0).trans rfl
  have heq : ((set.length : Int) == (size : Int)) = false := beq_eq_false_iff_ne.mpr (by omega)
  have HH := Aside0.mk (And.intro hs (And.intro hc (And.intro ha hS)))
  have IH := Aside0.mk ih
  have HX := Aside0.mk hx
  have HST : Aside0 (∃ vr, W.heap[bo]? = some (.cells #[vr] 22 (0, 0)) ∧ Kd.S (Kd.slice 3 (Kd.int .i64)) 30 W base (fun _ => True) vr (xs ++ flatR (fun j => F (set ++ [((c0 + j : Nat) : Int)]) (c0 + j + 1)) 0)) := ⟨v, ho, by simpa [flatR] using hR⟩
  have HG := Aside0.mk (fun j => flatR_succ (fun j => F (set ++ [((c0 + j : Nat) : Int)]) (c0 + j + 1)) j)
  have HLE := Aside0.mk (fun m n h => flatR_le (fun j => F (set ++ [((c0 + j : Nat) : Int)]) (c0 + j + 1)) m n h)
  clear hs hc ha ho hR hS hx ih
  generalize hG : (fun j => F (set ++ [((c0 + j : Nat) : Int)]) (c0 + j + 1)) = G at HX HST HG HLE ⊢
  have HGE := Aside0.mk hG
  clear hG
  go_enter Try.func61, Try.ntmps61
  go_wp2
  go_loopg [8] (cols - c0) (fun gg s8 wr => ∃ j : Nat, c0 ≤ j ∧ j ≤ cols ∧ cols - j ≤ gg ∧ s8 = .int .i64 (j : Int) ∧ Aside0 (∃ vr, wr.heap[bo]? = some (.cells #[vr] 22 (0, 0)) ∧ Kd.S (Kd.slice 3 (Kd.int .i64)) 30 wr base (fun _ => True) vr (xs ++ flatR G (j - c0))) ∧ Aside0 (Below base W wr) ∧ Aside0 (Keeps W wr))
  case atStart => exact ⟨c0, Nat.le_refl _, hc0, Nat.le_refl _, rfl, by rw [Nat.sub_self]; exact HST, ⟨Below.refl _ _⟩, ⟨Keeps.refl _⟩⟩
  case round =>
    clear HST hcs heq
    obtain ⟨j, hj0, hj1, hg, rfl, HST, BW, KW⟩ := hrel
    obtain ⟨hs, hc, ha, hS⟩ := HH.out
    have hcc : wr.cell? ⟨bc, 0, none⟩ = some (.int .i64 (cols : Int)) := (blk_cell ((KW.out bc _ _ hc (by decide) (by decide)).trans hc) 0).trans rfl
    by_cases hlt : j < cols
    · have hltz : (j : Int) < (cols : Int) := by omega
      obtain ⟨kk, hjk⟩ : ∃ kk, j = c0 + kk := ⟨j - c0, by omega⟩
      have hjk2 : j - c0 = kk := by omega
      obtain ⟨vr, h1, h2⟩ := HST.out
      have hs' := (KW.out bs _ _ hs (by decide) (by decide)).trans hs
      have hc' := (KW.out bc _ _ hc (by decide) (by decide)).trans hc
      have ha' := (KW.out ba _ _ ha (by decide) (by decide)).trans ha
      have hS' := KW.out.int hS
      have hbw : base ≤ wr.heap.size := Nat.le_trans hbase BW.out.size
      have hca : wr.cell? ⟨ba, 0, none⟩ = some (.func (.func 61) #[] (adders bs bo bc ba)) := (blk_cell ha' 0).trans rfl
      have hlen : (set ++ [(j : Int)]).length = set.length + 1 := by simp
      have hGk : G kk = F (set ++ [(j : Int)]) (j + 1) := by rw [hjk]; exact (congrFun HGE.out kk).symm
      rw [hjk2] at h2
      have hbnd : xs.length + (flatR G (kk + 1)).length ≤ 1000000 := Nat.le_trans (Nat.add_le_add_left (HLE.out (kk + 1) (cols - c0) (by omega)) _) HX.out
      have key : ∀ (A2 : Option Addr) (c2 : Nat) (w2 : World), Below wr.heap.size wr w2 → Kd.R (Kd.int .i64) 3 w2 base (fun _ => True) (.slice A2 (set.length + 1) c2) (set ++ [(j : Int)]) →
          Calls Try.prog 61 (#[.slice A2 (set.length + 1) c2, .int .i64 ((j : Int) + 1)] ++ adders bs bo bc ba) w2 (AddPost bo base w2 (xs ++ flatR G (kk + 1))) := by
        intro A2 c2 w2 hb hr
        rw [flatR_succ, List.length_append] at hbnd
        rw [hGk] at hbnd
        have h := IH.out (set ++ [(j : Int)]) (j + 1) A2 c2 base vr (xs ++ flatR G kk) w2 (by omega) (by omega) (by rw [hlen]; omega) hbo (Nat.le_trans hbw hb.size) (blk_below hs' hb) (blk_below hc' hb) (blk_below ha' hb) (blk_below h1 hb) (Kd.S_below h2 hb) (by rw [hlen]; exact hr) (by rw [List.length_append]; omega)
        rw [hlen, List.append_assoc, ← hGk, ← flatR_succ] at h
        exact h
      have kc : ∀ W', Below wr.heap.size wr W' → Calls Try.prog 62 #[.slice A set.length c] W' fun e w' => ∃ v0_ : Value, e = .returned v0_ ∧ Kd.R (Kd.int .i64) 3 w' W'.heap.size (fun _ => True) v0_ set ∧ Below W'.heap.size W' w' := fun W' hb =>
        slices_Clone_int_int.calls A c set set W' (Kd.R_reads' (Kd.R_below hS' hb)).2.2 (Kd.R_reads' hS').2.1 (if_pos (by omega))
      have hka : ∀ w2, Below wr.heap.size wr w2 → w2.cell? ⟨ba, 0, none⟩ = some (.func (.func 61) #[] (adders bs bo bc ba)) := fun w2 hb => (blk_cell (blk_below ha' hb) 0).trans rfl
      have hka3 : ∀ w2 w3, Below wr.heap.size wr w2 → Keeps w2 w3 → w3.cell? ⟨ba, 0, none⟩ = some (.func (.func 61) #[] (adders bs bo bc ba)) := fun w2 w3 hb hk => (blk_cell ((hk ba _ _ (blk_below ha' hb) (by decide) (by decide)).trans (blk_below ha' hb)) 0).trans rfl
      have KEY := Aside0.mk key
      have KC := Aside0.mk kc
      have HKA := Aside0.mk hka
      have HKA3 := Aside0.mk hka3
      have hw1 : IntKind.i64.wrap ((j : Int) + 1) = (j : Int) + 1 := by rw [i64_w]; unfold wrap64; omega
      have HLEN := Aside0.mk hlen
      have HBW := Aside0.mk hbw
      have HJ := Aside0.mk (show j + 1 - c0 = kk + 1 by omega)
      clear hjk hjk2 key kc hka hka3 hs hc ha hS hs' hc' ha' hS' h1 h2 hGk hbnd hlen HST hbw
      go_wp2_with (fail)
      go_region_held3 (fun w' => w'.cell? ⟨ba, 0, none⟩ = some (.func (.func 61) #[] (adders bs bo bc ba))) (first | assumption | go_keep)
        (first
          | (go_at_call 62; refine (KC.out _ (by repeat (first | exact Below.refl _ _ | apply below_drew1 | apply below_alloc))).mono ?_; rintro e w1 ⟨v1, rfl, ho1, hb1⟩; obtain ⟨A1, c1, rfl⟩ := Kd.R_slice ho1; have hbW : Below wr.heap.size wr w1 := below_step (by repeat (first | exact Below.refl _ _ | apply below_drew1 | apply below_alloc)) hb1; have hca1 := HKA.out w1 hbW; have hbox : w1.cell? ⟨wr.heap.size, 0, none⟩ = some (.int .i64 (j : Int)) := (blk_cell (blk_below (blk_new wr (.cells #[.int .i64 (j : Int)] 3)) (below_step (below_drew1 (Below.refl _ _)) hb1)) 0).trans rfl; have HBX := Aside0.mk hbox; have HB1 := Aside0.mk hbW; have HO1 : Aside0 (Kd.R (Kd.int .i64) 3 w1 wr.heap.size (fun _ => True) (.slice A1 set.length c1) set) := ⟨low_R (by repeat (first | exact Below.refl _ _ | apply below_drew1 | apply below_alloc)) ho1⟩; clear ho1 hb1 hbW hbox)
          | (go_at_call 62; refine (KC.out _ (by repeat (first | exact Below.refl _ _ | apply below_drew1 | apply below_alloc))).mono ?_; rintro e w1 ⟨v1, rfl, ho1, hb1⟩; obtain ⟨A1, c1, rfl⟩ := Kd.R_slice ho1; have hbW : Below wr.heap.size wr w1 := below_step (by repeat (first | exact Below.refl _ _ | apply below_drew1 | apply below_alloc)) hb1; have hca1 := HKA.out w1 hbW; have hca1b : (w1.alloc (.cells #[.int .i64 (j : Int)] 3)).cell? ⟨ba, 0, none⟩ = some (.func (.func 61) #[] (adders bs bo bc ba)) := Lib.cell?_alloc_some _ hca1; have HB1 := Aside0.mk hbW; have HO1 : Aside0 (Kd.R (Kd.int .i64) 3 w1 wr.heap.size (fun _ => True) (.slice A1 set.length c1) set) := ⟨low_R (by repeat (first | exact Below.refl _ _ | apply below_drew1 | apply below_alloc)) ho1⟩; clear ho1 hb1 hbW)
          | (go_at_call 61; refine (KEY.out A2 c2 _ HB2.out (by have h := HO2.out; rw [HLEN.out] at h; exact h)).mono ?_; rintro e w3 ⟨rfl, vr3, k1, k2, k3, k4⟩; have hca3 := HKA3.out w2 w3 HB2.out k4; have K1 := Aside0.mk k1; have K2 := Aside0.mk k2; have K3 := Aside0.mk k3; have K4 := Aside0.mk k4; clear k1 k2 k3 k4)
          | (refine Kd.R_append_rows_step (Kd.int .i64) (Rr := Kd.K (Kd.int .i64) w1) (w0 := wr) wr.heap.size (by rfl) (.tmp 26) (.tmp 28) 30 3 (.int .i64 0) 8 rfl Try.underlying30 info3 rfl (by decide) (by omega) (.slice A1 set.length c1) set [(j : Int)] (some ⟨wr.heap.size, 0, none⟩) 1 1 (fun _ => True) (fun _ => False) (by rfl) (by rfl) ?aO ?aP (fun _ _ h => h) (fun _ h => h.elim) (fun _ _ => trivial) ?aB ?aS ?aL ?_; (case aP => exact one_C HBX.out); (case aO => exact HO1.out); (case aB => exact HB1.out); (case aS => exact HB1.out.size); (case aL => omega); intro v2 w2 ho2 hb2 hg2 _; obtain ⟨A2, c2, rfl⟩ := Kd.R_slice ho2; have hca2 := HKA.out w2 hb2; have HB2 := Aside0.mk hb2; have HO2 := Aside0.mk (Kd.R_lower ho2 HBW.out); clear ho2 hb2 hg2)
          | (refine Kd.R_append_step (Kd.int .i64) (w0 := wr) wr.heap.size (by rfl) (.tmp 26) (.tmp 28) 30 3 (.int .i64 0) 8 rfl Try.underlying30 info3 rfl (by decide) (by omega) (.slice A1 set.length c1) set ((j : Int)) [.int .i64 (j : Int)] (fun _ => True) (fun _ => False) (by rfl) (by rfl) ?aP (fun _ h => h.elim) (fun _ _ => trivial) ?aO ?aB ?aS ?aL ?_; (case aP => exact rfl); (case aO => exact HO1.out); (case aB => exact HB1.out); (case aS => exact HB1.out.size); (case aL => omega); intro v2 w2 ho2 hb2 hg2 _; obtain ⟨A2, c2, rfl⟩ := Kd.R_slice ho2; have hca2 := HKA.out w2 hb2; have HB2 := Aside0.mk hb2; have HO2 := Aside0.mk (Kd.R_lower ho2 HBW.out); clear ho2 hb2 hg2)
          | fail)
      all_goals
        go_wp2
        go_roundg (cols - (j + 1))
        case measure => omega
        case rel => exact ⟨j + 1, by omega, by omega, Nat.le_refl _, by go_num, ⟨vr3, K1.out, by rw [HJ.out]; exact K2.out⟩, ⟨BW.out.trans ((HB2.out.mono HBW.out).trans K3.out)⟩, ⟨KW.out.trans ((Keeps.below HB2.out).trans K4.out)⟩⟩
    · have hltz : ¬ (j : Int) < (cols : Int) := by omega
      have hkn : j = cols := by omega
      subst hkn
      obtain ⟨vr, h1, h2⟩ := HST.out
      have H1 := Aside0.mk h1
      have H2 := Aside0.mk h2
      clear h1 h2 hs hc ha hS
      go_wp2
      go_end0
      exact ⟨rfl, vr, H1.out, H2.out, BW.out, KW.out⟩
theorem add_calls (size cols bs bo bc ba : Nat) (hcols : cols ≤ 6) (hsize : size ≤ 6) : ∀ (f : Nat) (set : List Int) (c0 : Nat) (A : Option Addr) (c base : Nat) (v : Value) (xs : List (List Int)) (W : World), c0 ≤ cols → cols ≤ c0 + f → set.length ≤ c0 → base ≤ bo → base ≤ W.heap.size → W.heap[bs]? = some (.cells #[.int .i64 (size : Int)] 3 (0, 0)) → W.heap[bc]? = some (.cells #[.int .i64 (cols : Int)] 3 (0, 0)) → W.heap[ba]? = some (.cells #[.func (.func 61) #[] (adders bs bo bc ba)] 64 (0, 0)) → W.heap[bo]? = some (.cells #[v] 22 (0, 0)) →
    Kd.S (Kd.slice 3 (Kd.int .i64)) 30 W base (fun _ => True) v xs → Kd.R (Kd.int .i64) 3 W base (fun _ => True) (.slice A set.length c) set → xs.length + (subsF size cols f set c0).length ≤ 1000000 →
    Calls Try.prog 61 (#[.slice A set.length c, .int .i64 (c0 : Int)] ++ adders bs bo bc ba) W (AddPost bo base W (xs ++ subsF size cols f set c0)) := by
  intro f
  induction f with
  | zero =>
    intro set c0 A c base v xs W h1 h2 h3 h4 h5 hs hc ha ho hR hS hx
    unfold subsF at hx ⊢
    by_cases h : set.length = size
    · rw [if_pos h] at hx ⊢
      exact add_done size bs bo bc ba set c0 A c base v xs W h (by omega) h4 h5 hs ho hR hS (by simpa using hx)
    · rw [if_neg h] at hx ⊢
      have hz : cols - c0 = 0 := by omega
      have e := add_more size cols bs bo bc ba hcols (fun _ _ => []) set c0 A c base v xs W h h3 h1 h4 h5 (fun _ c1 _ _ _ _ _ _ a b => absurd b (by omega)) hs hc ha ho hR hS (by rw [hz]; simp [flatR]; simpa using hx)
      rw [hz] at e
      simpa [flatR] using e
  | succ f ih =>
    intro set c0 A c base v xs W h1 h2 h3 h4 h5 hs hc ha ho hR hS hx
    unfold subsF at hx ⊢
    by_cases h : set.length = size
    · rw [if_pos h] at hx ⊢
      exact add_done size bs bo bc ba set c0 A c base v xs W h (by omega) h4 h5 hs ho hR hS (by simpa using hx)
    · rw [if_neg h] at hx ⊢
      exact add_more size cols bs bo bc ba hcols (subsF size cols f) set c0 A c base v xs W h h3 h1 h4 h5 (fun set c1 A c base v xs W a b d e g k1 k2 k3 k4 k5 k6 k7 => ih set c1 A c base v xs W b (by omega) d e g k1 k2 k3 k4 k5 k6 k7) hs hc ha ho hR hS hx
theorem subs_small : (List.range 7).all (fun c => (List.range 7).all (fun s => decide ((subsF s c c [] 0).length ≤ 64))) = true := by decide +kernel
theorem subs_le (s c : Nat) (hs : s ≤ 6) (hc : c ≤ 6) : (subsF s c c [] 0).length ≤ 64 := by
  have h := List.all_eq_true.1 subs_small c (List.mem_range.2 (by omega))
  have h := List.all_eq_true.1 h s (List.mem_range.2 (by omega))
  exact of_decide_eq_true h
theorem in_range_is (a l h : Int) : impl_InRange.f a l h = some (decide (l ≤ a ∧ a ≤ h)) := by
  unfold impl_InRange.f
  by_cases h1 : l ≤ a <;> simp [h1]
theorem four_boxes (w : World) (n : Nat) (a b c d : Obj) (X : World) (hX : ((((w.alloc a).alloc b).drewN n).alloc c).alloc d = X) : X.heap[w.heap.size]? = some a ∧ X.heap[w.heap.size + 1]? = some b ∧ X.heap[w.heap.size + 1 + 1]? = some c ∧ X.heap[w.heap.size + 1 + 1 + 1]? = some d ∧ Below w.heap.size w X := by
  subst hX
  have h1 := blk_new w a
  have h2 := blk_new (w.alloc a) b
  have h3 := blk_new (((w.alloc a).alloc b).drewN n) c
  have h4 := blk_new ((((w.alloc a).alloc b).drewN n).alloc c) d
  have e2 : (w.alloc a).heap.size = w.heap.size + 1 := by simp
  have e3 : (((w.alloc a).alloc b).drewN n).heap.size = w.heap.size + 1 + 1 := by simp
  have e4 : ((((w.alloc a).alloc b).drewN n).alloc c).heap.size = w.heap.size + 1 + 1 + 1 := by simp
  rw [e2] at h2
  rw [e3] at h3
  rw [e4] at h4
  exact ⟨blk_alloc (blk_alloc (blk_drewN (blk_alloc h1 _) _) _) _, blk_alloc (blk_alloc (blk_drewN h2 _) _) _, blk_alloc h3 _, h4, below_alloc (below_alloc (pw_below_drewN (below_alloc (below_alloc (Below.refl _ _) _) _) _) _) _⟩
theorem first_call (size cols : Nat) (hc6 : cols ≤ 6) (hs6 : size ≤ 6) (w X w1 : World) (n : Nat) (A1 : Option Addr) (c1 : Nat)
    (hX : ((((w.alloc (.cells #[.int .i64 (cols : Int)] 3)).alloc (.cells #[.int .i64 (size : Int)] 3)).drewN n).alloc (.cells #[.slice none 0 0] 22)).alloc (.cells #[.func (.func 61) #[] (adders (w.heap.size + 1) (w.heap.size + 1 + 1) w.heap.size (w.heap.size + 1 + 1 + 1))] 64) = X)
    (hb : Below X.heap.size X w1) (ho : Kd.R (Kd.int .i64) 3 w1 X.heap.size (fun _ => True) (.slice A1 0 c1) []) :
    Calls Try.prog 61 #[.slice A1 0 c1, .int .i64 0, .pointer (some ⟨w.heap.size + 1, 0, none⟩), .pointer (some ⟨w.heap.size + 1 + 1, 0, none⟩), .pointer (some ⟨w.heap.size, 0, none⟩), .pointer (some ⟨w.heap.size + 1 + 1 + 1, 0, none⟩)] w1 fun e w' => e = .returned (.tuple #[]) ∧ ∃ v', w'.cell? ⟨w.heap.size + 1 + 1, 0, none⟩ = some v' ∧ Kd.S (Kd.slice 3 (Kd.int .i64)) 30 w' w.heap.size (fun _ => True) v' (subsF size cols cols [] 0) ∧ Below w.heap.size w w' := by
  obtain ⟨h1, h2, h3, h4, h5⟩ := four_boxes w n _ _ _ _ X hX
  have e := add_calls size cols (w.heap.size + 1) (w.heap.size + 1 + 1) w.heap.size (w.heap.size + 1 + 1 + 1) hc6 hs6 cols [] 0 A1 c1 w.heap.size (.slice none 0 0) [] w1 (by omega) (by omega) (by simp) (by omega) (Nat.le_trans h5.size hb.size) (blk_below h2 hb) (blk_below h1 hb) (blk_below h4 hb) (blk_below h3 hb) (Kd.S_nil _ _ _ _ _) (Kd.R_lower ho h5.size) (by have := subs_le size cols hs6 hc6; simp; omega)
  refine e.mono ?_
  rintro e' w' ⟨rfl, v', k1, k2, k3, k4⟩
  exact ⟨rfl, v', (blk_cell k1 0).trans rfl, by simpa using k2, (below_step h5 hb).trans k3⟩
set_option maxHeartbeats 4000000 in
set_option maxRecDepth 100000 in
theorem impl_SetsOf.calls (a0 : Int) (a1 : Int) (r : List (List Int)) (w : World) (h : impl_SetsOf.f a0 a1 = some r) :
    Calls Try.prog 34 #[.int .i64 a0, .int .i64 a1] w fun e w' => ∃ v0_ : Value, e = .returned (v0_) ∧ Kd.S (Kd.slice 3 (Kd.int .i64)) 30 w' w.heap.size (fun _ => True) v0_ r ∧ Below w.heap.size w w' := by
  unfold impl_SetsOf.f at h
  have q1 : ∀ w, Calls Try.prog 60 #[.int .i64 a0, .int .i64 0, .int .i64 6] w fun e w' => e = .returned (.bool (decide (0 ≤ a0 ∧ a0 ≤ 6))) ∧ Drawn0 w w' := fun w => impl_InRange.calls a0 0 6 _ w (in_range_is _ _ _)
  have q2 : ∀ w, Calls Try.prog 60 #[.int .i64 a1, .int .i64 0, .int .i64 a0] w fun e w' => e = .returned (.bool (decide (0 ≤ a1 ∧ a1 ≤ a0))) ∧ Drawn0 w w' := fun w => impl_InRange.calls a1 0 a0 _ w (in_range_is _ _ _)
  have Q1 := Aside0.mk q1
  have Q2 := Aside0.mk q2
  clear q1 q2
  by_cases h1 : 0 ≤ a0 ∧ a0 ≤ 6
  · by_cases h2 : 0 ≤ a1 ∧ a1 ≤ a0
    · rw [if_pos ⟨h1.1, h1.2, h2.1, h2.2⟩] at h
      obtain rfl := Option.some.inj h
      rw [decide_eq_true h1] at Q1
      rw [decide_eq_true h2] at Q2
      obtain ⟨cols, rfl⟩ := Int.eq_ofNat_of_zero_le h1.1
      obtain ⟨size, rfl⟩ := Int.eq_ofNat_of_zero_le h2.1
      have hc6 : cols ≤ 6 := by omega
      have hs6 : size ≤ 6 := by omega
      clear h h1 h2
      simp only [Int.ofNat_eq_natCast, Int.toNat_natCast] at Q1 Q2 ⊢
      go_enter Try.func34, Try.ntmps34
      go_wp2_with (first | (go_at_call 60; (with_reducible refine (Q1.out _).mono ?_); rintro e w1 ⟨rfl, ⟨nd, rfl⟩⟩) | (go_at_call 60; (with_reducible refine (Q2.out _).mono ?_); rintro e w1 ⟨rfl, ⟨nd2, rfl⟩⟩) | ((with_reducible refine gate_dst (N := 18) rfl ?_); refine Kd.R_lit (Kd.int .i64) (w0 := _) _ 3 ?hg (N := 18) ?hd (xs := ([] : List Int)) (inner := []) (ok := fun _ => True) (okp := fun _ => True) ?hr ?hp (fun _ hk => hk) trivial (Below.refl _ _) (Nat.le_refl _) (by simp) ?_; (case hd => rfl); (case hg => rfl); (case hr => first | (go_simp; done) | (go_simp; rfl)); (case hp => exact Reps.none _ _); intro v1 w1 ho hb hg_ hnew_; obtain ⟨A1, c1, rfl⟩ := Kd.R_slice ho; have HO := Aside0.mk ho; have HB := Aside0.mk hb; clear ho hb hg_ hnew_) | (go_at_call 61; (with_reducible refine (first_call size cols hc6 hs6 w _ w1 _ A1 c1 rfl HB.out HO.out).mono ?_); rintro e w2 ⟨rfl, v2, hcell2, ho2, hb2⟩; have HO2 := Aside0.mk ho2; have HB2 := Aside0.mk hb2; clear ho2 hb2) | fail)
      go_ret
      exact ⟨_, rfl, HO2.out, HB2.out⟩
    · rw [if_neg (fun hq => h2 hq.2.2)] at h
      obtain rfl := Option.some.inj h
      rw [decide_eq_true h1] at Q1
      rw [decide_eq_false h2] at Q2
      clear h h1 h2
      go_enter Try.func34, Try.ntmps34
      go_wp2_with (first | (go_at_call 60; (with_reducible refine (Q1.out _).mono ?_); rintro e w1 ⟨rfl, ⟨nd, rfl⟩⟩) | (go_at_call 60; (with_reducible refine (Q2.out _).mono ?_); rintro e w1 ⟨rfl, ⟨nd2, rfl⟩⟩) | fail)
      go_ret
      exact ⟨_, rfl, Kd.S_nil _ _ _ _ _, by repeat (first | exact Below.refl _ _ | apply pw_below_drewN | apply below_alloc | apply below_drew1)⟩
  · rw [if_neg (fun hq => h1 ⟨hq.1, hq.2.1⟩)] at h
    obtain rfl := Option.some.inj h
    rw [decide_eq_false h1] at Q1
    clear h h1 Q2
    go_enter Try.func34, Try.ntmps34
    go_wp2_with (first | (go_at_call 60; (with_reducible refine (Q1.out _).mono ?_); rintro e w1 ⟨rfl, ⟨nd, rfl⟩⟩) | fail)
    go_ret
    exact ⟨_, rfl, Kd.S_nil _ _ _ _ _, by repeat (first | exact Below.refl _ _ | apply pw_below_drewN | apply below_alloc | apply below_drew1)⟩

-- NOT PRINTED: function 83 (slices_IndexFunc_int_int_83)

-- NOT PRINTED: function 76 (slices_ContainsFunc_int_int_76)

end Go.Proofs.Ytoniljblfenpeaa.PFnExplained
