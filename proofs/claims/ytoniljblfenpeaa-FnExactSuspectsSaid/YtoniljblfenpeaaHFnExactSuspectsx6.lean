-- Written by a program of this session out of the translation (wip/gen/hprint.sh). Lean checks it.
import Derived.Test.YtoniljblfenpeaaHFnExactSuspectsx0
import Derived.Test.YtoniljblfenpeaaHFnExactSuspectsx1
import Derived.Test.YtoniljblfenpeaaHFnExactSuspectsx2
import Derived.Test.YtoniljblfenpeaaHFnExactSuspectsx4
import Derived.Test.YtoniljblfenpeaaHFnExactSuspectsx5
namespace Go.Proofs.Ytoniljblfenpeaa.PFnExactSuspects
open Go.RowKit Go.Proofs.YtoniljblfenpeaaW.PrintWords Go.Proofs.YtoniljblfenpeaaW.PrintLast Go.Proofs.YtoniljblfenpeaaW.PrintMore
attribute [local go_sem] max2_int min2_int max_two min_two max_three min_three max_four min_four   -- for this text's walks alone
set_option linter.unusedVariables false
set_option linter.unusedSimpArgs false

/-! ### impl_Suspects: function 26 -/
mutual
def impl_Suspects.l0 : Nat → List (List Int) → List Bool → List Int → Int → Int → Option (List Int)
  | 0, _, _, _, _, _ => none
  | k + 1, x0, x1, x7, x18, x19 => if x19 < x18 then (impl_Suspects.l1 k x0 x1 x7 x19 false false x18 x19 x0 (x0.length : Int) 0) else (some x7)
def impl_Suspects.l1 : Nat → List (List Int) → List Bool → List Int → Int → Bool → Bool → Int → Int → List (List Int) → Int → Int → Option (List Int)
  | 0, _, _, _, _, _, _, _, _, _, _, _ => none
  | k + 1, x0, x1, x7, x8, x9, x10, x18, x19, x22, x23, x24 => if x24 < x23 then (if 0 ≤ x24 then (if x24 < (x22.length : Int) then (if x9 = true then (if x10 = true then (impl_Suspects.l1 k x0 x1 x7 x8 true true x18 x19 x22 x23 (wrap64 (x24 + 1))) else (if 0 ≤ x8 then (if x8 < ((rd_L1 x22 x24).length : Int) then (if (rd (rd_L1 x22 x24) x8) = 1 then (if x24 < (x1.length : Int) then (impl_Suspects.l1 k x0 x1 x7 x8 true (!(rdOf false x1 x24)) x18 x19 x22 x23 (wrap64 (x24 + 1))) else (none)) else (impl_Suspects.l1 k x0 x1 x7 x8 true false x18 x19 x22 x23 (wrap64 (x24 + 1)))) else (none)) else (none))) else (if 0 ≤ x8 then (if x8 < ((rd_L1 x22 x24).length : Int) then (if (rd (rd_L1 x22 x24) x8) = 1 then (if x24 < (x1.length : Int) then (if x10 = true then (impl_Suspects.l1 k x0 x1 x7 x8 (rdOf false x1 x24) true x18 x19 x22 x23 (wrap64 (x24 + 1))) else (impl_Suspects.l1 k x0 x1 x7 x8 (rdOf false x1 x24) (!(rdOf false x1 x24)) x18 x19 x22 x23 (wrap64 (x24 + 1)))) else (none)) else (if x10 = true then (impl_Suspects.l1 k x0 x1 x7 x8 false true x18 x19 x22 x23 (wrap64 (x24 + 1))) else (impl_Suspects.l1 k x0 x1 x7 x8 false false x18 x19 x22 x23 (wrap64 (x24 + 1))))) else (none)) else (none))) else (none)) else (none)) else (if x9 = true then (if x10 = true then (impl_Suspects.l0 k x0 x1 x7 x18 (wrap64 (x19 + 1))) else (if x7.length < 17592186044416 then (impl_Suspects.l0 k x0 x1 (x7 ++ [x8]) x18 (wrap64 (x19 + 1))) else (none))) else (impl_Suspects.l0 k x0 x1 x7 x18 (wrap64 (x19 + 1))))
end
def impl_Suspects.f (k : Nat) (l0 : List (List Int)) (l1 : List Bool) (a2 : Int) : Option (List Int) := (impl_AreVerdicts.f k l0 l1 a2).bind fun t164 => (if t164 = true then (impl_Suspects.l0 k l0 l1 ([] : List Int) a2 0) else (some ([] : List Int)))
theorem impl_Suspects.mono_l : ∀ k, (∀ y0 y1 y2 y3 y4, LeO (impl_Suspects.l0 k y0 y1 y2 y3 y4) (impl_Suspects.l0 (k + 1) y0 y1 y2 y3 y4)) ∧ (∀ y0 y1 y2 y3 y4 y5 y6 y7 y8 y9 y10, LeO (impl_Suspects.l1 k y0 y1 y2 y3 y4 y5 y6 y7 y8 y9 y10) (impl_Suspects.l1 (k + 1) y0 y1 y2 y3 y4 y5 y6 y7 y8 y9 y10))
  | 0 => ⟨fun _ _ _ _ _ r h => by simp [impl_Suspects.l0] at h, fun _ _ _ _ _ _ _ _ _ _ _ r h => by simp [impl_Suspects.l1] at h⟩
  | k + 1 => by
    obtain ⟨ih0, ih1⟩ := impl_Suspects.mono_l k
    refine ⟨?_, ?_⟩
    · intro y0 y1 y2 y3 y4
      unfold impl_Suspects.l0
      repeat' first
      | (with_reducible exact ih0 _ _ _ _ _)
      | (with_reducible exact ih1 _ _ _ _ _ _ _ _ _ _ _)
      | (with_reducible exact impl_AreVerdicts.mono _ _ _ _)
      | (with_reducible exact LeO.refl _)
      | (with_reducible exact LeO.none _)
      | (with_reducible refine LeO.ite ?_ ?_)
      | (with_reducible refine LeO.bind ?_ (fun _ => ?_))
      | exact ih0 _ _ _ _ _
      | exact ih1 _ _ _ _ _ _ _ _ _ _ _
      | exact impl_AreVerdicts.mono _ _ _ _
      | exact LeO.none _
      | refine LeO.ite ?_ ?_
      | refine LeO.bind ?_ (fun _ => ?_)
    · intro y0 y1 y2 y3 y4 y5 y6 y7 y8 y9 y10
      unfold impl_Suspects.l1
      repeat' first
      | (with_reducible exact ih0 _ _ _ _ _)
      | (with_reducible exact ih1 _ _ _ _ _ _ _ _ _ _ _)
      | (with_reducible exact impl_AreVerdicts.mono _ _ _ _)
      | (with_reducible exact LeO.refl _)
      | (with_reducible exact LeO.none _)
      | (with_reducible refine LeO.ite ?_ ?_)
      | (with_reducible refine LeO.bind ?_ (fun _ => ?_))
      | exact ih0 _ _ _ _ _
      | exact ih1 _ _ _ _ _ _ _ _ _ _ _
      | exact impl_AreVerdicts.mono _ _ _ _
      | exact LeO.none _
      | refine LeO.ite ?_ ?_
      | refine LeO.bind ?_ (fun _ => ?_)
theorem impl_Suspects.mono : ∀ a0 a1 a2 k, LeO (impl_Suspects.f k a0 a1 a2) (impl_Suspects.f (k + 1) a0 a1 a2) := by
  intro a0 a1 a2 k
  obtain ⟨ih0, ih1⟩ := impl_Suspects.mono_l k
  unfold impl_Suspects.f
  repeat' first
      | (with_reducible exact ih0 _ _ _ _ _)
      | (with_reducible exact ih1 _ _ _ _ _ _ _ _ _ _ _)
      | (with_reducible exact impl_AreVerdicts.mono _ _ _ _)
      | (with_reducible exact LeO.refl _)
      | (with_reducible exact LeO.none _)
      | (with_reducible refine LeO.ite ?_ ?_)
      | (with_reducible refine LeO.bind ?_ (fun _ => ?_))
      | exact ih0 _ _ _ _ _
      | exact ih1 _ _ _ _ _ _ _ _ _ _ _
      | exact impl_AreVerdicts.mono _ _ _ _
      | exact LeO.none _
      | refine LeO.ite ?_ ?_
      | refine LeO.bind ?_ (fun _ => ?_)
set_option maxHeartbeats 8000000 in
set_option maxRecDepth 100000 in
theorem impl_Suspects.calls (k : Nat) (A0 : Option Addr) (c0 : Nat) (l0 : List (List Int)) (A1 : Option Addr) (c1 : Nat) (l1 : List Bool) (a2 : Int) (r : List Int) (w : World) (hr0 : Kd.C (Kd.slice 3 (Kd.int .i64)) w A0 l0.length l0) (hc0 : l0.length ≤ c0) (hr1 : Kd.C Kd.bool w A1 l1.length l1) (hc1 : l1.length ≤ c1) (h : impl_Suspects.f k l0 l1 a2 = some r) :
    Calls Try.prog 26 #[.slice A0 l0.length c0, .slice A1 l1.length c1, .int .i64 a2] w fun e w' => ∃ v0_ : Value, e = .returned (v0_) ∧ Kd.R (Kd.int .i64) 3 w' w.heap.size (fun _ => True) v0_ r ∧ Below w.heap.size w w' := by
  have HR0 := Aside0.mk hr0
  have HC0 := Aside0.mk hc0
  clear hr0 hc0
  have HR1 := Aside0.mk hr1
  have HC1 := Aside0.mk hc1
  clear hr1 hc1
  have HB := Aside0.mk (Below.refl w.heap.size w)
  have H : ((impl_AreVerdicts.f k l0 l1 a2).bind fun t164 => (if t164 = true then (impl_Suspects.l0 k l0 l1 ([] : List Int) a2 0) else (some ([] : List Int)))) = some r := h
  clear h
  replace H := Option.bind_eq_some_iff.mp H
  obtain ⟨t164, A40, H⟩ := H
  replace H : (if t164 = true then (impl_Suspects.l0 k l0 l1 ([] : List Int) a2 0) else (some ([] : List Int))) = some r := H
  have A4 := Aside0.mk A40
  clear A40
  by_cases c5 : t164 = true
  · subst c5
    have H1 : (impl_Suspects.l0 k l0 l1 ([] : List Int) a2 0) = some r := by rw [if_pos rfl] at H; exact H
    clear H
    have H := H1
    clear H1
    have H' := Aside0.mk H
    clear H
    go_enter Try.func26, Try.ntmps26
    go_wp2_with (first | ((with_reducible refine gate_callee (f := 16) rfl ?_); refine goesL_ (some 16) rfl rfl Try.func16 (by kernel_rfl) rfl #[.slice A0 l0.length c0, .slice A1 l1.length c1, .int .i64 a2] rfl (by (try simp only [List.map_toArray, List.map_cons, List.map_nil]); first | done | rfl | (simp only [List.length_drop, List.length_take]; rfl)) ?_; (with_reducible refine (impl_AreVerdicts.calls k _ _ l0 _ _ l1 a2 true _ ?side1 ?side2 ?side3 ?side4 A4.out).mono ?_); (case side1 => repeat (first | exact HR0.out | (with_reducible refine Kd.C_alloc ?_ _) | (with_reducible refine Kd.C_drewN ?_ _) | (with_reducible refine Kd.C_drew ?_))); (case side2 => exact HC0.out); (case side3 => repeat (first | exact HR1.out | (with_reducible refine Kd.C_alloc ?_ _) | (with_reducible refine Kd.C_drewN ?_ _) | (with_reducible refine Kd.C_drew ?_))); (case side4 => exact HC1.out); rintro e w6 ⟨rfl, hb⟩; refine ⟨_, rfl, ?_⟩; have n0_ := Aside0.mk (below_step (by repeat (first | (with_reducible first | exact HB.out | apply below_alloc | apply pw_below_drewN | apply below_drew1) | exact HB.out)) hb); clear HB; have HB := n0_; clear n0_; (try clear hb); (try clear hb2); (try clear hk); (try clear hi)))
    go_loopg [7, 19] k (fun kq v7 v19 w' => ∃ (x7_1 : List Int) (x19_1 : Int), v19 = .int .i64 x19_1 ∧ Aside0 (impl_Suspects.l0 kq l0 l1 x7_1 a2 x19_1 = some r) ∧ Aside0 (kq ≤ k) ∧ Aside0 (Kd.R (Kd.int .i64) 3 w' w.heap.size (fun _ => True) v7 x7_1) ∧ Aside0 (Below w.heap.size w w'))
    case atStart => exact ⟨(([] : List Int)), (0), (by first | rfl | (simp; done) | (simp [*]; done)), H', ⟨Nat.le_refl _⟩, ⟨by first | exact Kd.R_nil _ _ _ _ _ | exact Kd.N_nil _ _ _ _ _ | exact Kd.V_nil _ _ _ _ _ | exact Kd.Q_nil _ _ _ _ _ | exact Kd.S_nil _ _ _ _ _⟩, ⟨by repeat (first | (with_reducible first | exact HB.out | apply below_alloc | apply pw_below_drewN | apply below_drew1) | exact HB.out)⟩⟩
    case round =>
      clear H'
      try clear c1
      try clear c2
      try clear p2
      try clear c5
      obtain ⟨x7_1, x19_1, rfl, HA, HK1, HO_7, HB⟩ := hrel
      cases gk with
      | zero => exact absurd HA.out (by simp [impl_Suspects.l0])
      | succ k1 =>
        have H := HA.out
        clear HA
        simp only [impl_Suspects.l0] at H
        by_cases c7 : x19_1 < a2
        · rw [if_pos c7] at H
          have c7b0 : decide (x19_1 < a2) = true := decide_eq_true c7
          clear c7
          have H' := Aside0.mk H
          clear H
          go_wp2
          go_loopg [9, 10, 24] k1 (fun kq v9 v10 v24 w' => ∃ (x9_2 : Bool) (x10_2 : Bool) (x24_2 : Int), v9 = .bool x9_2 ∧ v10 = .bool x10_2 ∧ v24 = .int .i64 x24_2 ∧ Aside0 (impl_Suspects.l1 kq l0 l1 x7_1 x19_1 x9_2 x10_2 a2 x19_1 l0 (l0.length : Int) x24_2 = some r) ∧ Aside0 (kq ≤ k1) ∧ Aside0 (Kd.R (Kd.int .i64) 3 w' w.heap.size (fun _ => True) u7 x7_1) ∧ Aside0 (Below w.heap.size w w'))
          case atStart => exact ⟨(false), (false), (0), (by first | rfl | (simp; done) | (simp [*]; done)), (by first | rfl | (simp; done) | (simp [*]; done)), (by first | rfl | (simp; done) | (simp [*]; done)), H', ⟨Nat.le_refl _⟩, ⟨by (with_reducible repeat (first | apply Kd.R_alloc | apply Kd.R_drewN | apply Kd.R_drew)); exact HO_7.out⟩, ⟨by repeat (first | (with_reducible first | exact HB.out | apply below_alloc | apply pw_below_drewN | apply below_drew1) | exact HB.out)⟩⟩
          case round =>
            clear H'
            try clear c1
            try clear c2
            try clear p2
            try clear c5
            try clear c7
            try clear c7b0
            try clear p2
            obtain ⟨x9_2, x10_2, x24_2, rfl, rfl, rfl, HA, HK2, HO_7, HB⟩ := hrel
            cases gk with
            | zero => exact absurd HA.out (by simp [impl_Suspects.l1])
            | succ k2 =>
              have H := HA.out
              clear HA
              simp only [impl_Suspects.l1] at H
              by_cases c8 : x24_2 < (l0.length : Int)
              · rw [if_pos c8] at H
                have c8b0 : decide (x24_2 < (l0.length : Int)) = true := decide_eq_true c8
                clear c8
                by_cases c9 : 0 ≤ x24_2
                · rw [if_pos c9] at H
                  have c9b0 : decide (0 ≤ x24_2) = true := decide_eq_true c9
                  clear c9
                  by_cases c10 : x24_2 < (l0.length : Int)
                  · rw [if_pos c10] at H
                    have c10b0 : decide (x24_2 < (l0.length : Int)) = true := decide_eq_true c10
                    clear c10
                    by_cases c11 : x9_2 = true
                    · subst c11
                      have H1 : (if x10_2 = true then (impl_Suspects.l1 k2 l0 l1 x7_1 x19_1 true true a2 x19_1 l0 (l0.length : Int) (wrap64 (x24_2 + 1))) else (if 0 ≤ x19_1 then (if x19_1 < ((rd_L1 l0 x24_2).length : Int) then (if (rd (rd_L1 l0 x24_2) x19_1) = 1 then (if x24_2 < (l1.length : Int) then (impl_Suspects.l1 k2 l0 l1 x7_1 x19_1 true (!(rdOf false l1 x24_2)) a2 x19_1 l0 (l0.length : Int) (wrap64 (x24_2 + 1))) else (none)) else (impl_Suspects.l1 k2 l0 l1 x7_1 x19_1 true false a2 x19_1 l0 (l0.length : Int) (wrap64 (x24_2 + 1)))) else (none)) else (none))) = some r := by rw [if_pos rfl] at H; exact H
                      clear H
                      have H := H1
                      clear H1
                      by_cases c12 : x10_2 = true
                      · subst c12
                        have H1 : (impl_Suspects.l1 k2 l0 l1 x7_1 x19_1 true true a2 x19_1 l0 (l0.length : Int) (wrap64 (x24_2 + 1))) = some r := by rw [if_pos rfl] at H; exact H
                        clear H
                        have H := H1
                        clear H1
                        have H' := Aside0.mk H
                        clear H
                        have p165 : 0 ≤ (x24_2 : Int) := of_decide_eq_true (by first | (with_reducible assumption) | assumption)
                        have q165 : x24_2 < (l0.length : Int) := of_decide_eq_true (by first | (with_reducible assumption) | assumption)
                        obtain ⟨ad165, A165_0, c165_0, e165, hx165_0, hl165_0, hi165_0⟩ := at_L1 HR0.out x24_2 p165 q165
                        cases e165
                        replace hx165_0 := (HB.out.cell (World.block_lt_of_cell? w _ hx165_0)).trans hx165_0
                        have HR165_0 := Aside0.mk hi165_0
                        have HC165_0 := Aside0.mk hl165_0
                        clear hi165_0 hl165_0
                        replace p165 := eq_true p165
                        replace q165 := eq_true q165
                        go_wp2
                        go_roundg k2
                        case measure => have := HK1.out; have := HK2.out; omega
                        case rel => exact ⟨(true), (true), (wrap64 (x24_2 + 1)), (by first | rfl | (simp; done) | (simp [*]; done)), (by first | rfl | (simp; done) | (simp [*]; done)), (by first | rfl | (simp; done) | (simp [*]; done)), H', ⟨by have := HK1.out; have := HK2.out; omega⟩, ⟨by (with_reducible repeat (first | apply Kd.R_alloc | apply Kd.R_drewN | apply Kd.R_drew)); exact HO_7.out⟩, ⟨by repeat (first | (with_reducible first | exact HB.out | apply below_alloc | apply pw_below_drewN | apply below_drew1) | exact HB.out)⟩⟩
                      · replace c12 := Bool.eq_false_iff.mpr c12
                        subst c12
                        have H1 : (if 0 ≤ x19_1 then (if x19_1 < ((rd_L1 l0 x24_2).length : Int) then (if (rd (rd_L1 l0 x24_2) x19_1) = 1 then (if x24_2 < (l1.length : Int) then (impl_Suspects.l1 k2 l0 l1 x7_1 x19_1 true (!(rdOf false l1 x24_2)) a2 x19_1 l0 (l0.length : Int) (wrap64 (x24_2 + 1))) else (none)) else (impl_Suspects.l1 k2 l0 l1 x7_1 x19_1 true false a2 x19_1 l0 (l0.length : Int) (wrap64 (x24_2 + 1)))) else (none)) else (none)) = some r := by rw [if_neg (show ¬ (false = true) by decide)] at H; exact H
                        clear H
                        have H := H1
                        clear H1
                        by_cases c13 : 0 ≤ x19_1
                        · rw [if_pos c13] at H
                          have c13b0 : decide (0 ≤ x19_1) = true := decide_eq_true c13
                          clear c13
                          by_cases c14 : x19_1 < ((rd_L1 l0 x24_2).length : Int)
                          · rw [if_pos c14] at H
                            have c14b0 : decide (x19_1 < ((rd_L1 l0 x24_2).length : Int)) = true := decide_eq_true c14
                            clear c14
                            by_cases c15 : (rd (rd_L1 l0 x24_2) x19_1) = 1
                            · rw [if_pos c15] at H
                              have c15b0 : ((rd (rd_L1 l0 x24_2) x19_1) == 1) = true := beq_iff_eq.mpr c15
                              have c15b1 : ((rd (rd_L1 l0 x24_2) x19_1) != 1) = false := bne_eq_false_iff_eq.mpr c15
                              clear c15
                              by_cases c16 : x24_2 < (l1.length : Int)
                              · rw [if_pos c16] at H
                                have c16b0 : decide (x24_2 < (l1.length : Int)) = true := decide_eq_true c16
                                clear c16
                                have H' := Aside0.mk H
                                clear H
                                have p165 : 0 ≤ (x24_2 : Int) := of_decide_eq_true (by first | (with_reducible assumption) | assumption)
                                have q165 : x24_2 < (l0.length : Int) := of_decide_eq_true (by first | (with_reducible assumption) | assumption)
                                obtain ⟨ad165, A165_0, c165_0, e165, hx165_0, hl165_0, hi165_0⟩ := at_L1 HR0.out x24_2 p165 q165
                                cases e165
                                replace hx165_0 := (HB.out.cell (World.block_lt_of_cell? w _ hx165_0)).trans hx165_0
                                have HR165_0 := Aside0.mk hi165_0
                                have HC165_0 := Aside0.mk hl165_0
                                clear hi165_0 hl165_0
                                replace p165 := eq_true p165
                                replace q165 := eq_true q165
                                have p166 : 0 ≤ (x19_1 : Int) := of_decide_eq_true (by first | (with_reducible assumption) | assumption)
                                have q166 : x19_1 < ((rd_L1 l0 x24_2).length : Int) := of_decide_eq_true (by first | (with_reducible assumption) | assumption)
                                obtain ⟨ad166, e166, hx166_0⟩ := Kd.at_int HR165_0.out x19_1 p166 q166
                                cases e166
                                replace hx166_0 := (HB.out.cell (World.block_lt_of_cell? w _ hx166_0)).trans hx166_0
                                replace p166 := eq_true p166
                                replace q166 := eq_true q166
                                have p167 : 0 ≤ (x24_2 : Int) := of_decide_eq_true (by first | (with_reducible assumption) | assumption)
                                have q167 : x24_2 < (l1.length : Int) := of_decide_eq_true (by first | (with_reducible assumption) | assumption)
                                obtain ⟨ad167, e167, hx167_0⟩ := Kd.at_bool HR1.out x24_2 p167 q167
                                cases e167
                                replace hx167_0 := (HB.out.cell (World.block_lt_of_cell? w _ hx167_0)).trans hx167_0
                                replace p167 := eq_true p167
                                replace q167 := eq_true q167
                                go_wp2
                                go_roundg k2
                                case measure => have := HK1.out; have := HK2.out; omega
                                case rel => exact ⟨(true), (!(rdOf false l1 x24_2)), (wrap64 (x24_2 + 1)), (by first | rfl | (simp; done) | (simp [*]; done)), (by first | rfl | (simp; done) | (simp [*]; done)), (by first | rfl | (simp; done) | (simp [*]; done)), H', ⟨by have := HK1.out; have := HK2.out; omega⟩, ⟨by (with_reducible repeat (first | apply Kd.R_alloc | apply Kd.R_drewN | apply Kd.R_drew)); exact HO_7.out⟩, ⟨by repeat (first | (with_reducible first | exact HB.out | apply below_alloc | apply pw_below_drewN | apply below_drew1) | exact HB.out)⟩⟩
                              · rw [if_neg c16] at H
                                exact absurd H (by simp)
                            · rw [if_neg c15] at H
                              have c15b0 : ((rd (rd_L1 l0 x24_2) x19_1) == 1) = false := beq_eq_false_iff_ne.mpr c15
                              have c15b1 : ((rd (rd_L1 l0 x24_2) x19_1) != 1) = true := bne_iff_ne.mpr c15
                              have H' := Aside0.mk H
                              clear H
                              have p165 : 0 ≤ (x24_2 : Int) := of_decide_eq_true (by first | (with_reducible assumption) | assumption)
                              have q165 : x24_2 < (l0.length : Int) := of_decide_eq_true (by first | (with_reducible assumption) | assumption)
                              obtain ⟨ad165, A165_0, c165_0, e165, hx165_0, hl165_0, hi165_0⟩ := at_L1 HR0.out x24_2 p165 q165
                              cases e165
                              replace hx165_0 := (HB.out.cell (World.block_lt_of_cell? w _ hx165_0)).trans hx165_0
                              have HR165_0 := Aside0.mk hi165_0
                              have HC165_0 := Aside0.mk hl165_0
                              clear hi165_0 hl165_0
                              replace p165 := eq_true p165
                              replace q165 := eq_true q165
                              have p166 : 0 ≤ (x19_1 : Int) := of_decide_eq_true (by first | (with_reducible assumption) | assumption)
                              have q166 : x19_1 < ((rd_L1 l0 x24_2).length : Int) := of_decide_eq_true (by first | (with_reducible assumption) | assumption)
                              obtain ⟨ad166, e166, hx166_0⟩ := Kd.at_int HR165_0.out x19_1 p166 q166
                              cases e166
                              replace hx166_0 := (HB.out.cell (World.block_lt_of_cell? w _ hx166_0)).trans hx166_0
                              replace p166 := eq_true p166
                              replace q166 := eq_true q166
                              go_wp2
                              go_roundg k2
                              case measure => have := HK1.out; have := HK2.out; omega
                              case rel => exact ⟨(true), (false), (wrap64 (x24_2 + 1)), (by first | rfl | (simp; done) | (simp [*]; done)), (by first | rfl | (simp; done) | (simp [*]; done)), (by first | rfl | (simp; done) | (simp [*]; done)), H', ⟨by have := HK1.out; have := HK2.out; omega⟩, ⟨by (with_reducible repeat (first | apply Kd.R_alloc | apply Kd.R_drewN | apply Kd.R_drew)); exact HO_7.out⟩, ⟨by repeat (first | (with_reducible first | exact HB.out | apply below_alloc | apply pw_below_drewN | apply below_drew1) | exact HB.out)⟩⟩
                          · rw [if_neg c14] at H
                            exact absurd H (by simp)
                        · rw [if_neg c13] at H
                          exact absurd H (by simp)
                    · replace c11 := Bool.eq_false_iff.mpr c11
                      subst c11
                      have H1 : (if 0 ≤ x19_1 then (if x19_1 < ((rd_L1 l0 x24_2).length : Int) then (if (rd (rd_L1 l0 x24_2) x19_1) = 1 then (if x24_2 < (l1.length : Int) then (if x10_2 = true then (impl_Suspects.l1 k2 l0 l1 x7_1 x19_1 (rdOf false l1 x24_2) true a2 x19_1 l0 (l0.length : Int) (wrap64 (x24_2 + 1))) else (impl_Suspects.l1 k2 l0 l1 x7_1 x19_1 (rdOf false l1 x24_2) (!(rdOf false l1 x24_2)) a2 x19_1 l0 (l0.length : Int) (wrap64 (x24_2 + 1)))) else (none)) else (if x10_2 = true then (impl_Suspects.l1 k2 l0 l1 x7_1 x19_1 false true a2 x19_1 l0 (l0.length : Int) (wrap64 (x24_2 + 1))) else (impl_Suspects.l1 k2 l0 l1 x7_1 x19_1 false false a2 x19_1 l0 (l0.length : Int) (wrap64 (x24_2 + 1))))) else (none)) else (none)) = some r := by rw [if_neg (show ¬ (false = true) by decide)] at H; exact H
                      clear H
                      have H := H1
                      clear H1
                      by_cases c17 : 0 ≤ x19_1
                      · rw [if_pos c17] at H
                        have c17b0 : decide (0 ≤ x19_1) = true := decide_eq_true c17
                        clear c17
                        by_cases c18 : x19_1 < ((rd_L1 l0 x24_2).length : Int)
                        · rw [if_pos c18] at H
                          have c18b0 : decide (x19_1 < ((rd_L1 l0 x24_2).length : Int)) = true := decide_eq_true c18
                          clear c18
                          by_cases c19 : (rd (rd_L1 l0 x24_2) x19_1) = 1
                          · rw [if_pos c19] at H
                            have c19b0 : ((rd (rd_L1 l0 x24_2) x19_1) == 1) = true := beq_iff_eq.mpr c19
                            have c19b1 : ((rd (rd_L1 l0 x24_2) x19_1) != 1) = false := bne_eq_false_iff_eq.mpr c19
                            clear c19
                            by_cases c20 : x24_2 < (l1.length : Int)
                            · rw [if_pos c20] at H
                              have c20b0 : decide (x24_2 < (l1.length : Int)) = true := decide_eq_true c20
                              clear c20
                              by_cases c21 : x10_2 = true
                              · subst c21
                                have H1 : (impl_Suspects.l1 k2 l0 l1 x7_1 x19_1 (rdOf false l1 x24_2) true a2 x19_1 l0 (l0.length : Int) (wrap64 (x24_2 + 1))) = some r := by rw [if_pos rfl] at H; exact H
                                clear H
                                have H := H1
                                clear H1
                                have H' := Aside0.mk H
                                clear H
                                have p165 : 0 ≤ (x24_2 : Int) := of_decide_eq_true (by first | (with_reducible assumption) | assumption)
                                have q165 : x24_2 < (l0.length : Int) := of_decide_eq_true (by first | (with_reducible assumption) | assumption)
                                obtain ⟨ad165, A165_0, c165_0, e165, hx165_0, hl165_0, hi165_0⟩ := at_L1 HR0.out x24_2 p165 q165
                                cases e165
                                replace hx165_0 := (HB.out.cell (World.block_lt_of_cell? w _ hx165_0)).trans hx165_0
                                have HR165_0 := Aside0.mk hi165_0
                                have HC165_0 := Aside0.mk hl165_0
                                clear hi165_0 hl165_0
                                replace p165 := eq_true p165
                                replace q165 := eq_true q165
                                have p168 : 0 ≤ (x19_1 : Int) := of_decide_eq_true (by first | (with_reducible assumption) | assumption)
                                have q168 : x19_1 < ((rd_L1 l0 x24_2).length : Int) := of_decide_eq_true (by first | (with_reducible assumption) | assumption)
                                obtain ⟨ad168, e168, hx168_0⟩ := Kd.at_int HR165_0.out x19_1 p168 q168
                                cases e168
                                replace hx168_0 := (HB.out.cell (World.block_lt_of_cell? w _ hx168_0)).trans hx168_0
                                replace p168 := eq_true p168
                                replace q168 := eq_true q168
                                have p169 : 0 ≤ (x24_2 : Int) := of_decide_eq_true (by first | (with_reducible assumption) | assumption)
                                have q169 : x24_2 < (l1.length : Int) := of_decide_eq_true (by first | (with_reducible assumption) | assumption)
                                obtain ⟨ad169, e169, hx169_0⟩ := Kd.at_bool HR1.out x24_2 p169 q169
                                cases e169
                                replace hx169_0 := (HB.out.cell (World.block_lt_of_cell? w _ hx169_0)).trans hx169_0
                                replace p169 := eq_true p169
                                replace q169 := eq_true q169
                                go_wp2
                                go_roundg k2
                                case measure => have := HK1.out; have := HK2.out; omega
                                case rel => exact ⟨(rdOf false l1 x24_2), (true), (wrap64 (x24_2 + 1)), (by first | rfl | (simp; done) | (simp [*]; done)), (by first | rfl | (simp; done) | (simp [*]; done)), (by first | rfl | (simp; done) | (simp [*]; done)), H', ⟨by have := HK1.out; have := HK2.out; omega⟩, ⟨by (with_reducible repeat (first | apply Kd.R_alloc | apply Kd.R_drewN | apply Kd.R_drew)); exact HO_7.out⟩, ⟨by repeat (first | (with_reducible first | exact HB.out | apply below_alloc | apply pw_below_drewN | apply below_drew1) | exact HB.out)⟩⟩
                              · replace c21 := Bool.eq_false_iff.mpr c21
                                subst c21
                                have H1 : (impl_Suspects.l1 k2 l0 l1 x7_1 x19_1 (rdOf false l1 x24_2) (!(rdOf false l1 x24_2)) a2 x19_1 l0 (l0.length : Int) (wrap64 (x24_2 + 1))) = some r := by rw [if_neg (show ¬ (false = true) by decide)] at H; exact H
                                clear H
                                have H := H1
                                clear H1
                                have H' := Aside0.mk H
                                clear H
                                have p165 : 0 ≤ (x24_2 : Int) := of_decide_eq_true (by first | (with_reducible assumption) | assumption)
                                have q165 : x24_2 < (l0.length : Int) := of_decide_eq_true (by first | (with_reducible assumption) | assumption)
                                obtain ⟨ad165, A165_0, c165_0, e165, hx165_0, hl165_0, hi165_0⟩ := at_L1 HR0.out x24_2 p165 q165
                                cases e165
                                replace hx165_0 := (HB.out.cell (World.block_lt_of_cell? w _ hx165_0)).trans hx165_0
                                have HR165_0 := Aside0.mk hi165_0
                                have HC165_0 := Aside0.mk hl165_0
                                clear hi165_0 hl165_0
                                replace p165 := eq_true p165
                                replace q165 := eq_true q165
                                have p168 : 0 ≤ (x19_1 : Int) := of_decide_eq_true (by first | (with_reducible assumption) | assumption)
                                have q168 : x19_1 < ((rd_L1 l0 x24_2).length : Int) := of_decide_eq_true (by first | (with_reducible assumption) | assumption)
                                obtain ⟨ad168, e168, hx168_0⟩ := Kd.at_int HR165_0.out x19_1 p168 q168
                                cases e168
                                replace hx168_0 := (HB.out.cell (World.block_lt_of_cell? w _ hx168_0)).trans hx168_0
                                replace p168 := eq_true p168
                                replace q168 := eq_true q168
                                have p169 : 0 ≤ (x24_2 : Int) := of_decide_eq_true (by first | (with_reducible assumption) | assumption)
                                have q169 : x24_2 < (l1.length : Int) := of_decide_eq_true (by first | (with_reducible assumption) | assumption)
                                obtain ⟨ad169, e169, hx169_0⟩ := Kd.at_bool HR1.out x24_2 p169 q169
                                cases e169
                                replace hx169_0 := (HB.out.cell (World.block_lt_of_cell? w _ hx169_0)).trans hx169_0
                                replace p169 := eq_true p169
                                replace q169 := eq_true q169
                                have p170 : 0 ≤ (x19_1 : Int) := of_decide_eq_true (by first | (with_reducible assumption) | assumption)
                                have q170 : x19_1 < ((rd_L1 l0 x24_2).length : Int) := of_decide_eq_true (by first | (with_reducible assumption) | assumption)
                                obtain ⟨ad170, e170, hx170_0⟩ := Kd.at_int HR165_0.out x19_1 p170 q170
                                obtain rfl : ad168 = ad170 := (by injection e170)
                                replace hx170_0 := (HB.out.cell (World.block_lt_of_cell? w _ hx170_0)).trans hx170_0
                                replace p170 := eq_true p170
                                replace q170 := eq_true q170
                                have p171 : 0 ≤ (x24_2 : Int) := of_decide_eq_true (by first | (with_reducible assumption) | assumption)
                                have q171 : x24_2 < (l1.length : Int) := of_decide_eq_true (by first | (with_reducible assumption) | assumption)
                                obtain ⟨ad171, e171, hx171_0⟩ := Kd.at_bool HR1.out x24_2 p171 q171
                                obtain rfl : ad169 = ad171 := (by injection e171)
                                replace hx171_0 := (HB.out.cell (World.block_lt_of_cell? w _ hx171_0)).trans hx171_0
                                replace p171 := eq_true p171
                                replace q171 := eq_true q171
                                go_wp2
                                go_roundg k2
                                case measure => have := HK1.out; have := HK2.out; omega
                                case rel => exact ⟨(rdOf false l1 x24_2), (!(rdOf false l1 x24_2)), (wrap64 (x24_2 + 1)), (by first | rfl | (simp; done) | (simp [*]; done)), (by first | rfl | (simp; done) | (simp [*]; done)), (by first | rfl | (simp; done) | (simp [*]; done)), H', ⟨by have := HK1.out; have := HK2.out; omega⟩, ⟨by (with_reducible repeat (first | apply Kd.R_alloc | apply Kd.R_drewN | apply Kd.R_drew)); exact HO_7.out⟩, ⟨by repeat (first | (with_reducible first | exact HB.out | apply below_alloc | apply pw_below_drewN | apply below_drew1) | exact HB.out)⟩⟩
                            · rw [if_neg c20] at H
                              exact absurd H (by simp)
                          · rw [if_neg c19] at H
                            have c19b0 : ((rd (rd_L1 l0 x24_2) x19_1) == 1) = false := beq_eq_false_iff_ne.mpr c19
                            have c19b1 : ((rd (rd_L1 l0 x24_2) x19_1) != 1) = true := bne_iff_ne.mpr c19
                            by_cases c22 : x10_2 = true
                            · subst c22
                              have H1 : (impl_Suspects.l1 k2 l0 l1 x7_1 x19_1 false true a2 x19_1 l0 (l0.length : Int) (wrap64 (x24_2 + 1))) = some r := by rw [if_pos rfl] at H; exact H
                              clear H
                              have H := H1
                              clear H1
                              have H' := Aside0.mk H
                              clear H
                              have p165 : 0 ≤ (x24_2 : Int) := of_decide_eq_true (by first | (with_reducible assumption) | assumption)
                              have q165 : x24_2 < (l0.length : Int) := of_decide_eq_true (by first | (with_reducible assumption) | assumption)
                              obtain ⟨ad165, A165_0, c165_0, e165, hx165_0, hl165_0, hi165_0⟩ := at_L1 HR0.out x24_2 p165 q165
                              cases e165
                              replace hx165_0 := (HB.out.cell (World.block_lt_of_cell? w _ hx165_0)).trans hx165_0
                              have HR165_0 := Aside0.mk hi165_0
                              have HC165_0 := Aside0.mk hl165_0
                              clear hi165_0 hl165_0
                              replace p165 := eq_true p165
                              replace q165 := eq_true q165
                              have p168 : 0 ≤ (x19_1 : Int) := of_decide_eq_true (by first | (with_reducible assumption) | assumption)
                              have q168 : x19_1 < ((rd_L1 l0 x24_2).length : Int) := of_decide_eq_true (by first | (with_reducible assumption) | assumption)
                              obtain ⟨ad168, e168, hx168_0⟩ := Kd.at_int HR165_0.out x19_1 p168 q168
                              cases e168
                              replace hx168_0 := (HB.out.cell (World.block_lt_of_cell? w _ hx168_0)).trans hx168_0
                              replace p168 := eq_true p168
                              replace q168 := eq_true q168
                              go_wp2
                              go_roundg k2
                              case measure => have := HK1.out; have := HK2.out; omega
                              case rel => exact ⟨(false), (true), (wrap64 (x24_2 + 1)), (by first | rfl | (simp; done) | (simp [*]; done)), (by first | rfl | (simp; done) | (simp [*]; done)), (by first | rfl | (simp; done) | (simp [*]; done)), H', ⟨by have := HK1.out; have := HK2.out; omega⟩, ⟨by (with_reducible repeat (first | apply Kd.R_alloc | apply Kd.R_drewN | apply Kd.R_drew)); exact HO_7.out⟩, ⟨by repeat (first | (with_reducible first | exact HB.out | apply below_alloc | apply pw_below_drewN | apply below_drew1) | exact HB.out)⟩⟩
                            · replace c22 := Bool.eq_false_iff.mpr c22
                              subst c22
                              have H1 : (impl_Suspects.l1 k2 l0 l1 x7_1 x19_1 false false a2 x19_1 l0 (l0.length : Int) (wrap64 (x24_2 + 1))) = some r := by rw [if_neg (show ¬ (false = true) by decide)] at H; exact H
                              clear H
                              have H := H1
                              clear H1
                              have H' := Aside0.mk H
                              clear H
                              have p165 : 0 ≤ (x24_2 : Int) := of_decide_eq_true (by first | (with_reducible assumption) | assumption)
                              have q165 : x24_2 < (l0.length : Int) := of_decide_eq_true (by first | (with_reducible assumption) | assumption)
                              obtain ⟨ad165, A165_0, c165_0, e165, hx165_0, hl165_0, hi165_0⟩ := at_L1 HR0.out x24_2 p165 q165
                              cases e165
                              replace hx165_0 := (HB.out.cell (World.block_lt_of_cell? w _ hx165_0)).trans hx165_0
                              have HR165_0 := Aside0.mk hi165_0
                              have HC165_0 := Aside0.mk hl165_0
                              clear hi165_0 hl165_0
                              replace p165 := eq_true p165
                              replace q165 := eq_true q165
                              have p168 : 0 ≤ (x19_1 : Int) := of_decide_eq_true (by first | (with_reducible assumption) | assumption)
                              have q168 : x19_1 < ((rd_L1 l0 x24_2).length : Int) := of_decide_eq_true (by first | (with_reducible assumption) | assumption)
                              obtain ⟨ad168, e168, hx168_0⟩ := Kd.at_int HR165_0.out x19_1 p168 q168
                              cases e168
                              replace hx168_0 := (HB.out.cell (World.block_lt_of_cell? w _ hx168_0)).trans hx168_0
                              replace p168 := eq_true p168
                              replace q168 := eq_true q168
                              have p172 : 0 ≤ (x19_1 : Int) := of_decide_eq_true (by first | (with_reducible assumption) | assumption)
                              have q172 : x19_1 < ((rd_L1 l0 x24_2).length : Int) := of_decide_eq_true (by first | (with_reducible assumption) | assumption)
                              obtain ⟨ad172, e172, hx172_0⟩ := Kd.at_int HR165_0.out x19_1 p172 q172
                              obtain rfl : ad168 = ad172 := (by injection e172)
                              replace hx172_0 := (HB.out.cell (World.block_lt_of_cell? w _ hx172_0)).trans hx172_0
                              replace p172 := eq_true p172
                              replace q172 := eq_true q172
                              go_wp2
                              go_roundg k2
                              case measure => have := HK1.out; have := HK2.out; omega
                              case rel => exact ⟨(false), (false), (wrap64 (x24_2 + 1)), (by first | rfl | (simp; done) | (simp [*]; done)), (by first | rfl | (simp; done) | (simp [*]; done)), (by first | rfl | (simp; done) | (simp [*]; done)), H', ⟨by have := HK1.out; have := HK2.out; omega⟩, ⟨by (with_reducible repeat (first | apply Kd.R_alloc | apply Kd.R_drewN | apply Kd.R_drew)); exact HO_7.out⟩, ⟨by repeat (first | (with_reducible first | exact HB.out | apply below_alloc | apply pw_below_drewN | apply below_drew1) | exact HB.out)⟩⟩
                        · rw [if_neg c18] at H
                          exact absurd H (by simp)
                      · rw [if_neg c17] at H
                        exact absurd H (by simp)
                  · rw [if_neg c10] at H
                    exact absurd H (by simp)
                · rw [if_neg c9] at H
                  exact absurd H (by simp)
              · rw [if_neg c8] at H
                have c8b0 : decide (x24_2 < (l0.length : Int)) = false := decide_eq_false c8
                clear c8
                by_cases c23 : x9_2 = true
                · subst c23
                  have H1 : (if x10_2 = true then (impl_Suspects.l0 k2 l0 l1 x7_1 a2 (wrap64 (x19_1 + 1))) else (if x7_1.length < 17592186044416 then (impl_Suspects.l0 k2 l0 l1 (x7_1 ++ [x19_1]) a2 (wrap64 (x19_1 + 1))) else (none))) = some r := by rw [if_pos rfl] at H; exact H
                  clear H
                  have H := H1
                  clear H1
                  by_cases c24 : x10_2 = true
                  · subst c24
                    have H1 : (impl_Suspects.l0 k2 l0 l1 x7_1 a2 (wrap64 (x19_1 + 1))) = some r := by rw [if_pos rfl] at H; exact H
                    clear H
                    have H := H1
                    clear H1
                    have H' := Aside0.mk H
                    clear H
                    go_wp2
                    go_roundg k2
                    case measure => have := HK1.out; have := HK2.out; omega
                    case rel => exact ⟨(x7_1), (wrap64 (x19_1 + 1)), (by first | rfl | (simp; done) | (simp [*]; done)), H', ⟨by have := HK1.out; have := HK2.out; omega⟩, ⟨by (with_reducible repeat (first | apply Kd.R_alloc | apply Kd.R_drewN | apply Kd.R_drew)); exact HO_7.out⟩, ⟨by repeat (first | (with_reducible first | exact HB.out | apply below_alloc | apply pw_below_drewN | apply below_drew1) | exact HB.out)⟩⟩
                  · replace c24 := Bool.eq_false_iff.mpr c24
                    subst c24
                    have H1 : (if x7_1.length < 17592186044416 then (impl_Suspects.l0 k2 l0 l1 (x7_1 ++ [x19_1]) a2 (wrap64 (x19_1 + 1))) else (none)) = some r := by rw [if_neg (show ¬ (false = true) by decide)] at H; exact H
                    clear H
                    have H := H1
                    clear H1
                    by_cases c25 : x7_1.length < 17592186044416
                    · rw [if_pos c25] at H
                      have LMc25 := Aside0.mk c25
                      clear c25
                      obtain ⟨y173, hy173⟩ : ∃ y_ : List Int, y_ = (x7_1 ++ [x19_1]) := ⟨_, rfl⟩
                      replace H : (impl_Suspects.l0 k2 l0 l1 y173 a2 (wrap64 (x19_1 + 1))) = some r := by first | (rw [hy173]; with_reducible exact H) | (have H2_ := (Option.bind_some _ _).symm.trans H; rw [hy173]; with_reducible exact H2_) | (have H2_ := (Option.bind_some _ _).symm.trans H; with_reducible exact H2_) | with_reducible exact H | (rw [hy173]; exact H) | exact H
                      have Ny173 := Aside0.mk hy173
                      clear hy173
                      have H' := Aside0.mk H
                      clear H
                      go_wp2_with (first | ((with_reducible refine gate_builtin (b := .append) (xs := #[.tmp 64, .tmp 66]) rfl ?_); at_builtin; refine Kd.R_append (Kd.int .i64) (w0 := w) w.heap.size rfl (.tmp 64) (.tmp 66) 30 3 (.int .i64 0) 8 rfl Try.underlying30 info3 rfl (by decide) (by omega) u7 x7_1 x19_1 [.int .i64 x19_1] (fun _ => True) (fun _ => False) rfl rfl ?aP (fun _ hk => hk.elim) ?aF ?aO ?aB ?aS ?aL ?_; (case aP => exact rfl); (case aB => exact (by repeat (first | (with_reducible first | exact HB.out | apply below_alloc | apply pw_below_drewN | apply below_drew1) | exact HB.out))); (case aF => exact (fun _ _ => trivial)); (case aO => exact (by (with_reducible repeat (first | apply Kd.R_alloc | apply Kd.R_drewN | apply Kd.R_drew)); exact HO_7.out)); (case aS => exact (below_size (by repeat (first | (with_reducible first | exact HB.out | apply below_alloc | apply pw_below_drewN | apply below_drew1) | exact HB.out)))); (case aL => have := LMc25.out; omega); intro v174 w26 ho hb hg hat; rw [← Ny173.out] at ho; have n0_ := Aside0.mk (hb); have n1_ := Aside0.mk (ho); clear HB; clear HO_7; have HB := n0_; have HO175 := n1_; clear n0_ n1_; clear ho hb hg hat))
                      go_roundg k2
                      case measure => have := HK1.out; have := HK2.out; omega
                      case rel => exact ⟨(y173), (wrap64 (x19_1 + 1)), (by first | rfl | (simp; done) | (simp [*]; done)), H', ⟨by have := HK1.out; have := HK2.out; omega⟩, ⟨by (with_reducible repeat (first | apply Kd.R_alloc | apply Kd.R_drewN | apply Kd.R_drew)); exact HO175.out⟩, ⟨by repeat (first | (with_reducible first | exact HB.out | apply below_alloc | apply pw_below_drewN | apply below_drew1) | exact HB.out)⟩⟩
                    · rw [if_neg c25] at H
                      exact absurd H (by simp)
                · replace c23 := Bool.eq_false_iff.mpr c23
                  subst c23
                  have H1 : (impl_Suspects.l0 k2 l0 l1 x7_1 a2 (wrap64 (x19_1 + 1))) = some r := by rw [if_neg (show ¬ (false = true) by decide)] at H; exact H
                  clear H
                  have H := H1
                  clear H1
                  have H' := Aside0.mk H
                  clear H
                  go_wp2
                  go_roundg k2
                  case measure => have := HK1.out; have := HK2.out; omega
                  case rel => exact ⟨(x7_1), (wrap64 (x19_1 + 1)), (by first | rfl | (simp; done) | (simp [*]; done)), H', ⟨by have := HK1.out; have := HK2.out; omega⟩, ⟨by (with_reducible repeat (first | apply Kd.R_alloc | apply Kd.R_drewN | apply Kd.R_drew)); exact HO_7.out⟩, ⟨by repeat (first | (with_reducible first | exact HB.out | apply below_alloc | apply pw_below_drewN | apply below_drew1) | exact HB.out)⟩⟩
        · rw [if_neg c7] at H
          have c7b0 : decide (x19_1 < a2) = false := decide_eq_false c7
          clear c7
          obtain rfl := Option.some.inj H
          go_wp2
          go_ret
          exact ⟨_, by first | rfl | (simp [errW_none, errW_some] <;> rfl) | (simp [*, errW_none, errW_some] <;> rfl), by (with_reducible repeat (first | apply Kd.R_alloc | apply Kd.R_drewN | apply Kd.R_drew)); exact HO_7.out, by repeat (first | (with_reducible first | exact HB.out | apply below_alloc | apply pw_below_drewN | apply below_drew1) | exact HB.out)⟩
  · replace c5 := Bool.eq_false_iff.mpr c5
    subst c5
    have H1 : (some ([] : List Int)) = some r := by rw [if_neg (show ¬ (false = true) by decide)] at H; exact H
    clear H
    have H := H1
    clear H1
    obtain rfl := Option.some.inj H
    go_enter Try.func26, Try.ntmps26
    go_wp2_with (first | ((with_reducible refine gate_callee (f := 16) rfl ?_); refine goesL_ (some 16) rfl rfl Try.func16 (by kernel_rfl) rfl #[.slice A0 l0.length c0, .slice A1 l1.length c1, .int .i64 a2] rfl (by (try simp only [List.map_toArray, List.map_cons, List.map_nil]); first | done | rfl | (simp only [List.length_drop, List.length_take]; rfl)) ?_; (with_reducible refine (impl_AreVerdicts.calls k _ _ l0 _ _ l1 a2 false _ ?side1 ?side2 ?side3 ?side4 A4.out).mono ?_); (case side1 => repeat (first | exact HR0.out | (with_reducible refine Kd.C_alloc ?_ _) | (with_reducible refine Kd.C_drewN ?_ _) | (with_reducible refine Kd.C_drew ?_))); (case side2 => exact HC0.out); (case side3 => repeat (first | exact HR1.out | (with_reducible refine Kd.C_alloc ?_ _) | (with_reducible refine Kd.C_drewN ?_ _) | (with_reducible refine Kd.C_drew ?_))); (case side4 => exact HC1.out); rintro e w27 ⟨rfl, hb⟩; refine ⟨_, rfl, ?_⟩; have n0_ := Aside0.mk (below_step (by repeat (first | (with_reducible first | exact HB.out | apply below_alloc | apply pw_below_drewN | apply below_drew1) | exact HB.out)) hb); clear HB; have HB := n0_; clear n0_; (try clear hb); (try clear hb2); (try clear hk); (try clear hi)))
    go_ret
    exact ⟨_, by first | rfl | (simp [errW_none, errW_some] <;> rfl) | (simp [*, errW_none, errW_some] <;> rfl), by first | exact Kd.R_nil _ _ _ _ _ | exact Kd.N_nil _ _ _ _ _ | exact Kd.V_nil _ _ _ _ _ | exact Kd.Q_nil _ _ _ _ _ | exact Kd.S_nil _ _ _ _ _, by repeat (first | (with_reducible first | exact HB.out | apply below_alloc | apply pw_below_drewN | apply below_drew1) | exact HB.out)⟩

/-! ### laws_markBoolS: function 27 -/
def laws_markBoolS.l0 : Nat → List Bool → Int → Int → Option (Int × List Bool)
  | 0, _, _, _ => none
  | k + 1, x0, x1, x5 => if x5 < (x0.length : Int) then (if 0 ≤ x5 then (laws_markBoolS.l0 k (x0.set (x5 : Int).toNat ((Int.tmod x1 3) == 0)) (wrap64 (x1 + 1)) (wrap64 (x5 + 1))) else (none)) else (some (x1, x0))
def laws_markBoolS.f (k : Nat) (l0 : List Bool) (a1 : Int) : Option (Int × List Bool) := laws_markBoolS.l0 k l0 a1 0
theorem laws_markBoolS.mono_l : ∀ k, (∀ y0 y1 y2, LeO (laws_markBoolS.l0 k y0 y1 y2) (laws_markBoolS.l0 (k + 1) y0 y1 y2))
  | 0 => fun _ _ _ r h => by simp [laws_markBoolS.l0] at h
  | k + 1 => by
    have ih0 := laws_markBoolS.mono_l k
    · intro y0 y1 y2
      unfold laws_markBoolS.l0
      repeat' first
      | (with_reducible exact ih0 _ _ _)
      | (with_reducible exact LeO.refl _)
      | (with_reducible exact LeO.none _)
      | (with_reducible refine LeO.ite ?_ ?_)
      | (with_reducible refine LeO.bind ?_ (fun _ => ?_))
      | exact ih0 _ _ _
      | exact LeO.none _
      | refine LeO.ite ?_ ?_
      | refine LeO.bind ?_ (fun _ => ?_)
theorem laws_markBoolS.mono : ∀ a0 a1 k, LeO (laws_markBoolS.f k a0 a1) (laws_markBoolS.f (k + 1) a0 a1) := by
  intro a0 a1 k
  have ih0 := laws_markBoolS.mono_l k
  unfold laws_markBoolS.f
  repeat' first
      | (with_reducible exact ih0 _ _ _)
      | (with_reducible exact LeO.refl _)
      | (with_reducible exact LeO.none _)
      | (with_reducible refine LeO.ite ?_ ?_)
      | (with_reducible refine LeO.bind ?_ (fun _ => ?_))
      | exact ih0 _ _ _
      | exact LeO.none _
      | refine LeO.ite ?_ ?_
      | refine LeO.bind ?_ (fun _ => ?_)
set_option maxHeartbeats 8000000 in
set_option maxRecDepth 100000 in
theorem laws_markBoolS.calls (k : Nat) (P0_ : Nat → Prop) (u9000_ : Value) (l0 : List Bool) (a1 : Int) (r1 : Int) (r2 : List Bool) (w0 w : World) (hB : Below w0.heap.size w0 w) (ho0 : Kd.R Kd.bool 4 w w0.heap.size P0_ u9000_ l0) (h : laws_markBoolS.f k l0 a1 = some (r1, r2)) :
    Calls Try.prog 27 #[u9000_, .int .i64 a1] w fun e w' => e = .returned (.int .i64 r1) ∧ Kd.R Kd.bool 4 w' w0.heap.size (fun k_ => (P0_ k_ ∨ w.heap.size ≤ k_)) u9000_ r2 ∧ Below w0.heap.size w0 w' ∧ Kept w w' (fun k_ => P0_ k_) := by
  have HO0 := Aside0.mk (show Kd.R Kd.bool 4 w w0.heap.size (fun k_ => (P0_ k_ ∨ w.heap.size ≤ k_)) u9000_ l0 from Kd.R_mono ho0 (fun k_ hk => (.inl hk)))
  have HK := Aside0.mk (Kept.refl w (fun k_ => P0_ k_))
  have HW0 := Aside0.mk hB.size
  have HB := Aside0.mk hB
  clear hB
  have H : (laws_markBoolS.l0 k l0 a1 0) = some (r1, r2) := h
  clear h
  have H' := Aside0.mk H
  clear H
  go_enter Try.func27, Try.ntmps27
  go_wp2
  go_loopg [1, 5] k (fun kq v1 v5 w' => ∃ (x0_1 : List Bool) (x1_1 : Int) (x5_1 : Int), v1 = .int .i64 x1_1 ∧ v5 = .int .i64 x5_1 ∧ Aside0 (laws_markBoolS.l0 kq x0_1 x1_1 x5_1 = some (r1, r2)) ∧ Aside0 (kq ≤ k) ∧ Aside0 (Kd.R Kd.bool 4 w' w0.heap.size (fun k_ => (P0_ k_ ∨ w.heap.size ≤ k_)) u9000_ x0_1) ∧ Aside0 (Kept w w' (fun k_ => P0_ k_)) ∧ Aside0 (Below w0.heap.size w0 w'))
  case atStart => exact ⟨(l0), (a1), (0), (by first | rfl | (simp; done) | (simp [*]; done)), (by first | rfl | (simp; done) | (simp [*]; done)), H', ⟨Nat.le_refl _⟩, ⟨by (with_reducible repeat (first | apply Kd.R_alloc | apply Kd.R_drewN | apply Kd.R_drew)); exact HO0.out⟩, ⟨by repeat (first | (with_reducible first | exact HK.out | apply Kept.alloc | apply Kept.drewN | apply Kept.drew) | exact HK.out)⟩, ⟨by repeat (first | (with_reducible first | exact HB.out | apply below_alloc | apply pw_below_drewN | apply below_drew1) | exact HB.out)⟩⟩
  case round =>
    clear H'
    try clear c2
    try clear p2
    obtain ⟨x0_1, x1_1, x5_1, rfl, rfl, HA, HK1, HO_0, HK, HB⟩ := hrel
    cases gk with
    | zero => exact absurd HA.out (by simp [laws_markBoolS.l0])
    | succ k1 =>
      have H := HA.out
      clear HA
      simp only [laws_markBoolS.l0] at H
      by_cases c3 : x5_1 < (x0_1.length : Int)
      · rw [if_pos c3] at H
        have c3b0 : decide (x5_1 < (x0_1.length : Int)) = true := decide_eq_true c3
        clear c3
        by_cases c4 : 0 ≤ x5_1
        · rw [if_pos c4] at H
          have c4b0 : decide (0 ≤ x5_1) = true := decide_eq_true c4
          clear c4
          obtain ⟨y176, hy176⟩ : ∃ y_ : List Bool, y_ = (x0_1.set (x5_1 : Int).toNat ((Int.tmod x1_1 3) == 0)) := ⟨_, rfl⟩
          replace H : (laws_markBoolS.l0 k1 y176 (wrap64 (x1_1 + 1)) (wrap64 (x5_1 + 1))) = some (r1, r2) := by first | (rw [hy176]; with_reducible exact H) | (have H2_ := (Option.bind_some _ _).symm.trans H; rw [hy176]; with_reducible exact H2_) | (have H2_ := (Option.bind_some _ _).symm.trans H; with_reducible exact H2_) | with_reducible exact H | (rw [hy176]; exact H) | exact H
          have Ny176 := Aside0.mk hy176
          clear hy176
          have H' := Aside0.mk H
          clear H
          obtain ⟨Ao6, co6, eo6⟩ := Kd.R_slice HO_0.out
          subst eo6
          have p5 : 0 ≤ (x5_1 : Int) := of_decide_eq_true (by first | (with_reducible assumption) | assumption)
          have q5 : (x5_1 : Int) < ((x0_1.length : Int) : Int) := of_decide_eq_true (by first | (with_reducible assumption) | assumption)
          obtain ⟨go5, co5, eo5, gb5, gl5, cl5, HG5⟩ := Kd.R_form HO_0.out (by omega)
          (first | cases eo5 | (injection eo5 with ea_ en_ ec_; (first | subst ea_ | (injection ea_ with ea_; subst ea_)); subst ec_; clear en_))
          have GB5 := Aside0.mk gb5
          have GG5 := Aside0.mk HG5
          clear gb5 gl5 HG5
          have HMgo5 := Aside0.mk (show (P0_ go5 ∨ w.heap.size ≤ go5) from (HO_0.out.1 _ rfl))
          obtain ⟨hx5_0, hf5_0⟩ := Kd.R_celln false HO_0.out (x5_1 : Int) p5 q5
          replace p5 := eq_true p5
          replace q5 := eq_true q5
          have HP7 := Kd.R_putg HO_0.out (x5_1 : Int) ((Int.tmod x1_1 3) == 0)
          go_wp2_with (first | ((with_reducible refine gate_store (t := 4) (p := 17) rfl ?_); refine store_event (t := 4) (p := 17) (v := ?vo_w8) (w1 := (wr.setCell ⟨go5, (x5_1 : Int).toNat, none⟩ (.bool ((Int.tmod x1_1 3) == 0)))) ?hg ?ho ?hn ?hr ?_; (case ho => rfl); (case hg => rfl); (case hn => rfl); (case hr => first | (go_simp; done) | (go_simp; rfl)); intro w8 hw; have hg : wr.grownBy w8 (some go5) := (by rw [hw]; exact HP7.2); have hp_ : Kd.R Kd.bool 4 w8 w0.heap.size (fun k_ => (P0_ k_ ∨ w.heap.size ≤ k_)) (.slice (some ⟨go5, 0, none⟩) x0_1.length co6) y176 := (by rw [hw, Ny176.out]; exact HP7.1); clear HP7; have n0_ := Aside0.mk (hp_); have n1_ := Aside0.mk ((by rw [hw]; exact below_set (HB.out) GB5.out : Below w0.heap.size w0 w8)); have n2_ := Aside0.mk (Kept.of_grown (S := (fun k_ => P0_ k_)) hg (by repeat (first | (with_reducible first | exact HK.out | apply Kept.alloc | apply Kept.drewN | apply Kept.drew) | exact HK.out)) (fun k_ e_ => (HO_0.out.1 k_ e_))); clear HO_0; clear HB; clear HK; have HO_0 := n0_; have HB := n1_; have HK := n2_; clear n0_ n1_ n2_; clear hg hw hp_))
          go_roundg k1
          case measure => have := HK1.out; omega
          case rel => exact ⟨(y176), (wrap64 (x1_1 + 1)), (wrap64 (x5_1 + 1)), (by first | rfl | (simp; done) | (simp [*]; done)), (by first | rfl | (simp; done) | (simp [*]; done)), H', ⟨by have := HK1.out; omega⟩, ⟨by (with_reducible repeat (first | apply Kd.R_alloc | apply Kd.R_drewN | apply Kd.R_drew)); exact HO_0.out⟩, ⟨by repeat (first | (with_reducible first | exact HK.out | apply Kept.alloc | apply Kept.drewN | apply Kept.drew) | exact HK.out)⟩, ⟨by repeat (first | (with_reducible first | exact HB.out | apply below_alloc | apply pw_below_drewN | apply below_drew1) | exact HB.out)⟩⟩
        · rw [if_neg c4] at H
          exact absurd H (by simp)
      · rw [if_neg c3] at H
        have c3b0 : decide (x5_1 < (x0_1.length : Int)) = false := decide_eq_false c3
        clear c3
        simp only [Option.some.injEq, Prod.mk.injEq] at H
        obtain ⟨rfl, rfl⟩ := H
        obtain ⟨Ao9, co9, eo9⟩ := Kd.R_slice HO_0.out
        subst eo9
        go_wp2
        go_ret
        exact ⟨by first | rfl | (simp [errW_none, errW_some] <;> rfl) | (simp [*, errW_none, errW_some] <;> rfl), by (with_reducible repeat (first | apply Kd.R_alloc | apply Kd.R_drewN | apply Kd.R_drew)); exact HO_0.out, by repeat (first | (with_reducible first | exact HB.out | apply below_alloc | apply pw_below_drewN | apply below_drew1) | exact HB.out), by repeat (first | (with_reducible first | exact HK.out | apply Kept.alloc | apply Kept.drewN | apply Kept.drew) | exact HK.out)⟩

/-! ### laws_FnExactSuspects: function 5 -/
theorem lawm_pos {α : Type} {c : Prop} [Decidable c] {f : Option α} {r : α} (h : (if c then f else none) = some r) : c := by
  by_cases hc : c
  · exact hc
  · rw [if_neg hc] at h
    cases h
theorem Kd.madeS {α : Type} {d : Kd α} {e N : Nat} {w wk W wi : World} {v : Value} {xs : List α} (hN : N ≤ wk.heap.size) (hW : Below wk.heap.size wk W) (hb : Below W.heap.size W wi) (hB : Below w.heap.size w wk) (ho : Kd.S d e wi W.heap.size (fun _ => True) v xs) :
    ∃ n, N ≤ n ∧ n ≤ wi.heap.size ∧ Kd.S d e wi w.heap.size (fun k_ => N ≤ k_ ∧ k_ < n) v xs :=
  ⟨wi.heap.size, Nat.le_trans hN (Nat.le_trans hW.size hb.size), Nat.le_refl _, Kd.S_lower (Kd.S_mono (Kd.S_bound ho) (fun k_ hk => ⟨Nat.le_trans (Nat.le_trans hN hW.size) hk.2.1, hk.2.2.1⟩)) (Nat.le_trans hB.size hW.size)⟩
theorem Kd.madeR {α : Type} {d : Kd α} {e N : Nat} {w wk W wi : World} {v : Value} {xs : List α} (hN : N ≤ wk.heap.size) (hW : Below wk.heap.size wk W) (hb : Below W.heap.size W wi) (hB : Below w.heap.size w wk) (ho : Kd.R d e wi W.heap.size (fun _ => True) v xs) :
    ∃ n, N ≤ n ∧ n ≤ wi.heap.size ∧ Kd.R d e wi w.heap.size (fun k_ => N ≤ k_ ∧ k_ < n) v xs :=
  ⟨wi.heap.size, Nat.le_trans hN (Nat.le_trans hW.size hb.size), Nat.le_refl _, Kd.R_lower (Kd.R_mono (Kd.R_bound ho) (fun k_ hk => ⟨Nat.le_trans (Nat.le_trans hN hW.size) hk.2.1, hk.2.2.1⟩)) (Nat.le_trans hB.size hW.size)⟩

def laws_FnExactSuspects.f (k : Nat) (l0 : List (List Int)) (l1 : List Bool) (a2 : Int) : Option Bool := if (l1.length : Int) > 1048576 then some true else ((laws_szIntSS.f k l0 1048576).bind fun t1 => (if t1 < 0 then some true else ((laws_toIntSS.f k l0).bind fun t2 => ((laws_toBoolS.f k l1).bind fun t3 => ((spec_Suspects.f k t2 t3 a2).bind fun t4 => ((laws_toIntSS.f k l0).bind fun t5 => ((laws_toBoolS.f k l1).bind fun t6 => ((impl_Suspects.f k t5 t6 a2).bind fun t7 => ((laws_eqIntS.f k t7 t4).bind fun t8 => (if t8 = true then ((laws_toIntSS.f k l0).bind fun t9 => ((laws_eqIntSS.f k t5 t9).bind fun t10 => (if t10 = true then ((laws_toBoolS.f k l1).bind fun t11 => ((laws_eqBoolS.f k t6 t11).bind fun t12 => (if t12 = true then ((laws_markIntSS.f k t5 1).bind fun p13 => ((laws_markBoolS.f k t6 p13.1).bind fun p14 => (if p14.1 < 0 then none else ((laws_eqIntS.f k t7 t4).bind fun t15 => (if t15 = true then ((laws_markIntS.f k t7 1).bind fun p16 => ((laws_heldIntS.f k p16.2 1).bind fun t17 => (if t17 < 0 then none else (if t17 = p16.1 then ((laws_toIntSS.f k l0).bind fun t18 => ((laws_toBoolS.f k l1).bind fun t19 => ((impl_Suspects.f k t18 t19 a2).bind fun t20 => ((laws_eqIntS.f k t20 t4).bind fun t21 => (if t21 = true then ((laws_heldIntS.f k p16.2 1).bind fun t22 => (if t22 < 0 then none else (if t22 = p16.1 then (some true) else none))) else none))))) else none)))) else none))))) else none))) else none))) else none))))))))))
set_option maxHeartbeats 4000000 in
set_option maxRecDepth 100000 in
theorem laws_FnExactSuspects.calls (k : Nat) (A0 : Option Addr) (c0 : Nat) (l0 : List (List Int)) (A1 : Option Addr) (c1 : Nat) (l1 : List Bool) (a2 : Int) (r : Bool) (w : World) (hr0 : Kd.C (Kd.slice 3 (Kd.int .i64)) w A0 l0.length l0) (hc0 : l0.length ≤ c0) (hr1 : Kd.C Kd.bool w A1 l1.length l1) (hc1 : l1.length ≤ c1) (h : laws_FnExactSuspects.f k l0 l1 a2 = some r) :
    Calls Try.prog 5 #[.slice A0 l0.length c0, .slice A1 l1.length c1, .int .i64 a2] w fun e w' => e = .returned (.bool r) ∧ Below w.heap.size w w' := by
  have HR0 := Aside0.mk hr0
  have HC0 := Aside0.mk hc0
  clear hr0 hc0
  have HR1 := Aside0.mk hr1
  have HC1 := Aside0.mk hc1
  clear hr1 hc1
  have HB := Aside0.mk (Below.refl w.heap.size w)
  have HN := Aside0.mk (Nat.le_refl w.heap.size)
  unfold laws_FnExactSuspects.f at h
  have H := h
  clear h
  by_cases e1_ : (l1.length : Int) > 1048576
  · rw [if_pos e1_] at H
    have e1_0 : decide (1048576 < (l1.length : Int)) = true := decide_eq_true e1_
    have e1_1 : decide (1048576 < l1.length) = true := decide_eq_true (by omega)
    clear e1_
    obtain rfl := Option.some.inj H
    go_enter Try.func5, Try.ntmps5
    go_wp2
    go_ret
    exact ⟨rfl, below_step HB.out (by repeat (first | exact Below.refl _ _ | apply below_alloc | apply pw_below_drewN | apply below_drew1))⟩
  rw [if_neg e1_] at H
  have e1_0 : decide (1048576 < (l1.length : Int)) = false := decide_eq_false e1_
  have e1_1 : decide (1048576 < l1.length) = false := decide_eq_false (by omega)
  clear e1_
  replace H := Option.bind_eq_some_iff.mp H
  obtain ⟨t1, A10_, H⟩ := H
  try dsimp only at H
  have A1_ := Aside0.mk A10_
  clear A10_
  by_cases e2_ : t1 < 0
  · rw [if_pos e2_] at H
    have e2_0 : decide (t1 < 0) = true := decide_eq_true e2_
    clear e2_
    obtain rfl := Option.some.inj H
    go_enter Try.func5, Try.ntmps5
    go_wp2_with (first | ((with_reducible refine gate_callee (f := 12) rfl ?_); refine goesL_ (some 21) rfl rfl Try.func12 (by kernel_rfl) rfl #[.slice A0 l0.length c0, .int .i64 1048576] rfl (by (try simp only [List.map_toArray, List.map_cons, List.map_nil]); first | done | rfl | (simp only [List.length_drop, List.length_take]; rfl)) ?_; (with_reducible refine (laws_szIntSS.calls k _ _ l0 1048576 t1 _ ?side1 ?side2 A1_.out).mono ?_); (case side1 => exact Kd.C_below HR0.out (below_step HB.out (by repeat (first | exact Below.refl _ _ | apply below_alloc | apply pw_below_drewN | apply below_drew1)))); (case side2 => exact HC0.out); rintro e w' ⟨rfl, ⟨nd, rfl⟩⟩; refine ⟨_, rfl, ?_⟩))
    go_ret
    exact ⟨rfl, below_step HB.out (by repeat (first | exact Below.refl _ _ | apply below_alloc | apply pw_below_drewN | apply below_drew1))⟩
  rw [if_neg e2_] at H
  have e2_0 : decide (t1 < 0) = false := decide_eq_false e2_
  clear e2_
  replace H := Option.bind_eq_some_iff.mp H
  obtain ⟨t2, A20_, H⟩ := H
  try dsimp only at H
  have A2_ := Aside0.mk A20_
  clear A20_
  replace H := Option.bind_eq_some_iff.mp H
  obtain ⟨t3, A30_, H⟩ := H
  try dsimp only at H
  have A3_ := Aside0.mk A30_
  clear A30_
  replace H := Option.bind_eq_some_iff.mp H
  obtain ⟨t4, A40_, H⟩ := H
  try dsimp only at H
  have A4_ := Aside0.mk A40_
  clear A40_
  replace H := Option.bind_eq_some_iff.mp H
  obtain ⟨t5, A50_, H⟩ := H
  try dsimp only at H
  have A5_ := Aside0.mk A50_
  clear A50_
  replace H := Option.bind_eq_some_iff.mp H
  obtain ⟨t6, A60_, H⟩ := H
  try dsimp only at H
  have A6_ := Aside0.mk A60_
  clear A60_
  replace H := Option.bind_eq_some_iff.mp H
  obtain ⟨t7, A70_, H⟩ := H
  try dsimp only at H
  have A7_ := Aside0.mk A70_
  clear A70_
  replace H := Option.bind_eq_some_iff.mp H
  obtain ⟨t8, A80_, H⟩ := H
  try dsimp only at H
  have A8_ := Aside0.mk A80_
  clear A80_
  have e3_ : t8 = true := lawm_pos H
  rw [if_pos e3_] at H
  subst e3_
  replace H := Option.bind_eq_some_iff.mp H
  obtain ⟨t9, A90_, H⟩ := H
  try dsimp only at H
  have A9_ := Aside0.mk A90_
  clear A90_
  replace H := Option.bind_eq_some_iff.mp H
  obtain ⟨t10, A100_, H⟩ := H
  try dsimp only at H
  have A10_ := Aside0.mk A100_
  clear A100_
  have e4_ : t10 = true := lawm_pos H
  rw [if_pos e4_] at H
  subst e4_
  replace H := Option.bind_eq_some_iff.mp H
  obtain ⟨t11, A110_, H⟩ := H
  try dsimp only at H
  have A11_ := Aside0.mk A110_
  clear A110_
  replace H := Option.bind_eq_some_iff.mp H
  obtain ⟨t12, A120_, H⟩ := H
  try dsimp only at H
  have A12_ := Aside0.mk A120_
  clear A120_
  have e5_ : t12 = true := lawm_pos H
  rw [if_pos e5_] at H
  subst e5_
  replace H := Option.bind_eq_some_iff.mp H
  obtain ⟨⟨t13, u13⟩, A130_, H⟩ := H
  try dsimp only at H
  have A13_ := Aside0.mk A130_
  clear A130_
  replace H := Option.bind_eq_some_iff.mp H
  obtain ⟨⟨t14, u14⟩, A140_, H⟩ := H
  try dsimp only at H
  have A14_ := Aside0.mk A140_
  clear A140_
  have e6_ : ¬ (t14 < 0) := fun hc_ => by rw [if_pos hc_] at H; cases H
  rw [if_neg e6_] at H
  have e6_0 : decide (t14 < 0) = false := decide_eq_false e6_
  clear e6_
  replace H := Option.bind_eq_some_iff.mp H
  obtain ⟨t15, A150_, H⟩ := H
  try dsimp only at H
  have A15_ := Aside0.mk A150_
  clear A150_
  have e7_ : t15 = true := lawm_pos H
  rw [if_pos e7_] at H
  subst e7_
  replace H := Option.bind_eq_some_iff.mp H
  obtain ⟨⟨t16, u16⟩, A160_, H⟩ := H
  try dsimp only at H
  have A16_ := Aside0.mk A160_
  clear A160_
  replace H := Option.bind_eq_some_iff.mp H
  obtain ⟨t17, A170_, H⟩ := H
  try dsimp only at H
  have A17_ := Aside0.mk A170_
  clear A170_
  have e8_ : ¬ (t17 < 0) := fun hc_ => by rw [if_pos hc_] at H; cases H
  rw [if_neg e8_] at H
  have e8_0 : decide (t17 < 0) = false := decide_eq_false e8_
  clear e8_
  have e9_ : t17 = t16 := lawm_pos H
  rw [if_pos e9_] at H
  have e9_0 : (t17 == t16) = true := beq_iff_eq.mpr e9_
  have e9_1 : (t17 != t16) = false := bne_eq_false_iff_eq.mpr e9_
  clear e9_
  replace H := Option.bind_eq_some_iff.mp H
  obtain ⟨t18, A180_, H⟩ := H
  try dsimp only at H
  have A18_ := Aside0.mk A180_
  clear A180_
  replace H := Option.bind_eq_some_iff.mp H
  obtain ⟨t19, A190_, H⟩ := H
  try dsimp only at H
  have A19_ := Aside0.mk A190_
  clear A190_
  replace H := Option.bind_eq_some_iff.mp H
  obtain ⟨t20, A200_, H⟩ := H
  try dsimp only at H
  have A20_ := Aside0.mk A200_
  clear A200_
  replace H := Option.bind_eq_some_iff.mp H
  obtain ⟨t21, A210_, H⟩ := H
  try dsimp only at H
  have A21_ := Aside0.mk A210_
  clear A210_
  have e10_ : t21 = true := lawm_pos H
  rw [if_pos e10_] at H
  subst e10_
  replace H := Option.bind_eq_some_iff.mp H
  obtain ⟨t22, A220_, H⟩ := H
  try dsimp only at H
  have A22_ := Aside0.mk A220_
  clear A220_
  have e11_ : ¬ (t22 < 0) := fun hc_ => by rw [if_pos hc_] at H; cases H
  rw [if_neg e11_] at H
  have e11_0 : decide (t22 < 0) = false := decide_eq_false e11_
  clear e11_
  have e12_ : t22 = t16 := lawm_pos H
  rw [if_pos e12_] at H
  have e12_0 : (t22 == t16) = true := beq_iff_eq.mpr e12_
  have e12_1 : (t22 != t16) = false := bne_eq_false_iff_eq.mpr e12_
  clear e12_
  obtain rfl := Option.some.inj H
  go_enter Try.func5, Try.ntmps5
  go_wp2_with (first | ((with_reducible refine gate_callee (f := 12) rfl ?_); refine goesL_ (some 21) rfl rfl Try.func12 (by kernel_rfl) rfl #[.slice A0 l0.length c0, .int .i64 1048576] rfl (by (try simp only [List.map_toArray, List.map_cons, List.map_nil]); first | done | rfl | (simp only [List.length_drop, List.length_take]; rfl)) ?_; (with_reducible refine (laws_szIntSS.calls k _ _ l0 1048576 t1 _ ?side1 ?side2 A1_.out).mono ?_); (case side1 => exact Kd.C_below HR0.out (below_step HB.out (by repeat (first | exact Below.refl _ _ | apply below_alloc | apply pw_below_drewN | apply below_drew1)))); (case side2 => exact HC0.out); rintro e w' ⟨rfl, ⟨nd, rfl⟩⟩; refine ⟨_, rfl, ?_⟩) | ((with_reducible refine gate_callee (f := 14) rfl ?_); refine goesL_ (some 25) rfl rfl Try.func14 (by kernel_rfl) rfl #[.slice A0 l0.length c0] rfl (by (try simp only [List.map_toArray, List.map_cons, List.map_nil]); first | done | rfl | (simp only [List.length_drop, List.length_take]; rfl)) ?_; (with_reducible refine (laws_toIntSS.calls k _ _ l0 t2 _ ?side1 ?side2 A2_.out).mono ?_); (case side1 => exact Kd.C_below HR0.out (below_step HB.out (by repeat (first | exact Below.refl _ _ | apply below_alloc | apply pw_below_drewN | apply below_drew1)))); (case side2 => exact HC0.out); rintro e w2_ ⟨v_, rfl, ho_, hb_⟩; refine ⟨_, rfl, ?_⟩; obtain ⟨n1_, hle1_, hN_, hF_⟩ := Kd.madeS (N := w.heap.size) HN.out (by repeat (first | exact Below.refl _ _ | apply below_alloc | apply pw_below_drewN | apply below_drew1)) hb_ HB.out ho_; obtain ⟨Ao2, co2, rfl⟩ := Kd.S_slice ho_; have F2 := Aside0.mk hF_; clear hF_ ho_; have g_ := Aside0.mk hN_; clear HN hN_; have HN := g_; clear g_; have g_ := Aside0.mk (below_step (below_step HB.out (by repeat (first | exact Below.refl _ _ | apply below_alloc | apply pw_below_drewN | apply below_drew1))) hb_); clear HB hb_; have HB := g_; clear g_) | ((with_reducible refine gate_callee (f := 15) rfl ?_); refine goesL_ (some 27) rfl rfl Try.func15 (by kernel_rfl) rfl #[.slice A1 l1.length c1] rfl (by (try simp only [List.map_toArray, List.map_cons, List.map_nil]); first | done | rfl | (simp only [List.length_drop, List.length_take]; rfl)) ?_; (with_reducible refine (laws_toBoolS.calls k _ _ l1 t3 _ ?side1 ?side2 A3_.out).mono ?_); (case side1 => exact Kd.C_below HR1.out (below_step HB.out (by repeat (first | exact Below.refl _ _ | apply below_alloc | apply pw_below_drewN | apply below_drew1)))); (case side2 => exact HC1.out); rintro e w3_ ⟨v_, rfl, ho_, hb_⟩; refine ⟨_, rfl, ?_⟩; have g_ := Aside0.mk (Kd.S_below (Kd.S_below F2.out (by repeat (first | exact Below.refl _ _ | apply below_alloc | apply pw_below_drewN | apply below_drew1))) hb_); clear F2; have F2 := g_; clear g_; obtain ⟨n2_, hle2_, hN_, hF_⟩ := Kd.madeR (N := n1_) HN.out (by repeat (first | exact Below.refl _ _ | apply below_alloc | apply pw_below_drewN | apply below_drew1)) hb_ HB.out ho_; obtain ⟨Ao3, co3, rfl⟩ := Kd.R_slice ho_; have F3 := Aside0.mk hF_; clear hF_ ho_; have g_ := Aside0.mk hN_; clear HN hN_; have HN := g_; clear g_; have g_ := Aside0.mk (below_step (below_step HB.out (by repeat (first | exact Below.refl _ _ | apply below_alloc | apply pw_below_drewN | apply below_drew1))) hb_); clear HB hb_; have HB := g_; clear g_) | ((with_reducible refine gate_callee (f := 25) rfl ?_); refine goesL_ (some 29) rfl rfl Try.func25 (by kernel_rfl) rfl #[.slice Ao2 t2.length co2, .slice Ao3 t3.length co3, .int .i64 a2] rfl (by (try simp only [List.map_toArray, List.map_cons, List.map_nil]); first | done | rfl | (simp only [List.length_drop, List.length_take]; rfl)) ?_; (with_reducible refine (spec_Suspects.calls k _ _ t2 _ _ t3 a2 t4 _ ?side1 ?side2 ?side3 ?side4 A4_.out).mono ?_); (case side1 => exact (Kd.S_reads' (Kd.S_below F2.out (by repeat (first | exact Below.refl _ _ | apply below_alloc | apply pw_below_drewN | apply below_drew1)))).2.2); (case side2 => exact (Kd.S_reads' F2.out).2.1); (case side3 => exact (Kd.R_reads' (Kd.R_below F3.out (by repeat (first | exact Below.refl _ _ | apply below_alloc | apply pw_below_drewN | apply below_drew1)))).2.2); (case side4 => exact (Kd.R_reads' F3.out).2.1); rintro e w4_ ⟨v_, rfl, ho_, hb_⟩; refine ⟨_, rfl, ?_⟩; obtain ⟨n3_, hle3_, hN_, hF_⟩ := Kd.madeR (N := n2_) HN.out (by repeat (first | exact Below.refl _ _ | apply below_alloc | apply pw_below_drewN | apply below_drew1)) hb_ HB.out ho_; obtain ⟨Ao4, co4, rfl⟩ := Kd.R_slice ho_; have F4 := Aside0.mk hF_; clear hF_ ho_; have g_ := Aside0.mk hN_; clear HN hN_; have HN := g_; clear g_; have g_ := Aside0.mk (below_step (below_step HB.out (by repeat (first | exact Below.refl _ _ | apply below_alloc | apply pw_below_drewN | apply below_drew1))) hb_); clear HB hb_; have HB := g_; clear g_) | ((with_reducible refine gate_callee (f := 14) rfl ?_); refine goesL_ (some 31) rfl rfl Try.func14 (by kernel_rfl) rfl #[.slice A0 l0.length c0] rfl (by (try simp only [List.map_toArray, List.map_cons, List.map_nil]); first | done | rfl | (simp only [List.length_drop, List.length_take]; rfl)) ?_; (with_reducible refine (laws_toIntSS.calls k _ _ l0 t5 _ ?side1 ?side2 A5_.out).mono ?_); (case side1 => exact Kd.C_below HR0.out (below_step HB.out (by repeat (first | exact Below.refl _ _ | apply below_alloc | apply pw_below_drewN | apply below_drew1)))); (case side2 => exact HC0.out); rintro e w5_ ⟨v_, rfl, ho_, hb_⟩; refine ⟨_, rfl, ?_⟩; have g_ := Aside0.mk (Kd.R_below (Kd.R_below F4.out (by repeat (first | exact Below.refl _ _ | apply below_alloc | apply pw_below_drewN | apply below_drew1))) hb_); clear F4; have F4 := g_; clear g_; obtain ⟨n4_, hle4_, hN_, hF_⟩ := Kd.madeS (N := n3_) HN.out (by repeat (first | exact Below.refl _ _ | apply below_alloc | apply pw_below_drewN | apply below_drew1)) hb_ HB.out ho_; obtain ⟨Ao5, co5, rfl⟩ := Kd.S_slice ho_; have F5 := Aside0.mk hF_; clear hF_ ho_; have g_ := Aside0.mk hN_; clear HN hN_; have HN := g_; clear g_; have g_ := Aside0.mk (below_step (below_step HB.out (by repeat (first | exact Below.refl _ _ | apply below_alloc | apply pw_below_drewN | apply below_drew1))) hb_); clear HB hb_; have HB := g_; clear g_) | ((with_reducible refine gate_callee (f := 15) rfl ?_); refine goesL_ (some 33) rfl rfl Try.func15 (by kernel_rfl) rfl #[.slice A1 l1.length c1] rfl (by (try simp only [List.map_toArray, List.map_cons, List.map_nil]); first | done | rfl | (simp only [List.length_drop, List.length_take]; rfl)) ?_; (with_reducible refine (laws_toBoolS.calls k _ _ l1 t6 _ ?side1 ?side2 A6_.out).mono ?_); (case side1 => exact Kd.C_below HR1.out (below_step HB.out (by repeat (first | exact Below.refl _ _ | apply below_alloc | apply pw_below_drewN | apply below_drew1)))); (case side2 => exact HC1.out); rintro e w6_ ⟨v_, rfl, ho_, hb_⟩; refine ⟨_, rfl, ?_⟩; have g_ := Aside0.mk (Kd.R_below (Kd.R_below F4.out (by repeat (first | exact Below.refl _ _ | apply below_alloc | apply pw_below_drewN | apply below_drew1))) hb_); clear F4; have F4 := g_; clear g_; have g_ := Aside0.mk (Kd.S_below (Kd.S_below F5.out (by repeat (first | exact Below.refl _ _ | apply below_alloc | apply pw_below_drewN | apply below_drew1))) hb_); clear F5; have F5 := g_; clear g_; obtain ⟨n5_, hle5_, hN_, hF_⟩ := Kd.madeR (N := n4_) HN.out (by repeat (first | exact Below.refl _ _ | apply below_alloc | apply pw_below_drewN | apply below_drew1)) hb_ HB.out ho_; obtain ⟨Ao6, co6, rfl⟩ := Kd.R_slice ho_; have F6 := Aside0.mk hF_; clear hF_ ho_; have g_ := Aside0.mk hN_; clear HN hN_; have HN := g_; clear g_; have g_ := Aside0.mk (below_step (below_step HB.out (by repeat (first | exact Below.refl _ _ | apply below_alloc | apply pw_below_drewN | apply below_drew1))) hb_); clear HB hb_; have HB := g_; clear g_) | ((with_reducible refine gate_callee (f := 26) rfl ?_); refine goesL_ (some 37) rfl rfl Try.func26 (by kernel_rfl) rfl #[.slice Ao5 t5.length co5, .slice Ao6 t6.length co6, .int .i64 a2] rfl (by (try simp only [List.map_toArray, List.map_cons, List.map_nil]); first | done | rfl | (simp only [List.length_drop, List.length_take]; rfl)) ?_; (with_reducible refine (impl_Suspects.calls k _ _ t5 _ _ t6 a2 t7 _ ?side1 ?side2 ?side3 ?side4 A7_.out).mono ?_); (case side1 => exact (Kd.S_reads' (Kd.S_below F5.out (by repeat (first | exact Below.refl _ _ | apply below_alloc | apply pw_below_drewN | apply below_drew1)))).2.2); (case side2 => exact (Kd.S_reads' F5.out).2.1); (case side3 => exact (Kd.R_reads' (Kd.R_below F6.out (by repeat (first | exact Below.refl _ _ | apply below_alloc | apply pw_below_drewN | apply below_drew1)))).2.2); (case side4 => exact (Kd.R_reads' F6.out).2.1); rintro e w7_ ⟨v_, rfl, ho_, hb_⟩; refine ⟨_, rfl, ?_⟩; have g_ := Aside0.mk (Kd.R_below (Kd.R_below F4.out (by repeat (first | exact Below.refl _ _ | apply below_alloc | apply pw_below_drewN | apply below_drew1))) hb_); clear F4; have F4 := g_; clear g_; have g_ := Aside0.mk (Kd.S_below (Kd.S_below F5.out (by repeat (first | exact Below.refl _ _ | apply below_alloc | apply pw_below_drewN | apply below_drew1))) hb_); clear F5; have F5 := g_; clear g_; have g_ := Aside0.mk (Kd.R_below (Kd.R_below F6.out (by repeat (first | exact Below.refl _ _ | apply below_alloc | apply pw_below_drewN | apply below_drew1))) hb_); clear F6; have F6 := g_; clear g_; obtain ⟨n6_, hle6_, hN_, hF_⟩ := Kd.madeR (N := n5_) HN.out (by repeat (first | exact Below.refl _ _ | apply below_alloc | apply pw_below_drewN | apply below_drew1)) hb_ HB.out ho_; obtain ⟨Ao7, co7, rfl⟩ := Kd.R_slice ho_; have F7 := Aside0.mk hF_; clear hF_ ho_; have g_ := Aside0.mk hN_; clear HN hN_; have HN := g_; clear g_; have g_ := Aside0.mk (below_step (below_step HB.out (by repeat (first | exact Below.refl _ _ | apply below_alloc | apply pw_below_drewN | apply below_drew1))) hb_); clear HB hb_; have HB := g_; clear g_) | ((with_reducible refine gate_callee (f := 21) rfl ?_); refine goesL_ (some 40) rfl rfl Try.func21 (by kernel_rfl) rfl #[.slice Ao7 t7.length co7, .slice Ao4 t4.length co4] rfl (by (try simp only [List.map_toArray, List.map_cons, List.map_nil]); first | done | rfl | (simp only [List.length_drop, List.length_take]; rfl)) ?_; (with_reducible refine (laws_eqIntS.calls k _ _ t7 _ _ t4 true _ ?side1 ?side2 ?side3 ?side4 A8_.out).mono ?_); (case side1 => exact (Kd.R_reads' (Kd.R_below F7.out (by repeat (first | exact Below.refl _ _ | apply below_alloc | apply pw_below_drewN | apply below_drew1)))).2.2); (case side2 => exact (Kd.R_reads' F7.out).2.1); (case side3 => exact (Kd.R_reads' (Kd.R_below F4.out (by repeat (first | exact Below.refl _ _ | apply below_alloc | apply pw_below_drewN | apply below_drew1)))).2.2); (case side4 => exact (Kd.R_reads' F4.out).2.1); rintro e w' ⟨rfl, ⟨nd, rfl⟩⟩; refine ⟨_, rfl, ?_⟩) | ((with_reducible refine gate_callee (f := 14) rfl ?_); refine goesL_ (some 44) rfl rfl Try.func14 (by kernel_rfl) rfl #[.slice A0 l0.length c0] rfl (by (try simp only [List.map_toArray, List.map_cons, List.map_nil]); first | done | rfl | (simp only [List.length_drop, List.length_take]; rfl)) ?_; (with_reducible refine (laws_toIntSS.calls k _ _ l0 t9 _ ?side1 ?side2 A9_.out).mono ?_); (case side1 => exact Kd.C_below HR0.out (below_step HB.out (by repeat (first | exact Below.refl _ _ | apply below_alloc | apply pw_below_drewN | apply below_drew1)))); (case side2 => exact HC0.out); rintro e w9_ ⟨v_, rfl, ho_, hb_⟩; refine ⟨_, rfl, ?_⟩; have g_ := Aside0.mk (Kd.R_below (Kd.R_below F4.out (by repeat (first | exact Below.refl _ _ | apply below_alloc | apply pw_below_drewN | apply below_drew1))) hb_); clear F4; have F4 := g_; clear g_; have g_ := Aside0.mk (Kd.S_below (Kd.S_below F5.out (by repeat (first | exact Below.refl _ _ | apply below_alloc | apply pw_below_drewN | apply below_drew1))) hb_); clear F5; have F5 := g_; clear g_; have g_ := Aside0.mk (Kd.R_below (Kd.R_below F6.out (by repeat (first | exact Below.refl _ _ | apply below_alloc | apply pw_below_drewN | apply below_drew1))) hb_); clear F6; have F6 := g_; clear g_; have g_ := Aside0.mk (Kd.R_below (Kd.R_below F7.out (by repeat (first | exact Below.refl _ _ | apply below_alloc | apply pw_below_drewN | apply below_drew1))) hb_); clear F7; have F7 := g_; clear g_; obtain ⟨n7_, hle7_, hN_, hF_⟩ := Kd.madeS (N := n6_) HN.out (by repeat (first | exact Below.refl _ _ | apply below_alloc | apply pw_below_drewN | apply below_drew1)) hb_ HB.out ho_; obtain ⟨Ao9, co9, rfl⟩ := Kd.S_slice ho_; have F9 := Aside0.mk hF_; clear hF_ ho_; have g_ := Aside0.mk hN_; clear HN hN_; have HN := g_; clear g_; have g_ := Aside0.mk (below_step (below_step HB.out (by repeat (first | exact Below.refl _ _ | apply below_alloc | apply pw_below_drewN | apply below_drew1))) hb_); clear HB hb_; have HB := g_; clear g_) | ((with_reducible refine gate_callee (f := 17) rfl ?_); refine goesL_ (some 45) rfl rfl Try.func17 (by kernel_rfl) rfl #[.slice Ao5 t5.length co5, .slice Ao9 t9.length co9] rfl (by (try simp only [List.map_toArray, List.map_cons, List.map_nil]); first | done | rfl | (simp only [List.length_drop, List.length_take]; rfl)) ?_; (with_reducible refine (laws_eqIntSS.calls k _ _ t5 _ _ t9 true _ ?side1 ?side2 ?side3 ?side4 A10_.out).mono ?_); (case side1 => exact (Kd.S_reads' (Kd.S_below F5.out (by repeat (first | exact Below.refl _ _ | apply below_alloc | apply pw_below_drewN | apply below_drew1)))).2.2); (case side2 => exact (Kd.S_reads' F5.out).2.1); (case side3 => exact (Kd.S_reads' (Kd.S_below F9.out (by repeat (first | exact Below.refl _ _ | apply below_alloc | apply pw_below_drewN | apply below_drew1)))).2.2); (case side4 => exact (Kd.S_reads' F9.out).2.1); rintro e w' ⟨rfl, ⟨nd, rfl⟩⟩; refine ⟨_, rfl, ?_⟩) | ((with_reducible refine gate_callee (f := 15) rfl ?_); refine goesL_ (some 49) rfl rfl Try.func15 (by kernel_rfl) rfl #[.slice A1 l1.length c1] rfl (by (try simp only [List.map_toArray, List.map_cons, List.map_nil]); first | done | rfl | (simp only [List.length_drop, List.length_take]; rfl)) ?_; (with_reducible refine (laws_toBoolS.calls k _ _ l1 t11 _ ?side1 ?side2 A11_.out).mono ?_); (case side1 => exact Kd.C_below HR1.out (below_step HB.out (by repeat (first | exact Below.refl _ _ | apply below_alloc | apply pw_below_drewN | apply below_drew1)))); (case side2 => exact HC1.out); rintro e w11_ ⟨v_, rfl, ho_, hb_⟩; refine ⟨_, rfl, ?_⟩; have g_ := Aside0.mk (Kd.R_below (Kd.R_below F4.out (by repeat (first | exact Below.refl _ _ | apply below_alloc | apply pw_below_drewN | apply below_drew1))) hb_); clear F4; have F4 := g_; clear g_; have g_ := Aside0.mk (Kd.S_below (Kd.S_below F5.out (by repeat (first | exact Below.refl _ _ | apply below_alloc | apply pw_below_drewN | apply below_drew1))) hb_); clear F5; have F5 := g_; clear g_; have g_ := Aside0.mk (Kd.R_below (Kd.R_below F6.out (by repeat (first | exact Below.refl _ _ | apply below_alloc | apply pw_below_drewN | apply below_drew1))) hb_); clear F6; have F6 := g_; clear g_; have g_ := Aside0.mk (Kd.R_below (Kd.R_below F7.out (by repeat (first | exact Below.refl _ _ | apply below_alloc | apply pw_below_drewN | apply below_drew1))) hb_); clear F7; have F7 := g_; clear g_; obtain ⟨n8_, hle8_, hN_, hF_⟩ := Kd.madeR (N := n7_) HN.out (by repeat (first | exact Below.refl _ _ | apply below_alloc | apply pw_below_drewN | apply below_drew1)) hb_ HB.out ho_; obtain ⟨Ao11, co11, rfl⟩ := Kd.R_slice ho_; have F11 := Aside0.mk hF_; clear hF_ ho_; have g_ := Aside0.mk hN_; clear HN hN_; have HN := g_; clear g_; have g_ := Aside0.mk (below_step (below_step HB.out (by repeat (first | exact Below.refl _ _ | apply below_alloc | apply pw_below_drewN | apply below_drew1))) hb_); clear HB hb_; have HB := g_; clear g_) | ((with_reducible refine gate_callee (f := 18) rfl ?_); refine goesL_ (some 50) rfl rfl Try.func18 (by kernel_rfl) rfl #[.slice Ao6 t6.length co6, .slice Ao11 t11.length co11] rfl (by (try simp only [List.map_toArray, List.map_cons, List.map_nil]); first | done | rfl | (simp only [List.length_drop, List.length_take]; rfl)) ?_; (with_reducible refine (laws_eqBoolS.calls k _ _ t6 _ _ t11 true _ ?side1 ?side2 ?side3 ?side4 A12_.out).mono ?_); (case side1 => exact (Kd.R_reads' (Kd.R_below F6.out (by repeat (first | exact Below.refl _ _ | apply below_alloc | apply pw_below_drewN | apply below_drew1)))).2.2); (case side2 => exact (Kd.R_reads' F6.out).2.1); (case side3 => exact (Kd.R_reads' (Kd.R_below F11.out (by repeat (first | exact Below.refl _ _ | apply below_alloc | apply pw_below_drewN | apply below_drew1)))).2.2); (case side4 => exact (Kd.R_reads' F11.out).2.1); rintro e w' ⟨rfl, ⟨nd, rfl⟩⟩; refine ⟨_, rfl, ?_⟩) | ((with_reducible refine gate_callee (f := 22) rfl ?_); refine goesL_ (some 54) rfl rfl Try.func22 (by kernel_rfl) rfl #[.slice Ao5 t5.length co5, .int .i64 1] rfl (by (try simp only [List.map_toArray, List.map_cons, List.map_nil]); first | done | rfl | (simp only [List.length_drop, List.length_take]; rfl)) ?_; (with_reducible refine (laws_markIntSS.calls k (fun k_ => n3_ ≤ k_ ∧ k_ < n4_) _ t5 1 t13 u13 w _ ?sideB ?sideO A13_.out).mono ?_); (case sideB => exact below_step HB.out (by repeat (first | exact Below.refl _ _ | apply below_alloc | apply pw_below_drewN | apply below_drew1))); (case sideO => exact Kd.S_below F5.out (by repeat (first | exact Below.refl _ _ | apply below_alloc | apply pw_below_drewN | apply below_drew1))); rintro e w13_ ⟨rfl, hs_, hb_, hk_⟩; refine ⟨_, rfl, ?_⟩; have g_ := Aside0.mk (Kd.R_kept (Kd.R_below F4.out (by repeat (first | exact Below.refl _ _ | apply below_alloc | apply pw_below_drewN | apply below_drew1))) hk_ (fun k_ h1_ h2_ => by obtain ⟨_, _⟩ := h1_; obtain ⟨_, _⟩ := h2_; omega)); clear F4; have F4 := g_; clear g_; have g_ := Aside0.mk (Kd.R_kept (Kd.R_below F6.out (by repeat (first | exact Below.refl _ _ | apply below_alloc | apply pw_below_drewN | apply below_drew1))) hk_ (fun k_ h1_ h2_ => by obtain ⟨_, _⟩ := h1_; obtain ⟨_, _⟩ := h2_; omega)); clear F6; have F6 := g_; clear g_; have g_ := Aside0.mk (Kd.R_kept (Kd.R_below F7.out (by repeat (first | exact Below.refl _ _ | apply below_alloc | apply pw_below_drewN | apply below_drew1))) hk_ (fun k_ h1_ h2_ => by obtain ⟨_, _⟩ := h1_; obtain ⟨_, _⟩ := h2_; omega)); clear F7; have F7 := g_; clear g_; have hl_ : t5.length = u13.length := (Kd.S_reads' hs_).1; have g_ := Aside0.mk (show Kd.S (Kd.slice 3 (Kd.int .i64)) 30 w13_ w.heap.size (fun _ => True) (.slice Ao5 u13.length co5) u13 from hl_ ▸ Kd.S_mono hs_ (fun _ _ => trivial)); clear F5; have F5 := g_; clear g_; (try rw [hl_]); clear hl_ hs_; have g_ := Aside0.mk hb_; clear HB hb_; have HB := g_; clear g_; have g_ := Aside0.mk (Nat.le_trans HN.out (Nat.le_trans (show Below w11_.heap.size w11_ _ from (by repeat (first | exact Below.refl _ _ | apply below_alloc | apply pw_below_drewN | apply below_drew1))).size hk_.1)); clear HN hk_; have HN := g_; clear g_) | ((with_reducible refine gate_callee (f := 27) rfl ?_); refine goesL_ (some 57) rfl rfl Try.func27 (by kernel_rfl) rfl #[.slice Ao6 t6.length co6, .int .i64 t13] rfl (by (try simp only [List.map_toArray, List.map_cons, List.map_nil]); first | done | rfl | (simp only [List.length_drop, List.length_take]; rfl)) ?_; (with_reducible refine (laws_markBoolS.calls k (fun k_ => n4_ ≤ k_ ∧ k_ < n5_) _ t6 t13 t14 u14 w _ ?sideB ?sideO A14_.out).mono ?_); (case sideB => exact below_step HB.out (by repeat (first | exact Below.refl _ _ | apply below_alloc | apply pw_below_drewN | apply below_drew1))); (case sideO => exact Kd.R_below F6.out (by repeat (first | exact Below.refl _ _ | apply below_alloc | apply pw_below_drewN | apply below_drew1))); rintro e w14_ ⟨rfl, hs_, hb_, hk_⟩; refine ⟨_, rfl, ?_⟩; have g_ := Aside0.mk (Kd.R_kept (Kd.R_below F4.out (by repeat (first | exact Below.refl _ _ | apply below_alloc | apply pw_below_drewN | apply below_drew1))) hk_ (fun k_ h1_ h2_ => by obtain ⟨_, _⟩ := h1_; obtain ⟨_, _⟩ := h2_; omega)); clear F4; have F4 := g_; clear g_; have g_ := Aside0.mk (Kd.R_kept (Kd.R_below F7.out (by repeat (first | exact Below.refl _ _ | apply below_alloc | apply pw_below_drewN | apply below_drew1))) hk_ (fun k_ h1_ h2_ => by obtain ⟨_, _⟩ := h1_; obtain ⟨_, _⟩ := h2_; omega)); clear F7; have F7 := g_; clear g_; have hl_ : t6.length = u14.length := (Kd.R_reads' hs_).1; have g_ := Aside0.mk (show Kd.R Kd.bool 4 w14_ w.heap.size (fun _ => True) (.slice Ao6 u14.length co6) u14 from hl_ ▸ Kd.R_mono hs_ (fun _ _ => trivial)); clear F6; have F6 := g_; clear g_; (try rw [hl_]); clear hl_ hs_; have g_ := Aside0.mk hb_; clear HB hb_; have HB := g_; clear g_; have g_ := Aside0.mk (Nat.le_trans HN.out (Nat.le_trans (show Below w13_.heap.size w13_ _ from (by repeat (first | exact Below.refl _ _ | apply below_alloc | apply pw_below_drewN | apply below_drew1))).size hk_.1)); clear HN hk_; have HN := g_; clear g_) | (go_at_call 21; (with_reducible refine (laws_eqIntS.calls k _ _ t7 _ _ t4 true _ ?side1 ?side2 ?side3 ?side4 A15_.out).mono ?_); (case side1 => exact (Kd.R_reads' (Kd.R_below F7.out (by repeat (first | exact Below.refl _ _ | apply below_alloc | apply pw_below_drewN | apply below_drew1)))).2.2); (case side2 => exact (Kd.R_reads' F7.out).2.1); (case side3 => exact (Kd.R_reads' (Kd.R_below F4.out (by repeat (first | exact Below.refl _ _ | apply below_alloc | apply pw_below_drewN | apply below_drew1)))).2.2); (case side4 => exact (Kd.R_reads' F4.out).2.1); rintro e w' ⟨rfl, ⟨nd, rfl⟩⟩) | ((with_reducible refine gate_callee (f := 23) rfl ?_); refine goesL_ (some 68) rfl rfl Try.func23 (by kernel_rfl) rfl #[.slice Ao7 t7.length co7, .int .i64 1] rfl (by (try simp only [List.map_toArray, List.map_cons, List.map_nil]); first | done | rfl | (simp only [List.length_drop, List.length_take]; rfl)) ?_; (with_reducible refine (laws_markIntS.calls k (fun k_ => n5_ ≤ k_ ∧ k_ < n6_) _ t7 1 t16 u16 w _ ?sideB ?sideO A16_.out).mono ?_); (case sideB => exact below_step HB.out (by repeat (first | exact Below.refl _ _ | apply below_alloc | apply pw_below_drewN | apply below_drew1))); (case sideO => exact Kd.R_below F7.out (by repeat (first | exact Below.refl _ _ | apply below_alloc | apply pw_below_drewN | apply below_drew1))); rintro e w16_ ⟨rfl, hs_, hb_, hk_⟩; refine ⟨_, rfl, ?_⟩; have g_ := Aside0.mk (Kd.R_kept (Kd.R_below F4.out (by repeat (first | exact Below.refl _ _ | apply below_alloc | apply pw_below_drewN | apply below_drew1))) hk_ (fun k_ h1_ h2_ => by obtain ⟨_, _⟩ := h1_; obtain ⟨_, _⟩ := h2_; omega)); clear F4; have F4 := g_; clear g_; have hl_ : t7.length = u16.length := (Kd.R_reads' hs_).1; have g_ := Aside0.mk (show Kd.R (Kd.int .i64) 3 w16_ w.heap.size (fun _ => True) (.slice Ao7 u16.length co7) u16 from hl_ ▸ Kd.R_mono hs_ (fun _ _ => trivial)); clear F7; have F7 := g_; clear g_; (try rw [hl_]); clear hl_ hs_; have g_ := Aside0.mk hb_; clear HB hb_; have HB := g_; clear g_; have g_ := Aside0.mk (Nat.le_trans HN.out (Nat.le_trans (show Below w14_.heap.size w14_ _ from (by repeat (first | exact Below.refl _ _ | apply below_alloc | apply pw_below_drewN | apply below_drew1))).size hk_.1)); clear HN hk_; have HN := g_; clear g_) | ((with_reducible refine gate_callee (f := 24) rfl ?_); refine goesL_ (some 71) rfl rfl Try.func24 (by kernel_rfl) rfl #[.slice Ao7 u16.length co7, .int .i64 1] rfl (by (try simp only [List.map_toArray, List.map_cons, List.map_nil]); first | done | rfl | (simp only [List.length_drop, List.length_take]; rfl)) ?_; (with_reducible refine (laws_heldIntS.calls k _ _ u16 1 t17 _ ?side1 ?side2 A17_.out).mono ?_); (case side1 => exact (Kd.R_reads' (Kd.R_below F7.out (by repeat (first | exact Below.refl _ _ | apply below_alloc | apply pw_below_drewN | apply below_drew1)))).2.2); (case side2 => exact (Kd.R_reads' F7.out).2.1); rintro e w' ⟨rfl, ⟨nd, rfl⟩⟩; refine ⟨_, rfl, ?_⟩) | ((with_reducible refine gate_callee (f := 14) rfl ?_); refine goesL_ (some 78) rfl rfl Try.func14 (by kernel_rfl) rfl #[.slice A0 l0.length c0] rfl (by (try simp only [List.map_toArray, List.map_cons, List.map_nil]); first | done | rfl | (simp only [List.length_drop, List.length_take]; rfl)) ?_; (with_reducible refine (laws_toIntSS.calls k _ _ l0 t18 _ ?side1 ?side2 A18_.out).mono ?_); (case side1 => exact Kd.C_below HR0.out (below_step HB.out (by repeat (first | exact Below.refl _ _ | apply below_alloc | apply pw_below_drewN | apply below_drew1)))); (case side2 => exact HC0.out); rintro e w18_ ⟨v_, rfl, ho_, hb_⟩; refine ⟨_, rfl, ?_⟩; have g_ := Aside0.mk (Kd.R_below (Kd.R_below F4.out (by repeat (first | exact Below.refl _ _ | apply below_alloc | apply pw_below_drewN | apply below_drew1))) hb_); clear F4; have F4 := g_; clear g_; have g_ := Aside0.mk (Kd.R_below (Kd.R_below F7.out (by repeat (first | exact Below.refl _ _ | apply below_alloc | apply pw_below_drewN | apply below_drew1))) hb_); clear F7; have F7 := g_; clear g_; obtain ⟨n9_, hle9_, hN_, hF_⟩ := Kd.madeS (N := n8_) HN.out (by repeat (first | exact Below.refl _ _ | apply below_alloc | apply pw_below_drewN | apply below_drew1)) hb_ HB.out ho_; obtain ⟨Ao18, co18, rfl⟩ := Kd.S_slice ho_; have F18 := Aside0.mk hF_; clear hF_ ho_; have g_ := Aside0.mk hN_; clear HN hN_; have HN := g_; clear g_; have g_ := Aside0.mk (below_step (below_step HB.out (by repeat (first | exact Below.refl _ _ | apply below_alloc | apply pw_below_drewN | apply below_drew1))) hb_); clear HB hb_; have HB := g_; clear g_) | ((with_reducible refine gate_callee (f := 15) rfl ?_); refine goesL_ (some 80) rfl rfl Try.func15 (by kernel_rfl) rfl #[.slice A1 l1.length c1] rfl (by (try simp only [List.map_toArray, List.map_cons, List.map_nil]); first | done | rfl | (simp only [List.length_drop, List.length_take]; rfl)) ?_; (with_reducible refine (laws_toBoolS.calls k _ _ l1 t19 _ ?side1 ?side2 A19_.out).mono ?_); (case side1 => exact Kd.C_below HR1.out (below_step HB.out (by repeat (first | exact Below.refl _ _ | apply below_alloc | apply pw_below_drewN | apply below_drew1)))); (case side2 => exact HC1.out); rintro e w19_ ⟨v_, rfl, ho_, hb_⟩; refine ⟨_, rfl, ?_⟩; have g_ := Aside0.mk (Kd.R_below (Kd.R_below F4.out (by repeat (first | exact Below.refl _ _ | apply below_alloc | apply pw_below_drewN | apply below_drew1))) hb_); clear F4; have F4 := g_; clear g_; have g_ := Aside0.mk (Kd.R_below (Kd.R_below F7.out (by repeat (first | exact Below.refl _ _ | apply below_alloc | apply pw_below_drewN | apply below_drew1))) hb_); clear F7; have F7 := g_; clear g_; have g_ := Aside0.mk (Kd.S_below (Kd.S_below F18.out (by repeat (first | exact Below.refl _ _ | apply below_alloc | apply pw_below_drewN | apply below_drew1))) hb_); clear F18; have F18 := g_; clear g_; obtain ⟨n10_, hle10_, hN_, hF_⟩ := Kd.madeR (N := n9_) HN.out (by repeat (first | exact Below.refl _ _ | apply below_alloc | apply pw_below_drewN | apply below_drew1)) hb_ HB.out ho_; obtain ⟨Ao19, co19, rfl⟩ := Kd.R_slice ho_; have F19 := Aside0.mk hF_; clear hF_ ho_; have g_ := Aside0.mk hN_; clear HN hN_; have HN := g_; clear g_; have g_ := Aside0.mk (below_step (below_step HB.out (by repeat (first | exact Below.refl _ _ | apply below_alloc | apply pw_below_drewN | apply below_drew1))) hb_); clear HB hb_; have HB := g_; clear g_) | ((with_reducible refine gate_callee (f := 26) rfl ?_); refine goesL_ (some 82) rfl rfl Try.func26 (by kernel_rfl) rfl #[.slice Ao18 t18.length co18, .slice Ao19 t19.length co19, .int .i64 a2] rfl (by (try simp only [List.map_toArray, List.map_cons, List.map_nil]); first | done | rfl | (simp only [List.length_drop, List.length_take]; rfl)) ?_; (with_reducible refine (impl_Suspects.calls k _ _ t18 _ _ t19 a2 t20 _ ?side1 ?side2 ?side3 ?side4 A20_.out).mono ?_); (case side1 => exact (Kd.S_reads' (Kd.S_below F18.out (by repeat (first | exact Below.refl _ _ | apply below_alloc | apply pw_below_drewN | apply below_drew1)))).2.2); (case side2 => exact (Kd.S_reads' F18.out).2.1); (case side3 => exact (Kd.R_reads' (Kd.R_below F19.out (by repeat (first | exact Below.refl _ _ | apply below_alloc | apply pw_below_drewN | apply below_drew1)))).2.2); (case side4 => exact (Kd.R_reads' F19.out).2.1); rintro e w20_ ⟨v_, rfl, ho_, hb_⟩; refine ⟨_, rfl, ?_⟩; have g_ := Aside0.mk (Kd.R_below (Kd.R_below F4.out (by repeat (first | exact Below.refl _ _ | apply below_alloc | apply pw_below_drewN | apply below_drew1))) hb_); clear F4; have F4 := g_; clear g_; have g_ := Aside0.mk (Kd.R_below (Kd.R_below F7.out (by repeat (first | exact Below.refl _ _ | apply below_alloc | apply pw_below_drewN | apply below_drew1))) hb_); clear F7; have F7 := g_; clear g_; obtain ⟨n11_, hle11_, hN_, hF_⟩ := Kd.madeR (N := n10_) HN.out (by repeat (first | exact Below.refl _ _ | apply below_alloc | apply pw_below_drewN | apply below_drew1)) hb_ HB.out ho_; obtain ⟨Ao20, co20, rfl⟩ := Kd.R_slice ho_; have F20 := Aside0.mk hF_; clear hF_ ho_; have g_ := Aside0.mk hN_; clear HN hN_; have HN := g_; clear g_; have g_ := Aside0.mk (below_step (below_step HB.out (by repeat (first | exact Below.refl _ _ | apply below_alloc | apply pw_below_drewN | apply below_drew1))) hb_); clear HB hb_; have HB := g_; clear g_) | ((with_reducible refine gate_callee (f := 21) rfl ?_); refine goesL_ (some 85) rfl rfl Try.func21 (by kernel_rfl) rfl #[.slice Ao20 t20.length co20, .slice Ao4 t4.length co4] rfl (by (try simp only [List.map_toArray, List.map_cons, List.map_nil]); first | done | rfl | (simp only [List.length_drop, List.length_take]; rfl)) ?_; (with_reducible refine (laws_eqIntS.calls k _ _ t20 _ _ t4 true _ ?side1 ?side2 ?side3 ?side4 A21_.out).mono ?_); (case side1 => exact (Kd.R_reads' (Kd.R_below F20.out (by repeat (first | exact Below.refl _ _ | apply below_alloc | apply pw_below_drewN | apply below_drew1)))).2.2); (case side2 => exact (Kd.R_reads' F20.out).2.1); (case side3 => exact (Kd.R_reads' (Kd.R_below F4.out (by repeat (first | exact Below.refl _ _ | apply below_alloc | apply pw_below_drewN | apply below_drew1)))).2.2); (case side4 => exact (Kd.R_reads' F4.out).2.1); rintro e w' ⟨rfl, ⟨nd, rfl⟩⟩; refine ⟨_, rfl, ?_⟩) | ((with_reducible refine gate_callee (f := 24) rfl ?_); refine goesL_ (some 89) rfl rfl Try.func24 (by kernel_rfl) rfl #[.slice Ao7 u16.length co7, .int .i64 1] rfl (by (try simp only [List.map_toArray, List.map_cons, List.map_nil]); first | done | rfl | (simp only [List.length_drop, List.length_take]; rfl)) ?_; (with_reducible refine (laws_heldIntS.calls k _ _ u16 1 t22 _ ?side1 ?side2 A22_.out).mono ?_); (case side1 => exact (Kd.R_reads' (Kd.R_below F7.out (by repeat (first | exact Below.refl _ _ | apply below_alloc | apply pw_below_drewN | apply below_drew1)))).2.2); (case side2 => exact (Kd.R_reads' F7.out).2.1); rintro e w' ⟨rfl, ⟨nd, rfl⟩⟩; refine ⟨_, rfl, ?_⟩))
  go_ret
  exact ⟨rfl, below_step HB.out (by repeat (first | exact Below.refl _ _ | apply below_alloc | apply pw_below_drewN | apply below_drew1))⟩

end Go.Proofs.Ytoniljblfenpeaa.PFnExactSuspects
