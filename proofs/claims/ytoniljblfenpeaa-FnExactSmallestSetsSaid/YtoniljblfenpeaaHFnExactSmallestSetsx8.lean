-- Written by a program of this session out of the translation (wip/gen/hprint.sh). Lean checks it.
import Derived.Test.YtoniljblfenpeaaHFnExactSmallestSetsx0
import Derived.Test.YtoniljblfenpeaaHFnExactSmallestSetsx1
import Derived.Test.YtoniljblfenpeaaHFnExactSmallestSetsx2
import Derived.Test.YtoniljblfenpeaaHFnExactSmallestSetsx5
import Derived.Test.YtoniljblfenpeaaHFnExactSmallestSetsx7
namespace Go.Proofs.Ytoniljblfenpeaa.PFnExactSmallestSets
open Go.RowKit Go.Proofs.YtoniljblfenpeaaW.PrintWords Go.Proofs.YtoniljblfenpeaaW.PrintLast Go.Proofs.YtoniljblfenpeaaW.PrintMore
attribute [local go_sem] max2_int min2_int max_two min_two max_three min_three max_four min_four   -- for this text's walks alone
set_option linter.unusedVariables false
set_option linter.unusedSimpArgs false

/-! ### laws_heldIntS: function 24 -/
def laws_heldIntS.l0 : Nat → List Int → Int → Int → Option (Int)
  | 0, _, _, _ => none
  | k + 1, x0, x1, x5 => if x5 < (x0.length : Int) then (if 0 ≤ x5 then (if (rd x0 x5) = x1 then (laws_heldIntS.l0 k x0 (wrap64 (x1 + 1)) (wrap64 (x5 + 1))) else (some (-1))) else (none)) else (some x1)
def laws_heldIntS.f (k : Nat) (l0 : List Int) (a1 : Int) : Option (Int) := laws_heldIntS.l0 k l0 a1 0
theorem laws_heldIntS.mono_l : ∀ k, (∀ y0 y1 y2, LeO (laws_heldIntS.l0 k y0 y1 y2) (laws_heldIntS.l0 (k + 1) y0 y1 y2))
  | 0 => fun _ _ _ r h => by simp [laws_heldIntS.l0] at h
  | k + 1 => by
    have ih0 := laws_heldIntS.mono_l k
    · intro y0 y1 y2
      unfold laws_heldIntS.l0
      repeat' first
      | (with_reducible exact ih0 _ _ _)
      | (with_reducible exact LeO.refl _)
      | (with_reducible exact LeO.none _)
      | (with_reducible refine LeO.ite ?_ ?_)
      | (with_reducible refine LeO.bind ?_ (fun _ => ?_))
      | exact ih0 _ _ _
      | exact LeO.none _
      | refine LeO.ite ?_ ?_
      | refine LeO.bind ?_ (fun _ => ?_)
theorem laws_heldIntS.mono : ∀ a0 a1 k, LeO (laws_heldIntS.f k a0 a1) (laws_heldIntS.f (k + 1) a0 a1) := by
  intro a0 a1 k
  have ih0 := laws_heldIntS.mono_l k
  unfold laws_heldIntS.f
  repeat' first
      | (with_reducible exact ih0 _ _ _)
      | (with_reducible exact LeO.refl _)
      | (with_reducible exact LeO.none _)
      | (with_reducible refine LeO.ite ?_ ?_)
      | (with_reducible refine LeO.bind ?_ (fun _ => ?_))
      | exact ih0 _ _ _
      | exact LeO.none _
      | refine LeO.ite ?_ ?_
      | refine LeO.bind ?_ (fun _ => ?_)
set_option maxHeartbeats 8000000 in
set_option maxRecDepth 100000 in
theorem laws_heldIntS.calls (k : Nat) (A0 : Option Addr) (c0 : Nat) (l0 : List Int) (a1 : Int) (r : Int) (w : World) (hr0 : Kd.C (Kd.int .i64) w A0 l0.length l0) (hc0 : l0.length ≤ c0) (h : laws_heldIntS.f k l0 a1 = some r) :
    Calls Try.prog 24 #[.slice A0 l0.length c0, .int .i64 a1] w fun e w' => e = .returned (.int .i64 r) ∧ Drawn0 w w' := by
  have HR0 := Aside0.mk hr0
  have HC0 := Aside0.mk hc0
  clear hr0 hc0
  have H : (laws_heldIntS.l0 k l0 a1 0) = some r := h
  clear h
  have H' := Aside0.mk H
  clear H
  go_enter Try.func24, Try.ntmps24
  go_wp2
  go_loopg [1, 5] k (fun kq v1 v5 w' => ∃ (x1_1 : Int) (x5_1 : Int), v1 = .int .i64 x1_1 ∧ v5 = .int .i64 x5_1 ∧ Aside0 (laws_heldIntS.l0 kq l0 x1_1 x5_1 = some r) ∧ Aside0 (kq ≤ k) ∧ Drawn0 w w')
  case atStart => exact ⟨(a1), (0), (by first | rfl | (simp; done) | (simp [*]; done)), (by first | rfl | (simp; done) | (simp [*]; done)), H', ⟨Nat.le_refl _⟩, by repeat (first | exact Drawn0.refl _ | apply Drawn0.step)⟩
  case round =>
    clear H'
    try clear c2
    try clear p2
    obtain ⟨x1_1, x5_1, rfl, rfl, HA, HK1, ⟨m1, rfl⟩⟩ := hrel
    cases gk with
    | zero => exact absurd HA.out (by simp [laws_heldIntS.l0])
    | succ k1 =>
      have H := HA.out
      clear HA
      simp only [laws_heldIntS.l0] at H
      by_cases c3 : x5_1 < (l0.length : Int)
      · rw [if_pos c3] at H
        have c3b0 : decide (x5_1 < (l0.length : Int)) = true := decide_eq_true c3
        clear c3
        by_cases c4 : 0 ≤ x5_1
        · rw [if_pos c4] at H
          have c4b0 : decide (0 ≤ x5_1) = true := decide_eq_true c4
          clear c4
          by_cases c5 : (rd l0 x5_1) = x1_1
          · rw [if_pos c5] at H
            have c5b0 : ((rd l0 x5_1) == x1_1) = true := beq_iff_eq.mpr c5
            have c5b1 : ((rd l0 x5_1) != x1_1) = false := bne_eq_false_iff_eq.mpr c5
            clear c5
            have H' := Aside0.mk H
            clear H
            have p201 : 0 ≤ (x5_1 : Int) := of_decide_eq_true (by first | (with_reducible assumption) | assumption)
            have q201 : x5_1 < (l0.length : Int) := of_decide_eq_true (by first | (with_reducible assumption) | assumption)
            obtain ⟨ad201, e201, hx201_0⟩ := Kd.at_int HR0.out x5_1 p201 q201
            cases e201
            replace p201 := eq_true p201
            replace q201 := eq_true q201
            go_wp2
            go_roundg k1
            case measure => have := HK1.out; omega
            case rel => exact ⟨(wrap64 (x1_1 + 1)), (wrap64 (x5_1 + 1)), (by first | rfl | (simp; done) | (simp [*]; done)), (by first | rfl | (simp; done) | (simp [*]; done)), H', ⟨by have := HK1.out; omega⟩, by repeat (first | exact Drawn0.refl _ | apply Drawn0.step)⟩
          · rw [if_neg c5] at H
            have c5b0 : ((rd l0 x5_1) == x1_1) = false := beq_eq_false_iff_ne.mpr c5
            have c5b1 : ((rd l0 x5_1) != x1_1) = true := bne_iff_ne.mpr c5
            obtain rfl := Option.some.inj H
            have p201 : 0 ≤ (x5_1 : Int) := of_decide_eq_true (by first | (with_reducible assumption) | assumption)
            have q201 : x5_1 < (l0.length : Int) := of_decide_eq_true (by first | (with_reducible assumption) | assumption)
            obtain ⟨ad201, e201, hx201_0⟩ := Kd.at_int HR0.out x5_1 p201 q201
            cases e201
            replace p201 := eq_true p201
            replace q201 := eq_true q201
            go_wp2
            go_ret
            exact ⟨by first | rfl | (simp; done) | (simp [*]; done), by repeat (first | exact Drawn0.refl _ | apply Drawn0.step)⟩
        · rw [if_neg c4] at H
          exact absurd H (by simp)
      · rw [if_neg c3] at H
        have c3b0 : decide (x5_1 < (l0.length : Int)) = false := decide_eq_false c3
        clear c3
        obtain rfl := Option.some.inj H
        go_wp2
        go_ret
        exact ⟨by first | rfl | (simp; done) | (simp [*]; done), by repeat (first | exact Drawn0.refl _ | apply Drawn0.step)⟩

/-! ### laws_heldIntSS: function 43 -/
def laws_heldIntSS.l0 : Nat → List (List Int) → Int → Int → Option (Int)
  | 0, _, _, _ => none
  | k + 1, x0, x1, x5 => if x5 < (x0.length : Int) then (if 0 ≤ x5 then ((laws_heldIntS.f k (rd_L1 x0 x5) x1).bind fun t203 => (if t203 < 0 then (some (-1)) else (laws_heldIntSS.l0 k x0 t203 (wrap64 (x5 + 1))))) else (none)) else (some x1)
def laws_heldIntSS.f (k : Nat) (l0 : List (List Int)) (a1 : Int) : Option (Int) := laws_heldIntSS.l0 k l0 a1 0
theorem laws_heldIntSS.mono_l : ∀ k, (∀ y0 y1 y2, LeO (laws_heldIntSS.l0 k y0 y1 y2) (laws_heldIntSS.l0 (k + 1) y0 y1 y2))
  | 0 => fun _ _ _ r h => by simp [laws_heldIntSS.l0] at h
  | k + 1 => by
    have ih0 := laws_heldIntSS.mono_l k
    · intro y0 y1 y2
      unfold laws_heldIntSS.l0
      repeat' first
      | (with_reducible exact ih0 _ _ _)
      | (with_reducible exact laws_heldIntS.mono _ _ _)
      | (with_reducible exact LeO.refl _)
      | (with_reducible exact LeO.none _)
      | (with_reducible refine LeO.ite ?_ ?_)
      | (with_reducible refine LeO.bind ?_ (fun _ => ?_))
      | exact ih0 _ _ _
      | exact laws_heldIntS.mono _ _ _
      | exact LeO.none _
      | refine LeO.ite ?_ ?_
      | refine LeO.bind ?_ (fun _ => ?_)
theorem laws_heldIntSS.mono : ∀ a0 a1 k, LeO (laws_heldIntSS.f k a0 a1) (laws_heldIntSS.f (k + 1) a0 a1) := by
  intro a0 a1 k
  have ih0 := laws_heldIntSS.mono_l k
  unfold laws_heldIntSS.f
  repeat' first
      | (with_reducible exact ih0 _ _ _)
      | (with_reducible exact laws_heldIntS.mono _ _ _)
      | (with_reducible exact LeO.refl _)
      | (with_reducible exact LeO.none _)
      | (with_reducible refine LeO.ite ?_ ?_)
      | (with_reducible refine LeO.bind ?_ (fun _ => ?_))
      | exact ih0 _ _ _
      | exact laws_heldIntS.mono _ _ _
      | exact LeO.none _
      | refine LeO.ite ?_ ?_
      | refine LeO.bind ?_ (fun _ => ?_)
set_option maxHeartbeats 8000000 in
set_option maxRecDepth 100000 in
theorem laws_heldIntSS.calls (k : Nat) (A0 : Option Addr) (c0 : Nat) (l0 : List (List Int)) (a1 : Int) (r : Int) (w : World) (hr0 : Kd.C (Kd.slice 3 (Kd.int .i64)) w A0 l0.length l0) (hc0 : l0.length ≤ c0) (h : laws_heldIntSS.f k l0 a1 = some r) :
    Calls Try.prog 43 #[.slice A0 l0.length c0, .int .i64 a1] w fun e w' => e = .returned (.int .i64 r) ∧ Drawn0 w w' := by
  have HR0 := Aside0.mk hr0
  have HC0 := Aside0.mk hc0
  clear hr0 hc0
  have H : (laws_heldIntSS.l0 k l0 a1 0) = some r := h
  clear h
  have H' := Aside0.mk H
  clear H
  go_enter Try.func43, Try.ntmps43
  go_wp2
  go_loopg [1, 5] k (fun kq v1 v5 w' => ∃ (x1_1 : Int) (x5_1 : Int), v1 = .int .i64 x1_1 ∧ v5 = .int .i64 x5_1 ∧ Aside0 (laws_heldIntSS.l0 kq l0 x1_1 x5_1 = some r) ∧ Aside0 (kq ≤ k) ∧ Drawn0 w w')
  case atStart => exact ⟨(a1), (0), (by first | rfl | (simp; done) | (simp [*]; done)), (by first | rfl | (simp; done) | (simp [*]; done)), H', ⟨Nat.le_refl _⟩, by repeat (first | exact Drawn0.refl _ | apply Drawn0.step)⟩
  case round =>
    clear H'
    try clear p2
    obtain ⟨x1_1, x5_1, rfl, rfl, HA, HK1, ⟨m1, rfl⟩⟩ := hrel
    cases gk with
    | zero => exact absurd HA.out (by simp [laws_heldIntSS.l0])
    | succ k1 =>
      have H := HA.out
      clear HA
      simp only [laws_heldIntSS.l0] at H
      by_cases c3 : x5_1 < (l0.length : Int)
      · rw [if_pos c3] at H
        have c3b0 : decide (x5_1 < (l0.length : Int)) = true := decide_eq_true c3
        clear c3
        by_cases c4 : 0 ≤ x5_1
        · rw [if_pos c4] at H
          have c4b0 : decide (0 ≤ x5_1) = true := decide_eq_true c4
          clear c4
          replace H := Option.bind_eq_some_iff.mp H
          obtain ⟨t203, A50, H⟩ := H
          replace H : (if t203 < 0 then (some (-1)) else (laws_heldIntSS.l0 k1 l0 t203 (wrap64 (x5_1 + 1)))) = some r := H
          have A5 := Aside0.mk A50
          clear A50
          by_cases c6 : t203 < 0
          · rw [if_pos c6] at H
            have c6b0 : decide (t203 < 0) = true := decide_eq_true c6
            clear c6
            obtain rfl := Option.some.inj H
            have p202 : 0 ≤ (x5_1 : Int) := of_decide_eq_true (by first | (with_reducible assumption) | assumption)
            have q202 : x5_1 < (l0.length : Int) := of_decide_eq_true (by first | (with_reducible assumption) | assumption)
            obtain ⟨ad202, A202_0, c202_0, e202, hx202_0, hl202_0, hi202_0⟩ := at_L1 HR0.out x5_1 p202 q202
            cases e202
            have HR202_0 := Aside0.mk hi202_0
            have HC202_0 := Aside0.mk hl202_0
            clear hi202_0 hl202_0
            replace p202 := eq_true p202
            replace q202 := eq_true q202
            go_wp2_with (first | ((with_reducible refine gate_callee (f := 24) rfl ?_); refine goesL_ (some 17) rfl rfl Try.func24 (by kernel_rfl) rfl #[.slice A202_0 (rd_L1 l0 x5_1).length c202_0, .int .i64 x1_1] rfl (by (try simp only [List.map_toArray, List.map_cons, List.map_nil]); first | done | rfl | (simp only [List.length_drop, List.length_take]; rfl)) ?_; (with_reducible refine (laws_heldIntS.calls k1 _ _ (rd_L1 l0 x5_1) x1_1 t203 _ ?side1 ?side2 A5.out).mono ?_); (case side1 => repeat (first | exact HR202_0.out | (with_reducible refine Kd.C_alloc ?_ _) | (with_reducible refine Kd.C_drewN ?_ _) | (with_reducible refine Kd.C_drew ?_))); (case side2 => exact HC202_0.out); rintro e w' ⟨rfl, ⟨nd, rfl⟩⟩; refine ⟨_, rfl, ?_⟩))
            go_ret
            exact ⟨by first | rfl | (simp; done) | (simp [*]; done), by repeat (first | exact Drawn0.refl _ | apply Drawn0.step)⟩
          · rw [if_neg c6] at H
            have c6b0 : decide (t203 < 0) = false := decide_eq_false c6
            clear c6
            have H' := Aside0.mk H
            clear H
            have p202 : 0 ≤ (x5_1 : Int) := of_decide_eq_true (by first | (with_reducible assumption) | assumption)
            have q202 : x5_1 < (l0.length : Int) := of_decide_eq_true (by first | (with_reducible assumption) | assumption)
            obtain ⟨ad202, A202_0, c202_0, e202, hx202_0, hl202_0, hi202_0⟩ := at_L1 HR0.out x5_1 p202 q202
            cases e202
            have HR202_0 := Aside0.mk hi202_0
            have HC202_0 := Aside0.mk hl202_0
            clear hi202_0 hl202_0
            replace p202 := eq_true p202
            replace q202 := eq_true q202
            go_wp2_with (first | ((with_reducible refine gate_callee (f := 24) rfl ?_); refine goesL_ (some 17) rfl rfl Try.func24 (by kernel_rfl) rfl #[.slice A202_0 (rd_L1 l0 x5_1).length c202_0, .int .i64 x1_1] rfl (by (try simp only [List.map_toArray, List.map_cons, List.map_nil]); first | done | rfl | (simp only [List.length_drop, List.length_take]; rfl)) ?_; (with_reducible refine (laws_heldIntS.calls k1 _ _ (rd_L1 l0 x5_1) x1_1 t203 _ ?side1 ?side2 A5.out).mono ?_); (case side1 => repeat (first | exact HR202_0.out | (with_reducible refine Kd.C_alloc ?_ _) | (with_reducible refine Kd.C_drewN ?_ _) | (with_reducible refine Kd.C_drew ?_))); (case side2 => exact HC202_0.out); rintro e w' ⟨rfl, ⟨nd, rfl⟩⟩; refine ⟨_, rfl, ?_⟩))
            go_roundg k1
            case measure => have := HK1.out; omega
            case rel => exact ⟨(t203), (wrap64 (x5_1 + 1)), (by first | rfl | (simp; done) | (simp [*]; done)), (by first | rfl | (simp; done) | (simp [*]; done)), H', ⟨by have := HK1.out; omega⟩, by repeat (first | exact Drawn0.refl _ | apply Drawn0.step)⟩
        · rw [if_neg c4] at H
          exact absurd H (by simp)
      · rw [if_neg c3] at H
        have c3b0 : decide (x5_1 < (l0.length : Int)) = false := decide_eq_false c3
        clear c3
        obtain rfl := Option.some.inj H
        go_wp2
        go_ret
        exact ⟨by first | rfl | (simp; done) | (simp [*]; done), by repeat (first | exact Drawn0.refl _ | apply Drawn0.step)⟩

/-! ### laws_FnExactSmallestSets: function 10 -/
theorem lawm_pos {α : Type} {c : Prop} [Decidable c] {f : Option α} {r : α} (h : (if c then f else none) = some r) : c := by
  by_cases hc : c
  · exact hc
  · rw [if_neg hc] at h
    cases h
theorem Kd.madeS {α : Type} {d : Kd α} {e N : Nat} {w wk W wi : World} {v : Value} {xs : List α} (hN : N ≤ wk.heap.size) (hW : Below wk.heap.size wk W) (hb : Below W.heap.size W wi) (hB : Below w.heap.size w wk) (ho : Kd.S d e wi W.heap.size (fun _ => True) v xs) :
    ∃ n, N ≤ n ∧ n ≤ wi.heap.size ∧ Kd.S d e wi w.heap.size (fun k_ => N ≤ k_ ∧ k_ < n) v xs :=
  ⟨wi.heap.size, Nat.le_trans hN (Nat.le_trans hW.size hb.size), Nat.le_refl _, Kd.S_lower (Kd.S_mono (Kd.S_bound ho) (fun k_ hk => ⟨Nat.le_trans (Nat.le_trans hN hW.size) hk.2.1, hk.2.2.1⟩)) (Nat.le_trans hB.size hW.size)⟩
theorem Kd.madeN {α : Type} {d : Kd α} {e N : Nat} {w wk W wi : World} {v : Value} {xs : List α} (hN : N ≤ wk.heap.size) (hW : Below wk.heap.size wk W) (hb : Below W.heap.size W wi) (hB : Below w.heap.size w wk) (ho : Kd.N d e wi W.heap.size (fun k_ => W.heap.size ≤ k_) v xs) :
    ∃ n, N ≤ n ∧ n ≤ wi.heap.size ∧ Kd.N d e wi w.heap.size (fun k_ => N ≤ k_ ∧ k_ < n) v xs :=
  ⟨wi.heap.size, Nat.le_trans hN (Nat.le_trans hW.size hb.size), Nat.le_refl _, Kd.N_lower (Kd.N_mono (Kd.N_bound ho) (fun k_ hk => ⟨Nat.le_trans (Nat.le_trans hN hW.size) hk.1, hk.2⟩)) (Nat.le_trans hB.size hW.size)⟩
theorem Kd.madeR {α : Type} {d : Kd α} {e N : Nat} {w wk W wi : World} {v : Value} {xs : List α} (hN : N ≤ wk.heap.size) (hW : Below wk.heap.size wk W) (hb : Below W.heap.size W wi) (hB : Below w.heap.size w wk) (ho : Kd.R d e wi W.heap.size (fun _ => True) v xs) :
    ∃ n, N ≤ n ∧ n ≤ wi.heap.size ∧ Kd.R d e wi w.heap.size (fun k_ => N ≤ k_ ∧ k_ < n) v xs :=
  ⟨wi.heap.size, Nat.le_trans hN (Nat.le_trans hW.size hb.size), Nat.le_refl _, Kd.R_lower (Kd.R_mono (Kd.R_bound ho) (fun k_ hk => ⟨Nat.le_trans (Nat.le_trans hN hW.size) hk.2.1, hk.2.2.1⟩)) (Nat.le_trans hB.size hW.size)⟩

def laws_FnExactSmallestSets.f (k : Nat) (l0 : List (List Int)) (l1 : List Bool) (a2 : Int) : Option Bool := if (l1.length : Int) > 1048576 then some true else ((laws_szIntSS.f k l0 1048576).bind fun t1 => (if t1 < 0 then some true else ((laws_toIntSS.f k l0).bind fun t2 => ((laws_toBoolS.f k l1).bind fun t3 => ((spec_SmallestSets.f k t2 t3 a2).bind fun t4 => ((laws_toIntSS.f k l0).bind fun t5 => ((laws_toBoolS.f k l1).bind fun t6 => ((impl_SmallestSets.f k t5 t6 a2).bind fun t7 => ((laws_eqIntSS.f k t7 t4).bind fun t8 => (if t8 = true then ((laws_toIntSS.f k l0).bind fun t9 => ((laws_eqIntSS.f k t5 t9).bind fun t10 => (if t10 = true then ((laws_toBoolS.f k l1).bind fun t11 => ((laws_eqBoolS.f k t6 t11).bind fun t12 => (if t12 = true then ((laws_markIntSS.f k t5 1).bind fun p13 => ((laws_markBoolS.f k t6 p13.1).bind fun p14 => (if p14.1 < 0 then none else ((laws_eqIntSS.f k t7 t4).bind fun t15 => (if t15 = true then ((laws_markIntSS.f k t7 1).bind fun p16 => ((laws_heldIntSS.f k p16.2 1).bind fun t17 => (if t17 < 0 then none else (if t17 = p16.1 then ((laws_toIntSS.f k l0).bind fun t18 => ((laws_toBoolS.f k l1).bind fun t19 => ((impl_SmallestSets.f k t18 t19 a2).bind fun t20 => ((laws_eqIntSS.f k t20 t4).bind fun t21 => (if t21 = true then ((laws_heldIntSS.f k p16.2 1).bind fun t22 => (if t22 < 0 then none else (if t22 = p16.1 then (some true) else none))) else none))))) else none)))) else none))))) else none))) else none))) else none))))))))))
set_option maxHeartbeats 4000000 in
set_option maxRecDepth 100000 in
theorem laws_FnExactSmallestSets.calls (k : Nat) (A0 : Option Addr) (c0 : Nat) (l0 : List (List Int)) (A1 : Option Addr) (c1 : Nat) (l1 : List Bool) (a2 : Int) (r : Bool) (w : World) (hr0 : Kd.C (Kd.slice 3 (Kd.int .i64)) w A0 l0.length l0) (hc0 : l0.length ≤ c0) (hr1 : Kd.C Kd.bool w A1 l1.length l1) (hc1 : l1.length ≤ c1) (h : laws_FnExactSmallestSets.f k l0 l1 a2 = some r) :
    Calls Try.prog 10 #[.slice A0 l0.length c0, .slice A1 l1.length c1, .int .i64 a2] w fun e w' => e = .returned (.bool r) ∧ Below w.heap.size w w' := by
  have HR0 := Aside0.mk hr0
  have HC0 := Aside0.mk hc0
  clear hr0 hc0
  have HR1 := Aside0.mk hr1
  have HC1 := Aside0.mk hc1
  clear hr1 hc1
  have HB := Aside0.mk (Below.refl w.heap.size w)
  have HN := Aside0.mk (Nat.le_refl w.heap.size)
  unfold laws_FnExactSmallestSets.f at h
  have H := h
  clear h
  by_cases e1_ : (l1.length : Int) > 1048576
  · rw [if_pos e1_] at H
    have e1_0 : decide (1048576 < (l1.length : Int)) = true := decide_eq_true e1_
    have e1_1 : decide (1048576 < l1.length) = true := decide_eq_true (by omega)
    clear e1_
    obtain rfl := Option.some.inj H
    go_enter Try.func10, Try.ntmps10
    go_wp2
    go_ret
    exact ⟨rfl, below_step HB.out (by repeat (first | exact Below.refl _ _ | apply below_alloc | apply pw_below_drewN | apply below_drew1))⟩
  rw [if_neg e1_] at H
  have e1_0 : decide (1048576 < (l1.length : Int)) = false := decide_eq_false e1_
  have e1_1 : decide (1048576 < l1.length) = false := decide_eq_false (by omega)
  clear e1_
  replace H := Option.bind_eq_some_iff.mp H
  obtain ⟨t1, A10_, H⟩ := H
  try dsimp only at H
  have A1_ := Aside0.mk A10_
  clear A10_
  by_cases e2_ : t1 < 0
  · rw [if_pos e2_] at H
    have e2_0 : decide (t1 < 0) = true := decide_eq_true e2_
    clear e2_
    obtain rfl := Option.some.inj H
    go_enter Try.func10, Try.ntmps10
    go_wp2_with (first | ((with_reducible refine gate_callee (f := 12) rfl ?_); refine goesL_ (some 21) rfl rfl Try.func12 (by kernel_rfl) rfl #[.slice A0 l0.length c0, .int .i64 1048576] rfl (by (try simp only [List.map_toArray, List.map_cons, List.map_nil]); first | done | rfl | (simp only [List.length_drop, List.length_take]; rfl)) ?_; (with_reducible refine (laws_szIntSS.calls k _ _ l0 1048576 t1 _ ?side1 ?side2 A1_.out).mono ?_); (case side1 => exact Kd.C_below HR0.out (below_step HB.out (by repeat (first | exact Below.refl _ _ | apply below_alloc | apply pw_below_drewN | apply below_drew1)))); (case side2 => exact HC0.out); rintro e w' ⟨rfl, ⟨nd, rfl⟩⟩; refine ⟨_, rfl, ?_⟩))
    go_ret
    exact ⟨rfl, below_step HB.out (by repeat (first | exact Below.refl _ _ | apply below_alloc | apply pw_below_drewN | apply below_drew1))⟩
  rw [if_neg e2_] at H
  have e2_0 : decide (t1 < 0) = false := decide_eq_false e2_
  clear e2_
  replace H := Option.bind_eq_some_iff.mp H
  obtain ⟨t2, A20_, H⟩ := H
  try dsimp only at H
  have A2_ := Aside0.mk A20_
  clear A20_
  replace H := Option.bind_eq_some_iff.mp H
  obtain ⟨t3, A30_, H⟩ := H
  try dsimp only at H
  have A3_ := Aside0.mk A30_
  clear A30_
  replace H := Option.bind_eq_some_iff.mp H
  obtain ⟨t4, A40_, H⟩ := H
  try dsimp only at H
  have A4_ := Aside0.mk A40_
  clear A40_
  replace H := Option.bind_eq_some_iff.mp H
  obtain ⟨t5, A50_, H⟩ := H
  try dsimp only at H
  have A5_ := Aside0.mk A50_
  clear A50_
  replace H := Option.bind_eq_some_iff.mp H
  obtain ⟨t6, A60_, H⟩ := H
  try dsimp only at H
  have A6_ := Aside0.mk A60_
  clear A60_
  replace H := Option.bind_eq_some_iff.mp H
  obtain ⟨t7, A70_, H⟩ := H
  try dsimp only at H
  have A7_ := Aside0.mk A70_
  clear A70_
  replace H := Option.bind_eq_some_iff.mp H
  obtain ⟨t8, A80_, H⟩ := H
  try dsimp only at H
  have A8_ := Aside0.mk A80_
  clear A80_
  have e3_ : t8 = true := lawm_pos H
  rw [if_pos e3_] at H
  subst e3_
  replace H := Option.bind_eq_some_iff.mp H
  obtain ⟨t9, A90_, H⟩ := H
  try dsimp only at H
  have A9_ := Aside0.mk A90_
  clear A90_
  replace H := Option.bind_eq_some_iff.mp H
  obtain ⟨t10, A100_, H⟩ := H
  try dsimp only at H
  have A10_ := Aside0.mk A100_
  clear A100_
  have e4_ : t10 = true := lawm_pos H
  rw [if_pos e4_] at H
  subst e4_
  replace H := Option.bind_eq_some_iff.mp H
  obtain ⟨t11, A110_, H⟩ := H
  try dsimp only at H
  have A11_ := Aside0.mk A110_
  clear A110_
  replace H := Option.bind_eq_some_iff.mp H
  obtain ⟨t12, A120_, H⟩ := H
  try dsimp only at H
  have A12_ := Aside0.mk A120_
  clear A120_
  have e5_ : t12 = true := lawm_pos H
  rw [if_pos e5_] at H
  subst e5_
  replace H := Option.bind_eq_some_iff.mp H
  obtain ⟨⟨t13, u13⟩, A130_, H⟩ := H
  try dsimp only at H
  have A13_ := Aside0.mk A130_
  clear A130_
  replace H := Option.bind_eq_some_iff.mp H
  obtain ⟨⟨t14, u14⟩, A140_, H⟩ := H
  try dsimp only at H
  have A14_ := Aside0.mk A140_
  clear A140_
  have e6_ : ¬ (t14 < 0) := fun hc_ => by rw [if_pos hc_] at H; cases H
  rw [if_neg e6_] at H
  have e6_0 : decide (t14 < 0) = false := decide_eq_false e6_
  clear e6_
  replace H := Option.bind_eq_some_iff.mp H
  obtain ⟨t15, A150_, H⟩ := H
  try dsimp only at H
  have A15_ := Aside0.mk A150_
  clear A150_
  have e7_ : t15 = true := lawm_pos H
  rw [if_pos e7_] at H
  subst e7_
  replace H := Option.bind_eq_some_iff.mp H
  obtain ⟨⟨t16, u16⟩, A160_, H⟩ := H
  try dsimp only at H
  have A16_ := Aside0.mk A160_
  clear A160_
  replace H := Option.bind_eq_some_iff.mp H
  obtain ⟨t17, A170_, H⟩ := H
  try dsimp only at H
  have A17_ := Aside0.mk A170_
  clear A170_
  have e8_ : ¬ (t17 < 0) := fun hc_ => by rw [if_pos hc_] at H; cases H
  rw [if_neg e8_] at H
  have e8_0 : decide (t17 < 0) = false := decide_eq_false e8_
  clear e8_
  have e9_ : t17 = t16 := lawm_pos H
  rw [if_pos e9_] at H
  have e9_0 : (t17 == t16) = true := beq_iff_eq.mpr e9_
  have e9_1 : (t17 != t16) = false := bne_eq_false_iff_eq.mpr e9_
  clear e9_
  replace H := Option.bind_eq_some_iff.mp H
  obtain ⟨t18, A180_, H⟩ := H
  try dsimp only at H
  have A18_ := Aside0.mk A180_
  clear A180_
  replace H := Option.bind_eq_some_iff.mp H
  obtain ⟨t19, A190_, H⟩ := H
  try dsimp only at H
  have A19_ := Aside0.mk A190_
  clear A190_
  replace H := Option.bind_eq_some_iff.mp H
  obtain ⟨t20, A200_, H⟩ := H
  try dsimp only at H
  have A20_ := Aside0.mk A200_
  clear A200_
  replace H := Option.bind_eq_some_iff.mp H
  obtain ⟨t21, A210_, H⟩ := H
  try dsimp only at H
  have A21_ := Aside0.mk A210_
  clear A210_
  have e10_ : t21 = true := lawm_pos H
  rw [if_pos e10_] at H
  subst e10_
  replace H := Option.bind_eq_some_iff.mp H
  obtain ⟨t22, A220_, H⟩ := H
  try dsimp only at H
  have A22_ := Aside0.mk A220_
  clear A220_
  have e11_ : ¬ (t22 < 0) := fun hc_ => by rw [if_pos hc_] at H; cases H
  rw [if_neg e11_] at H
  have e11_0 : decide (t22 < 0) = false := decide_eq_false e11_
  clear e11_
  have e12_ : t22 = t16 := lawm_pos H
  rw [if_pos e12_] at H
  have e12_0 : (t22 == t16) = true := beq_iff_eq.mpr e12_
  have e12_1 : (t22 != t16) = false := bne_eq_false_iff_eq.mpr e12_
  clear e12_
  obtain rfl := Option.some.inj H
  go_enter Try.func10, Try.ntmps10
  go_wp2_with (first | ((with_reducible refine gate_callee (f := 12) rfl ?_); refine goesL_ (some 21) rfl rfl Try.func12 (by kernel_rfl) rfl #[.slice A0 l0.length c0, .int .i64 1048576] rfl (by (try simp only [List.map_toArray, List.map_cons, List.map_nil]); first | done | rfl | (simp only [List.length_drop, List.length_take]; rfl)) ?_; (with_reducible refine (laws_szIntSS.calls k _ _ l0 1048576 t1 _ ?side1 ?side2 A1_.out).mono ?_); (case side1 => exact Kd.C_below HR0.out (below_step HB.out (by repeat (first | exact Below.refl _ _ | apply below_alloc | apply pw_below_drewN | apply below_drew1)))); (case side2 => exact HC0.out); rintro e w' ⟨rfl, ⟨nd, rfl⟩⟩; refine ⟨_, rfl, ?_⟩) | ((with_reducible refine gate_callee (f := 14) rfl ?_); refine goesL_ (some 25) rfl rfl Try.func14 (by kernel_rfl) rfl #[.slice A0 l0.length c0] rfl (by (try simp only [List.map_toArray, List.map_cons, List.map_nil]); first | done | rfl | (simp only [List.length_drop, List.length_take]; rfl)) ?_; (with_reducible refine (laws_toIntSS.calls k _ _ l0 t2 _ ?side1 ?side2 A2_.out).mono ?_); (case side1 => exact Kd.C_below HR0.out (below_step HB.out (by repeat (first | exact Below.refl _ _ | apply below_alloc | apply pw_below_drewN | apply below_drew1)))); (case side2 => exact HC0.out); rintro e w2_ ⟨v_, rfl, ho_, hb_⟩; refine ⟨_, rfl, ?_⟩; obtain ⟨n1_, hle1_, hN_, hF_⟩ := Kd.madeS (N := w.heap.size) HN.out (by repeat (first | exact Below.refl _ _ | apply below_alloc | apply pw_below_drewN | apply below_drew1)) hb_ HB.out ho_; obtain ⟨Ao2, co2, rfl⟩ := Kd.S_slice ho_; have F2 := Aside0.mk hF_; clear hF_ ho_; have g_ := Aside0.mk hN_; clear HN hN_; have HN := g_; clear g_; have g_ := Aside0.mk (below_step (below_step HB.out (by repeat (first | exact Below.refl _ _ | apply below_alloc | apply pw_below_drewN | apply below_drew1))) hb_); clear HB hb_; have HB := g_; clear g_) | ((with_reducible refine gate_callee (f := 15) rfl ?_); refine goesL_ (some 27) rfl rfl Try.func15 (by kernel_rfl) rfl #[.slice A1 l1.length c1] rfl (by (try simp only [List.map_toArray, List.map_cons, List.map_nil]); first | done | rfl | (simp only [List.length_drop, List.length_take]; rfl)) ?_; (with_reducible refine (laws_toBoolS.calls k _ _ l1 t3 _ ?side1 ?side2 A3_.out).mono ?_); (case side1 => exact Kd.C_below HR1.out (below_step HB.out (by repeat (first | exact Below.refl _ _ | apply below_alloc | apply pw_below_drewN | apply below_drew1)))); (case side2 => exact HC1.out); rintro e w3_ ⟨v_, rfl, ho_, hb_⟩; refine ⟨_, rfl, ?_⟩; have g_ := Aside0.mk (Kd.S_below (Kd.S_below F2.out (by repeat (first | exact Below.refl _ _ | apply below_alloc | apply pw_below_drewN | apply below_drew1))) hb_); clear F2; have F2 := g_; clear g_; obtain ⟨n2_, hle2_, hN_, hF_⟩ := Kd.madeR (N := n1_) HN.out (by repeat (first | exact Below.refl _ _ | apply below_alloc | apply pw_below_drewN | apply below_drew1)) hb_ HB.out ho_; obtain ⟨Ao3, co3, rfl⟩ := Kd.R_slice ho_; have F3 := Aside0.mk hF_; clear hF_ ho_; have g_ := Aside0.mk hN_; clear HN hN_; have HN := g_; clear g_; have g_ := Aside0.mk (below_step (below_step HB.out (by repeat (first | exact Below.refl _ _ | apply below_alloc | apply pw_below_drewN | apply below_drew1))) hb_); clear HB hb_; have HB := g_; clear g_) | ((with_reducible refine gate_callee (f := 41) rfl ?_); refine goesL_ (some 29) rfl rfl Try.func41 (by kernel_rfl) rfl #[.slice Ao2 t2.length co2, .slice Ao3 t3.length co3, .int .i64 a2] rfl (by (try simp only [List.map_toArray, List.map_cons, List.map_nil]); first | done | rfl | (simp only [List.length_drop, List.length_take]; rfl)) ?_; (with_reducible refine (spec_SmallestSets.calls k _ _ t2 _ _ t3 a2 t4 _ ?side1 ?side2 ?side3 ?side4 A4_.out).mono ?_); (case side1 => exact (Kd.S_reads' (Kd.S_below F2.out (by repeat (first | exact Below.refl _ _ | apply below_alloc | apply pw_below_drewN | apply below_drew1)))).2.2); (case side2 => exact (Kd.S_reads' F2.out).2.1); (case side3 => exact (Kd.R_reads' (Kd.R_below F3.out (by repeat (first | exact Below.refl _ _ | apply below_alloc | apply pw_below_drewN | apply below_drew1)))).2.2); (case side4 => exact (Kd.R_reads' F3.out).2.1); rintro e w4_ ⟨v_, rfl, ho_, hb_⟩; refine ⟨_, rfl, ?_⟩; obtain ⟨n3_, hle3_, hN_, hF_⟩ := Kd.madeN (N := n2_) HN.out (by repeat (first | exact Below.refl _ _ | apply below_alloc | apply pw_below_drewN | apply below_drew1)) hb_ HB.out ho_; obtain ⟨Ao4, co4, rfl⟩ := Kd.N_slice ho_; have F4 := Aside0.mk hF_; clear hF_ ho_; have g_ := Aside0.mk hN_; clear HN hN_; have HN := g_; clear g_; have g_ := Aside0.mk (below_step (below_step HB.out (by repeat (first | exact Below.refl _ _ | apply below_alloc | apply pw_below_drewN | apply below_drew1))) hb_); clear HB hb_; have HB := g_; clear g_) | ((with_reducible refine gate_callee (f := 14) rfl ?_); refine goesL_ (some 31) rfl rfl Try.func14 (by kernel_rfl) rfl #[.slice A0 l0.length c0] rfl (by (try simp only [List.map_toArray, List.map_cons, List.map_nil]); first | done | rfl | (simp only [List.length_drop, List.length_take]; rfl)) ?_; (with_reducible refine (laws_toIntSS.calls k _ _ l0 t5 _ ?side1 ?side2 A5_.out).mono ?_); (case side1 => exact Kd.C_below HR0.out (below_step HB.out (by repeat (first | exact Below.refl _ _ | apply below_alloc | apply pw_below_drewN | apply below_drew1)))); (case side2 => exact HC0.out); rintro e w5_ ⟨v_, rfl, ho_, hb_⟩; refine ⟨_, rfl, ?_⟩; have g_ := Aside0.mk (Kd.N_below (Kd.N_below F4.out (by repeat (first | exact Below.refl _ _ | apply below_alloc | apply pw_below_drewN | apply below_drew1))) hb_); clear F4; have F4 := g_; clear g_; obtain ⟨n4_, hle4_, hN_, hF_⟩ := Kd.madeS (N := n3_) HN.out (by repeat (first | exact Below.refl _ _ | apply below_alloc | apply pw_below_drewN | apply below_drew1)) hb_ HB.out ho_; obtain ⟨Ao5, co5, rfl⟩ := Kd.S_slice ho_; have F5 := Aside0.mk hF_; clear hF_ ho_; have g_ := Aside0.mk hN_; clear HN hN_; have HN := g_; clear g_; have g_ := Aside0.mk (below_step (below_step HB.out (by repeat (first | exact Below.refl _ _ | apply below_alloc | apply pw_below_drewN | apply below_drew1))) hb_); clear HB hb_; have HB := g_; clear g_) | ((with_reducible refine gate_callee (f := 15) rfl ?_); refine goesL_ (some 33) rfl rfl Try.func15 (by kernel_rfl) rfl #[.slice A1 l1.length c1] rfl (by (try simp only [List.map_toArray, List.map_cons, List.map_nil]); first | done | rfl | (simp only [List.length_drop, List.length_take]; rfl)) ?_; (with_reducible refine (laws_toBoolS.calls k _ _ l1 t6 _ ?side1 ?side2 A6_.out).mono ?_); (case side1 => exact Kd.C_below HR1.out (below_step HB.out (by repeat (first | exact Below.refl _ _ | apply below_alloc | apply pw_below_drewN | apply below_drew1)))); (case side2 => exact HC1.out); rintro e w6_ ⟨v_, rfl, ho_, hb_⟩; refine ⟨_, rfl, ?_⟩; have g_ := Aside0.mk (Kd.N_below (Kd.N_below F4.out (by repeat (first | exact Below.refl _ _ | apply below_alloc | apply pw_below_drewN | apply below_drew1))) hb_); clear F4; have F4 := g_; clear g_; have g_ := Aside0.mk (Kd.S_below (Kd.S_below F5.out (by repeat (first | exact Below.refl _ _ | apply below_alloc | apply pw_below_drewN | apply below_drew1))) hb_); clear F5; have F5 := g_; clear g_; obtain ⟨n5_, hle5_, hN_, hF_⟩ := Kd.madeR (N := n4_) HN.out (by repeat (first | exact Below.refl _ _ | apply below_alloc | apply pw_below_drewN | apply below_drew1)) hb_ HB.out ho_; obtain ⟨Ao6, co6, rfl⟩ := Kd.R_slice ho_; have F6 := Aside0.mk hF_; clear hF_ ho_; have g_ := Aside0.mk hN_; clear HN hN_; have HN := g_; clear g_; have g_ := Aside0.mk (below_step (below_step HB.out (by repeat (first | exact Below.refl _ _ | apply below_alloc | apply pw_below_drewN | apply below_drew1))) hb_); clear HB hb_; have HB := g_; clear g_) | ((with_reducible refine gate_callee (f := 42) rfl ?_); refine goesL_ (some 37) rfl rfl Try.func42 (by kernel_rfl) rfl #[.slice Ao5 t5.length co5, .slice Ao6 t6.length co6, .int .i64 a2] rfl (by (try simp only [List.map_toArray, List.map_cons, List.map_nil]); first | done | rfl | (simp only [List.length_drop, List.length_take]; rfl)) ?_; (with_reducible refine (impl_SmallestSets.calls k _ _ t5 _ _ t6 a2 t7 _ ?side1 ?side2 ?side3 ?side4 A7_.out).mono ?_); (case side1 => exact (Kd.S_reads' (Kd.S_below F5.out (by repeat (first | exact Below.refl _ _ | apply below_alloc | apply pw_below_drewN | apply below_drew1)))).2.2); (case side2 => exact (Kd.S_reads' F5.out).2.1); (case side3 => exact (Kd.R_reads' (Kd.R_below F6.out (by repeat (first | exact Below.refl _ _ | apply below_alloc | apply pw_below_drewN | apply below_drew1)))).2.2); (case side4 => exact (Kd.R_reads' F6.out).2.1); rintro e w7_ ⟨v_, rfl, ho_, hb_⟩; refine ⟨_, rfl, ?_⟩; have g_ := Aside0.mk (Kd.N_below (Kd.N_below F4.out (by repeat (first | exact Below.refl _ _ | apply below_alloc | apply pw_below_drewN | apply below_drew1))) hb_); clear F4; have F4 := g_; clear g_; have g_ := Aside0.mk (Kd.S_below (Kd.S_below F5.out (by repeat (first | exact Below.refl _ _ | apply below_alloc | apply pw_below_drewN | apply below_drew1))) hb_); clear F5; have F5 := g_; clear g_; have g_ := Aside0.mk (Kd.R_below (Kd.R_below F6.out (by repeat (first | exact Below.refl _ _ | apply below_alloc | apply pw_below_drewN | apply below_drew1))) hb_); clear F6; have F6 := g_; clear g_; obtain ⟨n6_, hle6_, hN_, hF_⟩ := Kd.madeS (N := n5_) HN.out (by repeat (first | exact Below.refl _ _ | apply below_alloc | apply pw_below_drewN | apply below_drew1)) hb_ HB.out ho_; obtain ⟨Ao7, co7, rfl⟩ := Kd.S_slice ho_; have F7 := Aside0.mk hF_; clear hF_ ho_; have g_ := Aside0.mk hN_; clear HN hN_; have HN := g_; clear g_; have g_ := Aside0.mk (below_step (below_step HB.out (by repeat (first | exact Below.refl _ _ | apply below_alloc | apply pw_below_drewN | apply below_drew1))) hb_); clear HB hb_; have HB := g_; clear g_) | ((with_reducible refine gate_callee (f := 17) rfl ?_); refine goesL_ (some 40) rfl rfl Try.func17 (by kernel_rfl) rfl #[.slice Ao7 t7.length co7, .slice Ao4 t4.length co4] rfl (by (try simp only [List.map_toArray, List.map_cons, List.map_nil]); first | done | rfl | (simp only [List.length_drop, List.length_take]; rfl)) ?_; (with_reducible refine (laws_eqIntSS.calls k _ _ t7 _ _ t4 true _ ?side1 ?side2 ?side3 ?side4 A8_.out).mono ?_); (case side1 => exact (Kd.S_reads' (Kd.S_below F7.out (by repeat (first | exact Below.refl _ _ | apply below_alloc | apply pw_below_drewN | apply below_drew1)))).2.2); (case side2 => exact (Kd.S_reads' F7.out).2.1); (case side3 => exact (Kd.N_reads' (Kd.N_below F4.out (by repeat (first | exact Below.refl _ _ | apply below_alloc | apply pw_below_drewN | apply below_drew1)))).2.2); (case side4 => exact (Kd.N_reads' F4.out).2.1); rintro e w' ⟨rfl, ⟨nd, rfl⟩⟩; refine ⟨_, rfl, ?_⟩) | ((with_reducible refine gate_callee (f := 14) rfl ?_); refine goesL_ (some 44) rfl rfl Try.func14 (by kernel_rfl) rfl #[.slice A0 l0.length c0] rfl (by (try simp only [List.map_toArray, List.map_cons, List.map_nil]); first | done | rfl | (simp only [List.length_drop, List.length_take]; rfl)) ?_; (with_reducible refine (laws_toIntSS.calls k _ _ l0 t9 _ ?side1 ?side2 A9_.out).mono ?_); (case side1 => exact Kd.C_below HR0.out (below_step HB.out (by repeat (first | exact Below.refl _ _ | apply below_alloc | apply pw_below_drewN | apply below_drew1)))); (case side2 => exact HC0.out); rintro e w9_ ⟨v_, rfl, ho_, hb_⟩; refine ⟨_, rfl, ?_⟩; have g_ := Aside0.mk (Kd.N_below (Kd.N_below F4.out (by repeat (first | exact Below.refl _ _ | apply below_alloc | apply pw_below_drewN | apply below_drew1))) hb_); clear F4; have F4 := g_; clear g_; have g_ := Aside0.mk (Kd.S_below (Kd.S_below F5.out (by repeat (first | exact Below.refl _ _ | apply below_alloc | apply pw_below_drewN | apply below_drew1))) hb_); clear F5; have F5 := g_; clear g_; have g_ := Aside0.mk (Kd.R_below (Kd.R_below F6.out (by repeat (first | exact Below.refl _ _ | apply below_alloc | apply pw_below_drewN | apply below_drew1))) hb_); clear F6; have F6 := g_; clear g_; have g_ := Aside0.mk (Kd.S_below (Kd.S_below F7.out (by repeat (first | exact Below.refl _ _ | apply below_alloc | apply pw_below_drewN | apply below_drew1))) hb_); clear F7; have F7 := g_; clear g_; obtain ⟨n7_, hle7_, hN_, hF_⟩ := Kd.madeS (N := n6_) HN.out (by repeat (first | exact Below.refl _ _ | apply below_alloc | apply pw_below_drewN | apply below_drew1)) hb_ HB.out ho_; obtain ⟨Ao9, co9, rfl⟩ := Kd.S_slice ho_; have F9 := Aside0.mk hF_; clear hF_ ho_; have g_ := Aside0.mk hN_; clear HN hN_; have HN := g_; clear g_; have g_ := Aside0.mk (below_step (below_step HB.out (by repeat (first | exact Below.refl _ _ | apply below_alloc | apply pw_below_drewN | apply below_drew1))) hb_); clear HB hb_; have HB := g_; clear g_) | ((with_reducible refine gate_callee (f := 17) rfl ?_); refine goesL_ (some 45) rfl rfl Try.func17 (by kernel_rfl) rfl #[.slice Ao5 t5.length co5, .slice Ao9 t9.length co9] rfl (by (try simp only [List.map_toArray, List.map_cons, List.map_nil]); first | done | rfl | (simp only [List.length_drop, List.length_take]; rfl)) ?_; (with_reducible refine (laws_eqIntSS.calls k _ _ t5 _ _ t9 true _ ?side1 ?side2 ?side3 ?side4 A10_.out).mono ?_); (case side1 => exact (Kd.S_reads' (Kd.S_below F5.out (by repeat (first | exact Below.refl _ _ | apply below_alloc | apply pw_below_drewN | apply below_drew1)))).2.2); (case side2 => exact (Kd.S_reads' F5.out).2.1); (case side3 => exact (Kd.S_reads' (Kd.S_below F9.out (by repeat (first | exact Below.refl _ _ | apply below_alloc | apply pw_below_drewN | apply below_drew1)))).2.2); (case side4 => exact (Kd.S_reads' F9.out).2.1); rintro e w' ⟨rfl, ⟨nd, rfl⟩⟩; refine ⟨_, rfl, ?_⟩) | ((with_reducible refine gate_callee (f := 15) rfl ?_); refine goesL_ (some 49) rfl rfl Try.func15 (by kernel_rfl) rfl #[.slice A1 l1.length c1] rfl (by (try simp only [List.map_toArray, List.map_cons, List.map_nil]); first | done | rfl | (simp only [List.length_drop, List.length_take]; rfl)) ?_; (with_reducible refine (laws_toBoolS.calls k _ _ l1 t11 _ ?side1 ?side2 A11_.out).mono ?_); (case side1 => exact Kd.C_below HR1.out (below_step HB.out (by repeat (first | exact Below.refl _ _ | apply below_alloc | apply pw_below_drewN | apply below_drew1)))); (case side2 => exact HC1.out); rintro e w11_ ⟨v_, rfl, ho_, hb_⟩; refine ⟨_, rfl, ?_⟩; have g_ := Aside0.mk (Kd.N_below (Kd.N_below F4.out (by repeat (first | exact Below.refl _ _ | apply below_alloc | apply pw_below_drewN | apply below_drew1))) hb_); clear F4; have F4 := g_; clear g_; have g_ := Aside0.mk (Kd.S_below (Kd.S_below F5.out (by repeat (first | exact Below.refl _ _ | apply below_alloc | apply pw_below_drewN | apply below_drew1))) hb_); clear F5; have F5 := g_; clear g_; have g_ := Aside0.mk (Kd.R_below (Kd.R_below F6.out (by repeat (first | exact Below.refl _ _ | apply below_alloc | apply pw_below_drewN | apply below_drew1))) hb_); clear F6; have F6 := g_; clear g_; have g_ := Aside0.mk (Kd.S_below (Kd.S_below F7.out (by repeat (first | exact Below.refl _ _ | apply below_alloc | apply pw_below_drewN | apply below_drew1))) hb_); clear F7; have F7 := g_; clear g_; obtain ⟨n8_, hle8_, hN_, hF_⟩ := Kd.madeR (N := n7_) HN.out (by repeat (first | exact Below.refl _ _ | apply below_alloc | apply pw_below_drewN | apply below_drew1)) hb_ HB.out ho_; obtain ⟨Ao11, co11, rfl⟩ := Kd.R_slice ho_; have F11 := Aside0.mk hF_; clear hF_ ho_; have g_ := Aside0.mk hN_; clear HN hN_; have HN := g_; clear g_; have g_ := Aside0.mk (below_step (below_step HB.out (by repeat (first | exact Below.refl _ _ | apply below_alloc | apply pw_below_drewN | apply below_drew1))) hb_); clear HB hb_; have HB := g_; clear g_) | ((with_reducible refine gate_callee (f := 18) rfl ?_); refine goesL_ (some 50) rfl rfl Try.func18 (by kernel_rfl) rfl #[.slice Ao6 t6.length co6, .slice Ao11 t11.length co11] rfl (by (try simp only [List.map_toArray, List.map_cons, List.map_nil]); first | done | rfl | (simp only [List.length_drop, List.length_take]; rfl)) ?_; (with_reducible refine (laws_eqBoolS.calls k _ _ t6 _ _ t11 true _ ?side1 ?side2 ?side3 ?side4 A12_.out).mono ?_); (case side1 => exact (Kd.R_reads' (Kd.R_below F6.out (by repeat (first | exact Below.refl _ _ | apply below_alloc | apply pw_below_drewN | apply below_drew1)))).2.2); (case side2 => exact (Kd.R_reads' F6.out).2.1); (case side3 => exact (Kd.R_reads' (Kd.R_below F11.out (by repeat (first | exact Below.refl _ _ | apply below_alloc | apply pw_below_drewN | apply below_drew1)))).2.2); (case side4 => exact (Kd.R_reads' F11.out).2.1); rintro e w' ⟨rfl, ⟨nd, rfl⟩⟩; refine ⟨_, rfl, ?_⟩) | ((with_reducible refine gate_callee (f := 22) rfl ?_); refine goesL_ (some 54) rfl rfl Try.func22 (by kernel_rfl) rfl #[.slice Ao5 t5.length co5, .int .i64 1] rfl (by (try simp only [List.map_toArray, List.map_cons, List.map_nil]); first | done | rfl | (simp only [List.length_drop, List.length_take]; rfl)) ?_; (with_reducible refine (laws_markIntSS.calls k (fun k_ => n3_ ≤ k_ ∧ k_ < n4_) _ t5 1 t13 u13 w _ ?sideB ?sideO A13_.out).mono ?_); (case sideB => exact below_step HB.out (by repeat (first | exact Below.refl _ _ | apply below_alloc | apply pw_below_drewN | apply below_drew1))); (case sideO => exact Kd.S_below F5.out (by repeat (first | exact Below.refl _ _ | apply below_alloc | apply pw_below_drewN | apply below_drew1))); rintro e w13_ ⟨rfl, hs_, hb_, hk_⟩; refine ⟨_, rfl, ?_⟩; have g_ := Aside0.mk (Kd.N_kept (Kd.N_below F4.out (by repeat (first | exact Below.refl _ _ | apply below_alloc | apply pw_below_drewN | apply below_drew1))) hk_ (fun k_ h1_ h2_ => by obtain ⟨_, _⟩ := h1_; obtain ⟨_, _⟩ := h2_; omega)); clear F4; have F4 := g_; clear g_; have g_ := Aside0.mk (Kd.R_kept (Kd.R_below F6.out (by repeat (first | exact Below.refl _ _ | apply below_alloc | apply pw_below_drewN | apply below_drew1))) hk_ (fun k_ h1_ h2_ => by obtain ⟨_, _⟩ := h1_; obtain ⟨_, _⟩ := h2_; omega)); clear F6; have F6 := g_; clear g_; have g_ := Aside0.mk (Kd.S_kept (Kd.S_below F7.out (by repeat (first | exact Below.refl _ _ | apply below_alloc | apply pw_below_drewN | apply below_drew1))) hk_ (fun k_ h1_ h2_ => by obtain ⟨_, _⟩ := h1_; obtain ⟨_, _⟩ := h2_; omega)); clear F7; have F7 := g_; clear g_; have hl_ : t5.length = u13.length := (Kd.S_reads' hs_).1; have g_ := Aside0.mk (show Kd.S (Kd.slice 3 (Kd.int .i64)) 30 w13_ w.heap.size (fun _ => True) (.slice Ao5 u13.length co5) u13 from hl_ ▸ Kd.S_mono hs_ (fun _ _ => trivial)); clear F5; have F5 := g_; clear g_; (try rw [hl_]); clear hl_ hs_; have g_ := Aside0.mk hb_; clear HB hb_; have HB := g_; clear g_; have g_ := Aside0.mk (Nat.le_trans HN.out (Nat.le_trans (show Below w11_.heap.size w11_ _ from (by repeat (first | exact Below.refl _ _ | apply below_alloc | apply pw_below_drewN | apply below_drew1))).size hk_.1)); clear HN hk_; have HN := g_; clear g_) | ((with_reducible refine gate_callee (f := 27) rfl ?_); refine goesL_ (some 57) rfl rfl Try.func27 (by kernel_rfl) rfl #[.slice Ao6 t6.length co6, .int .i64 t13] rfl (by (try simp only [List.map_toArray, List.map_cons, List.map_nil]); first | done | rfl | (simp only [List.length_drop, List.length_take]; rfl)) ?_; (with_reducible refine (laws_markBoolS.calls k (fun k_ => n4_ ≤ k_ ∧ k_ < n5_) _ t6 t13 t14 u14 w _ ?sideB ?sideO A14_.out).mono ?_); (case sideB => exact below_step HB.out (by repeat (first | exact Below.refl _ _ | apply below_alloc | apply pw_below_drewN | apply below_drew1))); (case sideO => exact Kd.R_below F6.out (by repeat (first | exact Below.refl _ _ | apply below_alloc | apply pw_below_drewN | apply below_drew1))); rintro e w14_ ⟨rfl, hs_, hb_, hk_⟩; refine ⟨_, rfl, ?_⟩; have g_ := Aside0.mk (Kd.N_kept (Kd.N_below F4.out (by repeat (first | exact Below.refl _ _ | apply below_alloc | apply pw_below_drewN | apply below_drew1))) hk_ (fun k_ h1_ h2_ => by obtain ⟨_, _⟩ := h1_; obtain ⟨_, _⟩ := h2_; omega)); clear F4; have F4 := g_; clear g_; have g_ := Aside0.mk (Kd.S_kept (Kd.S_below F7.out (by repeat (first | exact Below.refl _ _ | apply below_alloc | apply pw_below_drewN | apply below_drew1))) hk_ (fun k_ h1_ h2_ => by obtain ⟨_, _⟩ := h1_; obtain ⟨_, _⟩ := h2_; omega)); clear F7; have F7 := g_; clear g_; have hl_ : t6.length = u14.length := (Kd.R_reads' hs_).1; have g_ := Aside0.mk (show Kd.R Kd.bool 4 w14_ w.heap.size (fun _ => True) (.slice Ao6 u14.length co6) u14 from hl_ ▸ Kd.R_mono hs_ (fun _ _ => trivial)); clear F6; have F6 := g_; clear g_; (try rw [hl_]); clear hl_ hs_; have g_ := Aside0.mk hb_; clear HB hb_; have HB := g_; clear g_; have g_ := Aside0.mk (Nat.le_trans HN.out (Nat.le_trans (show Below w13_.heap.size w13_ _ from (by repeat (first | exact Below.refl _ _ | apply below_alloc | apply pw_below_drewN | apply below_drew1))).size hk_.1)); clear HN hk_; have HN := g_; clear g_) | (go_at_call 17; (with_reducible refine (laws_eqIntSS.calls k _ _ t7 _ _ t4 true _ ?side1 ?side2 ?side3 ?side4 A15_.out).mono ?_); (case side1 => exact (Kd.S_reads' (Kd.S_below F7.out (by repeat (first | exact Below.refl _ _ | apply below_alloc | apply pw_below_drewN | apply below_drew1)))).2.2); (case side2 => exact (Kd.S_reads' F7.out).2.1); (case side3 => exact (Kd.N_reads' (Kd.N_below F4.out (by repeat (first | exact Below.refl _ _ | apply below_alloc | apply pw_below_drewN | apply below_drew1)))).2.2); (case side4 => exact (Kd.N_reads' F4.out).2.1); rintro e w' ⟨rfl, ⟨nd, rfl⟩⟩) | ((with_reducible refine gate_callee (f := 22) rfl ?_); refine goesL_ (some 68) rfl rfl Try.func22 (by kernel_rfl) rfl #[.slice Ao7 t7.length co7, .int .i64 1] rfl (by (try simp only [List.map_toArray, List.map_cons, List.map_nil]); first | done | rfl | (simp only [List.length_drop, List.length_take]; rfl)) ?_; (with_reducible refine (laws_markIntSS.calls k (fun k_ => n5_ ≤ k_ ∧ k_ < n6_) _ t7 1 t16 u16 w _ ?sideB ?sideO A16_.out).mono ?_); (case sideB => exact below_step HB.out (by repeat (first | exact Below.refl _ _ | apply below_alloc | apply pw_below_drewN | apply below_drew1))); (case sideO => exact Kd.S_below F7.out (by repeat (first | exact Below.refl _ _ | apply below_alloc | apply pw_below_drewN | apply below_drew1))); rintro e w16_ ⟨rfl, hs_, hb_, hk_⟩; refine ⟨_, rfl, ?_⟩; have g_ := Aside0.mk (Kd.N_kept (Kd.N_below F4.out (by repeat (first | exact Below.refl _ _ | apply below_alloc | apply pw_below_drewN | apply below_drew1))) hk_ (fun k_ h1_ h2_ => by obtain ⟨_, _⟩ := h1_; obtain ⟨_, _⟩ := h2_; omega)); clear F4; have F4 := g_; clear g_; have hl_ : t7.length = u16.length := (Kd.S_reads' hs_).1; have g_ := Aside0.mk (show Kd.S (Kd.slice 3 (Kd.int .i64)) 30 w16_ w.heap.size (fun _ => True) (.slice Ao7 u16.length co7) u16 from hl_ ▸ Kd.S_mono hs_ (fun _ _ => trivial)); clear F7; have F7 := g_; clear g_; (try rw [hl_]); clear hl_ hs_; have g_ := Aside0.mk hb_; clear HB hb_; have HB := g_; clear g_; have g_ := Aside0.mk (Nat.le_trans HN.out (Nat.le_trans (show Below w14_.heap.size w14_ _ from (by repeat (first | exact Below.refl _ _ | apply below_alloc | apply pw_below_drewN | apply below_drew1))).size hk_.1)); clear HN hk_; have HN := g_; clear g_) | ((with_reducible refine gate_callee (f := 43) rfl ?_); refine goesL_ (some 71) rfl rfl Try.func43 (by kernel_rfl) rfl #[.slice Ao7 u16.length co7, .int .i64 1] rfl (by (try simp only [List.map_toArray, List.map_cons, List.map_nil]); first | done | rfl | (simp only [List.length_drop, List.length_take]; rfl)) ?_; (with_reducible refine (laws_heldIntSS.calls k _ _ u16 1 t17 _ ?side1 ?side2 A17_.out).mono ?_); (case side1 => exact (Kd.S_reads' (Kd.S_below F7.out (by repeat (first | exact Below.refl _ _ | apply below_alloc | apply pw_below_drewN | apply below_drew1)))).2.2); (case side2 => exact (Kd.S_reads' F7.out).2.1); rintro e w' ⟨rfl, ⟨nd, rfl⟩⟩; refine ⟨_, rfl, ?_⟩) | ((with_reducible refine gate_callee (f := 14) rfl ?_); refine goesL_ (some 78) rfl rfl Try.func14 (by kernel_rfl) rfl #[.slice A0 l0.length c0] rfl (by (try simp only [List.map_toArray, List.map_cons, List.map_nil]); first | done | rfl | (simp only [List.length_drop, List.length_take]; rfl)) ?_; (with_reducible refine (laws_toIntSS.calls k _ _ l0 t18 _ ?side1 ?side2 A18_.out).mono ?_); (case side1 => exact Kd.C_below HR0.out (below_step HB.out (by repeat (first | exact Below.refl _ _ | apply below_alloc | apply pw_below_drewN | apply below_drew1)))); (case side2 => exact HC0.out); rintro e w18_ ⟨v_, rfl, ho_, hb_⟩; refine ⟨_, rfl, ?_⟩; have g_ := Aside0.mk (Kd.N_below (Kd.N_below F4.out (by repeat (first | exact Below.refl _ _ | apply below_alloc | apply pw_below_drewN | apply below_drew1))) hb_); clear F4; have F4 := g_; clear g_; have g_ := Aside0.mk (Kd.S_below (Kd.S_below F7.out (by repeat (first | exact Below.refl _ _ | apply below_alloc | apply pw_below_drewN | apply below_drew1))) hb_); clear F7; have F7 := g_; clear g_; obtain ⟨n9_, hle9_, hN_, hF_⟩ := Kd.madeS (N := n8_) HN.out (by repeat (first | exact Below.refl _ _ | apply below_alloc | apply pw_below_drewN | apply below_drew1)) hb_ HB.out ho_; obtain ⟨Ao18, co18, rfl⟩ := Kd.S_slice ho_; have F18 := Aside0.mk hF_; clear hF_ ho_; have g_ := Aside0.mk hN_; clear HN hN_; have HN := g_; clear g_; have g_ := Aside0.mk (below_step (below_step HB.out (by repeat (first | exact Below.refl _ _ | apply below_alloc | apply pw_below_drewN | apply below_drew1))) hb_); clear HB hb_; have HB := g_; clear g_) | ((with_reducible refine gate_callee (f := 15) rfl ?_); refine goesL_ (some 80) rfl rfl Try.func15 (by kernel_rfl) rfl #[.slice A1 l1.length c1] rfl (by (try simp only [List.map_toArray, List.map_cons, List.map_nil]); first | done | rfl | (simp only [List.length_drop, List.length_take]; rfl)) ?_; (with_reducible refine (laws_toBoolS.calls k _ _ l1 t19 _ ?side1 ?side2 A19_.out).mono ?_); (case side1 => exact Kd.C_below HR1.out (below_step HB.out (by repeat (first | exact Below.refl _ _ | apply below_alloc | apply pw_below_drewN | apply below_drew1)))); (case side2 => exact HC1.out); rintro e w19_ ⟨v_, rfl, ho_, hb_⟩; refine ⟨_, rfl, ?_⟩; have g_ := Aside0.mk (Kd.N_below (Kd.N_below F4.out (by repeat (first | exact Below.refl _ _ | apply below_alloc | apply pw_below_drewN | apply below_drew1))) hb_); clear F4; have F4 := g_; clear g_; have g_ := Aside0.mk (Kd.S_below (Kd.S_below F7.out (by repeat (first | exact Below.refl _ _ | apply below_alloc | apply pw_below_drewN | apply below_drew1))) hb_); clear F7; have F7 := g_; clear g_; have g_ := Aside0.mk (Kd.S_below (Kd.S_below F18.out (by repeat (first | exact Below.refl _ _ | apply below_alloc | apply pw_below_drewN | apply below_drew1))) hb_); clear F18; have F18 := g_; clear g_; obtain ⟨n10_, hle10_, hN_, hF_⟩ := Kd.madeR (N := n9_) HN.out (by repeat (first | exact Below.refl _ _ | apply below_alloc | apply pw_below_drewN | apply below_drew1)) hb_ HB.out ho_; obtain ⟨Ao19, co19, rfl⟩ := Kd.R_slice ho_; have F19 := Aside0.mk hF_; clear hF_ ho_; have g_ := Aside0.mk hN_; clear HN hN_; have HN := g_; clear g_; have g_ := Aside0.mk (below_step (below_step HB.out (by repeat (first | exact Below.refl _ _ | apply below_alloc | apply pw_below_drewN | apply below_drew1))) hb_); clear HB hb_; have HB := g_; clear g_) | ((with_reducible refine gate_callee (f := 42) rfl ?_); refine goesL_ (some 82) rfl rfl Try.func42 (by kernel_rfl) rfl #[.slice Ao18 t18.length co18, .slice Ao19 t19.length co19, .int .i64 a2] rfl (by (try simp only [List.map_toArray, List.map_cons, List.map_nil]); first | done | rfl | (simp only [List.length_drop, List.length_take]; rfl)) ?_; (with_reducible refine (impl_SmallestSets.calls k _ _ t18 _ _ t19 a2 t20 _ ?side1 ?side2 ?side3 ?side4 A20_.out).mono ?_); (case side1 => exact (Kd.S_reads' (Kd.S_below F18.out (by repeat (first | exact Below.refl _ _ | apply below_alloc | apply pw_below_drewN | apply below_drew1)))).2.2); (case side2 => exact (Kd.S_reads' F18.out).2.1); (case side3 => exact (Kd.R_reads' (Kd.R_below F19.out (by repeat (first | exact Below.refl _ _ | apply below_alloc | apply pw_below_drewN | apply below_drew1)))).2.2); (case side4 => exact (Kd.R_reads' F19.out).2.1); rintro e w20_ ⟨v_, rfl, ho_, hb_⟩; refine ⟨_, rfl, ?_⟩; have g_ := Aside0.mk (Kd.N_below (Kd.N_below F4.out (by repeat (first | exact Below.refl _ _ | apply below_alloc | apply pw_below_drewN | apply below_drew1))) hb_); clear F4; have F4 := g_; clear g_; have g_ := Aside0.mk (Kd.S_below (Kd.S_below F7.out (by repeat (first | exact Below.refl _ _ | apply below_alloc | apply pw_below_drewN | apply below_drew1))) hb_); clear F7; have F7 := g_; clear g_; obtain ⟨n11_, hle11_, hN_, hF_⟩ := Kd.madeS (N := n10_) HN.out (by repeat (first | exact Below.refl _ _ | apply below_alloc | apply pw_below_drewN | apply below_drew1)) hb_ HB.out ho_; obtain ⟨Ao20, co20, rfl⟩ := Kd.S_slice ho_; have F20 := Aside0.mk hF_; clear hF_ ho_; have g_ := Aside0.mk hN_; clear HN hN_; have HN := g_; clear g_; have g_ := Aside0.mk (below_step (below_step HB.out (by repeat (first | exact Below.refl _ _ | apply below_alloc | apply pw_below_drewN | apply below_drew1))) hb_); clear HB hb_; have HB := g_; clear g_) | ((with_reducible refine gate_callee (f := 17) rfl ?_); refine goesL_ (some 85) rfl rfl Try.func17 (by kernel_rfl) rfl #[.slice Ao20 t20.length co20, .slice Ao4 t4.length co4] rfl (by (try simp only [List.map_toArray, List.map_cons, List.map_nil]); first | done | rfl | (simp only [List.length_drop, List.length_take]; rfl)) ?_; (with_reducible refine (laws_eqIntSS.calls k _ _ t20 _ _ t4 true _ ?side1 ?side2 ?side3 ?side4 A21_.out).mono ?_); (case side1 => exact (Kd.S_reads' (Kd.S_below F20.out (by repeat (first | exact Below.refl _ _ | apply below_alloc | apply pw_below_drewN | apply below_drew1)))).2.2); (case side2 => exact (Kd.S_reads' F20.out).2.1); (case side3 => exact (Kd.N_reads' (Kd.N_below F4.out (by repeat (first | exact Below.refl _ _ | apply below_alloc | apply pw_below_drewN | apply below_drew1)))).2.2); (case side4 => exact (Kd.N_reads' F4.out).2.1); rintro e w' ⟨rfl, ⟨nd, rfl⟩⟩; refine ⟨_, rfl, ?_⟩) | ((with_reducible refine gate_callee (f := 43) rfl ?_); refine goesL_ (some 89) rfl rfl Try.func43 (by kernel_rfl) rfl #[.slice Ao7 u16.length co7, .int .i64 1] rfl (by (try simp only [List.map_toArray, List.map_cons, List.map_nil]); first | done | rfl | (simp only [List.length_drop, List.length_take]; rfl)) ?_; (with_reducible refine (laws_heldIntSS.calls k _ _ u16 1 t22 _ ?side1 ?side2 A22_.out).mono ?_); (case side1 => exact (Kd.S_reads' (Kd.S_below F7.out (by repeat (first | exact Below.refl _ _ | apply below_alloc | apply pw_below_drewN | apply below_drew1)))).2.2); (case side2 => exact (Kd.S_reads' F7.out).2.1); rintro e w' ⟨rfl, ⟨nd, rfl⟩⟩; refine ⟨_, rfl, ?_⟩))
  go_ret
  exact ⟨rfl, below_step HB.out (by repeat (first | exact Below.refl _ _ | apply below_alloc | apply pw_below_drewN | apply below_drew1))⟩

end Go.Proofs.Ytoniljblfenpeaa.PFnExactSmallestSets
