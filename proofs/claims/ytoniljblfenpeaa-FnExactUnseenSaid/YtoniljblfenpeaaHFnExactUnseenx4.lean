-- Written by a program of this session out of the translation (wip/gen/hprint.sh). Lean checks it.
import Derived.Test.YtoniljblfenpeaaHFnExactUnseenx0
import Derived.Test.YtoniljblfenpeaaHFnExactUnseenx1
import Derived.Test.YtoniljblfenpeaaHFnExactUnseenx2
import Derived.Test.YtoniljblfenpeaaHFnExactUnseenx3
namespace Go.Proofs.Ytoniljblfenpeaa.PFnExactUnseen
open Go.RowKit Go.Proofs.YtoniljblfenpeaaW.PrintWords Go.Proofs.YtoniljblfenpeaaW.PrintLast Go.Proofs.YtoniljblfenpeaaW.PrintMore
attribute [local go_sem] max2_int min2_int max_two min_two max_three min_three max_four min_four   -- for this text's walks alone
set_option linter.unusedVariables false
set_option linter.unusedSimpArgs false

/-! ### laws_FnExactUnseen: function 4 -/
theorem lawm_pos {α : Type} {c : Prop} [Decidable c] {f : Option α} {r : α} (h : (if c then f else none) = some r) : c := by
  by_cases hc : c
  · exact hc
  · rw [if_neg hc] at h
    cases h
theorem Kd.madeS {α : Type} {d : Kd α} {e N : Nat} {w wk W wi : World} {v : Value} {xs : List α} (hN : N ≤ wk.heap.size) (hW : Below wk.heap.size wk W) (hb : Below W.heap.size W wi) (hB : Below w.heap.size w wk) (ho : Kd.S d e wi W.heap.size (fun _ => True) v xs) :
    ∃ n, N ≤ n ∧ n ≤ wi.heap.size ∧ Kd.S d e wi w.heap.size (fun k_ => N ≤ k_ ∧ k_ < n) v xs :=
  ⟨wi.heap.size, Nat.le_trans hN (Nat.le_trans hW.size hb.size), Nat.le_refl _, Kd.S_lower (Kd.S_mono (Kd.S_bound ho) (fun k_ hk => ⟨Nat.le_trans (Nat.le_trans hN hW.size) hk.2.1, hk.2.2.1⟩)) (Nat.le_trans hB.size hW.size)⟩
theorem Kd.madeR {α : Type} {d : Kd α} {e N : Nat} {w wk W wi : World} {v : Value} {xs : List α} (hN : N ≤ wk.heap.size) (hW : Below wk.heap.size wk W) (hb : Below W.heap.size W wi) (hB : Below w.heap.size w wk) (ho : Kd.R d e wi W.heap.size (fun _ => True) v xs) :
    ∃ n, N ≤ n ∧ n ≤ wi.heap.size ∧ Kd.R d e wi w.heap.size (fun k_ => N ≤ k_ ∧ k_ < n) v xs :=
  ⟨wi.heap.size, Nat.le_trans hN (Nat.le_trans hW.size hb.size), Nat.le_refl _, Kd.R_lower (Kd.R_mono (Kd.R_bound ho) (fun k_ hk => ⟨Nat.le_trans (Nat.le_trans hN hW.size) hk.2.1, hk.2.2.1⟩)) (Nat.le_trans hB.size hW.size)⟩

def laws_FnExactUnseen.f (k : Nat) (l0 : List (List Int)) (a1 : Int) : Option Bool := (laws_szIntSS.f k l0 1048576).bind fun t1 => (if t1 < 0 then some true else ((laws_toIntSS.f k l0).bind fun t2 => ((spec_Unseen.f k t2 a1).bind fun t3 => ((laws_toIntSS.f k l0).bind fun t4 => ((impl_Unseen.f k t4 a1).bind fun t5 => ((laws_eqIntS.f k t5 t3).bind fun t6 => (if t6 = true then ((laws_toIntSS.f k l0).bind fun t7 => ((laws_eqIntSS.f k t4 t7).bind fun t8 => (if t8 = true then ((laws_markIntSS.f k t4 1).bind fun p9 => (if p9.1 < 0 then none else ((laws_eqIntS.f k t5 t3).bind fun t10 => (if t10 = true then ((laws_markIntS.f k t5 1).bind fun p11 => ((laws_heldIntS.f k p11.2 1).bind fun t12 => (if t12 < 0 then none else (if t12 = p11.1 then ((laws_toIntSS.f k l0).bind fun t13 => ((impl_Unseen.f k t13 a1).bind fun t14 => ((laws_eqIntS.f k t14 t3).bind fun t15 => (if t15 = true then ((laws_heldIntS.f k p11.2 1).bind fun t16 => (if t16 < 0 then none else (if t16 = p11.1 then (some true) else none))) else none)))) else none)))) else none)))) else none))) else none)))))))
set_option maxHeartbeats 4000000 in
set_option maxRecDepth 100000 in
theorem laws_FnExactUnseen.calls (k : Nat) (A0 : Option Addr) (c0 : Nat) (l0 : List (List Int)) (a1 : Int) (r : Bool) (w : World) (hr0 : Kd.C (Kd.slice 3 (Kd.int .i64)) w A0 l0.length l0) (hc0 : l0.length ≤ c0) (h : laws_FnExactUnseen.f k l0 a1 = some r) :
    Calls Try.prog 4 #[.slice A0 l0.length c0, .int .i64 a1] w fun e w' => e = .returned (.bool r) ∧ Below w.heap.size w w' := by
  have HR0 := Aside0.mk hr0
  have HC0 := Aside0.mk hc0
  clear hr0 hc0
  have HB := Aside0.mk (Below.refl w.heap.size w)
  have HN := Aside0.mk (Nat.le_refl w.heap.size)
  unfold laws_FnExactUnseen.f at h
  have H := h
  clear h
  replace H := Option.bind_eq_some_iff.mp H
  obtain ⟨t1, A10_, H⟩ := H
  try dsimp only at H
  have A1_ := Aside0.mk A10_
  clear A10_
  by_cases e1_ : t1 < 0
  · rw [if_pos e1_] at H
    have e1_0 : decide (t1 < 0) = true := decide_eq_true e1_
    clear e1_
    obtain rfl := Option.some.inj H
    go_enter Try.func4, Try.ntmps4
    go_wp2_with (first | ((with_reducible refine gate_callee (f := 12) rfl ?_); refine goesL_ (some 15) rfl rfl Try.func12 (by kernel_rfl) rfl #[.slice A0 l0.length c0, .int .i64 1048576] rfl (by (try simp only [List.map_toArray, List.map_cons, List.map_nil]); first | done | rfl | (simp only [List.length_drop, List.length_take]; rfl)) ?_; (with_reducible refine (laws_szIntSS.calls k _ _ l0 1048576 t1 _ ?side1 ?side2 A1_.out).mono ?_); (case side1 => exact Kd.C_below HR0.out (below_step HB.out (by repeat (first | exact Below.refl _ _ | apply below_alloc | apply pw_below_drewN | apply below_drew1)))); (case side2 => exact HC0.out); rintro e w' ⟨rfl, ⟨nd, rfl⟩⟩; refine ⟨_, rfl, ?_⟩))
    go_ret
    exact ⟨rfl, below_step HB.out (by repeat (first | exact Below.refl _ _ | apply below_alloc | apply pw_below_drewN | apply below_drew1))⟩
  rw [if_neg e1_] at H
  have e1_0 : decide (t1 < 0) = false := decide_eq_false e1_
  clear e1_
  replace H := Option.bind_eq_some_iff.mp H
  obtain ⟨t2, A20_, H⟩ := H
  try dsimp only at H
  have A2_ := Aside0.mk A20_
  clear A20_
  replace H := Option.bind_eq_some_iff.mp H
  obtain ⟨t3, A30_, H⟩ := H
  try dsimp only at H
  have A3_ := Aside0.mk A30_
  clear A30_
  replace H := Option.bind_eq_some_iff.mp H
  obtain ⟨t4, A40_, H⟩ := H
  try dsimp only at H
  have A4_ := Aside0.mk A40_
  clear A40_
  replace H := Option.bind_eq_some_iff.mp H
  obtain ⟨t5, A50_, H⟩ := H
  try dsimp only at H
  have A5_ := Aside0.mk A50_
  clear A50_
  replace H := Option.bind_eq_some_iff.mp H
  obtain ⟨t6, A60_, H⟩ := H
  try dsimp only at H
  have A6_ := Aside0.mk A60_
  clear A60_
  have e2_ : t6 = true := lawm_pos H
  rw [if_pos e2_] at H
  subst e2_
  replace H := Option.bind_eq_some_iff.mp H
  obtain ⟨t7, A70_, H⟩ := H
  try dsimp only at H
  have A7_ := Aside0.mk A70_
  clear A70_
  replace H := Option.bind_eq_some_iff.mp H
  obtain ⟨t8, A80_, H⟩ := H
  try dsimp only at H
  have A8_ := Aside0.mk A80_
  clear A80_
  have e3_ : t8 = true := lawm_pos H
  rw [if_pos e3_] at H
  subst e3_
  replace H := Option.bind_eq_some_iff.mp H
  obtain ⟨⟨t9, u9⟩, A90_, H⟩ := H
  try dsimp only at H
  have A9_ := Aside0.mk A90_
  clear A90_
  have e4_ : ¬ (t9 < 0) := fun hc_ => by rw [if_pos hc_] at H; cases H
  rw [if_neg e4_] at H
  have e4_0 : decide (t9 < 0) = false := decide_eq_false e4_
  clear e4_
  replace H := Option.bind_eq_some_iff.mp H
  obtain ⟨t10, A100_, H⟩ := H
  try dsimp only at H
  have A10_ := Aside0.mk A100_
  clear A100_
  have e5_ : t10 = true := lawm_pos H
  rw [if_pos e5_] at H
  subst e5_
  replace H := Option.bind_eq_some_iff.mp H
  obtain ⟨⟨t11, u11⟩, A110_, H⟩ := H
  try dsimp only at H
  have A11_ := Aside0.mk A110_
  clear A110_
  replace H := Option.bind_eq_some_iff.mp H
  obtain ⟨t12, A120_, H⟩ := H
  try dsimp only at H
  have A12_ := Aside0.mk A120_
  clear A120_
  have e6_ : ¬ (t12 < 0) := fun hc_ => by rw [if_pos hc_] at H; cases H
  rw [if_neg e6_] at H
  have e6_0 : decide (t12 < 0) = false := decide_eq_false e6_
  clear e6_
  have e7_ : t12 = t11 := lawm_pos H
  rw [if_pos e7_] at H
  have e7_0 : (t12 == t11) = true := beq_iff_eq.mpr e7_
  have e7_1 : (t12 != t11) = false := bne_eq_false_iff_eq.mpr e7_
  clear e7_
  replace H := Option.bind_eq_some_iff.mp H
  obtain ⟨t13, A130_, H⟩ := H
  try dsimp only at H
  have A13_ := Aside0.mk A130_
  clear A130_
  replace H := Option.bind_eq_some_iff.mp H
  obtain ⟨t14, A140_, H⟩ := H
  try dsimp only at H
  have A14_ := Aside0.mk A140_
  clear A140_
  replace H := Option.bind_eq_some_iff.mp H
  obtain ⟨t15, A150_, H⟩ := H
  try dsimp only at H
  have A15_ := Aside0.mk A150_
  clear A150_
  have e8_ : t15 = true := lawm_pos H
  rw [if_pos e8_] at H
  subst e8_
  replace H := Option.bind_eq_some_iff.mp H
  obtain ⟨t16, A160_, H⟩ := H
  try dsimp only at H
  have A16_ := Aside0.mk A160_
  clear A160_
  have e9_ : ¬ (t16 < 0) := fun hc_ => by rw [if_pos hc_] at H; cases H
  rw [if_neg e9_] at H
  have e9_0 : decide (t16 < 0) = false := decide_eq_false e9_
  clear e9_
  have e10_ : t16 = t11 := lawm_pos H
  rw [if_pos e10_] at H
  have e10_0 : (t16 == t11) = true := beq_iff_eq.mpr e10_
  have e10_1 : (t16 != t11) = false := bne_eq_false_iff_eq.mpr e10_
  clear e10_
  obtain rfl := Option.some.inj H
  go_enter Try.func4, Try.ntmps4
  go_wp2_with (first | ((with_reducible refine gate_callee (f := 12) rfl ?_); refine goesL_ (some 15) rfl rfl Try.func12 (by kernel_rfl) rfl #[.slice A0 l0.length c0, .int .i64 1048576] rfl (by (try simp only [List.map_toArray, List.map_cons, List.map_nil]); first | done | rfl | (simp only [List.length_drop, List.length_take]; rfl)) ?_; (with_reducible refine (laws_szIntSS.calls k _ _ l0 1048576 t1 _ ?side1 ?side2 A1_.out).mono ?_); (case side1 => exact Kd.C_below HR0.out (below_step HB.out (by repeat (first | exact Below.refl _ _ | apply below_alloc | apply pw_below_drewN | apply below_drew1)))); (case side2 => exact HC0.out); rintro e w' ⟨rfl, ⟨nd, rfl⟩⟩; refine ⟨_, rfl, ?_⟩) | ((with_reducible refine gate_callee (f := 14) rfl ?_); refine goesL_ (some 19) rfl rfl Try.func14 (by kernel_rfl) rfl #[.slice A0 l0.length c0] rfl (by (try simp only [List.map_toArray, List.map_cons, List.map_nil]); first | done | rfl | (simp only [List.length_drop, List.length_take]; rfl)) ?_; (with_reducible refine (laws_toIntSS.calls k _ _ l0 t2 _ ?side1 ?side2 A2_.out).mono ?_); (case side1 => exact Kd.C_below HR0.out (below_step HB.out (by repeat (first | exact Below.refl _ _ | apply below_alloc | apply pw_below_drewN | apply below_drew1)))); (case side2 => exact HC0.out); rintro e w2_ ⟨v_, rfl, ho_, hb_⟩; refine ⟨_, rfl, ?_⟩; obtain ⟨n1_, hle1_, hN_, hF_⟩ := Kd.madeS (N := w.heap.size) HN.out (by repeat (first | exact Below.refl _ _ | apply below_alloc | apply pw_below_drewN | apply below_drew1)) hb_ HB.out ho_; obtain ⟨Ao2, co2, rfl⟩ := Kd.S_slice ho_; have F2 := Aside0.mk hF_; clear hF_ ho_; have g_ := Aside0.mk hN_; clear HN hN_; have HN := g_; clear g_; have g_ := Aside0.mk (below_step (below_step HB.out (by repeat (first | exact Below.refl _ _ | apply below_alloc | apply pw_below_drewN | apply below_drew1))) hb_); clear HB hb_; have HB := g_; clear g_) | ((with_reducible refine gate_callee (f := 19) rfl ?_); refine goesL_ (some 21) rfl rfl Try.func19 (by kernel_rfl) rfl #[.slice Ao2 t2.length co2, .int .i64 a1] rfl (by (try simp only [List.map_toArray, List.map_cons, List.map_nil]); first | done | rfl | (simp only [List.length_drop, List.length_take]; rfl)) ?_; (with_reducible refine (spec_Unseen.calls k _ _ t2 a1 t3 _ ?side1 ?side2 A3_.out).mono ?_); (case side1 => exact (Kd.S_reads' (Kd.S_below F2.out (by repeat (first | exact Below.refl _ _ | apply below_alloc | apply pw_below_drewN | apply below_drew1)))).2.2); (case side2 => exact (Kd.S_reads' F2.out).2.1); rintro e w3_ ⟨v_, rfl, ho_, hb_⟩; refine ⟨_, rfl, ?_⟩; obtain ⟨n2_, hle2_, hN_, hF_⟩ := Kd.madeR (N := n1_) HN.out (by repeat (first | exact Below.refl _ _ | apply below_alloc | apply pw_below_drewN | apply below_drew1)) hb_ HB.out ho_; obtain ⟨Ao3, co3, rfl⟩ := Kd.R_slice ho_; have F3 := Aside0.mk hF_; clear hF_ ho_; have g_ := Aside0.mk hN_; clear HN hN_; have HN := g_; clear g_; have g_ := Aside0.mk (below_step (below_step HB.out (by repeat (first | exact Below.refl _ _ | apply below_alloc | apply pw_below_drewN | apply below_drew1))) hb_); clear HB hb_; have HB := g_; clear g_) | ((with_reducible refine gate_callee (f := 14) rfl ?_); refine goesL_ (some 23) rfl rfl Try.func14 (by kernel_rfl) rfl #[.slice A0 l0.length c0] rfl (by (try simp only [List.map_toArray, List.map_cons, List.map_nil]); first | done | rfl | (simp only [List.length_drop, List.length_take]; rfl)) ?_; (with_reducible refine (laws_toIntSS.calls k _ _ l0 t4 _ ?side1 ?side2 A4_.out).mono ?_); (case side1 => exact Kd.C_below HR0.out (below_step HB.out (by repeat (first | exact Below.refl _ _ | apply below_alloc | apply pw_below_drewN | apply below_drew1)))); (case side2 => exact HC0.out); rintro e w4_ ⟨v_, rfl, ho_, hb_⟩; refine ⟨_, rfl, ?_⟩; have g_ := Aside0.mk (Kd.R_below (Kd.R_below F3.out (by repeat (first | exact Below.refl _ _ | apply below_alloc | apply pw_below_drewN | apply below_drew1))) hb_); clear F3; have F3 := g_; clear g_; obtain ⟨n3_, hle3_, hN_, hF_⟩ := Kd.madeS (N := n2_) HN.out (by repeat (first | exact Below.refl _ _ | apply below_alloc | apply pw_below_drewN | apply below_drew1)) hb_ HB.out ho_; obtain ⟨Ao4, co4, rfl⟩ := Kd.S_slice ho_; have F4 := Aside0.mk hF_; clear hF_ ho_; have g_ := Aside0.mk hN_; clear HN hN_; have HN := g_; clear g_; have g_ := Aside0.mk (below_step (below_step HB.out (by repeat (first | exact Below.refl _ _ | apply below_alloc | apply pw_below_drewN | apply below_drew1))) hb_); clear HB hb_; have HB := g_; clear g_) | ((with_reducible refine gate_callee (f := 20) rfl ?_); refine goesL_ (some 26) rfl rfl Try.func20 (by kernel_rfl) rfl #[.slice Ao4 t4.length co4, .int .i64 a1] rfl (by (try simp only [List.map_toArray, List.map_cons, List.map_nil]); first | done | rfl | (simp only [List.length_drop, List.length_take]; rfl)) ?_; (with_reducible refine (impl_Unseen.calls k _ _ t4 a1 t5 _ ?side1 ?side2 A5_.out).mono ?_); (case side1 => exact (Kd.S_reads' (Kd.S_below F4.out (by repeat (first | exact Below.refl _ _ | apply below_alloc | apply pw_below_drewN | apply below_drew1)))).2.2); (case side2 => exact (Kd.S_reads' F4.out).2.1); rintro e w5_ ⟨v_, rfl, ho_, hb_⟩; refine ⟨_, rfl, ?_⟩; have g_ := Aside0.mk (Kd.R_below (Kd.R_below F3.out (by repeat (first | exact Below.refl _ _ | apply below_alloc | apply pw_below_drewN | apply below_drew1))) hb_); clear F3; have F3 := g_; clear g_; have g_ := Aside0.mk (Kd.S_below (Kd.S_below F4.out (by repeat (first | exact Below.refl _ _ | apply below_alloc | apply pw_below_drewN | apply below_drew1))) hb_); clear F4; have F4 := g_; clear g_; obtain ⟨n4_, hle4_, hN_, hF_⟩ := Kd.madeR (N := n3_) HN.out (by repeat (first | exact Below.refl _ _ | apply below_alloc | apply pw_below_drewN | apply below_drew1)) hb_ HB.out ho_; obtain ⟨Ao5, co5, rfl⟩ := Kd.R_slice ho_; have F5 := Aside0.mk hF_; clear hF_ ho_; have g_ := Aside0.mk hN_; clear HN hN_; have HN := g_; clear g_; have g_ := Aside0.mk (below_step (below_step HB.out (by repeat (first | exact Below.refl _ _ | apply below_alloc | apply pw_below_drewN | apply below_drew1))) hb_); clear HB hb_; have HB := g_; clear g_) | ((with_reducible refine gate_callee (f := 21) rfl ?_); refine goesL_ (some 29) rfl rfl Try.func21 (by kernel_rfl) rfl #[.slice Ao5 t5.length co5, .slice Ao3 t3.length co3] rfl (by (try simp only [List.map_toArray, List.map_cons, List.map_nil]); first | done | rfl | (simp only [List.length_drop, List.length_take]; rfl)) ?_; (with_reducible refine (laws_eqIntS.calls k _ _ t5 _ _ t3 true _ ?side1 ?side2 ?side3 ?side4 A6_.out).mono ?_); (case side1 => exact (Kd.R_reads' (Kd.R_below F5.out (by repeat (first | exact Below.refl _ _ | apply below_alloc | apply pw_below_drewN | apply below_drew1)))).2.2); (case side2 => exact (Kd.R_reads' F5.out).2.1); (case side3 => exact (Kd.R_reads' (Kd.R_below F3.out (by repeat (first | exact Below.refl _ _ | apply below_alloc | apply pw_below_drewN | apply below_drew1)))).2.2); (case side4 => exact (Kd.R_reads' F3.out).2.1); rintro e w' ⟨rfl, ⟨nd, rfl⟩⟩; refine ⟨_, rfl, ?_⟩) | ((with_reducible refine gate_callee (f := 14) rfl ?_); refine goesL_ (some 33) rfl rfl Try.func14 (by kernel_rfl) rfl #[.slice A0 l0.length c0] rfl (by (try simp only [List.map_toArray, List.map_cons, List.map_nil]); first | done | rfl | (simp only [List.length_drop, List.length_take]; rfl)) ?_; (with_reducible refine (laws_toIntSS.calls k _ _ l0 t7 _ ?side1 ?side2 A7_.out).mono ?_); (case side1 => exact Kd.C_below HR0.out (below_step HB.out (by repeat (first | exact Below.refl _ _ | apply below_alloc | apply pw_below_drewN | apply below_drew1)))); (case side2 => exact HC0.out); rintro e w7_ ⟨v_, rfl, ho_, hb_⟩; refine ⟨_, rfl, ?_⟩; have g_ := Aside0.mk (Kd.R_below (Kd.R_below F3.out (by repeat (first | exact Below.refl _ _ | apply below_alloc | apply pw_below_drewN | apply below_drew1))) hb_); clear F3; have F3 := g_; clear g_; have g_ := Aside0.mk (Kd.S_below (Kd.S_below F4.out (by repeat (first | exact Below.refl _ _ | apply below_alloc | apply pw_below_drewN | apply below_drew1))) hb_); clear F4; have F4 := g_; clear g_; have g_ := Aside0.mk (Kd.R_below (Kd.R_below F5.out (by repeat (first | exact Below.refl _ _ | apply below_alloc | apply pw_below_drewN | apply below_drew1))) hb_); clear F5; have F5 := g_; clear g_; obtain ⟨n5_, hle5_, hN_, hF_⟩ := Kd.madeS (N := n4_) HN.out (by repeat (first | exact Below.refl _ _ | apply below_alloc | apply pw_below_drewN | apply below_drew1)) hb_ HB.out ho_; obtain ⟨Ao7, co7, rfl⟩ := Kd.S_slice ho_; have F7 := Aside0.mk hF_; clear hF_ ho_; have g_ := Aside0.mk hN_; clear HN hN_; have HN := g_; clear g_; have g_ := Aside0.mk (below_step (below_step HB.out (by repeat (first | exact Below.refl _ _ | apply below_alloc | apply pw_below_drewN | apply below_drew1))) hb_); clear HB hb_; have HB := g_; clear g_) | ((with_reducible refine gate_callee (f := 17) rfl ?_); refine goesL_ (some 34) rfl rfl Try.func17 (by kernel_rfl) rfl #[.slice Ao4 t4.length co4, .slice Ao7 t7.length co7] rfl (by (try simp only [List.map_toArray, List.map_cons, List.map_nil]); first | done | rfl | (simp only [List.length_drop, List.length_take]; rfl)) ?_; (with_reducible refine (laws_eqIntSS.calls k _ _ t4 _ _ t7 true _ ?side1 ?side2 ?side3 ?side4 A8_.out).mono ?_); (case side1 => exact (Kd.S_reads' (Kd.S_below F4.out (by repeat (first | exact Below.refl _ _ | apply below_alloc | apply pw_below_drewN | apply below_drew1)))).2.2); (case side2 => exact (Kd.S_reads' F4.out).2.1); (case side3 => exact (Kd.S_reads' (Kd.S_below F7.out (by repeat (first | exact Below.refl _ _ | apply below_alloc | apply pw_below_drewN | apply below_drew1)))).2.2); (case side4 => exact (Kd.S_reads' F7.out).2.1); rintro e w' ⟨rfl, ⟨nd, rfl⟩⟩; refine ⟨_, rfl, ?_⟩) | ((with_reducible refine gate_callee (f := 22) rfl ?_); refine goesL_ (some 38) rfl rfl Try.func22 (by kernel_rfl) rfl #[.slice Ao4 t4.length co4, .int .i64 1] rfl (by (try simp only [List.map_toArray, List.map_cons, List.map_nil]); first | done | rfl | (simp only [List.length_drop, List.length_take]; rfl)) ?_; (with_reducible refine (laws_markIntSS.calls k (fun k_ => n2_ ≤ k_ ∧ k_ < n3_) _ t4 1 t9 u9 w _ ?sideB ?sideO A9_.out).mono ?_); (case sideB => exact below_step HB.out (by repeat (first | exact Below.refl _ _ | apply below_alloc | apply pw_below_drewN | apply below_drew1))); (case sideO => exact Kd.S_below F4.out (by repeat (first | exact Below.refl _ _ | apply below_alloc | apply pw_below_drewN | apply below_drew1))); rintro e w9_ ⟨rfl, hs_, hb_, hk_⟩; refine ⟨_, rfl, ?_⟩; have g_ := Aside0.mk (Kd.R_kept (Kd.R_below F3.out (by repeat (first | exact Below.refl _ _ | apply below_alloc | apply pw_below_drewN | apply below_drew1))) hk_ (fun k_ h1_ h2_ => by obtain ⟨_, _⟩ := h1_; obtain ⟨_, _⟩ := h2_; omega)); clear F3; have F3 := g_; clear g_; have g_ := Aside0.mk (Kd.R_kept (Kd.R_below F5.out (by repeat (first | exact Below.refl _ _ | apply below_alloc | apply pw_below_drewN | apply below_drew1))) hk_ (fun k_ h1_ h2_ => by obtain ⟨_, _⟩ := h1_; obtain ⟨_, _⟩ := h2_; omega)); clear F5; have F5 := g_; clear g_; have hl_ : t4.length = u9.length := (Kd.S_reads' hs_).1; have g_ := Aside0.mk (show Kd.S (Kd.slice 3 (Kd.int .i64)) 30 w9_ w.heap.size (fun _ => True) (.slice Ao4 u9.length co4) u9 from hl_ ▸ Kd.S_mono hs_ (fun _ _ => trivial)); clear F4; have F4 := g_; clear g_; (try rw [hl_]); clear hl_ hs_; have g_ := Aside0.mk hb_; clear HB hb_; have HB := g_; clear g_; have g_ := Aside0.mk (Nat.le_trans HN.out (Nat.le_trans (show Below w7_.heap.size w7_ _ from (by repeat (first | exact Below.refl _ _ | apply below_alloc | apply pw_below_drewN | apply below_drew1))).size hk_.1)); clear HN hk_; have HN := g_; clear g_) | (go_at_call 21; (with_reducible refine (laws_eqIntS.calls k _ _ t5 _ _ t3 true _ ?side1 ?side2 ?side3 ?side4 A10_.out).mono ?_); (case side1 => exact (Kd.R_reads' (Kd.R_below F5.out (by repeat (first | exact Below.refl _ _ | apply below_alloc | apply pw_below_drewN | apply below_drew1)))).2.2); (case side2 => exact (Kd.R_reads' F5.out).2.1); (case side3 => exact (Kd.R_reads' (Kd.R_below F3.out (by repeat (first | exact Below.refl _ _ | apply below_alloc | apply pw_below_drewN | apply below_drew1)))).2.2); (case side4 => exact (Kd.R_reads' F3.out).2.1); rintro e w' ⟨rfl, ⟨nd, rfl⟩⟩) | ((with_reducible refine gate_callee (f := 23) rfl ?_); refine goesL_ (some 49) rfl rfl Try.func23 (by kernel_rfl) rfl #[.slice Ao5 t5.length co5, .int .i64 1] rfl (by (try simp only [List.map_toArray, List.map_cons, List.map_nil]); first | done | rfl | (simp only [List.length_drop, List.length_take]; rfl)) ?_; (with_reducible refine (laws_markIntS.calls k (fun k_ => n3_ ≤ k_ ∧ k_ < n4_) _ t5 1 t11 u11 w _ ?sideB ?sideO A11_.out).mono ?_); (case sideB => exact below_step HB.out (by repeat (first | exact Below.refl _ _ | apply below_alloc | apply pw_below_drewN | apply below_drew1))); (case sideO => exact Kd.R_below F5.out (by repeat (first | exact Below.refl _ _ | apply below_alloc | apply pw_below_drewN | apply below_drew1))); rintro e w11_ ⟨rfl, hs_, hb_, hk_⟩; refine ⟨_, rfl, ?_⟩; have g_ := Aside0.mk (Kd.R_kept (Kd.R_below F3.out (by repeat (first | exact Below.refl _ _ | apply below_alloc | apply pw_below_drewN | apply below_drew1))) hk_ (fun k_ h1_ h2_ => by obtain ⟨_, _⟩ := h1_; obtain ⟨_, _⟩ := h2_; omega)); clear F3; have F3 := g_; clear g_; have hl_ : t5.length = u11.length := (Kd.R_reads' hs_).1; have g_ := Aside0.mk (show Kd.R (Kd.int .i64) 3 w11_ w.heap.size (fun _ => True) (.slice Ao5 u11.length co5) u11 from hl_ ▸ Kd.R_mono hs_ (fun _ _ => trivial)); clear F5; have F5 := g_; clear g_; (try rw [hl_]); clear hl_ hs_; have g_ := Aside0.mk hb_; clear HB hb_; have HB := g_; clear g_; have g_ := Aside0.mk (Nat.le_trans HN.out (Nat.le_trans (show Below w9_.heap.size w9_ _ from (by repeat (first | exact Below.refl _ _ | apply below_alloc | apply pw_below_drewN | apply below_drew1))).size hk_.1)); clear HN hk_; have HN := g_; clear g_) | ((with_reducible refine gate_callee (f := 24) rfl ?_); refine goesL_ (some 52) rfl rfl Try.func24 (by kernel_rfl) rfl #[.slice Ao5 u11.length co5, .int .i64 1] rfl (by (try simp only [List.map_toArray, List.map_cons, List.map_nil]); first | done | rfl | (simp only [List.length_drop, List.length_take]; rfl)) ?_; (with_reducible refine (laws_heldIntS.calls k _ _ u11 1 t12 _ ?side1 ?side2 A12_.out).mono ?_); (case side1 => exact (Kd.R_reads' (Kd.R_below F5.out (by repeat (first | exact Below.refl _ _ | apply below_alloc | apply pw_below_drewN | apply below_drew1)))).2.2); (case side2 => exact (Kd.R_reads' F5.out).2.1); rintro e w' ⟨rfl, ⟨nd, rfl⟩⟩; refine ⟨_, rfl, ?_⟩) | ((with_reducible refine gate_callee (f := 14) rfl ?_); refine goesL_ (some 59) rfl rfl Try.func14 (by kernel_rfl) rfl #[.slice A0 l0.length c0] rfl (by (try simp only [List.map_toArray, List.map_cons, List.map_nil]); first | done | rfl | (simp only [List.length_drop, List.length_take]; rfl)) ?_; (with_reducible refine (laws_toIntSS.calls k _ _ l0 t13 _ ?side1 ?side2 A13_.out).mono ?_); (case side1 => exact Kd.C_below HR0.out (below_step HB.out (by repeat (first | exact Below.refl _ _ | apply below_alloc | apply pw_below_drewN | apply below_drew1)))); (case side2 => exact HC0.out); rintro e w13_ ⟨v_, rfl, ho_, hb_⟩; refine ⟨_, rfl, ?_⟩; have g_ := Aside0.mk (Kd.R_below (Kd.R_below F3.out (by repeat (first | exact Below.refl _ _ | apply below_alloc | apply pw_below_drewN | apply below_drew1))) hb_); clear F3; have F3 := g_; clear g_; have g_ := Aside0.mk (Kd.R_below (Kd.R_below F5.out (by repeat (first | exact Below.refl _ _ | apply below_alloc | apply pw_below_drewN | apply below_drew1))) hb_); clear F5; have F5 := g_; clear g_; obtain ⟨n6_, hle6_, hN_, hF_⟩ := Kd.madeS (N := n5_) HN.out (by repeat (first | exact Below.refl _ _ | apply below_alloc | apply pw_below_drewN | apply below_drew1)) hb_ HB.out ho_; obtain ⟨Ao13, co13, rfl⟩ := Kd.S_slice ho_; have F13 := Aside0.mk hF_; clear hF_ ho_; have g_ := Aside0.mk hN_; clear HN hN_; have HN := g_; clear g_; have g_ := Aside0.mk (below_step (below_step HB.out (by repeat (first | exact Below.refl _ _ | apply below_alloc | apply pw_below_drewN | apply below_drew1))) hb_); clear HB hb_; have HB := g_; clear g_) | ((with_reducible refine gate_callee (f := 20) rfl ?_); refine goesL_ (some 61) rfl rfl Try.func20 (by kernel_rfl) rfl #[.slice Ao13 t13.length co13, .int .i64 a1] rfl (by (try simp only [List.map_toArray, List.map_cons, List.map_nil]); first | done | rfl | (simp only [List.length_drop, List.length_take]; rfl)) ?_; (with_reducible refine (impl_Unseen.calls k _ _ t13 a1 t14 _ ?side1 ?side2 A14_.out).mono ?_); (case side1 => exact (Kd.S_reads' (Kd.S_below F13.out (by repeat (first | exact Below.refl _ _ | apply below_alloc | apply pw_below_drewN | apply below_drew1)))).2.2); (case side2 => exact (Kd.S_reads' F13.out).2.1); rintro e w14_ ⟨v_, rfl, ho_, hb_⟩; refine ⟨_, rfl, ?_⟩; have g_ := Aside0.mk (Kd.R_below (Kd.R_below F3.out (by repeat (first | exact Below.refl _ _ | apply below_alloc | apply pw_below_drewN | apply below_drew1))) hb_); clear F3; have F3 := g_; clear g_; have g_ := Aside0.mk (Kd.R_below (Kd.R_below F5.out (by repeat (first | exact Below.refl _ _ | apply below_alloc | apply pw_below_drewN | apply below_drew1))) hb_); clear F5; have F5 := g_; clear g_; obtain ⟨n7_, hle7_, hN_, hF_⟩ := Kd.madeR (N := n6_) HN.out (by repeat (first | exact Below.refl _ _ | apply below_alloc | apply pw_below_drewN | apply below_drew1)) hb_ HB.out ho_; obtain ⟨Ao14, co14, rfl⟩ := Kd.R_slice ho_; have F14 := Aside0.mk hF_; clear hF_ ho_; have g_ := Aside0.mk hN_; clear HN hN_; have HN := g_; clear g_; have g_ := Aside0.mk (below_step (below_step HB.out (by repeat (first | exact Below.refl _ _ | apply below_alloc | apply pw_below_drewN | apply below_drew1))) hb_); clear HB hb_; have HB := g_; clear g_) | ((with_reducible refine gate_callee (f := 21) rfl ?_); refine goesL_ (some 64) rfl rfl Try.func21 (by kernel_rfl) rfl #[.slice Ao14 t14.length co14, .slice Ao3 t3.length co3] rfl (by (try simp only [List.map_toArray, List.map_cons, List.map_nil]); first | done | rfl | (simp only [List.length_drop, List.length_take]; rfl)) ?_; (with_reducible refine (laws_eqIntS.calls k _ _ t14 _ _ t3 true _ ?side1 ?side2 ?side3 ?side4 A15_.out).mono ?_); (case side1 => exact (Kd.R_reads' (Kd.R_below F14.out (by repeat (first | exact Below.refl _ _ | apply below_alloc | apply pw_below_drewN | apply below_drew1)))).2.2); (case side2 => exact (Kd.R_reads' F14.out).2.1); (case side3 => exact (Kd.R_reads' (Kd.R_below F3.out (by repeat (first | exact Below.refl _ _ | apply below_alloc | apply pw_below_drewN | apply below_drew1)))).2.2); (case side4 => exact (Kd.R_reads' F3.out).2.1); rintro e w' ⟨rfl, ⟨nd, rfl⟩⟩; refine ⟨_, rfl, ?_⟩) | ((with_reducible refine gate_callee (f := 24) rfl ?_); refine goesL_ (some 68) rfl rfl Try.func24 (by kernel_rfl) rfl #[.slice Ao5 u11.length co5, .int .i64 1] rfl (by (try simp only [List.map_toArray, List.map_cons, List.map_nil]); first | done | rfl | (simp only [List.length_drop, List.length_take]; rfl)) ?_; (with_reducible refine (laws_heldIntS.calls k _ _ u11 1 t16 _ ?side1 ?side2 A16_.out).mono ?_); (case side1 => exact (Kd.R_reads' (Kd.R_below F5.out (by repeat (first | exact Below.refl _ _ | apply below_alloc | apply pw_below_drewN | apply below_drew1)))).2.2); (case side2 => exact (Kd.R_reads' F5.out).2.1); rintro e w' ⟨rfl, ⟨nd, rfl⟩⟩; refine ⟨_, rfl, ?_⟩))
  go_ret
  exact ⟨rfl, below_step HB.out (by repeat (first | exact Below.refl _ _ | apply below_alloc | apply pw_below_drewN | apply below_drew1))⟩

end Go.Proofs.Ytoniljblfenpeaa.PFnExactUnseen
