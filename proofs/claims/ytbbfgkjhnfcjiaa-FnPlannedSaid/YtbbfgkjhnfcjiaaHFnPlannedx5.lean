-- Written by a program of this session out of the translation (wip/gen/hprint.sh). Lean checks it.
import Derived.Test.YtbbfgkjhnfcjiaaHFnPlannedx0
import Derived.Test.YtbbfgkjhnfcjiaaHFnPlannedx3
import Derived.Test.YtbbfgkjhnfcjiaaHFnPlannedx4
namespace Go.Proofs.Ytbbfgkjhnfcjiaa.PFnPlanned
open Go.RowKit Go.Proofs.YtbbfgkjhnfcjiaaW.PrintWords Go.Proofs.YtbbfgkjhnfcjiaaW.PrintLast Go.Proofs.YtbbfgkjhnfcjiaaW.PrintMore
attribute [local go_sem] max2_int min2_int max_two min_two max_three min_three max_four min_four   -- for this text's walks alone
set_option linter.unusedVariables false
set_option linter.unusedSimpArgs false

/-! ### spec_l16Sets: function 51 -/
def spec_l16Sets.l0 : Nat → Int → Int → List (List Int) → Int → Option ((List (List Int)))
  | 0, _, _, _, _ => none
  | k + 1, x0, x1, x5, x6 => if x6 ≤ x0 then (if x6 ≤ x1 then ((spec_SetsOf.f k x0 x6).bind fun t190 => (if x5.length + t190.length < 5864062014805 then (spec_l16Sets.l0 k x0 x1 (x5 ++ t190) (wrap64 (x6 + 1))) else (none))) else (some x5)) else (some x5)
def spec_l16Sets.f (k : Nat) (a0 : Int) (a1 : Int) : Option ((List (List Int))) := spec_l16Sets.l0 k a0 a1 (([] : List (List Int))) 0
theorem spec_l16Sets.mono_l : ∀ k, (∀ y0 y1 y2 y3, LeO (spec_l16Sets.l0 k y0 y1 y2 y3) (spec_l16Sets.l0 (k + 1) y0 y1 y2 y3))
  | 0 => fun _ _ _ _ r h => by simp [spec_l16Sets.l0] at h
  | k + 1 => by
    have ih0 := spec_l16Sets.mono_l k
    · intro y0 y1 y2 y3
      unfold spec_l16Sets.l0
      repeat' first
      | (with_reducible exact ih0 _ _ _ _)
      | (with_reducible exact spec_SetsOf.mono _ _ _)
      | (with_reducible exact LeO.refl _)
      | (with_reducible exact LeO.none _)
      | (with_reducible refine LeO.ite ?_ ?_)
      | (with_reducible refine LeO.bind ?_ (fun _ => ?_))
      | exact ih0 _ _ _ _
      | exact spec_SetsOf.mono _ _ _
      | exact LeO.none _
      | refine LeO.ite ?_ ?_
      | refine LeO.bind ?_ (fun _ => ?_)
theorem spec_l16Sets.mono : ∀ a0 a1 k, LeO (spec_l16Sets.f k a0 a1) (spec_l16Sets.f (k + 1) a0 a1) := by
  intro a0 a1 k
  have ih0 := spec_l16Sets.mono_l k
  unfold spec_l16Sets.f
  repeat' first
      | (with_reducible exact ih0 _ _ _ _)
      | (with_reducible exact spec_SetsOf.mono _ _ _)
      | (with_reducible exact LeO.refl _)
      | (with_reducible exact LeO.none _)
      | (with_reducible refine LeO.ite ?_ ?_)
      | (with_reducible refine LeO.bind ?_ (fun _ => ?_))
      | exact ih0 _ _ _ _
      | exact spec_SetsOf.mono _ _ _
      | exact LeO.none _
      | refine LeO.ite ?_ ?_
      | refine LeO.bind ?_ (fun _ => ?_)
set_option maxHeartbeats 8000000 in
set_option maxRecDepth 100000 in
theorem spec_l16Sets.calls (k : Nat) (a0 : Int) (a1 : Int) (r : List (List Int)) (w : World) (h : spec_l16Sets.f k a0 a1 = some r) :
    Calls Try.prog 51 #[.int .i64 a0, .int .i64 a1] w fun e w' => ∃ v0_ : Value, e = .returned (v0_) ∧ Kd.N (Kd.slice 3 (Kd.int .i64)) 23 w' w.heap.size (fun k_ => (w.heap.size ≤ k_)) v0_ r ∧ Below w.heap.size w w' := by
  have HB := Aside0.mk (Below.refl w.heap.size w)
  have H : (spec_l16Sets.l0 k a0 a1 (([] : List (List Int))) 0) = some r := h
  clear h
  obtain ⟨y187, hy187⟩ : ∃ y_ : List (List Int), y_ = (([] : List (List Int))) := ⟨_, rfl⟩
  replace H : (spec_l16Sets.l0 k a0 a1 y187 0) = some r := by first | (rw [hy187]; with_reducible exact H) | (have H2_ := (Option.bind_some _ _).symm.trans H; rw [hy187]; with_reducible exact H2_) | (have H2_ := (Option.bind_some _ _).symm.trans H; with_reducible exact H2_) | with_reducible exact H | (rw [hy187]; exact H) | exact H
  have Ny187 := Aside0.mk hy187
  clear hy187
  have H' := Aside0.mk H
  clear H
  go_enter Try.func51, Try.ntmps51
  go_wp2_with (first | ((with_reducible refine gate_dst (N := 7) rfl ?_); refine Kd.N_lit (Kd.slice 3 (Kd.int .i64)) _ 23 ?hg (N' := 7) ?hd (xs := ([] : List (List Int))) (inner := []) (ok := (fun k_ => (w.heap.size ≤ k_))) (okp := (fun k_ => (w.heap.size ≤ k_))) ?hr ?hp (fun _ hk => hk) ((show ∀ k_, w.heap.size ≤ k_ → (fun k_ => (w.heap.size ≤ k_)) k_ from fun k_ hk => (Nat.le_trans (below_size (by repeat (first | (with_reducible first | exact HB.out | apply below_alloc | apply pw_below_drewN | apply below_drew1) | exact HB.out))) hk)) _ (Nat.le_refl _)) (Below.refl _ _) (Nat.le_refl _) (by simp) ?_; (case hd => rfl); (case hg => rfl); (case hr => first | (go_simp; done) | (go_simp; rfl)); (case hp => exact (Reps.none _ _)); intro v188 w3 ho4 hb hg_ hnew_; clear hg_ hnew_; (first | rw [← Ny187.out] at ho4 | (simp only [Int.reduceToNat] at ho4; rw [← Ny187.out] at ho4)); have n0_ := Aside0.mk (Kd.N_lower ho4 (below_size (by repeat (first | (with_reducible first | exact HB.out | apply below_alloc | apply pw_below_drewN | apply below_drew1) | exact HB.out)))); have n1_ := Aside0.mk (below_step (by repeat (first | (with_reducible first | exact HB.out | apply below_alloc | apply pw_below_drewN | apply below_drew1) | exact HB.out)) hb); clear HB; have HO189 := n0_; have HB := n1_; clear n0_ n1_; clear hb ho4))
  go_loopg [5, 6] k (fun kq v5 v6 w' => ∃ (x5_1 : List (List Int)) (x6_1 : Int), v6 = .int .i64 x6_1 ∧ Aside0 (spec_l16Sets.l0 kq a0 a1 x5_1 x6_1 = some r) ∧ Aside0 (kq ≤ k) ∧ Aside0 (Kd.N (Kd.slice 3 (Kd.int .i64)) 23 w' w.heap.size (fun k_ => (w.heap.size ≤ k_)) v5 x5_1) ∧ Aside0 (Below w.heap.size w w'))
  case atStart => exact ⟨(y187), (0), (by first | rfl | (simp; done) | (simp [*]; done)), H', ⟨Nat.le_refl _⟩, ⟨by (with_reducible repeat (first | apply Kd.N_alloc | apply Kd.N_drewN | apply Kd.N_drew)); exact HO189.out⟩, ⟨by repeat (first | (with_reducible first | exact HB.out | apply below_alloc | apply pw_below_drewN | apply below_drew1) | exact HB.out)⟩⟩
  case round =>
    clear H'
    try clear p2
    obtain ⟨x5_1, x6_1, rfl, HA, HK1, HO_5, HB⟩ := hrel
    cases gk with
    | zero => exact absurd HA.out (by simp [spec_l16Sets.l0])
    | succ k1 =>
      have H := HA.out
      clear HA
      simp only [spec_l16Sets.l0] at H
      by_cases c5 : x6_1 ≤ a0
      · rw [if_pos c5] at H
        have c5b0 : decide (x6_1 ≤ a0) = true := decide_eq_true c5
        clear c5
        by_cases c6 : x6_1 ≤ a1
        · rw [if_pos c6] at H
          have c6b0 : decide (x6_1 ≤ a1) = true := decide_eq_true c6
          clear c6
          replace H := Option.bind_eq_some_iff.mp H
          obtain ⟨t190, A70, H⟩ := H
          replace H : (if x5_1.length + t190.length < 5864062014805 then (spec_l16Sets.l0 k1 a0 a1 (x5_1 ++ t190) (wrap64 (x6_1 + 1))) else (none)) = some r := H
          have A7 := Aside0.mk A70
          clear A70
          by_cases c8 : x5_1.length + t190.length < 5864062014805
          · rw [if_pos c8] at H
            have LMc8 := Aside0.mk c8
            clear c8
            obtain ⟨y193, hy193⟩ : ∃ y_ : List (List Int), y_ = (x5_1 ++ t190) := ⟨_, rfl⟩
            replace H : (spec_l16Sets.l0 k1 a0 a1 y193 (wrap64 (x6_1 + 1))) = some r := by first | (rw [hy193]; with_reducible exact H) | (have H2_ := (Option.bind_some _ _).symm.trans H; rw [hy193]; with_reducible exact H2_) | (have H2_ := (Option.bind_some _ _).symm.trans H; with_reducible exact H2_) | with_reducible exact H | (rw [hy193]; exact H) | exact H
            have Ny193 := Aside0.mk hy193
            clear hy193
            have H' := Aside0.mk H
            clear H
            go_wp2_with (first | ((with_reducible refine gate_callee (f := 54) rfl ?_); refine goesL_ (some 21) rfl rfl Try.func54 (by kernel_rfl) rfl #[.int .i64 a0, .int .i64 x6_1] rfl (by (try simp only [List.map_toArray, List.map_cons, List.map_nil]); first | done | rfl | (simp only [List.length_drop, List.length_take]; rfl)) ?_; (with_reducible refine (spec_SetsOf.calls k1 a0 x6_1 t190 _ A7.out).mono ?_); rintro e w9 ⟨v191, rfl, ho0, hb⟩; refine ⟨_, rfl, ?_⟩; have n0_ := Aside0.mk (Kd.N_elder' (by (with_reducible repeat (first | apply Kd.N_alloc | apply Kd.N_drewN | apply Kd.N_drew)); exact HO_5.out) (by first | exact Kd.N_base ho0 | exact Kd.N_base (Kd.S_N ho0)) hb); have n1_ := Aside0.mk (Kd.N_lower (Kd.N_mono (ok' := fun k_ => (w.heap.size ≤ k_) ∧ some k_ ≠ (u5 : Value).ownBlock) (Kd.S_N (Kd.S_bound ho0)) (fun k_ hk_ => ⟨(Nat.le_trans (below_size (by repeat (first | (with_reducible first | exact HB.out | apply below_alloc | apply pw_below_drewN | apply below_drew1) | exact HB.out))) hk_.2.1), (Kd.fresh' (Kd.N_lt (by (with_reducible repeat (first | apply Kd.N_alloc | apply Kd.N_drewN | apply Kd.N_drew)); exact HO_5.out)) k_ hk_.2.1)⟩)) (below_size (by repeat (first | (with_reducible first | exact HB.out | apply below_alloc | apply pw_below_drewN | apply below_drew1) | exact HB.out)))); have n2_ := Aside0.mk (below_step (by repeat (first | (with_reducible first | exact HB.out | apply below_alloc | apply pw_below_drewN | apply below_drew1) | exact HB.out)) hb); clear HO_5; clear HB; have HO_5 := n0_; have HO192 := n1_; have HB := n2_; clear n0_ n1_ n2_; (try clear hb); (try clear hb2); (try clear hk); (try clear hi); (try clear ho0); obtain ⟨Ao11, co11, eo11⟩ := Kd.N_slice HO192.out; subst eo11) | ((with_reducible refine gate_builtin (b := .append) (xs := #[.tmp 18, .tmp 21]) rfl ?_); at_builtin; refine Kd.N_append_rows (Kd.slice 3 (Kd.int .i64)) (w0 := w) w.heap.size rfl (.tmp 18) (.tmp 21) 22 23 (.slice none 0 0) 24 rfl Try.underlying22 info23 rfl (by decide) (by omega) u5 x5_1 t190 _ _ _ (fun k_ => (w.heap.size ≤ k_)) (fun k_ => ((fun k_ => (w.heap.size ≤ k_))) k_ ∧ some k_ ≠ (u5 : Value).ownBlock) rfl rfl ?aO ?aR (fun _ hk => hk) ?aF ?aB ?aS ?aL ?_; (case aR => exact (by skip; exact Kd.N_F (Kd.N_mono (ok' := (fun k_ => ((fun k_ => (w.heap.size ≤ k_))) k_ ∧ some k_ ≠ (u5 : Value).ownBlock)) (HO192.out) (fun k_ hk => ⟨hk.1, hk.2⟩)))); (case aB => exact (by repeat (first | (with_reducible first | exact HB.out | apply below_alloc | apply pw_below_drewN | apply below_drew1) | exact HB.out))); (case aF => exact (fun k_ hk => (Nat.le_trans (below_size (by repeat (first | (with_reducible first | exact HB.out | apply below_alloc | apply pw_below_drewN | apply below_drew1) | exact HB.out))) hk))); (case aO => exact (by (with_reducible repeat (first | apply Kd.N_alloc | apply Kd.N_drewN | apply Kd.N_drew)); exact Kd.N_mono HO_5.out (fun _ hk => hk.1))); (case aS => exact (below_size (by repeat (first | (with_reducible first | exact HB.out | apply below_alloc | apply pw_below_drewN | apply below_drew1) | exact HB.out)))); (case aL => have := LMc8.out; omega); intro v194 w10 ho hb hg hat; rw [← Ny193.out] at ho; have n0_ := Aside0.mk (Kd.N_afterv (ok := (fun k_ => (w.heap.size ≤ k_))) (by (with_reducible repeat (first | apply Kd.N_alloc | apply Kd.N_drewN | apply Kd.N_drew)); exact HO192.out) hg hat); have n1_ := Aside0.mk (hb); have n2_ := Aside0.mk (ho); clear HO192; clear HB; clear HO_5; have HO192 := n0_; have HB := n1_; have HO195 := n2_; clear n0_ n1_ n2_; clear ho hb hg hat))
            go_roundg k1
            case measure => have := HK1.out; omega
            case rel => exact ⟨(y193), (wrap64 (x6_1 + 1)), (by first | rfl | (simp; done) | (simp [*]; done)), H', ⟨by have := HK1.out; omega⟩, ⟨by (with_reducible repeat (first | apply Kd.N_alloc | apply Kd.N_drewN | apply Kd.N_drew)); exact HO195.out⟩, ⟨by repeat (first | (with_reducible first | exact HB.out | apply below_alloc | apply pw_below_drewN | apply below_drew1) | exact HB.out)⟩⟩
          · rw [if_neg c8] at H
            exact absurd H (by simp)
        · rw [if_neg c6] at H
          have c6b0 : decide (x6_1 ≤ a1) = false := decide_eq_false c6
          clear c6
          obtain rfl := Option.some.inj H
          go_wp2
          go_ret
          exact ⟨_, by first | rfl | (simp [errW_none, errW_some] <;> rfl) | (simp [*, errW_none, errW_some] <;> rfl), by (with_reducible repeat (first | apply Kd.N_alloc | apply Kd.N_drewN | apply Kd.N_drew)); exact HO_5.out, by repeat (first | (with_reducible first | exact HB.out | apply below_alloc | apply pw_below_drewN | apply below_drew1) | exact HB.out)⟩
      · rw [if_neg c5] at H
        have c5b0 : decide (x6_1 ≤ a0) = false := decide_eq_false c5
        clear c5
        obtain rfl := Option.some.inj H
        go_wp2
        go_ret
        exact ⟨_, by first | rfl | (simp [errW_none, errW_some] <;> rfl) | (simp [*, errW_none, errW_some] <;> rfl), by (with_reducible repeat (first | apply Kd.N_alloc | apply Kd.N_drewN | apply Kd.N_drew)); exact HO_5.out, by repeat (first | (with_reducible first | exact HB.out | apply below_alloc | apply pw_below_drewN | apply below_drew1) | exact HB.out)⟩

/-! ### spec_l17Draw: function 42 -/
def spec_l17Draw.f (k : Nat) (s0_0 : List Int) (s0_1 : Int) (s0_2 : Int) : Option ((List (List Int)) × (List (List Int)) × Int × Int) := (spec_l1Below.f s0_0 s0_1 s0_2 4).bind fun bt196 => ((spec_l1Below.f s0_0 bt196.2.1 bt196.2.2 5).bind fun bt199 => ((spec_l5Bits.f k s0_0 bt199.2.1 bt199.2.2 (wrap64 (1 + bt199.1)) (wrap64 (2 + bt196.1))).bind fun bt202 => ((spec_l1Below.f s0_0 bt202.2.1 bt202.2.2 2).bind fun bt207 => ((spec_l16Sets.f k (wrap64 (2 + bt196.1)) (wrap64 (1 + bt207.1))).bind fun t210 => (some (t210, bt202.1, bt207.2.1, bt207.2.2))))))
theorem spec_l17Draw.mono : ∀ a0 a1 a2 k, LeO (spec_l17Draw.f k a0 a1 a2) (spec_l17Draw.f (k + 1) a0 a1 a2) := by
  intro a0 a1 a2 k
  unfold spec_l17Draw.f
  repeat' first
      | (with_reducible exact spec_l16Sets.mono _ _ _)
      | (with_reducible exact spec_l5Bits.mono _ _ _ _ _ _)
      | (with_reducible exact LeO.refl _)
      | (with_reducible exact LeO.none _)
      | (with_reducible refine LeO.ite ?_ ?_)
      | (with_reducible refine LeO.bind ?_ (fun _ => ?_))
      | exact spec_l16Sets.mono _ _ _
      | exact spec_l5Bits.mono _ _ _ _ _ _
      | exact LeO.none _
      | refine LeO.ite ?_ ?_
      | refine LeO.bind ?_ (fun _ => ?_)
set_option maxHeartbeats 8000000 in
set_option maxRecDepth 100000 in
theorem spec_l17Draw.calls (k : Nat) (g : Nat) (s0_0 : List Int) (s0_1 : Int) (s0_2 : Int) (r1 : List (List Int)) (r2 : List (List Int)) (r3 : Int) (r4 : Int) (w0 w : World) (hI : IsS58 w0 w g s0_0 s0_1 s0_2) (hB : Below w0.heap.size w0 w) (h : spec_l17Draw.f k s0_0 s0_1 s0_2 = some (r1, r2, r3, r4)) :
    Calls Try.prog 42 #[.pointer (some ⟨g, 0, none⟩)] w fun e w' => ∃ v0_ v1_ : Value, e = .returned (.tuple #[v0_, v1_]) ∧ Kd.N (Kd.slice 3 (Kd.int .i64)) 23 w' w.heap.size (fun k_ => (w.heap.size ≤ k_) ∧ some k_ ≠ (v1_ : Value).ownBlock) v0_ r1 ∧ Kd.N (Kd.slice 3 (Kd.int .i64)) 23 w' w.heap.size (fun k_ => (w.heap.size ≤ k_) ∧ some k_ ≠ (v0_ : Value).ownBlock) v1_ r2 ∧ IsS58 w0 w' g s0_0 r3 r4 ∧ Below w0.heap.size w0 w' ∧ KeepBut w w' g none := by
  have HI0 := Aside0.mk hI
  have HK := Aside0.mk (KeepBut.refl w g none)
  have HL := Aside0.mk hB.size
  clear hI
  have HW0 := Aside0.mk hB.size
  have HB := Aside0.mk hB
  clear hB
  have H : ((spec_l1Below.f s0_0 s0_1 s0_2 4).bind fun bt196 => ((spec_l1Below.f s0_0 bt196.2.1 bt196.2.2 5).bind fun bt199 => ((spec_l5Bits.f k s0_0 bt199.2.1 bt199.2.2 (wrap64 (1 + bt199.1)) (wrap64 (2 + bt196.1))).bind fun bt202 => ((spec_l1Below.f s0_0 bt202.2.1 bt202.2.2 2).bind fun bt207 => ((spec_l16Sets.f k (wrap64 (2 + bt196.1)) (wrap64 (1 + bt207.1))).bind fun t210 => (some (t210, bt202.1, bt207.2.1, bt207.2.2))))))) = some (r1, r2, r3, r4) := h
  clear h
  replace H := Option.bind_eq_some_iff.mp H
  obtain ⟨⟨t196, t197, t198⟩, A20, H⟩ := H
  replace H : ((spec_l1Below.f s0_0 t197 t198 5).bind fun bt199 => ((spec_l5Bits.f k s0_0 bt199.2.1 bt199.2.2 (wrap64 (1 + bt199.1)) (wrap64 (2 + t196))).bind fun bt202 => ((spec_l1Below.f s0_0 bt202.2.1 bt202.2.2 2).bind fun bt207 => ((spec_l16Sets.f k (wrap64 (2 + t196)) (wrap64 (1 + bt207.1))).bind fun t210 => (some (t210, bt202.1, bt207.2.1, bt207.2.2)))))) = some (r1, r2, r3, r4) := H
  have A2 := Aside0.mk A20
  clear A20
  replace H := Option.bind_eq_some_iff.mp H
  obtain ⟨⟨t199, t200, t201⟩, A30, H⟩ := H
  replace H : ((spec_l5Bits.f k s0_0 t200 t201 (wrap64 (1 + t199)) (wrap64 (2 + t196))).bind fun bt202 => ((spec_l1Below.f s0_0 bt202.2.1 bt202.2.2 2).bind fun bt207 => ((spec_l16Sets.f k (wrap64 (2 + t196)) (wrap64 (1 + bt207.1))).bind fun t210 => (some (t210, bt202.1, bt207.2.1, bt207.2.2))))) = some (r1, r2, r3, r4) := H
  have A3 := Aside0.mk A30
  clear A30
  replace H := Option.bind_eq_some_iff.mp H
  obtain ⟨⟨t202, t205, t206⟩, A40, H⟩ := H
  replace H : ((spec_l1Below.f s0_0 t205 t206 2).bind fun bt207 => ((spec_l16Sets.f k (wrap64 (2 + t196)) (wrap64 (1 + bt207.1))).bind fun t210 => (some (t210, t202, bt207.2.1, bt207.2.2)))) = some (r1, r2, r3, r4) := H
  have A4 := Aside0.mk A40
  clear A40
  replace H := Option.bind_eq_some_iff.mp H
  obtain ⟨⟨t207, t208, t209⟩, A50, H⟩ := H
  replace H : ((spec_l16Sets.f k (wrap64 (2 + t196)) (wrap64 (1 + t207))).bind fun t210 => (some (t210, t202, t208, t209))) = some (r1, r2, r3, r4) := H
  have A5 := Aside0.mk A50
  clear A50
  replace H := Option.bind_eq_some_iff.mp H
  obtain ⟨t210, A60, H⟩ := H
  replace H : (some (t210, t202, t208, t209)) = some (r1, r2, r3, r4) := H
  have A6 := Aside0.mk A60
  clear A60
  simp only [Option.some.injEq, Prod.mk.injEq] at H
  obtain ⟨rfl, rfl, rfl, rfl⟩ := H
  go_enter Try.func42, Try.ntmps42
  go_wp2_with (first | ((with_reducible refine gate_callee (f := 49) rfl ?_); refine goesL_ (some 7) rfl rfl Try.func49 (by kernel_rfl) rfl #[.pointer (some ⟨g, 0, none⟩), .int .i64 4] rfl (by (try simp only [List.map_toArray, List.map_cons, List.map_nil]); first | done | rfl | (simp only [List.length_drop, List.length_take]; rfl)) ?_; (with_reducible refine (spec_l1Below.calls g s0_0 s0_1 s0_2 4 t196 t197 t198 w0 _ ?side1 ?side2 A2.out).mono ?_); (case side1 => repeat (first | (with_reducible first | exact HI0.out | apply IsS58.alloc | apply IsS58.drewN | apply IsS58.drew | apply IsS58.set_1 | apply IsS58.set_2) | exact HI0.out)); (case side2 => repeat (first | (with_reducible first | exact HB.out | apply below_alloc | apply pw_below_drewN | apply below_drew1 | refine below_set ?_ (IsS58.ge HI0.out)) | exact HB.out)); rintro e w7 ⟨rfl, hi, hb, hk⟩; refine ⟨_, rfl, ?_⟩; have n0_ := Aside0.mk (KeepBut.trans (by repeat (first | (with_reducible first | exact HK.out | apply KeepBut.set_ | apply keep_drewN | apply keep_drew | apply keep_alloc) | exact HK.out)) hk (.inl rfl)); have n1_ := Aside0.mk (hb); have n2_ := Aside0.mk (hi); clear HK; clear HB; clear HI0; have HK := n0_; have HB := n1_; have HI0 := n2_; clear n0_ n1_ n2_; (try clear hb); (try clear hb2); (try clear hk); (try clear hi)) | ((with_reducible refine gate_callee (f := 49) rfl ?_); refine goesL_ (some 11) rfl rfl Try.func49 (by kernel_rfl) rfl #[.pointer (some ⟨g, 0, none⟩), .int .i64 5] rfl (by (try simp only [List.map_toArray, List.map_cons, List.map_nil]); first | done | rfl | (simp only [List.length_drop, List.length_take]; rfl)) ?_; (with_reducible refine (spec_l1Below.calls g s0_0 t197 t198 5 t199 t200 t201 w0 _ ?side1 ?side2 A3.out).mono ?_); (case side1 => repeat (first | (with_reducible first | exact HI0.out | apply IsS58.alloc | apply IsS58.drewN | apply IsS58.drew | apply IsS58.set_1 | apply IsS58.set_2) | exact HI0.out)); (case side2 => repeat (first | (with_reducible first | exact HB.out | apply below_alloc | apply pw_below_drewN | apply below_drew1 | refine below_set ?_ (IsS58.ge HI0.out)) | exact HB.out)); rintro e w8 ⟨rfl, hi, hb, hk⟩; refine ⟨_, rfl, ?_⟩; have n0_ := Aside0.mk (KeepBut.trans (by repeat (first | (with_reducible first | exact HK.out | apply KeepBut.set_ | apply keep_drewN | apply keep_drew | apply keep_alloc) | exact HK.out)) hk (.inl rfl)); have n1_ := Aside0.mk (hb); have n2_ := Aside0.mk (hi); clear HK; clear HB; clear HI0; have HK := n0_; have HB := n1_; have HI0 := n2_; clear n0_ n1_ n2_; (try clear hb); (try clear hb2); (try clear hk); (try clear hi)) | ((with_reducible refine gate_callee (f := 50) rfl ?_); refine goesL_ (some 14) rfl rfl Try.func50 (by kernel_rfl) rfl #[.pointer (some ⟨g, 0, none⟩), .int .i64 (wrap64 (1 + t199)), .int .i64 (wrap64 (2 + t196))] rfl (by (try simp only [List.map_toArray, List.map_cons, List.map_nil]); first | done | rfl | (simp only [List.length_drop, List.length_take]; rfl)) ?_; (with_reducible refine (spec_l5Bits.calls k g s0_0 t200 t201 (wrap64 (1 + t199)) (wrap64 (2 + t196)) t202 t205 t206 w0 _ ?side1 ?side2 A4.out).mono ?_); (case side1 => repeat (first | (with_reducible first | exact HI0.out | apply IsS58.alloc | apply IsS58.drewN | apply IsS58.drew | apply IsS58.set_1 | apply IsS58.set_2) | exact HI0.out)); (case side2 => repeat (first | (with_reducible first | exact HB.out | apply below_alloc | apply pw_below_drewN | apply below_drew1 | refine below_set ?_ (IsS58.ge HI0.out)) | exact HB.out)); rintro e w9 ⟨v203, rfl, ho0, hi, hb, hk⟩; refine ⟨_, rfl, ?_⟩; have n0_ := Aside0.mk (Kd.N_lower (Kd.N_mono (ok' := fun k_ => (w.heap.size ≤ k_) ∧ k_ ≠ g) (Kd.S_N (Kd.S_bound ho0)) (fun k_ hk_ => ⟨(Nat.le_trans (keep_size (w := w) (g := g) (row := none) (by repeat (first | (with_reducible first | exact HK.out | apply KeepBut.set_ | apply keep_drewN | apply keep_drew | apply keep_alloc) | exact HK.out))) hk_.2.1), (IsS58.fresh (by repeat (first | (with_reducible first | exact HI0.out | apply IsS58.alloc | apply IsS58.drewN | apply IsS58.drew | apply IsS58.set_1 | apply IsS58.set_2) | exact HI0.out)) k_ hk_.2.1)⟩)) (keep_size (w := w) (g := g) (row := none) (by repeat (first | (with_reducible first | exact HK.out | apply KeepBut.set_ | apply keep_drewN | apply keep_drew | apply keep_alloc) | exact HK.out)))); have n1_ := Aside0.mk (KeepBut.trans (by repeat (first | (with_reducible first | exact HK.out | apply KeepBut.set_ | apply keep_drewN | apply keep_drew | apply keep_alloc) | exact HK.out)) hk (.inl rfl)); have n2_ := Aside0.mk (hb); have n3_ := Aside0.mk (hi); clear HK; clear HB; clear HI0; have HO204 := n0_; have HK := n1_; have HB := n2_; have HI0 := n3_; clear n0_ n1_ n2_ n3_; (try clear hb); (try clear hb2); (try clear hk); (try clear hi); (try clear ho0)) | ((with_reducible refine gate_callee (f := 49) rfl ?_); refine goesL_ (some 17) rfl rfl Try.func49 (by kernel_rfl) rfl #[.pointer (some ⟨g, 0, none⟩), .int .i64 2] rfl (by (try simp only [List.map_toArray, List.map_cons, List.map_nil]); first | done | rfl | (simp only [List.length_drop, List.length_take]; rfl)) ?_; (with_reducible refine (spec_l1Below.calls g s0_0 t205 t206 2 t207 t208 t209 w0 _ ?side1 ?side2 A5.out).mono ?_); (case side1 => repeat (first | (with_reducible first | exact HI0.out | apply IsS58.alloc | apply IsS58.drewN | apply IsS58.drew | apply IsS58.set_1 | apply IsS58.set_2) | exact HI0.out)); (case side2 => repeat (first | (with_reducible first | exact HB.out | apply below_alloc | apply pw_below_drewN | apply below_drew1 | refine below_set ?_ (IsS58.ge HI0.out)) | exact HB.out)); rintro e w10 ⟨rfl, hi, hb, hk⟩; refine ⟨_, rfl, ?_⟩; have n0_ := Aside0.mk (Kd.N_mono (Kd.N_keep (Kd.N_mono (ok := fun k_ => (((w.heap.size ≤ k_)) ∧ k_ ≠ g)) (by (with_reducible repeat (first | apply Kd.N_alloc | apply Kd.N_drewN | apply Kd.N_drew)); exact HO204.out) (fun k_ hk_ => (⟨hk_, hk_.2⟩ : _ ∧ k_ ≠ g))) hk (fun _ h => h.2)) (fun _ h => h.1)); have n1_ := Aside0.mk (KeepBut.trans (by repeat (first | (with_reducible first | exact HK.out | apply KeepBut.set_ | apply keep_drewN | apply keep_drew | apply keep_alloc) | exact HK.out)) hk (.inl rfl)); have n2_ := Aside0.mk (hb); have n3_ := Aside0.mk (hi); clear HO204; clear HK; clear HB; clear HI0; have HO204 := n0_; have HK := n1_; have HB := n2_; have HI0 := n3_; clear n0_ n1_ n2_ n3_; (try clear hb); (try clear hb2); (try clear hk); (try clear hi)) | ((with_reducible refine gate_callee (f := 51) rfl ?_); refine goesL_ (some 19) rfl rfl Try.func51 (by kernel_rfl) rfl #[.int .i64 (wrap64 (2 + t196)), .int .i64 (wrap64 (1 + t207))] rfl (by (try simp only [List.map_toArray, List.map_cons, List.map_nil]); first | done | rfl | (simp only [List.length_drop, List.length_take]; rfl)) ?_; (with_reducible refine (spec_l16Sets.calls k (wrap64 (2 + t196)) (wrap64 (1 + t207)) t210 _ A6.out).mono ?_); rintro e w11 ⟨v211, rfl, ho0, hb⟩; refine ⟨_, rfl, ?_⟩; have n0_ := Aside0.mk (Kd.N_elder' (by (with_reducible repeat (first | apply Kd.N_alloc | apply Kd.N_drewN | apply Kd.N_drew)); exact HO204.out) (by first | exact Kd.N_base ho0 | exact Kd.N_base (Kd.S_N ho0)) hb); have n1_ := Aside0.mk (Kd.N_lower (Kd.N_mono (ok' := fun k_ => (w.heap.size ≤ k_) ∧ some k_ ≠ (v203 : Value).ownBlock ∧ k_ ≠ g) ho0 (fun k_ hk_ => ⟨(Nat.le_trans (keep_size (w := w) (g := g) (row := none) (by repeat (first | (with_reducible first | exact HK.out | apply KeepBut.set_ | apply keep_drewN | apply keep_drew | apply keep_alloc) | exact HK.out))) hk_), (Kd.fresh' (Kd.N_lt (by (with_reducible repeat (first | apply Kd.N_alloc | apply Kd.N_drewN | apply Kd.N_drew)); exact HO204.out)) k_ hk_), (IsS58.fresh (by repeat (first | (with_reducible first | exact HI0.out | apply IsS58.alloc | apply IsS58.drewN | apply IsS58.drew | apply IsS58.set_1 | apply IsS58.set_2) | exact HI0.out)) k_ hk_)⟩)) (keep_size (w := w) (g := g) (row := none) (by repeat (first | (with_reducible first | exact HK.out | apply KeepBut.set_ | apply keep_drewN | apply keep_drew | apply keep_alloc) | exact HK.out)))); have n2_ := Aside0.mk (IsS58.below (by repeat (first | (with_reducible first | exact HI0.out | apply IsS58.alloc | apply IsS58.drewN | apply IsS58.drew | apply IsS58.set_1 | apply IsS58.set_2) | exact HI0.out)) hb); have n3_ := Aside0.mk (KeepBut.trans (by repeat (first | (with_reducible first | exact HK.out | apply KeepBut.set_ | apply keep_drewN | apply keep_drew | apply keep_alloc) | exact HK.out)) (KeepBut.of_below hb g none) (.inl rfl)); have n4_ := Aside0.mk (below_step (by repeat (first | (with_reducible first | exact HB.out | apply below_alloc | apply pw_below_drewN | apply below_drew1 | refine below_set ?_ (IsS58.ge HI0.out)) | exact HB.out)) hb); clear HO204; clear HI0; clear HK; clear HB; have HO204 := n0_; have HO212 := n1_; have HI0 := n2_; have HK := n3_; have HB := n4_; clear n0_ n1_ n2_ n3_ n4_; (try clear hb); (try clear hb2); (try clear hk); (try clear hi); (try clear ho0)))
  go_ret2
  exact ⟨_, _, by first | rfl | (simp [errW_none, errW_some] <;> rfl) | (simp [*, errW_none, errW_some] <;> rfl), by (with_reducible repeat (first | apply Kd.N_alloc | apply Kd.N_drewN | apply Kd.N_drew)); exact Kd.N_mono HO212.out (fun _ hk => ⟨hk.1, hk.2.1⟩), by (with_reducible repeat (first | apply Kd.N_alloc | apply Kd.N_drewN | apply Kd.N_drew)); exact Kd.N_mono HO204.out (fun _ hk => ⟨hk.1.1, hk.2⟩), by repeat (first | (with_reducible first | exact HI0.out | apply IsS58.alloc | apply IsS58.drewN | apply IsS58.drew | apply IsS58.set_1 | apply IsS58.set_2) | exact HI0.out), by repeat (first | (with_reducible first | exact HB.out | apply below_alloc | apply pw_below_drewN | apply below_drew1 | refine below_set ?_ (IsS58.ge HI0.out)) | exact HB.out), by repeat (first | (with_reducible first | exact HK.out | apply KeepBut.set_ | apply keep_drewN | apply keep_drew | apply keep_alloc) | exact HK.out)⟩

/-! ### spec_l1Once: function 43 -/
def spec_l1Once.f (s0_0 : List Int) (s0_1 : Int) (s0_2 : Int) (a1 : Int) : Option (Bool × Int × Int) := (spec_l1Below.f s0_0 s0_1 s0_2 a1).bind fun bt213 => (some ((bt213.1 == 0), bt213.2.1, bt213.2.2))
set_option maxHeartbeats 8000000 in
set_option maxRecDepth 100000 in
theorem spec_l1Once.calls (g : Nat) (s0_0 : List Int) (s0_1 : Int) (s0_2 : Int) (a1 : Int) (r1 : Bool) (r2 : Int) (r3 : Int) (w0 w : World) (hI : IsS58 w0 w g s0_0 s0_1 s0_2) (hB : Below w0.heap.size w0 w) (h : spec_l1Once.f s0_0 s0_1 s0_2 a1 = some (r1, r2, r3)) :
    Calls Try.prog 43 #[.pointer (some ⟨g, 0, none⟩), .int .i64 a1] w fun e w' => e = .returned (.bool r1) ∧ IsS58 w0 w' g s0_0 r2 r3 ∧ Below w0.heap.size w0 w' ∧ KeepBut w w' g none := by
  have HI0 := Aside0.mk hI
  have HK := Aside0.mk (KeepBut.refl w g none)
  have HL := Aside0.mk hB.size
  clear hI
  have HW0 := Aside0.mk hB.size
  have HB := Aside0.mk hB
  clear hB
  have H : ((spec_l1Below.f s0_0 s0_1 s0_2 a1).bind fun bt213 => (some ((bt213.1 == 0), bt213.2.1, bt213.2.2))) = some (r1, r2, r3) := h
  clear h
  replace H := Option.bind_eq_some_iff.mp H
  obtain ⟨⟨t213, t214, t215⟩, A30, H⟩ := H
  replace H : (some ((t213 == 0), t214, t215)) = some (r1, r2, r3) := H
  have A3 := Aside0.mk A30
  clear A30
  simp only [Option.some.injEq, Prod.mk.injEq] at H
  obtain ⟨rfl, rfl, rfl⟩ := H
  go_enter Try.func43, Try.ntmps43
  go_wp2_with (first | ((with_reducible refine gate_callee (f := 49) rfl ?_); refine goesL_ (some 7) rfl rfl Try.func49 (by kernel_rfl) rfl #[.pointer (some ⟨g, 0, none⟩), .int .i64 a1] rfl (by (try simp only [List.map_toArray, List.map_cons, List.map_nil]); first | done | rfl | (simp only [List.length_drop, List.length_take]; rfl)) ?_; (with_reducible refine (spec_l1Below.calls g s0_0 s0_1 s0_2 a1 t213 t214 t215 w0 _ ?side1 ?side2 A3.out).mono ?_); (case side1 => repeat (first | (with_reducible first | exact HI0.out | apply IsS58.alloc | apply IsS58.drewN | apply IsS58.drew | apply IsS58.set_1 | apply IsS58.set_2) | exact HI0.out)); (case side2 => repeat (first | (with_reducible first | exact HB.out | apply below_alloc | apply pw_below_drewN | apply below_drew1 | refine below_set ?_ (IsS58.ge HI0.out)) | exact HB.out)); rintro e w4 ⟨rfl, hi, hb, hk⟩; refine ⟨_, rfl, ?_⟩; have n0_ := Aside0.mk (KeepBut.trans (by repeat (first | (with_reducible first | exact HK.out | apply KeepBut.set_ | apply keep_drewN | apply keep_drew | apply keep_alloc) | exact HK.out)) hk (.inl rfl)); have n1_ := Aside0.mk (hb); have n2_ := Aside0.mk (hi); clear HK; clear HB; clear HI0; have HK := n0_; have HB := n1_; have HI0 := n2_; clear n0_ n1_ n2_; (try clear hb); (try clear hb2); (try clear hk); (try clear hi)))
  go_ret
  exact ⟨by first | rfl | (simp [errW_none, errW_some] <;> rfl) | (simp [*, errW_none, errW_some] <;> rfl), by repeat (first | (with_reducible first | exact HI0.out | apply IsS58.alloc | apply IsS58.drewN | apply IsS58.drew | apply IsS58.set_1 | apply IsS58.set_2) | exact HI0.out), by repeat (first | (with_reducible first | exact HB.out | apply below_alloc | apply pw_below_drewN | apply below_drew1 | refine below_set ?_ (IsS58.ge HI0.out)) | exact HB.out), by repeat (first | (with_reducible first | exact HK.out | apply KeepBut.set_ | apply keep_drewN | apply keep_drew | apply keep_alloc) | exact HK.out)⟩

/-! ### spec_DrawLeastDepth: function 31 -/
set_option maxHeartbeats 4000000 in
set_option maxRecDepth 100000 in
/-- l17Draw, told so that its second result may be cut and appended to. -/
theorem draw17 (k : Nat) (g : Nat) (s0_0 : List Int) (s0_1 : Int) (s0_2 : Int) (r1 : List (List Int)) (r2 : List (List Int)) (r3 : Int) (r4 : Int) (w0 w : World) (hI : IsS58 w0 w g s0_0 s0_1 s0_2) (hB : Below w0.heap.size w0 w) (h : spec_l17Draw.f k s0_0 s0_1 s0_2 = some (r1, r2, r3, r4)) :
    Calls Try.prog 42 #[.pointer (some ⟨g, 0, none⟩)] w fun e w' => ∃ (v0 v1 : Value) (n : Nat), e = .returned (.tuple #[v0, v1]) ∧ w.heap.size ≤ n ∧ n ≤ w'.heap.size ∧ Kd.N (Kd.slice 3 (Kd.int .i64)) 23 w' w.heap.size (fun k_ => n ≤ k_) v0 r1 ∧ Kd.R (Kd.slice 3 (Kd.int .i64)) 23 w' w.heap.size (fun k_ => k_ < n) v1 r2 ∧ IsS58 w0 w' g s0_0 r3 r4 ∧ Below w0.heap.size w0 w' ∧ KeepBut w w' g none := by
  have H : ((spec_l1Below.f s0_0 s0_1 s0_2 4).bind fun bt196 => ((spec_l1Below.f s0_0 bt196.2.1 bt196.2.2 5).bind fun bt199 => ((spec_l5Bits.f k s0_0 bt199.2.1 bt199.2.2 (wrap64 (1 + bt199.1)) (wrap64 (2 + bt196.1))).bind fun bt202 => ((spec_l1Below.f s0_0 bt202.2.1 bt202.2.2 2).bind fun bt207 => ((spec_l16Sets.f k (wrap64 (2 + bt196.1)) (wrap64 (1 + bt207.1))).bind fun t210 => (some (t210, bt202.1, bt207.2.1, bt207.2.2))))))) = some (r1, r2, r3, r4) := h
  clear h
  replace H := Option.bind_eq_some_iff.mp H
  obtain ⟨⟨a1, a2, a3⟩, A20, H⟩ := H
  replace H := Option.bind_eq_some_iff.mp H
  obtain ⟨⟨b1, b2, b3⟩, A30, H⟩ := H
  replace H := Option.bind_eq_some_iff.mp H
  obtain ⟨⟨c1, c2, c3⟩, A40, H⟩ := H
  replace H := Option.bind_eq_some_iff.mp H
  obtain ⟨⟨d1, d2, d3⟩, A50, H⟩ := H
  replace H := Option.bind_eq_some_iff.mp H
  obtain ⟨t, A60, H⟩ := H
  dsimp only at A20 A30 A40 A50 A60 H
  simp only [Option.some.injEq, Prod.mk.injEq] at H
  obtain ⟨rfl, rfl, rfl, rfl⟩ := H
  have A2 := Aside0.mk A20
  have A3 := Aside0.mk A30
  have A4 := Aside0.mk A40
  have A5 := Aside0.mk A50
  have A6 := Aside0.mk A60
  have HI := Aside0.mk hI
  have HB := Aside0.mk hB
  have HGL := Aside0.mk hI.lt
  clear A20 A30 A40 A50 A60 hI hB
  go_enter Try.func42, Try.ntmps42
  go_wp2_with (first
    | (go_at_call 49; (with_reducible refine (spec_l1Below.calls g s0_0 s0_1 s0_2 4 a1 a2 a3 w0 _ HI.out HB.out A2.out).mono ?_); rintro e w7 ⟨rfl, hi, hb, hk⟩; have HI7 := Aside0.mk hi; have HB7 := Aside0.mk hb; have HK7 := Aside0.mk hk; clear hi hb hk)
    | (go_at_call 49; (with_reducible refine (spec_l1Below.calls g s0_0 a2 a3 5 b1 b2 b3 w0 _ HI7.out HB7.out A3.out).mono ?_); rintro e w8 ⟨rfl, hi, hb, hk⟩; have HI8 := Aside0.mk hi; have HB8 := Aside0.mk hb; have HK8 := Aside0.mk (HK7.out.trans hk (.inl rfl)); clear hi hb hk)
    | (go_at_call 50; (with_reducible refine (spec_l5Bits.calls k g s0_0 b2 b3 _ _ c1 c2 c3 w0 _ HI8.out HB8.out A4.out).mono ?_); rintro e w9 ⟨v9, rfl, ho, hi, hb, hk⟩; have HO9 := Aside0.mk (Kd.S_R ho); have HI9 := Aside0.mk hi; have HB9 := Aside0.mk hb; have HK9 := Aside0.mk (HK8.out.trans hk (.inl rfl)); clear ho hi hb hk)
    | (go_at_call 49; (with_reducible refine (spec_l1Below.calls g s0_0 c2 c3 2 d1 d2 d3 w0 _ HI9.out HB9.out A5.out).mono ?_); rintro e w10 ⟨rfl, hi, hb, hk⟩; have HO10 := Aside0.mk (Kd.R_keep (Kd.R_bound HO9.out) hk (fun k_ hk_ => by have := hk_.2.1; have := HK8.out.1; have := HGL.out; omega)); have HI10 := Aside0.mk hi; have HB10 := Aside0.mk hb; have HK10 := Aside0.mk (HK9.out.trans hk (.inl rfl)); clear hi hb hk)
    | (go_at_call 51; (with_reducible refine (spec_l16Sets.calls k _ _ t _ A6.out).mono ?_); rintro e w11 ⟨v11, rfl, ho, hb⟩; have HO11 := Aside0.mk (Kd.N_lower ho HK10.out.1); have HM11 := Aside0.mk (Kd.R_mono (ok' := fun k_ => k_ < w10.heap.size) (Kd.R_below (Kd.R_bound HO10.out) hb) (fun _ hk_ => hk_.2.2.1)); have HL11 := Aside0.mk hb.size; have HI11 := Aside0.mk (HI10.out.below hb); have HB11 := Aside0.mk (below_step HB10.out hb); have HK11 := Aside0.mk (HK10.out.trans (KeepBut.of_below hb g none) (.inl rfl)); clear ho hb)
    | fail)
  go_ret2
  exact ⟨_, _, w10.heap.size, rfl, HK10.out.1, HL11.out, HO11.out, Kd.R_lower HM11.out HK8.out.1, HI11.out, HB11.out, HK11.out⟩
/-- What is left of a matrix when at most four rows stay. -/
def cutTo (m : List (List Int)) : List (List Int) := m.drop (m.length - 4)
/-- A matrix made seven rows long by its first row. -/
def padTo (m : List (List Int)) : List (List Int) := m ++ List.replicate (7 - m.length) (rd_L1 m 0)
theorem cutTo_len (m : List (List Int)) : (cutTo m).length = m.length - (m.length - 4) := List.length_drop
theorem pad_step (m : List (List Int)) (i : Nat) (h : 0 < m.length) : (m ++ List.replicate i (rd_L1 m 0)) ++ [rd_L1 (m ++ List.replicate i (rd_L1 m 0)) 0] = m ++ List.replicate (i + 1) (rd_L1 m 0) := by
  have e : rd_L1 (m ++ List.replicate i (rd_L1 m 0)) 0 = rd_L1 m 0 := by
    simp [rd_L1, List.getD, List.getElem?_append_left h]
  rw [e, List.append_assoc, List.replicate_succ']
def spec_DrawLeastDepth.f (k : Nat) (l0 : List Int) : Option ((List (List Int)) × (List (List Int))) := (spec_l1New.f k l0).bind fun a => (spec_l17Draw.f k a.1 a.2.1 a.2.2).bind fun b => (spec_l1Once.f a.1 b.2.2.1 b.2.2.2 9).bind fun c => if 0 < b.2.1.length then some (b.1, if c.1 = true then padTo (cutTo b.2.1) else cutTo b.2.1) else none
theorem spec_DrawLeastDepth.mono : ∀ a0 k, LeO (spec_DrawLeastDepth.f k a0) (spec_DrawLeastDepth.f (k + 1) a0) := by
  intro a0 k
  unfold spec_DrawLeastDepth.f
  exact LeO.bind (spec_l1New.mono _ _) (fun _ => LeO.bind (spec_l17Draw.mono _ _ _ _) (fun _ => LeO.refl _))
theorem dl_end {w wr : World} {b n n2 : Nat} {v0 v1 : Value} {gs r : List (List Int)} (hb : w.heap.size ≤ b) (hn : b ≤ n) (hN : Kd.N (Kd.slice 3 (Kd.int .i64)) 23 wr b (fun k_ => n ≤ k_ ∧ k_ < n2) v0 gs) (hQ : Kd.Q (Kd.slice 3 (Kd.int .i64)) 23 wr b (fun k_ => k_ < n ∨ n2 ≤ k_) v1 r) (hB : Below w.heap.size w wr) :
    Kd.N (Kd.slice 3 (Kd.int .i64)) 23 wr w.heap.size (fun k_ => (w.heap.size ≤ k_)) v0 gs ∧ Kd.V (Kd.slice 3 (Kd.int .i64)) 23 wr w.heap.size (fun k_ => (w.heap.size ≤ k_) ∧ some k_ ≠ (v0 : Value).ownBlock) v1 r ∧ Below w.heap.size w wr := by
  have h0 := hN.1
  refine ⟨Kd.N_lower (Kd.N_mono hN (fun k hk => by omega)) hb, Kd.Q_V (base := b) (Kd.Q_mono (Kd.Q_bound hQ) (fun k hk => ⟨by have := hk.2.1; omega, fun e => ?_⟩)), hB⟩
  have := h0 k e.symm
  rcases hk.1 with hk | hk <;> omega
set_option maxHeartbeats 4000000 in
set_option maxRecDepth 100000 in
theorem spec_DrawLeastDepth.calls (k : Nat) (A0 : Option Addr) (c0 : Nat) (l0 : List Int) (r1 : List (List Int)) (r2 : List (List Int)) (w : World) (hr0 : Kd.C (Kd.int .u8) w A0 l0.length l0) (hc0 : l0.length ≤ c0) (h : spec_DrawLeastDepth.f k l0 = some (r1, r2)) :
    Calls Try.prog 31 #[.slice A0 l0.length c0] w fun e w' => ∃ v0_ v1_ : Value, e = .returned (.tuple #[v0_, v1_]) ∧ Kd.N (Kd.slice 3 (Kd.int .i64)) 23 w' w.heap.size (fun k_ => (w.heap.size ≤ k_)) v0_ r1 ∧ Kd.V (Kd.slice 3 (Kd.int .i64)) 23 w' w.heap.size (fun k_ => (w.heap.size ≤ k_) ∧ some k_ ≠ (v0_ : Value).ownBlock) v1_ r2 ∧ Below w.heap.size w w' := by
  have H : ((spec_l1New.f k l0).bind fun a => (spec_l17Draw.f k a.1 a.2.1 a.2.2).bind fun b => (spec_l1Once.f a.1 b.2.2.1 b.2.2.2 9).bind fun c => if 0 < b.2.1.length then some (b.1, if c.1 = true then padTo (cutTo b.2.1) else cutTo b.2.1) else none) = some (r1, r2) := h
  clear h
  replace H := Option.bind_eq_some_iff.mp H
  obtain ⟨⟨a1, a2, a3⟩, A20, H⟩ := H
  replace H := Option.bind_eq_some_iff.mp H
  obtain ⟨⟨gs, m, b3, b4⟩, A30, H⟩ := H
  replace H := Option.bind_eq_some_iff.mp H
  obtain ⟨⟨c1, c2, c3⟩, A40, H⟩ := H
  dsimp only at A20 A30 A40 H
  have hm : 0 < m.length := by
    by_cases hq : 0 < m.length
    · exact hq
    · rw [if_neg hq] at H; cases H
  rw [if_pos hm] at H
  simp only [Option.some.injEq, Prod.mk.injEq] at H
  obtain ⟨rfl, H⟩ := H
  have A2 := Aside0.mk A20
  have A3 := Aside0.mk A30
  have A4 := Aside0.mk A40
  have HRR := Aside0.mk H
  have HR0 := Aside0.mk hr0
  have HC0 := Aside0.mk hc0
  clear A20 A30 A40 hr0 hc0 H
  obtain ⟨i0, hi0, _, hsz, _⟩ := info_parts info23
  go_enter Try.func31, Try.ntmps31
  go_wp2_with (first
    | (go_at_call 41; (with_reducible refine (spec_l1New.calls k A0 c0 l0 a1 a2 a3 w _ (Below.refl _ _) HR0.out HC0.out A2.out).mono ?_); rintro e w1 ⟨g, rfl, hi, hb, hb2⟩; have HI1 := Aside0.mk hi; have HB1 := Aside0.mk hb; clear hi hb hb2)
    | (go_at_call 42; (with_reducible refine (draw17 k g a1 a2 a3 gs m b3 b4 w _ HI1.out HB1.out A3.out).mono ?_); rintro e w2 ⟨v0, v1, n, rfl, hn1, hn2, ho0, ho1, hi, hb, hk⟩; have HN2 := Aside0.mk ho0; have HM2 := Aside0.mk ho1; have HI2 := Aside0.mk hi; have HB2 := Aside0.mk hb; have HL2 := Aside0.mk (And.intro hn1 hn2); clear hn1 hn2 ho0 ho1 hi hb hk)
    | fail)
  have HQ0 : Aside0 (Kd.Q (Kd.slice 3 (Kd.int .i64)) 23 w2 w1.heap.size (fun k_ => k_ < n ∨ w2.heap.size ≤ k_) v1 (m.drop 0)) := ⟨Kd.Q_mono (Kd.Q_of_R HM2.out) (fun _ h => .inl h)⟩
  have HN0 : Aside0 (Kd.N (Kd.slice 3 (Kd.int .i64)) 23 w2 w1.heap.size (fun k_ => n ≤ k_ ∧ k_ < w2.heap.size) v0 gs) := ⟨Kd.N_bound HN2.out⟩
  have HW1 := Aside0.mk HB1.out.size
  have HGL := Aside0.mk HI1.out.lt
  clear HN2 HM2 HI1 HB1
  go_loopg [6] (m.length - 4) (fun gg s6 wr => ∃ j : Nat, j ≤ m.length - 4 ∧ m.length - 4 - j ≤ gg ∧ wr = w2 ∧ Aside0 (Kd.Q (Kd.slice 3 (Kd.int .i64)) 23 w2 w1.heap.size (fun k_ => k_ < n ∨ w2.heap.size ≤ k_) s6 (m.drop j)))
  case atStart => exact ⟨0, Nat.zero_le _, Nat.le_refl _, rfl, HQ0⟩
  case round =>
    clear HQ0
    obtain ⟨j, hj, hg, rfl, HQ⟩ := hrel
    obtain ⟨A6, c6, rfl, hle⟩ := Kd.Q_slice HQ.out
    have hL : (m.drop j).length = m.length - j := List.length_drop
    by_cases hlt : 4 < (m.drop j).length
    · have hltz : decide ((4 : Int) < ((m.drop j).length : Int)) = true := decide_eq_true (by omega)
      have hd : (m.drop j).drop 1 = m.drop (j + 1) := by rw [List.drop_drop]
      have HD := Aside0.mk hd
      generalize m.drop j = L at HQ hle hL hlt hltz HD ⊢
      have hcut := cut_from (P := Try.prog) 22 23 .i64 Try.underlying22 hi0 1 hsz A6 L.length c6 1 (by omega) (by omega)
      have hQd := Kd.Q_drop (k := 1) HQ.out (by omega)
      obtain ⟨v6, hv6⟩ : ∃ v, v = Value.slice (if c6 = (1 : Int).toNat then A6 else A6.map (·.add ((1 : Int).toNat * 1))) (L.length - (1 : Int).toNat) (c6 - (1 : Int).toNat) := ⟨_, rfl⟩
      rw [← hv6] at hcut
      rw [HD.out] at hQd
      have HQD : Aside0 (Kd.Q (Kd.slice 3 (Kd.int .i64)) 23 wr w1.heap.size (fun k_ => k_ < n ∨ wr.heap.size ≤ k_) v6 (m.drop (j + 1))) := ⟨by rw [hv6]; exact hQd⟩
      have HL := Aside0.mk hL
      have HLT := Aside0.mk hlt
      clear hd hQd hv6 hL hlt
      go_wp2_with (fail)
      go_roundg (m.length - 4 - (j + 1))
      case measure => have := HL.out; have := HLT.out; omega
      case rel => exact ⟨j + 1, by have := HL.out; have := HLT.out; omega, Nat.le_refl _, rfl, HQD⟩
    · have hltz : decide ((4 : Int) < ((m.drop j).length : Int)) = false := decide_eq_false (by omega)
      have hjj : j = m.length - 4 := by omega
      have hM : m.drop j = cutTo m := by rw [hjj]; rfl
      have hM1 : 1 ≤ (m.drop j).length ∧ (m.drop j).length ≤ 4 := by omega
      rw [hM] at hM1 hltz HQ ⊢
      have HE := Aside0.mk hM1
      have HRM : Aside0 ((if c1 = true then padTo (cutTo m) else cutTo m) = r2) := HRR
      generalize cutTo m = M at hltz HQ HE HRM ⊢
      clear hM hM1 hjj hj hg hL hlt hm HRR hle
      have HS2 := Aside0.mk (Nat.le_refl wr.heap.size)
      have hcall := spec_l1Once.calls g a1 b3 b4 9 c1 c2 c3 w wr HI2.out HB2.out A4.out
      have HCA := Aside0.mk hcall
      clear hcall
      cases c1 with
      | false =>
        have HR : Aside0 (M = r2) := HRM
        clear HRM
        go_wp2_with (first | (go_at_call 43; (with_reducible refine HCA.out.mono ?_); rintro e w3 ⟨rfl, hi, hb, hk⟩; have HB3 := Aside0.mk hb; have HN3 := Aside0.mk (Kd.N_keep HN0.out hk (fun k_ hk_ => by have := HGL.out; have := HL2.out; omega)); have HQ3 := Aside0.mk (Kd.Q_mono (Kd.Q_keep (Kd.Q_bound HQ.out) hk (fun k_ hk_ => by have := HGL.out; have := hk_.2.1; omega)) (fun _ h => h.1)); clear hi hb hk) | fail)
        go_ret2
        exact ⟨_, _, rfl, by rw [← HR.out]; exact dl_end HW1.out HL2.out.1 HN3.out HQ3.out HB3.out⟩
      | true =>
        have HR : Aside0 (padTo M = r2) := HRM
        clear HRM
        go_wp2_with (first | (go_at_call 43; (with_reducible refine HCA.out.mono ?_); rintro e w3 ⟨rfl, hi, hb, hk⟩; have HB3 := Aside0.mk hb; have HN3 := Aside0.mk (Kd.N_keep HN0.out hk (fun k_ hk_ => by have := HGL.out; have := HL2.out; omega)); have HQ3 := Aside0.mk (Kd.Q_mono (Kd.Q_keep (Kd.Q_bound HQ.out) hk (fun k_ hk_ => by have := HGL.out; have := hk_.2.1; omega)) (fun _ h => h.1)); have HS3 := Aside0.mk hk.1; clear hi hb hk) | fail)
        have HQ4 : Aside0 (Kd.Q (Kd.slice 3 (Kd.int .i64)) 23 w3 w1.heap.size (fun k_ => k_ < n ∨ wr.heap.size ≤ k_) (.slice A6 M.length c6) (M ++ List.replicate 0 (rd_L1 M 0))) := ⟨by simpa using HQ3.out⟩
        clear HQ3 HQ hltz
        generalize wr.heap.size = n2 at HN3 HQ4 HL2 HS3
        go_loopg [6] (7 - M.length) (fun gg s6 wv => ∃ i : Nat, i ≤ 7 - M.length ∧ 7 - M.length - i ≤ gg ∧ Aside0 (n2 ≤ wv.heap.size) ∧ Aside0 (Kd.Q (Kd.slice 3 (Kd.int .i64)) 23 wv w1.heap.size (fun k_ => k_ < n ∨ n2 ≤ k_) s6 (M ++ List.replicate i (rd_L1 M 0))) ∧ Aside0 (Kd.N (Kd.slice 3 (Kd.int .i64)) 23 wv w1.heap.size (fun k_ => n ≤ k_ ∧ k_ < n2) v0 gs) ∧ Aside0 (Below w.heap.size w wv))
        case atStart => exact ⟨0, Nat.zero_le _, Nat.le_refl _, HS3, HQ4, HN3, HB3⟩
        case round =>
          clear HQ4 HN3 HB3 HS3 HN0 HB2 HI2
          obtain ⟨i, hi, hg, HS, HQ, HN, HB⟩ := hrel
          have hL : (M ++ List.replicate i (rd_L1 M 0)).length = M.length + i := by simp
          have hps := pad_step M i (by have := HE.out; omega)
          by_cases hlt : (M ++ List.replicate i (rd_L1 M 0)).length < 7
          · have hltz : decide (((M ++ List.replicate i (rd_L1 M 0)).length : Int) < 7) = true := decide_eq_true (by omega)
            have hpos : 0 < (M ++ List.replicate i (rd_L1 M 0)).length := by have := HE.out; omega
            have HPS := Aside0.mk hps
            have HL := Aside0.mk hL
            clear hps hL
            generalize M ++ List.replicate i (rd_L1 M 0) = L at HQ HL HPS hlt hltz hpos ⊢
            obtain ⟨g6, o6, c6, rfl, hg6, hg6l, _⟩ := Kd.Q_form HQ.out hpos
            obtain ⟨cs, hcl, hM, hcc, _⟩ := Kd.Q_elem HQ.out [] 0 (by omega) (by omega)
            obtain ⟨u, rfl, hR⟩ := hM
            obtain ⟨Au, cu, rfl⟩ := Kd.R_slice hR
            have hcell : wr.cell? ⟨g6, o6, none⟩ = some (.slice Au (L.getD (0 : Int).toNat []).length cu) := by simpa using hcc 0 _ rfl
            have hok6 := HQ.out.1 g6 rfl
            have HRE := Aside0.mk hR
            clear hcc hR hcl
            obtain ⟨x, hx⟩ : ∃ x, x = L.getD (0 : Int).toNat [] := ⟨_, rfl⟩
            rw [← hx] at hcell HRE
            have HXE : Aside0 (x = rd_L1 L 0) := ⟨hx⟩
            have HG6 := Aside0.mk (And.intro hok6 (And.intro hg6 hg6l))
            have HLT := Aside0.mk hlt
            clear hx hok6 hg6 hg6l hlt
            go_wp2_with (first | ((with_reducible refine gate_builtin (b := .append) (xs := #[.tmp 24, .tmp 28]) rfl ?_); at_builtin; refine Kd.Q_append (Kd.slice 3 (Kd.int .i64)) (w0 := wr) w1.heap.size rfl (.tmp 24) (.tmp 28) 22 23 (.slice none 0 0) 24 rfl Try.underlying22 info23 rfl (by decide) (by omega) (.slice (some ⟨g6, o6, none⟩) L.length c6) L x [.slice Au x.length cu] (fun k_ => k_ < n ∨ n2 ≤ k_) (fun k_ => (k_ < n ∨ n2 ≤ k_) ∧ k_ ≠ g6) rfl rfl ?aP ?aK ?aF HQ.out (Below.refl _ _) ?aS ?aL ?_; (case aP => exact ⟨_, rfl, HRE.out⟩); (case aK => exact fun k_ hk_ => ⟨hk_.1, fun e_ => hk_.2 (by simpa [Value.ownBlock] using e_)⟩); (case aF => exact fun k_ hk_ => .inr (Nat.le_trans HS.out hk_)); (case aS => have := HG6.out; omega); (case aL => have := HLT.out; omega); intro v4 w4 ho hb hg2 hat; have HQ5 := Aside0.mk ho; have HB5 := Aside0.mk (HB.out.trans (hb.mono HW1.out)); have HS5 := Aside0.mk (Nat.le_trans HS.out hb.size); have HN5 := Aside0.mk (Kd.N_grown HN.out hg2 (fun k_ hk_ e_ => by have h6 : k_ = g6 := (by simpa [Value.ownBlock] using e_); have := HG6.out; have := HL2.out; omega)); clear ho hb hg2 hat) | fail)
            go_roundg (7 - M.length - (i + 1))
            case measure => have := HL.out; have := HLT.out; omega
            case rel => exact ⟨i + 1, by have := HL.out; have := HLT.out; omega, Nat.le_refl _, HS5, ⟨by rw [← HPS.out, ← HXE.out]; exact HQ5.out⟩, HN5, HB5⟩
          · have hltz : decide (((M ++ List.replicate i (rd_L1 M 0)).length : Int) < 7) = false := decide_eq_false (by omega)
            have hii : i = 7 - M.length := by have := HE.out; omega
            subst hii
            have hr : M ++ List.replicate (7 - M.length) (rd_L1 M 0) = r2 := HR.out
            obtain ⟨A7, c7, rfl, hle⟩ := Kd.Q_slice HQ.out
            clear hL hps
            generalize M ++ List.replicate (7 - M.length) (rd_L1 M 0) = L at HQ hr hlt hltz ⊢
            have HRL := Aside0.mk hr
            clear hr
            go_wp2_with (fail)
            go_ret2
            exact ⟨_, _, rfl, by rw [← HRL.out]; exact dl_end HW1.out HL2.out.1 HN.out HQ.out HB.out⟩

/-! ### impl_Max: function 32 -/
def impl_Max.f (a0 : Int) (a1 : Int) : Option (Int) := some (mx a0 a1)
set_option maxHeartbeats 8000000 in
set_option maxRecDepth 100000 in
theorem impl_Max.calls (a0 : Int) (a1 : Int) (r : Int) (w : World) (h : impl_Max.f a0 a1 = some r) :
    Calls Try.prog 32 #[.int .i64 a0, .int .i64 a1] w fun e w' => e = .returned (.int .i64 r) ∧ Below w.heap.size w w' := by
  have HB := Aside0.mk (Below.refl w.heap.size w)
  have H : (some (mx a0 a1)) = some r := h
  clear h
  obtain ⟨ji3, hji3⟩ : ∃ j_ : Int, (mx a0 a1) = j_ := ⟨_, rfl⟩
  replace H : (some ji3) = some r := by first | (rw [hji3] at H; exact H) | (simp only [hji3] at H ⊢; exact H)
  have hji3_ : (if a0 < a1 then a1 else a0) = ji3 := hji3
  obtain rfl := Option.some.inj H
  go_enter Try.func32, Try.ntmps32
  go_wp2
  go_ret
  exact ⟨by first | rfl | (simp [errW_none, errW_some] <;> rfl) | (simp only [← hji3]; first | rfl | (simp [errW_none, errW_some] <;> rfl)) | (simp [*, errW_none, errW_some] <;> rfl), by repeat (first | (with_reducible first | exact HB.out | apply below_alloc | apply pw_below_drewN | apply below_drew1) | exact HB.out)⟩

end Go.Proofs.Ytbbfgkjhnfcjiaa.PFnPlanned
