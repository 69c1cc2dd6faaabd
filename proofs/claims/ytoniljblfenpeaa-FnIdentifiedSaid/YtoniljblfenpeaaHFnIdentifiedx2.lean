-- Written by a program of this session out of the translation (wip/gen/hprint.sh). Lean checks it.
import Derived.Test.YtoniljblfenpeaaHFnIdentifiedx0
import Derived.Test.YtoniljblfenpeaaHFnIdentifiedx1
namespace Go.Proofs.Ytoniljblfenpeaa.PFnIdentified
open Go.RowKit Go.Proofs.YtoniljblfenpeaaW.PrintWords Go.Proofs.YtoniljblfenpeaaW.PrintLast Go.Proofs.YtoniljblfenpeaaW.PrintMore
attribute [local go_sem] max2_int min2_int max_two min_two max_three min_three max_four min_four   -- for this text's walks alone
set_option linter.unusedVariables false
set_option linter.unusedSimpArgs false

/-! ### slices_Clone_int_int: function 62 -/
/-- A copy, if it is not too long to be made. -/
def slices_Clone_int_int.f (l0 : List Int) : Option (List Int) := if l0.length < 17592186044416 then some l0 else none
set_option maxHeartbeats 4000000 in
set_option maxRecDepth 100000 in
theorem slices_Clone_int_int.calls (A0 : Option Addr) (c0 : Nat) (l0 : List Int) (r : List Int) (w : World) (hr0 : Kd.C (Kd.int .i64) w A0 l0.length l0) (hc0 : l0.length ≤ c0) (h : slices_Clone_int_int.f l0 = some r) :
    Calls Try.prog 62 #[.slice A0 l0.length c0] w fun e w' => ∃ v0_ : Value, e = .returned (v0_) ∧ Kd.R (Kd.int .i64) 3 w' w.heap.size (fun _ => True) v0_ r ∧ Below w.heap.size w w' := by
  have hn : l0.length < 17592186044416 ∧ l0 = r := by
    unfold slices_Clone_int_int.f at h
    split at h
    · rename_i h1; exact ⟨h1, Option.some.inj h⟩
    · cases h
  clear h
  obtain ⟨hN, rfl⟩ := hn
  rcases A0 with _ | ad
  · have h0 : l0 = [] := by
      rcases Nat.eq_zero_or_pos l0.length with h0 | h0
      · exact List.eq_nil_of_length_eq_zero h0
      · obtain ⟨ad, h1, _⟩ := hr0.2.2 h0; cases h1
    subst h0
    have hq : ∀ (w : World) (n c n' c' : Nat), (binOp .eql 30 (.slice none n c) (.slice none n' c')).run Try.prog w = .ok (.bool true) w := fun w n c n' c' => Lib.run_eql_slice_nil w _ _ none n c n' c' Try.underlying30
    clear hr0 hc0 hN
    go_enter Try.func62, Try.ntmps62
    go_wp2
    go_ret
    exact ⟨_, rfl, Kd.R_nil _ _ _ _ _, Below.refl _ _⟩
  · have hq : ∀ (w : World) (n c n' c' : Nat), (binOp .eql 30 (.slice (some ad) n c) (.slice none n' c')).run Try.prog w = .ok (.bool false) w := fun w n c n' c' => Lib.run_eql_slice_nil w _ _ (some ad) n c n' c' Try.underlying30
    have HR := Aside0.mk hr0
    have HN := Aside0.mk hN
    clear hr0 hc0 hN
    have hut := Try.underlying30
    go_enter Try.func62, Try.ntmps62
    go_wp2_with (first | ((with_reducible refine gate_dst (N := 5) rfl ?_); refine Kd.R_lit (Kd.int .i64) (w0 := w) w.heap.size 3 ?hg (N := 5) ?hd (xs := ([] : List Int)) (inner := []) (ok := fun _ => True) (okp := fun _ => True) ?hr ?hp (fun _ hk => hk) trivial (Below.refl _ _) (Nat.le_refl _) (by simp) ?_; (case hd => rfl); (case hg => rfl); (case hr => first | (go_simp; done) | (go_simp; rfl)); (case hp => exact Reps.none _ _); intro v1 w1 ho hb hg_ hnew_; have HO := Aside0.mk ho; have HB := Aside0.mk hb; clear ho hb hg_ hnew_) | (at_builtin; refine Kd.R_append_rows (Kd.int .i64) (Rr := Kd.K (Kd.int .i64) w1) (w0 := w) w.heap.size rfl (.tmp 5) (.tmp 6) 30 3 (.int .i64 0) 8 rfl Try.underlying30 info3 rfl (by decide) (by omega) v1 [] l0 _ _ _ (fun _ => True) (fun _ => False) rfl rfl HO.out ?aR (fun _ _ h => h) (fun _ h => h.elim) (fun _ _ => trivial) HB.out (below_size HB.out) ?aL ?_; (case aR => exact Kd.C_below HR.out HB.out); (case aL => have h1 := HN.out; simp only [List.length_nil, Nat.zero_add]; omega); intro v2 w2 ho hb _ _; have HO2 := Aside0.mk ho; have HB2 := Aside0.mk hb; clear ho hb))
    go_ret
    exact ⟨_, rfl, HO2.out, HB2.out⟩

/-! ### impl_SetsOf: function 34 -/
/-- The lists of n rounds, one behind the other. -/
def flatR (G : Nat → List (List Int)) (n : Nat) : List (List Int) := ((List.range n).map G).flatten
theorem flatR_succ (G : Nat → List (List Int)) (n : Nat) : flatR G (n + 1) = flatR G n ++ G n := by
  unfold flatR
  rw [List.range_succ, List.map_append, List.flatten_append]
  simp
theorem flatR_le (G : Nat → List (List Int)) (m n : Nat) (h : m ≤ n) : (flatR G m).length ≤ (flatR G n).length := by
  obtain ⟨d, rfl⟩ := Nat.exists_eq_add_of_le h
  clear h
  induction d with
  | zero => exact Nat.le_refl _
  | succ d ih => rw [← Nat.add_assoc, flatR_succ, List.length_append]; omega
/-- the sets of so many columns that go on from a set, the next column at least c0. -/
def subsF (size cols : Nat) : Nat → List Int → Nat → List (List Int)
  | 0, set, _ => if set.length = size then [set] else []
  | f + 1, set, c0 => if set.length = size then [set] else flatR (fun j => subsF size cols f (set ++ [((c0 + j : Nat) : Int)]) (c0 + j + 1)) (cols - c0)
def impl_SetsOf.f (a0 : Int) (a1 : Int) : Option (List (List Int)) := if 0 ≤ a0 ∧ a0 ≤ 6 ∧ 0 ≤ a1 ∧ a1 ≤ a0 then some (subsF a1.toNat a0.toNat a0.toNat [] 0) else some []
/-- What is of another type than the variable and its rows stays. -/
def Keeps (W w' : World) : Prop := ∀ (k : Nat) (cells : Array Value) (q : Nat), W.heap[k]? = some (.cells cells q (0, 0)) → q ≠ 22 → q ≠ 30 → w'.heap[k]? = W.heap[k]?
theorem Keeps.refl (W : World) : Keeps W W := fun _ _ _ _ _ _ => rfl
theorem Keeps.trans {W w1 w2 : World} (h1 : Keeps W w1) (h2 : Keeps w1 w2) : Keeps W w2 := fun k cells q h a b => by
  have e := h1 k cells q h a b
  rw [h2 k cells q (e.trans h) a b, e]
theorem Keeps.below {W w' : World} (hb : Below W.heap.size W w') : Keeps W w' := fun k cells q h _ _ => hb.block k (Array.getElem?_eq_some_iff.1 h).1
theorem Keeps.grown {W w' : World} {row : Option Nat} (hg : W.grownBy w' row) (hr : ∀ k, row = some k → ∃ cells, W.heap[k]? = some (.cells cells 30 (0, 0))) : Keeps W w' := fun k cells q h _ hq =>
  hg.block k (Array.getElem?_eq_some_iff.1 h).1 (fun e => by
    obtain ⟨c2, h2⟩ := hr k e.symm
    rw [h] at h2
    injection h2 with h2
    injection h2 with _ h2
    exact hq h2)
theorem Keeps.set {W : World} {b : Nat} {v0 u : Value} (hb : W.heap[b]? = some (.cells #[v0] 22 (0, 0))) : Keeps W (W.setCell ⟨b, 0, none⟩ u) := fun k cells q h hq _ => by
  have hne : k ≠ b := by
    rintro rfl
    rw [h] at hb
    injection hb with hb
    injection hb with _ hb
    exact hq hb
  exact Below.heap_setCell W ⟨b, 0, none⟩ u k hne
theorem Keeps.int {W w' : World} {base : Nat} {v : Value} {xs : List Int} (hk : Keeps W w') (h : Kd.R (Kd.int .i64) 3 W base (fun _ => True) v xs) : Kd.R (Kd.int .i64) 3 w' base (fun _ => True) v xs :=
  Kd.R_mono (Kd.R_move (Kd.R_bound h) (fun k hk2 => by
    obtain ⟨_, _, _, q, hq, cells, hc⟩ := hk2
    have hq : q = 3 := by simpa [Kd.int, Kd.scalar] using hq
    exact hk k cells q hc (by omega) (by omega))) (fun _ _ => trivial)
def AddPost (bo base : Nat) (W : World) (ys : List (List Int)) (e : Ending) (w' : World) : Prop :=
  e = .returned (.tuple #[]) ∧ ∃ v', w'.heap[bo]? = some (.cells #[v'] 22 (0, 0)) ∧ Kd.S (Kd.slice 3 (Kd.int .i64)) 30 w' base (fun _ => True) v' ys ∧ Below base W w' ∧ Keeps W w'
/-- The closure's own cells. -/
def adders (bs bo bc ba : Nat) : Array Value := #[.pointer (some ⟨bs, 0, none⟩), .pointer (some ⟨bo, 0, none⟩), .pointer (some ⟨bc, 0, none⟩), .pointer (some ⟨ba, 0, none⟩)]
theorem add_lower {W W' w1 : World} {base : Nat} {v1 : Value} {set : List Int} (ho : Kd.R (Kd.int .i64) 3 w1 W'.heap.size (fun _ => True) v1 set) (hbase : base ≤ W.heap.size) (hW : W.heap.size ≤ W'.heap.size := by (first | exact Nat.le_refl _ | omega)) : Kd.R (Kd.int .i64) 3 w1 base (fun k_ => W.heap.size ≤ k_) v1 set :=
  Kd.R_lower (Kd.R_mono (Kd.R_bound ho) (fun k hk => Nat.le_trans hW hk.2.1)) (Nat.le_trans hbase hW)
theorem add_post {W w2 : World} {bo base : Nat} {v v2 : Value} {ys : List (List Int)} (hb2 : Below base W w2) (hbo : base ≤ bo) (hbo2 : w2.heap[bo]? = some (.cells #[v] 22 (0, 0))) (ho2 : Kd.S (Kd.slice 3 (Kd.int .i64)) 30 w2 base (fun _ => True) v2 ys) (hk2 : Keeps W w2) : AddPost bo base W ys (.returned (.tuple #[])) (w2.setCell ⟨bo, 0, none⟩ v2) :=
  ⟨rfl, v2, by have h := blk_set hbo2 0 v2; simpa using h, Kd.S_set ho2 hbo2 (by decide) 0 v2, hb2.setCell hbo v2, hk2.trans (Keeps.set hbo2)⟩
set_option maxHeartbeats 4000000 in
set_option maxRecDepth 100000 in
theorem add_done (size bs bo bc ba : Nat) (set : List Int) (c0 : Nat) (A : Option Addr) (c base : Nat) (v : Value) (xs : List (List Int)) (W : World) (hl : set.length = size) (hl6 : set.length ≤ 6) (hbo : base ≤ bo) (hbase : base ≤ W.heap.size)
    (hs : W.heap[bs]? = some (.cells #[.int .i64 (size : Int)] 3 (0, 0))) (ho : W.heap[bo]? = some (.cells #[v] 22 (0, 0))) (hR : Kd.S (Kd.slice 3 (Kd.int .i64)) 30 W base (fun _ => True) v xs) (hS : Kd.R (Kd.int .i64) 3 W base (fun _ => True) (.slice A set.length c) set) (hx : xs.length + 1 ≤ 1000000) :
    Calls Try.prog 61 (#[.slice A set.length c, .int .i64 (c0 : Int)] ++ adders bs bo bc ba) W (AddPost bo base W (xs ++ [set])) := by
  show Calls Try.prog 61 #[.slice A set.length c, .int .i64 (c0 : Int), .pointer (some ⟨bs, 0, none⟩), .pointer (some ⟨bo, 0, none⟩), .pointer (some ⟨bc, 0, none⟩), .pointer (some ⟨ba, 0, none⟩)] W _
  have hcs : W.cell? ⟨bs, 0, none⟩ = some (.int .i64 (size : Int)) := (blk_cell hs 0).trans rfl
  have hco : W.cell? ⟨bo, 0, none⟩ = some v := (blk_cell ho 0).trans rfl
  have hfo : W.frozen? ⟨bo, 0, none⟩ = false := blk_frozen ho 0
  have heq : ((set.length : Int) == (size : Int)) = true := beq_iff_eq.mpr (by omega)
  have kc : ∀ W', Below W.heap.size W W' → Calls Try.prog 62 #[.slice A set.length c] W' fun e w' => ∃ v0_ : Value, e = .returned v0_ ∧ Kd.R (Kd.int .i64) 3 w' W'.heap.size (fun _ => True) v0_ set ∧ Below W'.heap.size W' w' := fun W' hb =>
    slices_Clone_int_int.calls A c set set W' (Kd.R_reads' (Kd.R_below hS hb)).2.2 (Kd.R_reads' hS).2.1 (if_pos (by omega))
  have KC := Aside0.mk kc
  have HO := Aside0.mk ho
  have HR := Aside0.mk hR
  have HX := Aside0.mk hx
  have HV : Aside0 (∀ k, W.heap.size ≤ k → True ∧ some k ≠ v.ownBlock) := ⟨fun k hk => ⟨trivial, fun e => by
    obtain ⟨inner, hw⟩ := Kd.S_own hR
    have := own_lt hw k e.symm
    omega⟩⟩
  clear kc ho hR hS hs hl hx
  go_enter Try.func61, Try.ntmps61
  go_wp2_with (fail)
  go_region_law (first | (go_simp; go_at_call 62; refine (KC.out _ (by repeat (first | exact Below.refl _ _ | apply below_drew1))).mono ?_; rintro e w1 ⟨v1, rfl, ho1, hb1⟩; obtain ⟨A1, c1, rfl⟩ := Kd.R_slice ho1; have hbW : Below W.heap.size W w1 := below_step (below_drew1 (Below.refl _ W)) hb1; have hco1 : w1.cell? ⟨bo, 0, none⟩ = some v := (blk_cell (blk_below (w := W) HO.out hbW) 0).trans rfl; have hco1b : (w1.alloc (.cells #[.slice A1 set.length c1] 30)).cell? ⟨bo, 0, none⟩ = some v := Lib.cell?_alloc_some _ hco1; have HP := Aside0.mk (add_lower ho1 hbase); have HRO := Aside0.mk (Kd.S_below (Kd.S_mono (ok' := fun k_ => True ∧ ¬ W.heap.size ≤ k_) (Kd.S_bound HR.out) (fun k_ hk => ⟨trivial, Nat.not_le.mpr hk.2.2.1⟩)) hbW); have HBB := Aside0.mk (hbW.mono hbase); have HSZ := Aside0.mk (Nat.le_trans hbase hbW.size); have HBW := Aside0.mk hbW; clear ho1 hb1 hbW) | (refine Kd.S_append_step (Kd.slice 3 (Kd.int .i64)) (w0 := W) base (by rfl) (.tmp 13) (.tmp 16) 22 30 (.slice none 0 0) 24 rfl Try.underlying22 info30 rfl (by decide) (by omega) v xs set [.slice A1 set.length c1] (fun _ => True) (fun k_ => W.heap.size ≤ k_) (by rfl) (by rfl) ?aP ?aK (fun _ _ => trivial) ?aO ?aB ?aS ?aL ?_; (case aP => exact ⟨_, rfl, HP.out⟩); (case aK => exact HV.out); (case aO => exact HRO.out); (case aB => exact HBB.out); (case aS => exact HSZ.out); (case aL => have := HX.out; omega); intro v2 w2 ho2 hb2 hg2 _; obtain ⟨A2, c2, rfl⟩ := Kd.S_slice ho2; have hbo2 : w2.heap[bo]? = some (.cells #[v] 22 (0, 0)) := blk_grown (blk_below HO.out HBW.out) hg2 (Kd.S_ne HRO.out (blk_below HO.out HBW.out) (by decide)); have hco2 : w2.cell? ⟨bo, 0, none⟩ = some v := (blk_cell hbo2 0).trans rfl; have hfo2 : w2.frozen? ⟨bo, 0, none⟩ = false := blk_frozen hbo2 0; have HK2 := Aside0.mk ((Keeps.below HBW.out).trans (Keeps.grown hg2 (fun k hk => by obtain ⟨inner, hw⟩ := Kd.S_own HRO.out; exact own_typed hw k hk))); have HB2 := Aside0.mk hb2; have HO2 := Aside0.mk ho2; have HBO2 := Aside0.mk hbo2; clear ho2 hb2 hg2 hbo2) | fail)
  all_goals (go_wp2; go_end0; exact add_post HB2.out hbo HBO2.out (by have h := HO2.out; rw [List.length_append] at h; exact h) HK2.out)
theorem one_C {W : World} {g : Nat} {x : Int} (h : W.cell? ⟨g, 0, none⟩ = some (.int .i64 x)) : Kd.C (Kd.int .i64) W (some ⟨g, 0, none⟩) 1 [x] := by
  refine Kd.C_of_reads (enc := Value.int .i64) (d := (0 : Int)) (h1 := fun _ => rfl) ⟨rfl, by omega, fun _ => ⟨_, rfl, fun j hj => ?_⟩⟩
  have : j = 0 := by omega
  subst this
  exact h
theorem low_R {w W' w1 : World} {v : Value} {set : List Int} (hW : Below w.heap.size w W') (ho : Kd.R (Kd.int .i64) 3 w1 W'.heap.size (fun _ => True) v set) : Kd.R (Kd.int .i64) 3 w1 w.heap.size (fun _ => True) v set := Kd.R_lower ho hW.size
set_option maxHeartbeats 4000000 in
set_option maxRecDepth 100000 in
theorem add_more (size cols bs bo bc ba : Nat) (hcols : cols ≤ 6) (F : List Int → Nat → List (List Int)) (set : List Int) (c0 : Nat) (A : Option Addr) (c base : Nat) (v : Value) (xs : List (List Int)) (W : World) (hl : set.length ≠ size) (hl6 : set.length ≤ c0) (hc0 : c0 ≤ cols) (hbo : base ≤ bo) (hbase : base ≤ W.heap.size)
    (ih : ∀ (set : List Int) (c1 : Nat) (A : Option Addr) (c base : Nat) (v : Value) (xs : List (List Int)) (W : World), c0 < c1 → c1 ≤ cols → set.length ≤ c1 → base ≤ bo → base ≤ W.heap.size → W.heap[bs]? = some (.cells #[.int .i64 (size : Int)] 3 (0, 0)) → W.heap[bc]? = some (.cells #[.int .i64 (cols : Int)] 3 (0, 0)) → W.heap[ba]? = some (.cells #[.func (.func 61) #[] (adders bs bo bc ba)] 64 (0, 0)) → W.heap[bo]? = some (.cells #[v] 22 (0, 0)) →
      Kd.S (Kd.slice 3 (Kd.int .i64)) 30 W base (fun _ => True) v xs → Kd.R (Kd.int .i64) 3 W base (fun _ => True) (.slice A set.length c) set → xs.length + (F set c1).length ≤ 1000000 →
      Calls Try.prog 61 (#[.slice A set.length c, .int .i64 (c1 : Int)] ++ adders bs bo bc ba) W (AddPost bo base W (xs ++ F set c1)))
    (hs : W.heap[bs]? = some (.cells #[.int .i64 (size : Int)] 3 (0, 0))) (hc : W.heap[bc]? = some (.cells #[.int .i64 (cols : Int)] 3 (0, 0))) (ha : W.heap[ba]? = some (.cells #[.func (.func 61) #[] (adders bs bo bc ba)] 64 (0, 0))) (ho : W.heap[bo]? = some (.cells #[v] 22 (0, 0)))
    (hR : Kd.S (Kd.slice 3 (Kd.int .i64)) 30 W base (fun _ => True) v xs) (hS : Kd.R (Kd.int .i64) 3 W base (fun _ => True) (.slice A set.length c) set) (hx : xs.length + (flatR (fun j => F (set ++ [((c0 + j : Nat) : Int)]) (c0 + j + 1)) (cols - c0)).length ≤ 1000000) :
    Calls Try.prog 61 (#[.slice A set.length c, .int .i64 (c0 : Int)] ++ adders bs bo bc ba) W (AddPost bo base W (xs ++ flatR (fun j => F (set ++ [((c0 + j : Nat) : Int)]) (c0 + j + 1)) (cols - c0))) := by
  show Calls Try.prog 61 #[.slice A set.length c, .int .i64 (c0 : Int), .pointer (some ⟨bs, 0, none⟩), .pointer (some ⟨bo, 0, none⟩), .pointer (some ⟨bc, 0, none⟩), .pointer (some ⟨ba, 0, none⟩)] W _
  have hcs : W.cell? ⟨bs, 0, none⟩ = some (.int .i64 (size : Int)) := (blk_cell hs 0).trans rfl
  have heq : ((set.length : Int) == (size : Int)) = false := beq_eq_false_iff_ne.mpr (by omega)
  have HH := Aside0.mk (And.intro hs (And.intro hc (And.intro ha hS)))
  have IH := Aside0.mk ih
  have HX := Aside0.mk hx
  have HST : Aside0 (∃ vr, W.heap[bo]? = some (.cells #[vr] 22 (0, 0)) ∧ Kd.S (Kd.slice 3 (Kd.int .i64)) 30 W base (fun _ => True) vr (xs ++ flatR (fun j => F (set ++ [((c0 + j : Nat) : Int)]) (c0 + j + 1)) 0)) := ⟨v, ho, by simpa [flatR] using hR⟩
  have HG := Aside0.mk (fun j => flatR_succ (fun j => F (set ++ [((c0 + j : Nat) : Int)]) (c0 + j + 1)) j)
  have HLE := Aside0.mk (fun m n h => flatR_le (fun j => F (set ++ [((c0 + j : Nat) : Int)]) (c0 + j + 1)) m n h)
  clear hs hc ha ho hR hS hx ih
  generalize hG : (fun j => F (set ++ [((c0 + j : Nat) : Int)]) (c0 + j + 1)) = G at HX HST HG HLE ⊢
  have HGE := Aside0.mk hG
  clear hG
  go_enter Try.func61, Try.ntmps61
  go_wp2
  go_loopg [8] (cols - c0) (fun gg s8 wr => ∃ j : Nat, c0 ≤ j ∧ j ≤ cols ∧ cols - j ≤ gg ∧ s8 = .int .i64 (j : Int) ∧ Aside0 (∃ vr, wr.heap[bo]? = some (.cells #[vr] 22 (0, 0)) ∧ Kd.S (Kd.slice 3 (Kd.int .i64)) 30 wr base (fun _ => True) vr (xs ++ flatR G (j - c0))) ∧ Aside0 (Below base W wr) ∧ Aside0 (Keeps W wr))
  case atStart => exact ⟨c0, Nat.le_refl _, hc0, Nat.le_refl _, rfl, by rw [Nat.sub_self]; exact HST, ⟨Below.refl _ _⟩, ⟨Keeps.refl _⟩⟩
  case round =>
    clear HST hcs heq
    obtain ⟨j, hj0, hj1, hg, rfl, HST, BW, KW⟩ := hrel
    obtain ⟨hs, hc, ha, hS⟩ := HH.out
    have hcc : wr.cell? ⟨bc, 0, none⟩ = some (.int .i64 (cols : Int)) := (blk_cell ((KW.out bc _ _ hc (by decide) (by decide)).trans hc) 0).trans rfl
    by_cases hlt : j < cols
    · have hltz : (j : Int) < (cols : Int) := by omega
      obtain ⟨kk, hjk⟩ : ∃ kk, j = c0 + kk := ⟨j - c0, by omega⟩
      have hjk2 : j - c0 = kk := by omega
      obtain ⟨vr, h1, h2⟩ := HST.out
      have hs' := (KW.out bs _ _ hs (by decide) (by decide)).trans hs
      have hc' := (KW.out bc _ _ hc (by decide) (by decide)).trans hc
      have ha' := (KW.out ba _ _ ha (by decide) (by decide)).trans ha
      have hS' := KW.out.int hS
      have hbw : base ≤ wr.heap.size := Nat.le_trans hbase BW.out.size
      have hca : wr.cell? ⟨ba, 0, none⟩ = some (.func (.func 61) #[] (adders bs bo bc ba)) := (blk_cell ha' 0).trans rfl
      have hlen : (set ++ [(j : Int)]).length = set.length + 1 := by simp
      have hGk : G kk = F (set ++ [(j : Int)]) (j + 1) := by rw [hjk]; exact (congrFun HGE.out kk).symm
      rw [hjk2] at h2
      have hbnd : xs.length + (flatR G (kk + 1)).length ≤ 1000000 := Nat.le_trans (Nat.add_le_add_left (HLE.out (kk + 1) (cols - c0) (by omega)) _) HX.out
      have key : ∀ (A2 : Option Addr) (c2 : Nat) (w2 : World), Below wr.heap.size wr w2 → Kd.R (Kd.int .i64) 3 w2 base (fun _ => True) (.slice A2 (set.length + 1) c2) (set ++ [(j : Int)]) →
          Calls Try.prog 61 (#[.slice A2 (set.length + 1) c2, .int .i64 ((j : Int) + 1)] ++ adders bs bo bc ba) w2 (AddPost bo base w2 (xs ++ flatR G (kk + 1))) := by
        intro A2 c2 w2 hb hr
        rw [flatR_succ, List.length_append] at hbnd
        rw [hGk] at hbnd
        have h := IH.out (set ++ [(j : Int)]) (j + 1) A2 c2 base vr (xs ++ flatR G kk) w2 (by omega) (by omega) (by rw [hlen]; omega) hbo (Nat.le_trans hbw hb.size) (blk_below hs' hb) (blk_below hc' hb) (blk_below ha' hb) (blk_below h1 hb) (Kd.S_below h2 hb) (by rw [hlen]; exact hr) (by rw [List.length_append]; omega)
        rw [hlen, List.append_assoc, ← hGk, ← flatR_succ] at h
        exact h
      have kc : ∀ W', Below wr.heap.size wr W' → Calls Try.prog 62 #[.slice A set.length c] W' fun e w' => ∃ v0_ : Value, e = .returned v0_ ∧ Kd.R (Kd.int .i64) 3 w' W'.heap.size (fun _ => True) v0_ set ∧ Below W'.heap.size W' w' := fun W' hb =>
        slices_Clone_int_int.calls A c set set W' (Kd.R_reads' (Kd.R_below hS' hb)).2.2 (Kd.R_reads' hS').2.1 (if_pos (by omega))
      have hka : ∀ w2, Below wr.heap.size wr w2 → w2.cell? ⟨ba, 0, none⟩ = some (.func (.func 61) #[] (adders bs bo bc ba)) := fun w2 hb => (blk_cell (blk_below ha' hb) 0).trans rfl
      have hka3 : ∀ w2 w3, Below wr.heap.size wr w2 → Keeps w2 w3 → w3.cell? ⟨ba, 0, none⟩ = some (.func (.func 61) #[] (adders bs bo bc ba)) := fun w2 w3 hb hk => (blk_cell ((hk ba _ _ (blk_below ha' hb) (by decide) (by decide)).trans (blk_below ha' hb)) 0).trans rfl
      have KEY := Aside0.mk key
      have KC := Aside0.mk kc
      have HKA := Aside0.mk hka
      have HKA3 := Aside0.mk hka3
      have hw1 : IntKind.i64.wrap ((j : Int) + 1) = (j : Int) + 1 := by rw [i64_w]; unfold wrap64; omega
      have HLEN := Aside0.mk hlen
      have HBW := Aside0.mk hbw
      have HJ := Aside0.mk (show j + 1 - c0 = kk + 1 by omega)
      clear hjk hjk2 key kc hka hka3 hs hc ha hS hs' hc' ha' hS' h1 h2 hGk hbnd hlen HST hbw
      go_wp2_with (fail)
      go_region_held3 (fun w' => w'.cell? ⟨ba, 0, none⟩ = some (.func (.func 61) #[] (adders bs bo bc ba))) (first | assumption | go_keep)
        (first
          | (go_at_call 62; refine (KC.out _ (by repeat (first | exact Below.refl _ _ | apply below_drew1 | apply below_alloc))).mono ?_; rintro e w1 ⟨v1, rfl, ho1, hb1⟩; obtain ⟨A1, c1, rfl⟩ := Kd.R_slice ho1; have hbW : Below wr.heap.size wr w1 := below_step (by repeat (first | exact Below.refl _ _ | apply below_drew1 | apply below_alloc)) hb1; have hca1 := HKA.out w1 hbW; have hbox : w1.cell? ⟨wr.heap.size, 0, none⟩ = some (.int .i64 (j : Int)) := (blk_cell (blk_below (blk_new wr (.cells #[.int .i64 (j : Int)] 3)) (below_step (below_drew1 (Below.refl _ _)) hb1)) 0).trans rfl; have HBX := Aside0.mk hbox; have HB1 := Aside0.mk hbW; have HO1 : Aside0 (Kd.R (Kd.int .i64) 3 w1 wr.heap.size (fun _ => True) (.slice A1 set.length c1) set) := ⟨low_R (by repeat (first | exact Below.refl _ _ | apply below_drew1 | apply below_alloc)) ho1⟩; clear ho1 hb1 hbW hbox)
          | (go_at_call 62; refine (KC.out _ (by repeat (first | exact Below.refl _ _ | apply below_drew1 | apply below_alloc))).mono ?_; rintro e w1 ⟨v1, rfl, ho1, hb1⟩; obtain ⟨A1, c1, rfl⟩ := Kd.R_slice ho1; have hbW : Below wr.heap.size wr w1 := below_step (by repeat (first | exact Below.refl _ _ | apply below_drew1 | apply below_alloc)) hb1; have hca1 := HKA.out w1 hbW; have hca1b : (w1.alloc (.cells #[.int .i64 (j : Int)] 3)).cell? ⟨ba, 0, none⟩ = some (.func (.func 61) #[] (adders bs bo bc ba)) := Lib.cell?_alloc_some _ hca1; have HB1 := Aside0.mk hbW; have HO1 : Aside0 (Kd.R (Kd.int .i64) 3 w1 wr.heap.size (fun _ => True) (.slice A1 set.length c1) set) := ⟨low_R (by repeat (first | exact Below.refl _ _ | apply below_drew1 | apply below_alloc)) ho1⟩; clear ho1 hb1 hbW)
          | (go_at_call 61; refine (KEY.out A2 c2 _ HB2.out (by have h := HO2.out; rw [HLEN.out] at h; exact h)).mono ?_; rintro e w3 ⟨rfl, vr3, k1, k2, k3, k4⟩; have hca3 := HKA3.out w2 w3 HB2.out k4; have K1 := Aside0.mk k1; have K2 := Aside0.mk k2; have K3 := Aside0.mk k3; have K4 := Aside0.mk k4; clear k1 k2 k3 k4)
          | (refine Kd.R_append_rows_step (Kd.int .i64) (Rr := Kd.K (Kd.int .i64) w1) (w0 := wr) wr.heap.size (by rfl) (.tmp 26) (.tmp 28) 30 3 (.int .i64 0) 8 rfl Try.underlying30 info3 rfl (by decide) (by omega) (.slice A1 set.length c1) set [(j : Int)] (some ⟨wr.heap.size, 0, none⟩) 1 1 (fun _ => True) (fun _ => False) (by rfl) (by rfl) ?aO ?aP (fun _ _ h => h) (fun _ h => h.elim) (fun _ _ => trivial) ?aB ?aS ?aL ?_; (case aP => exact one_C HBX.out); (case aO => exact HO1.out); (case aB => exact HB1.out); (case aS => exact HB1.out.size); (case aL => omega); intro v2 w2 ho2 hb2 hg2 _; obtain ⟨A2, c2, rfl⟩ := Kd.R_slice ho2; have hca2 := HKA.out w2 hb2; have HB2 := Aside0.mk hb2; have HO2 := Aside0.mk (Kd.R_lower ho2 HBW.out); clear ho2 hb2 hg2)
          | (refine Kd.R_append_step (Kd.int .i64) (w0 := wr) wr.heap.size (by rfl) (.tmp 26) (.tmp 28) 30 3 (.int .i64 0) 8 rfl Try.underlying30 info3 rfl (by decide) (by omega) (.slice A1 set.length c1) set ((j : Int)) [.int .i64 (j : Int)] (fun _ => True) (fun _ => False) (by rfl) (by rfl) ?aP (fun _ h => h.elim) (fun _ _ => trivial) ?aO ?aB ?aS ?aL ?_; (case aP => exact rfl); (case aO => exact HO1.out); (case aB => exact HB1.out); (case aS => exact HB1.out.size); (case aL => omega); intro v2 w2 ho2 hb2 hg2 _; obtain ⟨A2, c2, rfl⟩ := Kd.R_slice ho2; have hca2 := HKA.out w2 hb2; have HB2 := Aside0.mk hb2; have HO2 := Aside0.mk (Kd.R_lower ho2 HBW.out); clear ho2 hb2 hg2)
          | fail)
      all_goals
        go_wp2
        go_roundg (cols - (j + 1))
        case measure => omega
        case rel => exact ⟨j + 1, by omega, by omega, Nat.le_refl _, by go_num, ⟨vr3, K1.out, by rw [HJ.out]; exact K2.out⟩, ⟨BW.out.trans ((HB2.out.mono HBW.out).trans K3.out)⟩, ⟨KW.out.trans ((Keeps.below HB2.out).trans K4.out)⟩⟩
    · have hltz : ¬ (j : Int) < (cols : Int) := by omega
      have hkn : j = cols := by omega
      subst hkn
      obtain ⟨vr, h1, h2⟩ := HST.out
      have H1 := Aside0.mk h1
      have H2 := Aside0.mk h2
      clear h1 h2 hs hc ha hS
      go_wp2
      go_end0
      exact ⟨rfl, vr, H1.out, H2.out, BW.out, KW.out⟩
theorem add_calls (size cols bs bo bc ba : Nat) (hcols : cols ≤ 6) (hsize : size ≤ 6) : ∀ (f : Nat) (set : List Int) (c0 : Nat) (A : Option Addr) (c base : Nat) (v : Value) (xs : List (List Int)) (W : World), c0 ≤ cols → cols ≤ c0 + f → set.length ≤ c0 → base ≤ bo → base ≤ W.heap.size → W.heap[bs]? = some (.cells #[.int .i64 (size : Int)] 3 (0, 0)) → W.heap[bc]? = some (.cells #[.int .i64 (cols : Int)] 3 (0, 0)) → W.heap[ba]? = some (.cells #[.func (.func 61) #[] (adders bs bo bc ba)] 64 (0, 0)) → W.heap[bo]? = some (.cells #[v] 22 (0, 0)) →
    Kd.S (Kd.slice 3 (Kd.int .i64)) 30 W base (fun _ => True) v xs → Kd.R (Kd.int .i64) 3 W base (fun _ => True) (.slice A set.length c) set → xs.length + (subsF size cols f set c0).length ≤ 1000000 →
    Calls Try.prog 61 (#[.slice A set.length c, .int .i64 (c0 : Int)] ++ adders bs bo bc ba) W (AddPost bo base W (xs ++ subsF size cols f set c0)) := by
  intro f
  induction f with
  | zero =>
    intro set c0 A c base v xs W h1 h2 h3 h4 h5 hs hc ha ho hR hS hx
    unfold subsF at hx ⊢
    by_cases h : set.length = size
    · rw [if_pos h] at hx ⊢
      exact add_done size bs bo bc ba set c0 A c base v xs W h (by omega) h4 h5 hs ho hR hS (by simpa using hx)
    · rw [if_neg h] at hx ⊢
      have hz : cols - c0 = 0 := by omega
      have e := add_more size cols bs bo bc ba hcols (fun _ _ => []) set c0 A c base v xs W h h3 h1 h4 h5 (fun _ c1 _ _ _ _ _ _ a b => absurd b (by omega)) hs hc ha ho hR hS (by rw [hz]; simp [flatR]; simpa using hx)
      rw [hz] at e
      simpa [flatR] using e
  | succ f ih =>
    intro set c0 A c base v xs W h1 h2 h3 h4 h5 hs hc ha ho hR hS hx
    unfold subsF at hx ⊢
    by_cases h : set.length = size
    · rw [if_pos h] at hx ⊢
      exact add_done size bs bo bc ba set c0 A c base v xs W h (by omega) h4 h5 hs ho hR hS (by simpa using hx)
    · rw [if_neg h] at hx ⊢
      exact add_more size cols bs bo bc ba hcols (subsF size cols f) set c0 A c base v xs W h h3 h1 h4 h5 (fun set c1 A c base v xs W a b d e g k1 k2 k3 k4 k5 k6 k7 => ih set c1 A c base v xs W b (by omega) d e g k1 k2 k3 k4 k5 k6 k7) hs hc ha ho hR hS hx
theorem subs_small : (List.range 7).all (fun c => (List.range 7).all (fun s => decide ((subsF s c c [] 0).length ≤ 64))) = true := by decide +kernel
theorem subs_le (s c : Nat) (hs : s ≤ 6) (hc : c ≤ 6) : (subsF s c c [] 0).length ≤ 64 := by
  have h := List.all_eq_true.1 subs_small c (List.mem_range.2 (by omega))
  have h := List.all_eq_true.1 h s (List.mem_range.2 (by omega))
  exact of_decide_eq_true h
theorem in_range_is (a l h : Int) : impl_InRange.f a l h = some (decide (l ≤ a ∧ a ≤ h)) := by
  unfold impl_InRange.f
  by_cases h1 : l ≤ a <;> simp [h1]
theorem four_boxes (w : World) (n : Nat) (a b c d : Obj) (X : World) (hX : ((((w.alloc a).alloc b).drewN n).alloc c).alloc d = X) : X.heap[w.heap.size]? = some a ∧ X.heap[w.heap.size + 1]? = some b ∧ X.heap[w.heap.size + 1 + 1]? = some c ∧ X.heap[w.heap.size + 1 + 1 + 1]? = some d ∧ Below w.heap.size w X := by
  subst hX
  have h1 := blk_new w a
  have h2 := blk_new (w.alloc a) b
  have h3 := blk_new (((w.alloc a).alloc b).drewN n) c
  have h4 := blk_new ((((w.alloc a).alloc b).drewN n).alloc c) d
  have e2 : (w.alloc a).heap.size = w.heap.size + 1 := by simp
  have e3 : (((w.alloc a).alloc b).drewN n).heap.size = w.heap.size + 1 + 1 := by simp
  have e4 : ((((w.alloc a).alloc b).drewN n).alloc c).heap.size = w.heap.size + 1 + 1 + 1 := by simp
  rw [e2] at h2
  rw [e3] at h3
  rw [e4] at h4
  exact ⟨blk_alloc (blk_alloc (blk_drewN (blk_alloc h1 _) _) _) _, blk_alloc (blk_alloc (blk_drewN h2 _) _) _, blk_alloc h3 _, h4, below_alloc (below_alloc (pw_below_drewN (below_alloc (below_alloc (Below.refl _ _) _) _) _) _) _⟩
theorem first_call (size cols : Nat) (hc6 : cols ≤ 6) (hs6 : size ≤ 6) (w X w1 : World) (n : Nat) (A1 : Option Addr) (c1 : Nat)
    (hX : ((((w.alloc (.cells #[.int .i64 (cols : Int)] 3)).alloc (.cells #[.int .i64 (size : Int)] 3)).drewN n).alloc (.cells #[.slice none 0 0] 22)).alloc (.cells #[.func (.func 61) #[] (adders (w.heap.size + 1) (w.heap.size + 1 + 1) w.heap.size (w.heap.size + 1 + 1 + 1))] 64) = X)
    (hb : Below X.heap.size X w1) (ho : Kd.R (Kd.int .i64) 3 w1 X.heap.size (fun _ => True) (.slice A1 0 c1) []) :
    Calls Try.prog 61 #[.slice A1 0 c1, .int .i64 0, .pointer (some ⟨w.heap.size + 1, 0, none⟩), .pointer (some ⟨w.heap.size + 1 + 1, 0, none⟩), .pointer (some ⟨w.heap.size, 0, none⟩), .pointer (some ⟨w.heap.size + 1 + 1 + 1, 0, none⟩)] w1 fun e w' => e = .returned (.tuple #[]) ∧ ∃ v', w'.cell? ⟨w.heap.size + 1 + 1, 0, none⟩ = some v' ∧ Kd.S (Kd.slice 3 (Kd.int .i64)) 30 w' w.heap.size (fun _ => True) v' (subsF size cols cols [] 0) ∧ Below w.heap.size w w' := by
  obtain ⟨h1, h2, h3, h4, h5⟩ := four_boxes w n _ _ _ _ X hX
  have e := add_calls size cols (w.heap.size + 1) (w.heap.size + 1 + 1) w.heap.size (w.heap.size + 1 + 1 + 1) hc6 hs6 cols [] 0 A1 c1 w.heap.size (.slice none 0 0) [] w1 (by omega) (by omega) (by simp) (by omega) (Nat.le_trans h5.size hb.size) (blk_below h2 hb) (blk_below h1 hb) (blk_below h4 hb) (blk_below h3 hb) (Kd.S_nil _ _ _ _ _) (Kd.R_lower ho h5.size) (by have := subs_le size cols hs6 hc6; simp; omega)
  refine e.mono ?_
  rintro e' w' ⟨rfl, v', k1, k2, k3, k4⟩
  exact ⟨rfl, v', (blk_cell k1 0).trans rfl, by simpa using k2, (below_step h5 hb).trans k3⟩
set_option maxHeartbeats 4000000 in
set_option maxRecDepth 100000 in
theorem impl_SetsOf.calls (a0 : Int) (a1 : Int) (r : List (List Int)) (w : World) (h : impl_SetsOf.f a0 a1 = some r) :
    Calls Try.prog 34 #[.int .i64 a0, .int .i64 a1] w fun e w' => ∃ v0_ : Value, e = .returned (v0_) ∧ Kd.S (Kd.slice 3 (Kd.int .i64)) 30 w' w.heap.size (fun _ => True) v0_ r ∧ Below w.heap.size w w' := by
  unfold impl_SetsOf.f at h
  have q1 : ∀ w, Calls Try.prog 60 #[.int .i64 a0, .int .i64 0, .int .i64 6] w fun e w' => e = .returned (.bool (decide (0 ≤ a0 ∧ a0 ≤ 6))) ∧ Drawn0 w w' := fun w => impl_InRange.calls a0 0 6 _ w (in_range_is _ _ _)
  have q2 : ∀ w, Calls Try.prog 60 #[.int .i64 a1, .int .i64 0, .int .i64 a0] w fun e w' => e = .returned (.bool (decide (0 ≤ a1 ∧ a1 ≤ a0))) ∧ Drawn0 w w' := fun w => impl_InRange.calls a1 0 a0 _ w (in_range_is _ _ _)
  have Q1 := Aside0.mk q1
  have Q2 := Aside0.mk q2
  clear q1 q2
  by_cases h1 : 0 ≤ a0 ∧ a0 ≤ 6
  · by_cases h2 : 0 ≤ a1 ∧ a1 ≤ a0
    · rw [if_pos ⟨h1.1, h1.2, h2.1, h2.2⟩] at h
      obtain rfl := Option.some.inj h
      rw [decide_eq_true h1] at Q1
      rw [decide_eq_true h2] at Q2
      obtain ⟨cols, rfl⟩ := Int.eq_ofNat_of_zero_le h1.1
      obtain ⟨size, rfl⟩ := Int.eq_ofNat_of_zero_le h2.1
      have hc6 : cols ≤ 6 := by omega
      have hs6 : size ≤ 6 := by omega
      clear h h1 h2
      simp only [Int.ofNat_eq_natCast, Int.toNat_natCast] at Q1 Q2 ⊢
      go_enter Try.func34, Try.ntmps34
      go_wp2_with (first | (go_at_call 60; (with_reducible refine (Q1.out _).mono ?_); rintro e w1 ⟨rfl, ⟨nd, rfl⟩⟩) | (go_at_call 60; (with_reducible refine (Q2.out _).mono ?_); rintro e w1 ⟨rfl, ⟨nd2, rfl⟩⟩) | ((with_reducible refine gate_dst (N := 18) rfl ?_); refine Kd.R_lit (Kd.int .i64) (w0 := _) _ 3 ?hg (N := 18) ?hd (xs := ([] : List Int)) (inner := []) (ok := fun _ => True) (okp := fun _ => True) ?hr ?hp (fun _ hk => hk) trivial (Below.refl _ _) (Nat.le_refl _) (by simp) ?_; (case hd => rfl); (case hg => rfl); (case hr => first | (go_simp; done) | (go_simp; rfl)); (case hp => exact Reps.none _ _); intro v1 w1 ho hb hg_ hnew_; obtain ⟨A1, c1, rfl⟩ := Kd.R_slice ho; have HO := Aside0.mk ho; have HB := Aside0.mk hb; clear ho hb hg_ hnew_) | (go_at_call 61; (with_reducible refine (first_call size cols hc6 hs6 w _ w1 _ A1 c1 rfl HB.out HO.out).mono ?_); rintro e w2 ⟨rfl, v2, hcell2, ho2, hb2⟩; have HO2 := Aside0.mk ho2; have HB2 := Aside0.mk hb2; clear ho2 hb2) | fail)
      go_ret
      exact ⟨_, rfl, HO2.out, HB2.out⟩
    · rw [if_neg (fun hq => h2 hq.2.2)] at h
      obtain rfl := Option.some.inj h
      rw [decide_eq_true h1] at Q1
      rw [decide_eq_false h2] at Q2
      clear h h1 h2
      go_enter Try.func34, Try.ntmps34
      go_wp2_with (first | (go_at_call 60; (with_reducible refine (Q1.out _).mono ?_); rintro e w1 ⟨rfl, ⟨nd, rfl⟩⟩) | (go_at_call 60; (with_reducible refine (Q2.out _).mono ?_); rintro e w1 ⟨rfl, ⟨nd2, rfl⟩⟩) | fail)
      go_ret
      exact ⟨_, rfl, Kd.S_nil _ _ _ _ _, by repeat (first | exact Below.refl _ _ | apply pw_below_drewN | apply below_alloc | apply below_drew1)⟩
  · rw [if_neg (fun hq => h1 ⟨hq.1, hq.2.1⟩)] at h
    obtain rfl := Option.some.inj h
    rw [decide_eq_false h1] at Q1
    clear h h1 Q2
    go_enter Try.func34, Try.ntmps34
    go_wp2_with (first | (go_at_call 60; (with_reducible refine (Q1.out _).mono ?_); rintro e w1 ⟨rfl, ⟨nd, rfl⟩⟩) | fail)
    go_ret
    exact ⟨_, rfl, Kd.S_nil _ _ _ _ _, by repeat (first | exact Below.refl _ _ | apply pw_below_drewN | apply below_alloc | apply below_drew1)⟩

/-! ### impl_setsTo: function 56 -/
def impl_setsTo.l0 : Nat → Int → Int → List (List Int) → Int → Option ((List (List Int)))
  | 0, _, _, _, _ => none
  | k + 1, x0, x1, x5, x6 => if x6 ≤ (mn x0 x1) then ((impl_SetsOf.f x0 x6).bind fun t106 => (if x5.length + t106.length < 5864062014805 then (impl_setsTo.l0 k x0 x1 (x5 ++ t106) (wrap64 (x6 + 1))) else (none))) else (some x5)
def impl_setsTo.f (k : Nat) (a0 : Int) (a1 : Int) : Option ((List (List Int))) := impl_setsTo.l0 k a0 a1 ([] : List (List Int)) 0
theorem impl_setsTo.mono_l : ∀ k, (∀ y0 y1 y2 y3, LeO (impl_setsTo.l0 k y0 y1 y2 y3) (impl_setsTo.l0 (k + 1) y0 y1 y2 y3))
  | 0 => fun _ _ _ _ r h => by simp [impl_setsTo.l0] at h
  | k + 1 => by
    have ih0 := impl_setsTo.mono_l k
    · intro y0 y1 y2 y3
      unfold impl_setsTo.l0
      repeat' first
      | (with_reducible exact ih0 _ _ _ _)
      | (with_reducible exact LeO.refl _)
      | (with_reducible exact LeO.none _)
      | (with_reducible refine LeO.ite ?_ ?_)
      | (with_reducible refine LeO.bind ?_ (fun _ => ?_))
      | exact ih0 _ _ _ _
      | exact LeO.none _
      | refine LeO.ite ?_ ?_
      | refine LeO.bind ?_ (fun _ => ?_)
theorem impl_setsTo.mono : ∀ a0 a1 k, LeO (impl_setsTo.f k a0 a1) (impl_setsTo.f (k + 1) a0 a1) := by
  intro a0 a1 k
  have ih0 := impl_setsTo.mono_l k
  unfold impl_setsTo.f
  repeat' first
      | (with_reducible exact ih0 _ _ _ _)
      | (with_reducible exact LeO.refl _)
      | (with_reducible exact LeO.none _)
      | (with_reducible refine LeO.ite ?_ ?_)
      | (with_reducible refine LeO.bind ?_ (fun _ => ?_))
      | exact ih0 _ _ _ _
      | exact LeO.none _
      | refine LeO.ite ?_ ?_
      | refine LeO.bind ?_ (fun _ => ?_)
set_option maxHeartbeats 8000000 in
set_option maxRecDepth 100000 in
theorem impl_setsTo.calls (k : Nat) (a0 : Int) (a1 : Int) (r : List (List Int)) (w : World) (h : impl_setsTo.f k a0 a1 = some r) :
    Calls Try.prog 56 #[.int .i64 a0, .int .i64 a1] w fun e w' => ∃ v0_ : Value, e = .returned (v0_) ∧ Kd.N (Kd.slice 3 (Kd.int .i64)) 30 w' w.heap.size (fun k_ => (w.heap.size ≤ k_)) v0_ r ∧ Below w.heap.size w w' := by
  have HB := Aside0.mk (Below.refl w.heap.size w)
  have H : (impl_setsTo.l0 k a0 a1 ([] : List (List Int)) 0) = some r := h
  clear h
  have H' := Aside0.mk H
  clear H
  go_enter Try.func56, Try.ntmps56
  go_wp2
  go_loopg [5, 6] k (fun kq v5 v6 w' => ∃ (x5_1 : List (List Int)) (x6_1 : Int), v6 = .int .i64 x6_1 ∧ Aside0 (impl_setsTo.l0 kq a0 a1 x5_1 x6_1 = some r) ∧ Aside0 (kq ≤ k) ∧ Aside0 (Kd.N (Kd.slice 3 (Kd.int .i64)) 30 w' w.heap.size (fun k_ => (w.heap.size ≤ k_)) v5 x5_1) ∧ Aside0 (Below w.heap.size w w'))
  case atStart => exact ⟨(([] : List (List Int))), (0), (by first | rfl | (simp; done) | (simp [*]; done)), H', ⟨Nat.le_refl _⟩, ⟨by first | exact Kd.S_nil _ _ _ _ _ | exact Kd.N_nil _ _ _ _ _ | exact Kd.V_nil _ _ _ _ _ | exact Kd.Q_nil _ _ _ _ _ | exact Kd.R_nil _ _ _ _ _⟩, ⟨by repeat (first | (with_reducible first | exact HB.out | apply below_alloc | apply pw_below_drewN | apply below_drew1) | exact HB.out)⟩⟩
  case round =>
    clear H'
    try clear p2
    obtain ⟨x5_1, x6_1, rfl, HA, HK1, HO_5, HB⟩ := hrel
    cases gk with
    | zero => exact absurd HA.out (by simp [impl_setsTo.l0])
    | succ k1 =>
      have H := HA.out
      clear HA
      simp only [impl_setsTo.l0] at H
      obtain ⟨ji3, hji3⟩ : ∃ j_ : Int, (mn a0 a1) = j_ := ⟨_, rfl⟩
      replace H : (if x6_1 ≤ (ji3) then ((impl_SetsOf.f a0 x6_1).bind fun t106 => (if x5_1.length + t106.length < 5864062014805 then (impl_setsTo.l0 k1 a0 a1 (x5_1 ++ t106) (wrap64 (x6_1 + 1))) else (none))) else (some x5_1)) = some r := by first | (rw [hji3] at H; exact H) | (simp only [hji3] at H ⊢; exact H)
      have hji3_ : (if a1 < a0 then a1 else a0) = ji3 := hji3
      by_cases c4 : x6_1 ≤ (ji3)
      · rw [if_pos c4] at H
        have c4b0 : decide (x6_1 ≤ (ji3)) = true := decide_eq_true c4
        clear c4
        replace H := Option.bind_eq_some_iff.mp H
        obtain ⟨t106, A50, H⟩ := H
        replace H : (if x5_1.length + t106.length < 5864062014805 then (impl_setsTo.l0 k1 a0 a1 (x5_1 ++ t106) (wrap64 (x6_1 + 1))) else (none)) = some r := H
        have A5 := Aside0.mk A50
        clear A50
        by_cases c6 : x5_1.length + t106.length < 5864062014805
        · rw [if_pos c6] at H
          have LMc6 := Aside0.mk c6
          clear c6
          obtain ⟨y109, hy109⟩ : ∃ y_ : List (List Int), y_ = (x5_1 ++ t106) := ⟨_, rfl⟩
          replace H : (impl_setsTo.l0 k1 a0 a1 y109 (wrap64 (x6_1 + 1))) = some r := by first | (rw [hy109]; with_reducible exact H) | (have H2_ := (Option.bind_some _ _).symm.trans H; rw [hy109]; with_reducible exact H2_) | (have H2_ := (Option.bind_some _ _).symm.trans H; with_reducible exact H2_) | with_reducible exact H | (rw [hy109]; exact H) | exact H
          have Ny109 := Aside0.mk hy109
          clear hy109
          have H' := Aside0.mk H
          clear H
          go_wp2_with (first | ((with_reducible refine gate_callee (f := 34) rfl ?_); refine goesL_ (some 17) rfl rfl Try.func34 (by kernel_rfl) rfl #[.int .i64 a0, .int .i64 x6_1] rfl (by (try simp only [List.map_toArray, List.map_cons, List.map_nil]); first | done | rfl | (simp only [List.length_drop, List.length_take]; rfl)) ?_; (with_reducible refine (impl_SetsOf.calls a0 x6_1 t106 _ A5.out).mono ?_); rintro e w7 ⟨v107, rfl, ho0, hb⟩; refine ⟨_, rfl, ?_⟩; have n0_ := Aside0.mk (Kd.N_elder' (by (with_reducible repeat (first | apply Kd.N_alloc | apply Kd.N_drewN | apply Kd.N_drew)); exact HO_5.out) (Kd.N_base (Kd.S_N ho0)) hb); have n1_ := Aside0.mk (Kd.N_lower (Kd.N_mono (ok' := fun k_ => (w.heap.size ≤ k_) ∧ some k_ ≠ (u5 : Value).ownBlock) (Kd.S_N (Kd.S_bound ho0)) (fun k_ hk_ => ⟨(Nat.le_trans (below_size (by repeat (first | (with_reducible first | exact HB.out | apply below_alloc | apply pw_below_drewN | apply below_drew1) | exact HB.out))) hk_.2.1), (Kd.fresh' (Kd.N_lt (by (with_reducible repeat (first | apply Kd.N_alloc | apply Kd.N_drewN | apply Kd.N_drew)); exact HO_5.out)) k_ hk_.2.1)⟩)) (below_size (by repeat (first | (with_reducible first | exact HB.out | apply below_alloc | apply pw_below_drewN | apply below_drew1) | exact HB.out)))); have n2_ := Aside0.mk (below_step (by repeat (first | (with_reducible first | exact HB.out | apply below_alloc | apply pw_below_drewN | apply below_drew1) | exact HB.out)) hb); clear HO_5; clear HB; have HO_5 := n0_; have HO108 := n1_; have HB := n2_; clear n0_ n1_ n2_; (try clear hb); (try clear hb2); (try clear hk); (try clear hi); (try clear ho0); obtain ⟨Ao9, co9, eo9⟩ := Kd.N_slice HO108.out; subst eo9) | ((with_reducible refine gate_builtin (b := .append) (xs := #[.tmp 14, .tmp 17]) rfl ?_); at_builtin; refine Kd.N_append_rows (Kd.slice 3 (Kd.int .i64)) (w0 := w) w.heap.size rfl (.tmp 14) (.tmp 17) 22 30 (.slice none 0 0) 24 rfl Try.underlying22 info30 rfl (by decide) (by omega) u5 x5_1 t106 _ _ _ (fun k_ => (w.heap.size ≤ k_)) (fun k_ => ((fun k_ => (w.heap.size ≤ k_))) k_ ∧ some k_ ≠ (u5 : Value).ownBlock) rfl rfl ?aO ?aR (fun _ hk => hk) ?aF ?aB ?aS ?aL ?_; (case aR => exact (by skip; exact Kd.N_F (Kd.N_mono (ok' := (fun k_ => ((fun k_ => (w.heap.size ≤ k_))) k_ ∧ some k_ ≠ (u5 : Value).ownBlock)) (HO108.out) (fun k_ hk => ⟨hk.1, hk.2⟩)))); (case aB => exact (by repeat (first | (with_reducible first | exact HB.out | apply below_alloc | apply pw_below_drewN | apply below_drew1) | exact HB.out))); (case aF => exact (fun k_ hk => (Nat.le_trans (below_size (by repeat (first | (with_reducible first | exact HB.out | apply below_alloc | apply pw_below_drewN | apply below_drew1) | exact HB.out))) hk))); (case aO => exact (by (with_reducible repeat (first | apply Kd.N_alloc | apply Kd.N_drewN | apply Kd.N_drew)); exact Kd.N_mono HO_5.out (fun _ hk => hk.1))); (case aS => exact (below_size (by repeat (first | (with_reducible first | exact HB.out | apply below_alloc | apply pw_below_drewN | apply below_drew1) | exact HB.out)))); (case aL => have := LMc6.out; omega); intro v110 w8 ho hb hg hat; rw [← Ny109.out] at ho; have n0_ := Aside0.mk (Kd.N_afterv (ok := (fun k_ => (w.heap.size ≤ k_))) (by (with_reducible repeat (first | apply Kd.N_alloc | apply Kd.N_drewN | apply Kd.N_drew)); exact HO108.out) hg hat); have n1_ := Aside0.mk (hb); have n2_ := Aside0.mk (ho); clear HO108; clear HB; clear HO_5; have HO108 := n0_; have HB := n1_; have HO111 := n2_; clear n0_ n1_ n2_; clear ho hb hg hat))
          go_roundg k1
          case measure => have := HK1.out; omega
          case rel => exact ⟨(y109), (wrap64 (x6_1 + 1)), (by first | rfl | (simp; done) | (simp [*]; done)), H', ⟨by have := HK1.out; omega⟩, ⟨by (with_reducible repeat (first | apply Kd.N_alloc | apply Kd.N_drewN | apply Kd.N_drew)); exact HO111.out⟩, ⟨by repeat (first | (with_reducible first | exact HB.out | apply below_alloc | apply pw_below_drewN | apply below_drew1) | exact HB.out)⟩⟩
        · rw [if_neg c6] at H
          exact absurd H (by simp)
      · rw [if_neg c4] at H
        have c4b0 : decide (x6_1 ≤ (ji3)) = false := decide_eq_false c4
        clear c4
        obtain rfl := Option.some.inj H
        go_wp2
        go_ret
        exact ⟨_, by first | rfl | (simp [errW_none, errW_some] <;> rfl) | (simp only [← hji3]; first | rfl | (simp [errW_none, errW_some] <;> rfl)) | (simp [*, errW_none, errW_some] <;> rfl), by (with_reducible repeat (first | apply Kd.N_alloc | apply Kd.N_drewN | apply Kd.N_drew)); exact HO_5.out, by repeat (first | (with_reducible first | exact HB.out | apply below_alloc | apply pw_below_drewN | apply below_drew1) | exact HB.out)⟩

-- NOT PRINTED: function 83 (slices_IndexFunc_int_int_83)

-- NOT PRINTED: function 76 (slices_ContainsFunc_int_int_76)

/-! ### impl_FailsWith: function 57 -/
def anyB_77 (n : Nat) (B : Nat → Bool) : Bool := (List.range n).any B
theorem anyB_77_hit {n : Nat} {B : Nat → Bool} {k : Nat} (h : k < n) (hb : B k = true) : anyB_77 n B = true := List.any_eq_true.2 ⟨k, List.mem_range.2 h, hb⟩
theorem anyB_77_miss {n : Nat} {B : Nat → Bool} (h : ∀ j, j < n → B j = false) : anyB_77 n B = false := List.any_eq_false.2 (fun j hj => by rw [h j (List.mem_range.1 hj)]; simp)
set_option maxHeartbeats 4000000 in
set_option maxRecDepth 100000 in
theorem idx_77 (lb : Array Value) (a : Addr) (n c : Nat) (V : Nat → Value) (B : Nat → Bool) (w : World) (hb : n ≤ 9223372036854775807)
    (hw : 0 < n → a.block < w.heap.size) (hc : ∀ j, j < n → w.cell? (a.add j) = some (V j))
    (hp : ∀ j, j < n → ∀ W, Below w.heap.size w W → Calls Try.prog 77 (#[V j] ++ lb) W fun e w' => e = .returned (.bool (B j)) ∧ Below W.heap.size W w') :
    Calls Try.prog 83 #[.slice (some a) n c, .func (.func 77) #[] lb] w fun e w' => ∃ r : Int, e = .returned (.int .i64 r) ∧ decide (0 ≤ r) = anyB_77 n B ∧ Below w.heap.size w w' := by
  have HC := Aside0.mk hc
  have HP := Aside0.mk hp
  have HW := Aside0.mk hw
  clear hc hp hw
  go_enter Try.func83, Try.ntmps83
  go_wp2
  go_loopg [5, 8] n (fun gg _ s8 wr => ∃ kk : Nat, kk ≤ n ∧ n - kk ≤ gg ∧ s8 = .int .i64 kk ∧ Aside0 (Below w.heap.size w wr) ∧ Aside0 (∀ j, j < kk → B j = false))
  case atStart => exact ⟨0, Nat.zero_le _, by omega, rfl, ⟨Below.refl _ w⟩, ⟨fun j hj => absurd hj (Nat.not_lt_zero _)⟩⟩
  case round =>
    obtain ⟨kk, hkk, hg, rfl, BW, AB⟩ := hrel
    by_cases hlt : kk < n
    · have hltz : (kk : Int) < (n : Int) := by omega
      have hcell : wr.cell? (a.add kk) = some (V kk) := (BW.out.cell (p := a.add kk) (by have h := HW.out (by omega); simpa [Addr.add] using (by unfold Addr.add; split <;> exact h : (a.add kk).block < w.heap.size))).trans (HC.out kk hlt)
      have hcall := HP.out kk hlt wr BW.out
      generalize hv : V kk = v at hcell hcall
      have HV := Aside0.mk hv
      clear hv
      cases hq : B kk with
      | true =>
        rw [hq] at hcall
        have HQ := Aside0.mk hq
        clear hq
        go_wp2_with (go_at_call 77; refine hcall.mono ?_; rintro e w' ⟨rfl, hb'⟩; have HB := Aside0.mk hb'; clear hb')
        go_ret
        exact ⟨_, rfl, by rw [anyB_77_hit hlt HQ.out]; exact decide_eq_true (by omega), below_step BW.out HB.out⟩
      | false =>
        rw [hq] at hcall
        have HQ := Aside0.mk hq
        clear hq
        go_wp2_with (go_at_call 77; refine hcall.mono ?_; rintro e w' ⟨rfl, hb'⟩; have HB := Aside0.mk hb'; clear hb')
        go_roundg (n - (kk + 1))
        case measure => omega
        case rel =>
          refine ⟨kk + 1, by omega, by omega, by go_num, ⟨below_step BW.out HB.out⟩, ⟨fun j hj => ?_⟩⟩
          by_cases e : j = kk
          · subst e; exact HQ.out
          · exact AB.out j (by omega)
    · have hltz : ¬ (kk : Int) < (n : Int) := by omega
      have hkn : kk = n := by omega
      subst hkn
      go_wp2
      go_ret
      exact ⟨-1, rfl, by rw [anyB_77_miss AB.out]; rfl, BW.out⟩
set_option maxHeartbeats 4000000 in
theorem idx_77_none (fv : Value) (c : Nat) (a : Option Addr) (w : World) :
    Calls Try.prog 83 #[.slice a 0 c, fv] w fun e w' => e = .returned (.int .i64 (-1)) ∧ w = w' := by
  go_enter Try.func83, Try.ntmps83
  go_wp2
  go_loopg [5, 8] 0 (fun _ _ s8 wr => s8 = .int .i64 0 ∧ w = wr)
  case atStart => exact ⟨rfl, rfl⟩
  case round =>
    obtain ⟨rfl, rfl⟩ := hrel
    go_wp2
    go_ret
    exact ⟨rfl, rfl⟩
set_option maxHeartbeats 4000000 in
theorem has_77 (lb : Array Value) (A0 : Option Addr) (n c : Nat) (V : Nat → Value) (B : Nat → Bool) (w : World) (hb : n ≤ 9223372036854775807)
    (hw : 0 < n → ∃ a, A0 = some a ∧ a.block < w.heap.size ∧ ∀ j, j < n → w.cell? (a.add j) = some (V j))
    (hp : ∀ j, j < n → ∀ W, Below w.heap.size w W → Calls Try.prog 77 (#[V j] ++ lb) W fun e w' => e = .returned (.bool (B j)) ∧ Below W.heap.size W w') :
    Calls Try.prog 76 #[.slice A0 n c, .func (.func 77) #[] lb] w fun e w' => e = .returned (.bool (anyB_77 n B)) ∧ Below w.heap.size w w' := by
  rcases Nat.eq_zero_or_pos n with h0 | h0
  · subst h0
    clear hw hp
    go_enter Try.func76, Try.ntmps76
    go_wp2_with (go_at_call 83; refine (idx_77_none _ _ _ _).mono ?_; rintro e w' ⟨rfl, rfl⟩)
    go_ret
    exact ⟨rfl, Below.refl _ _⟩
  · obtain ⟨a, rfl, hw1, hc⟩ := hw h0
    have hcon := idx_77 lb a n c V B w hb (fun _ => hw1) hc hp
    clear hp hc hw hw1
    go_enter Try.func76, Try.ntmps76
    go_wp2_with (go_at_call 83; refine hcon.mono ?_; rintro e w' ⟨r, rfl, hr, hb'⟩; have HR := Aside0.mk hr; have HB := Aside0.mk hb'; clear hr hb')
    all_goals (go_ret; exact ⟨by rw [← HR.out]; rfl, HB.out⟩)
theorem gv_lt_57 {w : World} {a : Addr} {v : Value} (h : w.cell? a = some v) : a.block < w.heap.size := by
  rcases Nat.lt_or_ge a.block w.heap.size with h1 | h1
  · exact h1
  · simp [World.cell?, Array.getElem?_eq_none h1] at h
/-- whether a link of the list lies on the row. -/
def failsB (row : List Int) (k : Int) : Bool := decide (0 ≤ k ∧ k < row.length ∧ rd row k = 1)
def impl_FailsWith.f (l0 : List Int) (l1 : List Int) : Option Bool := some (l1.any (failsB l0))
set_option maxHeartbeats 4000000 in
set_option maxRecDepth 100000 in
theorem fails_one (row : List Int) (A0 : Option Addr) (c0 : Nat) (x : Int) (b : Nat) (w : World) (hr : Kd.C (Kd.int .i64) w A0 row.length row) (hb : w.heap[b]? = some (.cells #[.slice A0 row.length c0] 30 (0, 0))) (W : World) (hW : Below w.heap.size w W) :
    Calls Try.prog 77 (#[.int .i64 x] ++ #[.pointer (some ⟨b, 0, none⟩)]) W fun e w' => e = .returned (.bool (failsB row x)) ∧ Below W.heap.size W w' := by
  have hcell : W.cell? ⟨b, 0, none⟩ = some (.slice A0 row.length c0) := (blk_cell (blk_below hb hW) 0).trans rfl
  have hm : row.length ≤ 9223372036854775807 := Kd.C_max hr
  have HC := Aside0.mk (Kd.C_below hr hW)
  clear hr hb hW
  show Calls Try.prog 77 #[.int .i64 x, .pointer (some ⟨b, 0, none⟩)] W _
  by_cases h0 : 0 ≤ x
  · by_cases h1 : x < (row.length : Int)
    · obtain ⟨ad, rfl, hx⟩ := Kd.at_int HC.out x h0 h1
      by_cases h2 : rd row x = 1
      · have e : failsB row x = true := by simp [failsB, h0, h1, h2]
        rw [e]; clear e
        rw [h2] at hx
        clear h2 HC
        go_enter Try.func77, Try.ntmps77
        go_wp2
        go_ret
        exact ⟨rfl, Below.refl _ _⟩
      · have e : failsB row x = false := by simp [failsB, h2]
        rw [e]; clear e
        have h3 : (rd row x == 1) = false := beq_eq_false_iff_ne.mpr h2
        clear h2 HC
        go_enter Try.func77, Try.ntmps77
        go_wp2
        go_ret
        exact ⟨rfl, Below.refl _ _⟩
    · have e : failsB row x = false := by simp [failsB, h1]
      rw [e]; clear e HC
      go_enter Try.func77, Try.ntmps77
      go_wp2
      go_ret
      exact ⟨rfl, Below.refl _ _⟩
  · have e : failsB row x = false := by simp [failsB, h0]
    rw [e]; clear e HC
    go_enter Try.func77, Try.ntmps77
    go_wp2
    go_ret
    exact ⟨rfl, Below.refl _ _⟩
set_option maxHeartbeats 4000000 in
set_option maxRecDepth 100000 in
theorem impl_FailsWith.calls (A0 : Option Addr) (c0 : Nat) (l0 : List Int) (A1 : Option Addr) (c1 : Nat) (l1 : List Int) (r : Bool) (w : World) (hr0 : Kd.C (Kd.int .i64) w A0 l0.length l0) (hc0 : l0.length ≤ c0) (hr1 : Kd.C (Kd.int .i64) w A1 l1.length l1) (hc1 : l1.length ≤ c1) (h : impl_FailsWith.f l0 l1 = some r) :
    Calls Try.prog 57 #[.slice A0 l0.length c0, .slice A1 l1.length c1] w fun e w' => e = .returned (.bool r) ∧ Below w.heap.size w w' := by
  obtain rfl : l1.any (failsB l0) = r := Option.some.inj h
  clear h hc0 hc1
  have hcon := has_77 #[.pointer (some ⟨w.heap.size, 0, none⟩)] A1 l1.length c1 (fun j => .int .i64 (l1.getD j 0)) (fun j => failsB l0 (l1.getD j 0)) (w.alloc (.cells #[.slice A0 l0.length c0] 30)) (Kd.C_max hr1)
    (fun h0 => by
      obtain ⟨a, e, hc⟩ := (Kd.reads_of_C (d := (0 : Int)) hr1).2.2 h0
      refine ⟨a, e, ?_, fun j hj => ?_⟩
      · have h2 := gv_lt_57 (hc 0 h0)
        have h3 : (a.add 0).block = a.block := by unfold Addr.add; split <;> rfl
        have h4 : (w.alloc (.cells #[.slice A0 l0.length c0] 30)).heap.size = w.heap.size + 1 := by simp
        omega
      · exact Lib.cell?_alloc_some _ (hc j hj))
    (fun j hj W hW => fails_one l0 A0 c0 (l1.getD j 0) w.heap.size (w.alloc (.cells #[.slice A0 l0.length c0] 30)) (Kd.C_alloc hr0 _) (blk_new w _) W hW)
  have e : anyB_77 l1.length (fun j => failsB l0 (l1.getD j 0)) = l1.any (failsB l0) := by
    unfold anyB_77
    rw [Bool.eq_iff_iff, List.any_eq_true, List.any_eq_true]
    constructor
    · rintro ⟨j, hj, h⟩
      have hlt := List.mem_range.1 hj
      exact ⟨l1[j], List.getElem_mem hlt, by simpa [List.getD, hlt] using h⟩
    · rintro ⟨x, hx, h⟩
      obtain ⟨j, hlt, rfl⟩ := List.mem_iff_getElem.1 hx
      exact ⟨j, List.mem_range.2 hlt, by simpa [List.getD, hlt] using h⟩
  rw [e] at hcon
  clear e hr0 hr1
  generalize l1.any (failsB l0) = q at hcon ⊢
  go_enter Try.func57, Try.ntmps57
  go_wp2_with (go_at_call 76; refine hcon.mono ?_; rintro e w' ⟨rfl, hb⟩; have HB := Aside0.mk hb; clear hb)
  go_ret
  exact ⟨rfl, below_step (below_alloc (Below.refl _ w) _) HB.out⟩

/-! ### impl_CountClasses: function 29 -/
section
open Go.Maps
/-- the rows that fail with a set, one bit each. -/
def failBits (m : List (List Int)) (s : List Int) : Nat → Nat
  | 0 => 0
  | i + 1 => failBits m s i + (if s.any (failsB (rd_L1 m (i : Int))) = true then 2 ^ i else 0)
theorem failBits_lt (m : List (List Int)) (s : List Int) : ∀ i, failBits m s i < 2 ^ i
  | 0 => Nat.one_pos
  | i + 1 => by
    have := failBits_lt m s i
    unfold failBits
    rw [Nat.pow_succ]
    split <;> omega
theorem failBits_small (m : List (List Int)) (s : List Int) (i : Nat) (h : i ≤ 12) : failBits m s i < 4096 := Nat.lt_of_lt_of_le (failBits_lt m s i) (Nat.pow_le_pow_right (by decide) h)
theorem failBits_or {x i : Nat} (hx : x < 2 ^ i) (hi : i < 12) : Go.bits .or .i64 (x : Int) ((2 ^ i : Nat) : Int) = ((x + 2 ^ i : Nat) : Int) := by
  have h12 : 2 ^ i < 4096 := Nat.pow_lt_pow_of_lt (by decide) hi
  have h := Nat.two_pow_add_eq_or_of_lt hx 1
  rw [Nat.mul_one] at h
  simp only [Go.bits, BitVec.toNat_or, BitVec.ofInt_natCast, BitVec.toNat_ofNat]
  have e1 : x % 2 ^ IntKind.i64.bits = x := Nat.mod_eq_of_lt (by show x < 2 ^ 64; omega)
  have e2 : 2 ^ i % 2 ^ IntKind.i64.bits = 2 ^ i := Nat.mod_eq_of_lt (by show 2 ^ i < 2 ^ 64; omega)
  rw [e1, e2, Nat.or_comm, ← h, i64_w]
  unfold wrap64
  omega
def bitKeys (m : List (List Int)) (ss : List (List Int)) : List Lit := ss.map (fun s => Lit.int .i64 (failBits m s m.length : Nat))
theorem bitKeys_succ (m ss : List (List Int)) (j : Nat) (hj : j < ss.length) : bitKeys m (ss.take (j + 1)) = bitKeys m (ss.take j) ++ [Lit.int .i64 (failBits m (rd_L1 ss (j : Int)) m.length : Nat)] := by
  have : rd_L1 ss (j : Int) = ss[j] := by simp [rd_L1, List.getD, hj]
  rw [this]
  unfold bitKeys
  rw [List.take_succ_eq_append_getElem hj, List.map_append]; rfl
def classesN (m ss : List (List Int)) : Nat := Maps.size (setOf (H := Unit) (.lit (.int .i64 1)) (bitKeys m ss))
def impl_CountClasses.f (k : Nat) (l0 : List (List Int)) (a1 : Int) (a2 : Int) : Option Int := (impl_isBits.f k l0 a1).bind fun t => if t = true then (if a2 < 0 then some 0 else (impl_setsTo.f k a1 a2).bind fun ss => if l0.length ≤ 12 ∧ ss.length ≤ 1000000 then some ((classesN l0 ss : Nat) : Int) else none) else some 0
theorem impl_CountClasses.mono : ∀ a0 a1 a2 k, LeO (impl_CountClasses.f k a0 a1 a2) (impl_CountClasses.f (k + 1) a0 a1 a2) := by
  intro a0 a1 a2 k
  unfold impl_CountClasses.f
  exact LeO.bind (impl_isBits.mono _ _ _) (fun t => LeO.ite (LeO.ite (LeO.refl _) (LeO.bind (impl_setsTo.mono _ _ _) (fun _ => LeO.refl _))) (LeO.refl _))
theorem count_key : Keyed Try.prog 3 := int_keyed Try.underlying3
theorem count_step {m ss : List (List Int)} {j : Nat} (hj : j < ss.length) : setOf (H := Unit) (.lit (.int .i64 1)) (bitKeys m (ss.take (j + 1))) = (setOf (H := Unit) (.lit (.int .i64 1)) (bitKeys m (ss.take j))).put (Lit.int .i64 (failBits m (rd_L1 ss (j : Int)) m.length : Nat)) (.lit (.int .i64 1)) := by
  rw [bitKeys_succ m ss j hj, setOf_snoc]
theorem count_at0 {w1 w2 : World} {m ss : List (List Int)} (hb : Below (w1.alloc (.map #[] 0)).heap.size (w1.alloc (.map #[] 0)) w2) : Aside0 (w2.ownsMap Try.prog 3 (plainElem (H := Unit) Try.prog 3) w1.heap.size 0 (setOf (H := Unit) (.lit (.int .i64 1)) (bitKeys m (ss.take 0)))) := ⟨by
  have h := World.ownsMap_made w1 Try.prog 3 (plainElem (H := Unit) Try.prog 3)
  exact h.kept (row := none) ⟨hb.os, hb.tape, hb.output, hb.size, fun k hk _ => hb.block k hk⟩ (by simp)⟩
theorem count_N0 {w1 w2 : World} {o : Obj} {v : Value} {ss : List (List Int)} (h : Kd.N (Kd.slice 3 (Kd.int .i64)) 30 w2 (w1.alloc o).heap.size (fun k_ => (w1.alloc o).heap.size ≤ k_) v ss) : Aside0 (Kd.N (Kd.slice 3 (Kd.int .i64)) 30 w2 (w1.heap.size + 1) (fun k_ => w1.heap.size + 1 ≤ k_) v ss) := ⟨by
  have e : (w1.alloc o).heap.size = w1.heap.size + 1 := by simp
  rw [e] at h
  exact h⟩
theorem count_B0 {w1 w2 : World} {o : Obj} (hb : Below (w1.alloc o).heap.size (w1.alloc o) w2) : Aside0 (Below w1.heap.size w1 w2) := ⟨below_step (below_alloc (Below.refl _ _) _) hb⟩
theorem count_size {m ss : List (List Int)} {e : Value} (h : e = .int .i64 (Maps.size (setOf (H := Unit) (.lit (.int .i64 1)) (bitKeys m ss)) : Int)) : Ending.returned e = .returned (.int .i64 ((classesN m ss : Nat) : Int)) := by
  rw [h]; rfl
theorem below_grown0 {w w' : World} {row : Option Nat} (hb : Below w.heap.size w w') : w.grownBy w' row := ⟨hb.os, hb.tape, hb.output, hb.size, fun k hk _ => hb.block k hk⟩
theorem failBits_wf (m : List (List Int)) (s : List Int) (h : m.length ≤ 12) : (Lit.int .i64 ((failBits m s m.length : Nat) : Int)).wf = true := by
  have := failBits_small m s m.length h
  exact WalkArith.wf_i64 (by omega)
theorem count_or {x i : Nat} {e : Value} (hx : x < 2 ^ i) (hi : i < 12) (h : e = .int .i64 (Go.bits .or .i64 (x : Int) (wrap64 ((2 : Int) ^ i))) := by rfl) : e = .int .i64 ((x + 2 ^ i : Nat) : Int) := by
  have h12 : 2 ^ i < 4096 := Nat.pow_lt_pow_of_lt (by decide) hi
  have e1 : wrap64 ((2 : Int) ^ i) = ((2 ^ i : Nat) : Int) := by
    have : ((2 : Int) ^ i) = ((2 ^ i : Nat) : Int) := by rw [Int.natCast_pow]; rfl
    unfold wrap64
    omega
  rw [h, e1, failBits_or hx hi]
theorem count_below {w1 wr wi w4 : World} (h1 : Below w1.heap.size w1 wr) (h2 : Below wr.heap.size wr wi) (h3 : wi.grownBy w4 (some w1.heap.size)) : Below w1.heap.size w1 w4 :=
  (below_step h1 h2).grown h3 (below_step h1 h2).size (fun j hj => by cases hj; exact Nat.le_refl _)
set_option maxHeartbeats 4000000 in
set_option maxRecDepth 100000 in
theorem impl_CountClasses.calls (k : Nat) (A0 : Option Addr) (c0 : Nat) (l0 : List (List Int)) (a1 a2 : Int) (r : Int) (w : World) (hr0 : Kd.C (Kd.slice 3 (Kd.int .i64)) w A0 l0.length l0) (hc0 : l0.length ≤ c0) (h : impl_CountClasses.f k l0 a1 a2 = some r) :
    Calls Try.prog 29 #[.slice A0 l0.length c0, .int .i64 a1, .int .i64 a2] w fun e w' => e = .returned (.int .i64 r) ∧ Below w.heap.size w w' := by
  obtain ⟨t, ht, h⟩ := Option.bind_eq_some_iff.mp h
  have k1 := impl_isBits.calls k A0 c0 l0 a1 t w hr0 hc0 ht
  have HR0 := Aside0.mk hr0
  have HC0 := Aside0.mk hc0
  clear ht hr0 hc0
  cases t with
  | false =>
    have e : 0 = r := by simpa using h
    subst e
    clear h
    go_enter Try.func29, Try.ntmps29
    go_wp2_with (first | (go_at_call 50; refine k1.mono ?_; rintro e w1 ⟨rfl, hb⟩; have HB := Aside0.mk hb; clear hb) | fail)
    go_ret
    exact ⟨rfl, HB.out⟩
  | true =>
    rw [if_pos rfl] at h
    by_cases h2 : a2 < 0
    · rw [if_pos h2] at h
      obtain rfl := Option.some.inj h
      have d2 : decide (a2 < 0) = true := decide_eq_true h2
      clear h h2
      go_enter Try.func29, Try.ntmps29
      go_wp2_with (first | (go_at_call 50; refine k1.mono ?_; rintro e w1 ⟨rfl, hb⟩; have HB := Aside0.mk hb; clear hb) | fail)
      go_ret
      exact ⟨rfl, HB.out⟩
    · rw [if_neg h2] at h
      obtain ⟨ss, hs, h⟩ := Option.bind_eq_some_iff.mp h
      have hbd : l0.length ≤ 12 ∧ ss.length ≤ 1000000 := by
        by_cases hq : l0.length ≤ 12 ∧ ss.length ≤ 1000000
        · exact hq
        · rw [if_neg hq] at h; cases h
      rw [if_pos hbd] at h
      obtain rfl := Option.some.inj h
      obtain ⟨hl12, hss⟩ := hbd
      have d2 : decide (a2 < 0) = false := decide_eq_false h2
      have HS := Aside0.mk hs
      clear h h2 hs
      have hmm := @run_makeMap Try.prog
      go_enter Try.func29, Try.ntmps29
      go_wp2_with (first | (go_at_call 50; refine k1.mono ?_; rintro e w1 ⟨rfl, hb⟩; have HB := Aside0.mk hb; clear hb k1) | (go_at_call 56; refine (impl_setsTo.calls k a1 a2 ss _ HS.out).mono ?_; rintro e w2 ⟨v2, rfl, ho, hb⟩; obtain ⟨Ao, co, rfl⟩ := Kd.N_slice ho; have HN := Aside0.mk ho; have HB2 := Aside0.mk hb; clear ho hb) | fail)
      go_loopg [26] ss.length (fun gg s26 wr => ∃ j : Nat, j ≤ ss.length ∧ ss.length - j ≤ gg ∧ s26 = .int .i64 (j : Int) ∧ Aside0 (wr.ownsMap Try.prog 3 (plainElem (H := Unit) Try.prog 3) w1.heap.size j (setOf (H := Unit) (.lit (.int .i64 1)) (bitKeys l0 (ss.take j)))) ∧ Aside0 (Kd.N (Kd.slice 3 (Kd.int .i64)) 30 wr (w1.heap.size + 1) (fun k_ => w1.heap.size + 1 ≤ k_) (.slice Ao ss.length co) ss) ∧ Aside0 (Below w1.heap.size w1 wr))
      case atStart => exact ⟨0, Nat.zero_le _, Nat.le_refl _, rfl, count_at0 HB2.out, count_N0 HN.out, count_B0 HB2.out⟩
      case round =>
        clear HN HB2 hmm
        obtain ⟨j, hj, hg, rfl, HM, HN, HW⟩ := hrel
        by_cases hlt : j < ss.length
        · have hltz : (j : Int) < (ss.length : Int) := by omega
          obtain ⟨ad, Aj, cj, e, hcell, hlen, hC⟩ := at_L1 (Kd.N_reads' HN.out).2.2 (j : Int) (by omega) (by omega)
          subst e
          rw [show (j : Int).toNat = j from rfl] at hcell
          have HLEN := Aside0.mk hlen
          have HC := Aside0.mk hC
          clear hlen hC
          go_wp2
          go_loopg [10, 32] l0.length (fun gg s10 s32 wi => ∃ i : Nat, i ≤ l0.length ∧ l0.length - i ≤ gg ∧ s32 = .int .i64 (i : Int) ∧ s10 = .int .i64 ((failBits l0 (rd_L1 ss (j : Int)) i : Nat) : Int) ∧ Aside0 (Below wr.heap.size wr wi))
          case atStart => exact ⟨0, Nat.zero_le _, Nat.le_refl _, rfl, rfl, ⟨Below.refl _ _⟩⟩
          case round =>
            obtain ⟨i, hi, hgi, rfl, rfl, BW⟩ := hrel
            by_cases hil : i < l0.length
            · have hilz : (i : Int) < (l0.length : Int) := by omega
              obtain ⟨ad0, Ai, ci, e0, hcell0, hlen0, hC0⟩ := at_L1 (Kd.C_below HR0.out ((below_step HB.out HW.out).trans (BW.out.mono (below_step HB.out HW.out).size))) (i : Int) (by omega) (by omega)
              subst e0
              rw [show (i : Int).toNat = i from rfl] at hcell0
              have hcall := impl_FailsWith.calls Ai ci (rd_L1 l0 (i : Int)) Aj cj (rd_L1 ss (j : Int)) _ _ hC0 hlen0 (Kd.C_below HC.out BW.out) HLEN.out rfl
              have hfs : failBits l0 (rd_L1 ss (j : Int)) (i + 1) = failBits l0 (rd_L1 ss (j : Int)) i + (if (rd_L1 ss (j : Int)).any (failsB (rd_L1 l0 (i : Int))) = true then 2 ^ i else 0) := rfl
              have hfl := failBits_lt l0 (rd_L1 ss (j : Int)) i
              have HHC := Aside0.mk hcall
              have HFS := Aside0.mk hfs
              have HFL := Aside0.mk hfl
              clear hcall hfs hfl hlen0 hC0
              have hi64 : (i : Int) ≤ 64 := by omega
              cases hq : (rd_L1 ss (j : Int)).any (failsB (rd_L1 l0 (i : Int))) with
              | true =>
                rw [hq] at HHC HFS
                rw [if_pos rfl] at HFS
                clear hq
                go_wp2_with (first | (go_at_call 57; refine HHC.out.mono ?_; rintro e w3 ⟨rfl, hb⟩; have HB3 := Aside0.mk hb; clear hb) | fail)
                go_roundg (l0.length - (i + 1))
                case measure => omega
                case rel => exact ⟨i + 1, by omega, by omega, by go_num, by rw [HFS.out]; exact count_or HFL.out (by omega), ⟨below_step BW.out HB3.out⟩⟩
              | false =>
                rw [hq] at HHC HFS
                rw [if_neg (by simp), Nat.add_zero] at HFS
                clear hq
                go_wp2_with (first | (go_at_call 57; refine HHC.out.mono ?_; rintro e w3 ⟨rfl, hb⟩; have HB3 := Aside0.mk hb; clear hb) | fail)
                go_roundg (l0.length - (i + 1))
                case measure => omega
                case rel => exact ⟨i + 1, by omega, by omega, by go_num, by rw [HFS.out]; rfl, ⟨below_step BW.out HB3.out⟩⟩
            · have hilz : ¬ (i : Int) < (l0.length : Int) := by omega
              have hin : i = l0.length := by omega
              subst hin
              have hown := HM.out.kept (row := none) (below_grown0 BW.out) (by simp)
              have hnx := HN.out
              have hkey : keyOf Try.prog 3 (.int .i64 ((failBits l0 (rd_L1 ss (j : Int)) l0.length : Nat) : Int)) = some (.int .i64 ((failBits l0 (rd_L1 ss (j : Int)) l0.length : Nat) : Int)) := keyOf_int_mk Try.underlying3 (failBits_wf l0 _ hl12)
              have HNW := Aside0.mk (Kd.N_below hnx BW.out)
              have HST := Aside0.mk (count_step (m := l0) hlt)
              clear hnx
              go_wp2_with (first | (at_mapUpdate; refine wpList_mapUpdate_own _ rfl _ _ _ 59 rfl 3 3 count_key Try.underlying59 _ w1.heap.size j _ rfl hown (by unfold maxLen; omega) _ _ _ rfl rfl hkey _ [] (plainElem_int Try.underlying3 (by decide)) ?_; intro w4 hown1 hgrow1; have HOW := Aside0.mk hown1; have HGR := Aside0.mk hgrow1; clear hown1 hgrow1 hown) | go_in)
              go_roundg (ss.length - (j + 1))
              case measure => omega
              case rel => exact ⟨j + 1, by omega, by omega, by go_num, ⟨by rw [HST.out]; exact HOW.out⟩, ⟨Kd.N_grown HNW.out HGR.out (fun k_ hk e => by injection e with e; omega)⟩, ⟨count_below HW.out BW.out HGR.out⟩⟩
        · have hltz : ¬ (j : Int) < (ss.length : Int) := by omega
          have hkn : j = ss.length := by omega
          subst hkn
          have hown := HM.out
          go_wp2_with (first | (at_len; refine wpList_len_own _ rfl _ 59 rfl 3 3 Try.underlying59 _ w1.heap.size ss.length _ rfl hown ?_) | go_in)
          go_ret
          exact ⟨count_size rfl, below_step HB.out HW.out⟩
end

/-! ### impl_ToldSize: function 31 -/
def impl_ToldSize.l0 : Nat → List (List Int) → Int → Int → Option (Int)
  | 0, _, _, _ => none
  | k + 1, x0, x1, x5 => if x5 > 0 then ((impl_CountClasses.f k x0 x1 x5).bind fun t113 => ((impl_setsTo.f k x1 x5).bind fun t114 => (if t113 = (t114.length : Int) then (some x5) else (impl_ToldSize.l0 k x0 x1 (wrap64 (x5 - 1)))))) else (some 0)
def impl_ToldSize.f (k : Nat) (l0 : List (List Int)) (a1 : Int) : Option (Int) := (impl_isBits.f k l0 a1).bind fun t112 => (if t112 = true then (impl_ToldSize.l0 k l0 a1 a1) else (some (-1)))
theorem impl_ToldSize.mono_l : ∀ k, (∀ y0 y1 y2, LeO (impl_ToldSize.l0 k y0 y1 y2) (impl_ToldSize.l0 (k + 1) y0 y1 y2))
  | 0 => fun _ _ _ r h => by simp [impl_ToldSize.l0] at h
  | k + 1 => by
    have ih0 := impl_ToldSize.mono_l k
    · intro y0 y1 y2
      unfold impl_ToldSize.l0
      repeat' first
      | (with_reducible exact ih0 _ _ _)
      | (with_reducible exact impl_CountClasses.mono _ _ _ _)
      | (with_reducible exact impl_isBits.mono _ _ _)
      | (with_reducible exact impl_setsTo.mono _ _ _)
      | (with_reducible exact LeO.refl _)
      | (with_reducible exact LeO.none _)
      | (with_reducible refine LeO.ite ?_ ?_)
      | (with_reducible refine LeO.bind ?_ (fun _ => ?_))
      | exact ih0 _ _ _
      | exact impl_CountClasses.mono _ _ _ _
      | exact impl_isBits.mono _ _ _
      | exact impl_setsTo.mono _ _ _
      | exact LeO.none _
      | refine LeO.ite ?_ ?_
      | refine LeO.bind ?_ (fun _ => ?_)
theorem impl_ToldSize.mono : ∀ a0 a1 k, LeO (impl_ToldSize.f k a0 a1) (impl_ToldSize.f (k + 1) a0 a1) := by
  intro a0 a1 k
  have ih0 := impl_ToldSize.mono_l k
  unfold impl_ToldSize.f
  repeat' first
      | (with_reducible exact ih0 _ _ _)
      | (with_reducible exact impl_CountClasses.mono _ _ _ _)
      | (with_reducible exact impl_isBits.mono _ _ _)
      | (with_reducible exact impl_setsTo.mono _ _ _)
      | (with_reducible exact LeO.refl _)
      | (with_reducible exact LeO.none _)
      | (with_reducible refine LeO.ite ?_ ?_)
      | (with_reducible refine LeO.bind ?_ (fun _ => ?_))
      | exact ih0 _ _ _
      | exact impl_CountClasses.mono _ _ _ _
      | exact impl_isBits.mono _ _ _
      | exact impl_setsTo.mono _ _ _
      | exact LeO.none _
      | refine LeO.ite ?_ ?_
      | refine LeO.bind ?_ (fun _ => ?_)
set_option maxHeartbeats 8000000 in
set_option maxRecDepth 100000 in
theorem impl_ToldSize.calls (k : Nat) (A0 : Option Addr) (c0 : Nat) (l0 : List (List Int)) (a1 : Int) (r : Int) (w : World) (hr0 : Kd.C (Kd.slice 3 (Kd.int .i64)) w A0 l0.length l0) (hc0 : l0.length ≤ c0) (h : impl_ToldSize.f k l0 a1 = some r) :
    Calls Try.prog 31 #[.slice A0 l0.length c0, .int .i64 a1] w fun e w' => e = .returned (.int .i64 r) ∧ Below w.heap.size w w' := by
  have HR0 := Aside0.mk hr0
  have HC0 := Aside0.mk hc0
  clear hr0 hc0
  have HB := Aside0.mk (Below.refl w.heap.size w)
  have H : ((impl_isBits.f k l0 a1).bind fun t112 => (if t112 = true then (impl_ToldSize.l0 k l0 a1 a1) else (some (-1)))) = some r := h
  clear h
  replace H := Option.bind_eq_some_iff.mp H
  obtain ⟨t112, A30, H⟩ := H
  replace H : (if t112 = true then (impl_ToldSize.l0 k l0 a1 a1) else (some (-1))) = some r := H
  have A3 := Aside0.mk A30
  clear A30
  by_cases c4 : t112 = true
  · subst c4
    have H1 : (impl_ToldSize.l0 k l0 a1 a1) = some r := by rw [if_pos rfl] at H; exact H
    clear H
    have H := H1
    clear H1
    have H' := Aside0.mk H
    clear H
    go_enter Try.func31, Try.ntmps31
    go_wp2_with (first | ((with_reducible refine gate_callee (f := 50) rfl ?_); refine goesL_ (some 8) rfl rfl Try.func50 (by kernel_rfl) rfl #[.slice A0 l0.length c0, .int .i64 a1] rfl (by (try simp only [List.map_toArray, List.map_cons, List.map_nil]); first | done | rfl | (simp only [List.length_drop, List.length_take]; rfl)) ?_; (with_reducible refine (impl_isBits.calls k _ _ l0 a1 true _ ?side1 ?side2 A3.out).mono ?_); (case side1 => repeat (first | exact HR0.out | (with_reducible refine Kd.C_alloc ?_ _) | (with_reducible refine Kd.C_drewN ?_ _) | (with_reducible refine Kd.C_drew ?_))); (case side2 => exact HC0.out); rintro e w5 ⟨rfl, hb⟩; refine ⟨_, rfl, ?_⟩; have n0_ := Aside0.mk (below_step (by repeat (first | (with_reducible first | exact HB.out | apply below_alloc | apply pw_below_drewN | apply below_drew1) | exact HB.out)) hb); clear HB; have HB := n0_; clear n0_; (try clear hb); (try clear hb2); (try clear hk); (try clear hi)))
    go_loopg [5] k (fun kq v5 w' => ∃ (x5_1 : Int), v5 = .int .i64 x5_1 ∧ Aside0 (impl_ToldSize.l0 kq l0 a1 x5_1 = some r) ∧ Aside0 (kq ≤ k) ∧ Aside0 (Below w.heap.size w w'))
    case atStart => exact ⟨(a1), (by first | rfl | (simp; done) | (simp [*]; done)), H', ⟨Nat.le_refl _⟩, ⟨by repeat (first | (with_reducible first | exact HB.out | apply below_alloc | apply pw_below_drewN | apply below_drew1) | exact HB.out)⟩⟩
    case round =>
      clear H'
      try clear p2
      try clear c3
      try clear c4
      try clear c5
      obtain ⟨x5_1, rfl, HA, HK1, HB⟩ := hrel
      cases gk with
      | zero => exact absurd HA.out (by simp [impl_ToldSize.l0])
      | succ k1 =>
        have H := HA.out
        clear HA
        simp only [impl_ToldSize.l0] at H
        by_cases c6 : x5_1 > 0
        · rw [if_pos c6] at H
          have c6b0 : decide (0 < x5_1) = true := decide_eq_true c6
          clear c6
          replace H := Option.bind_eq_some_iff.mp H
          obtain ⟨t113, A70, H⟩ := H
          replace H : ((impl_setsTo.f k1 a1 x5_1).bind fun t114 => (if t113 = (t114.length : Int) then (some x5_1) else (impl_ToldSize.l0 k1 l0 a1 (wrap64 (x5_1 - 1))))) = some r := H
          have A7 := Aside0.mk A70
          clear A70
          replace H := Option.bind_eq_some_iff.mp H
          obtain ⟨t114, A80, H⟩ := H
          replace H : (if t113 = (t114.length : Int) then (some x5_1) else (impl_ToldSize.l0 k1 l0 a1 (wrap64 (x5_1 - 1)))) = some r := H
          have A8 := Aside0.mk A80
          clear A80
          by_cases c9 : t113 = (t114.length : Int)
          · rw [if_pos c9] at H
            have c9b0 : (t113 == (t114.length : Int)) = true := beq_iff_eq.mpr c9
            have c9b1 : (t113 != (t114.length : Int)) = false := bne_eq_false_iff_eq.mpr c9
            clear c9
            obtain rfl := Option.some.inj H
            go_wp2_with (first | ((with_reducible refine gate_callee (f := 29) rfl ?_); refine goesL_ (some 18) rfl rfl Try.func29 (by kernel_rfl) rfl #[.slice A0 l0.length c0, .int .i64 a1, .int .i64 x5_1] rfl (by (try simp only [List.map_toArray, List.map_cons, List.map_nil]); first | done | rfl | (simp only [List.length_drop, List.length_take]; rfl)) ?_; (with_reducible refine (impl_CountClasses.calls k1 _ _ l0 a1 x5_1 t113 _ ?side1 ?side2 A7.out).mono ?_); (case side1 => repeat (first | exact (Kd.C_below HR0.out HB.out) | (with_reducible refine Kd.C_alloc ?_ _) | (with_reducible refine Kd.C_drewN ?_ _) | (with_reducible refine Kd.C_drew ?_))); (case side2 => exact HC0.out); rintro e w10 ⟨rfl, hb⟩; refine ⟨_, rfl, ?_⟩; have n0_ := Aside0.mk (below_step (by repeat (first | (with_reducible first | exact HB.out | apply below_alloc | apply pw_below_drewN | apply below_drew1) | exact HB.out)) hb); clear HB; have HB := n0_; clear n0_; (try clear hb); (try clear hb2); (try clear hk); (try clear hi)) | ((with_reducible refine gate_callee (f := 56) rfl ?_); refine goesL_ (some 21) rfl rfl Try.func56 (by kernel_rfl) rfl #[.int .i64 a1, .int .i64 x5_1] rfl (by (try simp only [List.map_toArray, List.map_cons, List.map_nil]); first | done | rfl | (simp only [List.length_drop, List.length_take]; rfl)) ?_; (with_reducible refine (impl_setsTo.calls k1 a1 x5_1 t114 _ A8.out).mono ?_); rintro e w11 ⟨v115, rfl, ho0, hb⟩; refine ⟨_, rfl, ?_⟩; have n0_ := Aside0.mk (Kd.N_lower (Kd.N_mono (ok' := fun k_ => True) ho0 (fun k_ hk_ => trivial)) (below_size (by repeat (first | (with_reducible first | exact HB.out | apply below_alloc | apply pw_below_drewN | apply below_drew1) | exact HB.out)))); have n1_ := Aside0.mk (below_step (by repeat (first | (with_reducible first | exact HB.out | apply below_alloc | apply pw_below_drewN | apply below_drew1) | exact HB.out)) hb); clear HB; have HO116 := n0_; have HB := n1_; clear n0_ n1_; (try clear hb); (try clear hb2); (try clear hk); (try clear hi); (try clear ho0); obtain ⟨Ao12, co12, eo12⟩ := Kd.N_slice HO116.out; subst eo12))
            go_ret
            exact ⟨by first | rfl | (simp [errW_none, errW_some] <;> rfl) | (simp [*, errW_none, errW_some] <;> rfl), by repeat (first | (with_reducible first | exact HB.out | apply below_alloc | apply pw_below_drewN | apply below_drew1) | exact HB.out)⟩
          · rw [if_neg c9] at H
            have c9b0 : (t113 == (t114.length : Int)) = false := beq_eq_false_iff_ne.mpr c9
            have c9b1 : (t113 != (t114.length : Int)) = true := bne_iff_ne.mpr c9
            have H' := Aside0.mk H
            clear H
            go_wp2_with (first | ((with_reducible refine gate_callee (f := 29) rfl ?_); refine goesL_ (some 18) rfl rfl Try.func29 (by kernel_rfl) rfl #[.slice A0 l0.length c0, .int .i64 a1, .int .i64 x5_1] rfl (by (try simp only [List.map_toArray, List.map_cons, List.map_nil]); first | done | rfl | (simp only [List.length_drop, List.length_take]; rfl)) ?_; (with_reducible refine (impl_CountClasses.calls k1 _ _ l0 a1 x5_1 t113 _ ?side1 ?side2 A7.out).mono ?_); (case side1 => repeat (first | exact (Kd.C_below HR0.out HB.out) | (with_reducible refine Kd.C_alloc ?_ _) | (with_reducible refine Kd.C_drewN ?_ _) | (with_reducible refine Kd.C_drew ?_))); (case side2 => exact HC0.out); rintro e w13 ⟨rfl, hb⟩; refine ⟨_, rfl, ?_⟩; have n0_ := Aside0.mk (below_step (by repeat (first | (with_reducible first | exact HB.out | apply below_alloc | apply pw_below_drewN | apply below_drew1) | exact HB.out)) hb); clear HB; have HB := n0_; clear n0_; (try clear hb); (try clear hb2); (try clear hk); (try clear hi)) | ((with_reducible refine gate_callee (f := 56) rfl ?_); refine goesL_ (some 21) rfl rfl Try.func56 (by kernel_rfl) rfl #[.int .i64 a1, .int .i64 x5_1] rfl (by (try simp only [List.map_toArray, List.map_cons, List.map_nil]); first | done | rfl | (simp only [List.length_drop, List.length_take]; rfl)) ?_; (with_reducible refine (impl_setsTo.calls k1 a1 x5_1 t114 _ A8.out).mono ?_); rintro e w14 ⟨v115, rfl, ho0, hb⟩; refine ⟨_, rfl, ?_⟩; have n0_ := Aside0.mk (Kd.N_lower (Kd.N_mono (ok' := fun k_ => True) ho0 (fun k_ hk_ => trivial)) (below_size (by repeat (first | (with_reducible first | exact HB.out | apply below_alloc | apply pw_below_drewN | apply below_drew1) | exact HB.out)))); have n1_ := Aside0.mk (below_step (by repeat (first | (with_reducible first | exact HB.out | apply below_alloc | apply pw_below_drewN | apply below_drew1) | exact HB.out)) hb); clear HB; have HO116 := n0_; have HB := n1_; clear n0_ n1_; (try clear hb); (try clear hb2); (try clear hk); (try clear hi); (try clear ho0); obtain ⟨Ao15, co15, eo15⟩ := Kd.N_slice HO116.out; subst eo15))
            go_roundg k1
            case measure => have := HK1.out; omega
            case rel => exact ⟨(wrap64 (x5_1 - 1)), (by first | rfl | (simp; done) | (simp [*]; done)), H', ⟨by have := HK1.out; omega⟩, ⟨by repeat (first | (with_reducible first | exact HB.out | apply below_alloc | apply pw_below_drewN | apply below_drew1) | exact HB.out)⟩⟩
        · rw [if_neg c6] at H
          have c6b0 : decide (0 < x5_1) = false := decide_eq_false c6
          clear c6
          obtain rfl := Option.some.inj H
          go_wp2
          go_ret
          exact ⟨by first | rfl | (simp [errW_none, errW_some] <;> rfl) | (simp [*, errW_none, errW_some] <;> rfl), by repeat (first | (with_reducible first | exact HB.out | apply below_alloc | apply pw_below_drewN | apply below_drew1) | exact HB.out)⟩
  · replace c4 := Bool.eq_false_iff.mpr c4
    subst c4
    have H1 : (some (-1)) = some r := by rw [if_neg (show ¬ (false = true) by decide)] at H; exact H
    clear H
    have H := H1
    clear H1
    obtain rfl := Option.some.inj H
    go_enter Try.func31, Try.ntmps31
    go_wp2_with (first | ((with_reducible refine gate_callee (f := 50) rfl ?_); refine goesL_ (some 8) rfl rfl Try.func50 (by kernel_rfl) rfl #[.slice A0 l0.length c0, .int .i64 a1] rfl (by (try simp only [List.map_toArray, List.map_cons, List.map_nil]); first | done | rfl | (simp only [List.length_drop, List.length_take]; rfl)) ?_; (with_reducible refine (impl_isBits.calls k _ _ l0 a1 false _ ?side1 ?side2 A3.out).mono ?_); (case side1 => repeat (first | exact HR0.out | (with_reducible refine Kd.C_alloc ?_ _) | (with_reducible refine Kd.C_drewN ?_ _) | (with_reducible refine Kd.C_drew ?_))); (case side2 => exact HC0.out); rintro e w16 ⟨rfl, hb⟩; refine ⟨_, rfl, ?_⟩; have n0_ := Aside0.mk (below_step (by repeat (first | (with_reducible first | exact HB.out | apply below_alloc | apply pw_below_drewN | apply below_drew1) | exact HB.out)) hb); clear HB; have HB := n0_; clear n0_; (try clear hb); (try clear hb2); (try clear hk); (try clear hi)))
    go_ret
    exact ⟨by first | rfl | (simp [errW_none, errW_some] <;> rfl) | (simp [*, errW_none, errW_some] <;> rfl), by repeat (first | (with_reducible first | exact HB.out | apply below_alloc | apply pw_below_drewN | apply below_drew1) | exact HB.out)⟩

/-! ### laws_big: function 32 -/
def laws_big.f (l0 : List Int) : Option (Bool) := some (decide ((l0.length : Int) > 1048576))
set_option maxHeartbeats 8000000 in
set_option maxRecDepth 100000 in
theorem laws_big.calls (A0 : Option Addr) (c0 : Nat) (l0 : List Int) (r : Bool) (w : World) (hr0 : Kd.C (Kd.int .u8) w A0 l0.length l0) (hc0 : l0.length ≤ c0) (h : laws_big.f l0 = some r) :
    Calls Try.prog 32 #[.slice A0 l0.length c0] w fun e w' => e = .returned (.bool r) ∧ Drawn0 w w' := by
  have HR0 := Aside0.mk hr0
  have HC0 := Aside0.mk hc0
  clear hr0 hc0
  have H : (some (decide ((l0.length : Int) > 1048576))) = some r := h
  clear h
  obtain rfl := Option.some.inj H
  go_enter Try.func32, Try.ntmps32
  go_wp2
  go_ret
  exact ⟨by first | rfl | (simp; done) | (simp [*]; done), by repeat (first | exact Drawn0.refl _ | apply Drawn0.step)⟩

end Go.Proofs.Ytoniljblfenpeaa.PFnIdentified
