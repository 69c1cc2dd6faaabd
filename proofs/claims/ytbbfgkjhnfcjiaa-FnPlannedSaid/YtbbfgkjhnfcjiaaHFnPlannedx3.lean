-- Written by a program of this session out of the translation (wip/gen/hprint.sh). Lean checks it.
import Derived.Test.YtbbfgkjhnfcjiaaHFnPlannedx0
import Derived.Test.YtbbfgkjhnfcjiaaHFnPlannedx1
namespace Go.Proofs.Ytbbfgkjhnfcjiaa.PFnPlanned
open Go.RowKit Go.Proofs.YtbbfgkjhnfcjiaaW.PrintWords Go.Proofs.YtbbfgkjhnfcjiaaW.PrintLast Go.Proofs.YtbbfgkjhnfcjiaaW.PrintMore
attribute [local go_sem] max2_int min2_int max_two min_two max_three min_three max_four min_four   -- for this text's walks alone
set_option linter.unusedVariables false
set_option linter.unusedSimpArgs false

/-! ### impl_LeastDepth: function 29 -/
section
open Go.Maps
/-- how one row's guesses divide what is left. -/
def pstep (g : Nat → Int) (v : Nat) (out : Int) (f : Nat) : Int := if v &&& f = 0 ∨ v - (v &&& f) = 0 then out else if out < 0 ∨ 1 + mx (g (v &&& f)) (g (v - (v &&& f))) < out then 1 + mx (g (v &&& f)) (g (v - (v &&& f))) else out
/-- the least depth, without a memory; k bounds the rounds. -/
def pd (fs : List Nat) : Nat → Nat → Int
  | 0, _ => 0
  | k + 1, v => mx (fs.foldl (pstep (pd fs k) v) (-1)) 0
theorem pstep_congr {g g' : Nat → Int} {v : Nat} (h : ∀ u, u < v → g u = g' u) (out : Int) (f : Nat) : pstep g v out f = pstep g' v out f := by
  unfold pstep
  have hle : v &&& f ≤ v := Nat.and_le_left
  by_cases hz : v &&& f = 0 ∨ v - (v &&& f) = 0
  · rw [if_pos hz, if_pos hz]
  · rw [if_neg hz, if_neg hz, h (v &&& f) (by omega), h (v - (v &&& f)) (by omega)]
theorem pd_congr {fs : List Nat} {g g' : Nat → Int} {v : Nat} (h : ∀ u, u < v → g u = g' u) (l : List Nat) : ∀ out, l.foldl (pstep g v) out = l.foldl (pstep g' v) out := by
  induction l with
  | nil => intro out; rfl
  | cons f l ih => intro out; rw [List.foldl_cons, List.foldl_cons, pstep_congr h, ih]
theorem pd_stable (fs : List Nat) : ∀ (n k v : Nat), v ≤ n → v ≤ k → pd fs k v = pd fs v v := by
  have zero : ∀ k, pd fs k 0 = 0 := by
    intro k
    cases k with
    | zero => rfl
    | succ k =>
      unfold pd
      have : ∀ (l : List Nat), l.foldl (pstep (pd fs k) 0) (-1) = -1 := by
        intro l
        induction l with
        | nil => rfl
        | cons f l ih => rw [List.foldl_cons, show pstep (pd fs k) 0 (-1) f = -1 from by unfold pstep; simp]; exact ih
      rw [this]; rfl
  intro n
  induction n with
  | zero => intro k v h1 h2; have : v = 0 := by omega
            subst this; rw [zero, zero]
  | succ n ih =>
    intro k v h1 h2
    cases v with
    | zero => rw [zero, zero]
    | succ v =>
      cases k with
      | zero => omega
      | succ k =>
        unfold pd
        rw [pd_congr (fs := fs) (g := pd fs k) (g' := pd fs v) (fun u hu => by rw [ih k u (by omega) (by omega), ih v u (by omega) (by omega)])]
theorem pstep_le {g : Nat → Int} {v : Nat} {b : Int} (hb : ∀ u, u < v → 0 ≤ g u ∧ g u ≤ b) {out : Int} (h0 : -1 ≤ out) (h1 : out ≤ b + 1) (f : Nat) : -1 ≤ pstep g v out f ∧ pstep g v out f ≤ b + 1 := by
  unfold pstep
  have hle : v &&& f ≤ v := Nat.and_le_left
  by_cases hz : v &&& f = 0 ∨ v - (v &&& f) = 0
  · rw [if_pos hz]; exact ⟨h0, h1⟩
  · rw [if_neg hz]
    have a := hb (v &&& f) (by omega)
    have c := hb (v - (v &&& f)) (by omega)
    unfold mx
    split <;> split <;> omega
theorem fold_le {g : Nat → Int} {v : Nat} {b : Int} (hb : ∀ u, u < v → 0 ≤ g u ∧ g u ≤ b) (l : List Nat) : ∀ out, -1 ≤ out → out ≤ b + 1 → -1 ≤ l.foldl (pstep g v) out ∧ l.foldl (pstep g v) out ≤ b + 1 := by
  induction l with
  | nil => intro out h0 h1; exact ⟨h0, h1⟩
  | cons f l ih => intro out h0 h1; have h := pstep_le hb h0 h1 f; exact ih _ h.1 h.2
theorem pd_le (fs : List Nat) : ∀ (k v : Nat), 0 ≤ pd fs k v ∧ pd fs k v ≤ k
  | 0, v => by unfold pd; omega
  | k + 1, v => by
    unfold pd
    have h := fold_le (g := pd fs k) (v := v) (b := k) (fun u _ => pd_le fs k u) fs (-1) (by omega) (by omega)
    unfold mx
    split <;> omega
theorem and_nat (v f : Nat) (hv : v < 4194304) (hf : f < 4194304) : Go.bits .and .i64 (v : Int) (f : Int) = ((v &&& f : Nat) : Int) := by
  simp only [Go.bits, BitVec.toNat_and, BitVec.ofInt_natCast, BitVec.toNat_ofNat]
  have e1 : v % 2 ^ IntKind.i64.bits = v := Nat.mod_eq_of_lt (by show v < 2 ^ 64; omega)
  have e2 : f % 2 ^ IntKind.i64.bits = f := Nat.mod_eq_of_lt (by show f < 2 ^ 64; omega)
  have hle : v &&& f ≤ v := Nat.and_le_left
  rw [e1, e2, i64_w]
  unfold wrap64
  omega
theorem sub_and (v f : Nat) (hv : v < 4194304) (hf : f < 4194304) : Go.bits .andNot .i64 (v : Int) (f : Int) = ((v - (v &&& f) : Nat) : Int) := by
  have key : (BitVec.ofNat 64 v &&& ~~~ BitVec.ofNat 64 f).toNat = v - (v &&& f) := by
    have h0 : (BitVec.ofNat 64 v &&& BitVec.ofNat 64 f) &&& (BitVec.ofNat 64 v &&& ~~~ BitVec.ofNat 64 f) = 0#64 := by
      ext i hi; simp
      intro h1 h2 h3; simp_all
    have h1 := BitVec.add_eq_or_of_and_eq_zero _ _ h0
    have h2 : (BitVec.ofNat 64 v &&& BitVec.ofNat 64 f) ||| (BitVec.ofNat 64 v &&& ~~~ BitVec.ofNat 64 f) = BitVec.ofNat 64 v := by
      ext i hi; simp
      cases (BitVec.ofNat 64 v)[i] <;> cases (BitVec.ofNat 64 f)[i] <;> rfl
    rw [h2] at h1
    have h3 := congrArg BitVec.toNat h1
    rw [BitVec.toNat_add, BitVec.toNat_and, BitVec.toNat_ofNat, BitVec.toNat_ofNat, Nat.mod_eq_of_lt (show v < 2 ^ 64 by omega), Nat.mod_eq_of_lt (show f < 2 ^ 64 by omega)] at h3
    have hle : v &&& f ≤ v := Nat.and_le_left
    have hlt := (BitVec.ofNat 64 v &&& ~~~ BitVec.ofNat 64 f).isLt
    have hle2 : (BitVec.ofNat 64 v &&& ~~~ BitVec.ofNat 64 f).toNat ≤ v := by
      rw [BitVec.toNat_and, BitVec.toNat_ofNat, Nat.mod_eq_of_lt (show v < 2 ^ 64 by omega)]
      exact Nat.and_le_left
    rw [Nat.mod_eq_of_lt (by omega)] at h3
    omega
  simp only [Go.bits, BitVec.ofInt_natCast]
  have e : ((BitVec.ofNat IntKind.i64.bits v) &&& ~~~ (BitVec.ofNat IntKind.i64.bits f)).toNat = v - (v &&& f) := key
  rw [e, i64_w]
  unfold wrap64
  omega

/-- what the memory knows is right. -/
def Mem (fs : List Nat) (D : DataW Unit) : Prop := ∀ v : Nat, v < 4194304 → has D (Lit.int .i64 (v : Int)) = true → D.atKey (Lit.int .i64 (v : Int)) (.lit (.int .i64 0)) = .lit (.int .i64 (pd fs v v))
/-- and has few keys. -/
def Few (D : DataW Unit) : Prop := ∀ kl, has D kl = true → ∃ v : Nat, v < 4194304 ∧ kl = Lit.int .i64 (v : Int)
theorem depth_key : Keyed Try.prog 3 := int_keyed Try.underlying3
theorem depth_zero (w : World) : (zeroValue 3).run Try.prog w = .ok (.int .i64 0) w := by kernel_rfl
theorem key_wf {v : Nat} (h : v < 4194304) : (Lit.int .i64 (v : Int)).wf = true := WalkArith.wf_i64 (by omega)
theorem Mem.put {fs : List Nat} {D : DataW Unit} (h : Mem fs D) (hD : IsMap D) {v : Nat} {d : Int} (hd : d = pd fs v v) : Mem fs (D.put (Lit.int .i64 (v : Int)) (.lit (.int .i64 d))) := by
  intro u hu hh
  by_cases e : u = v
  · subst e
    rw [atKey_put_same hD (show WideAt.IsKeyLit (Lit.int .i64 (u : Int)) from trivial), hd]
  · have hne : Lit.int .i64 (u : Int) ≠ Lit.int .i64 (v : Int) := fun q => e (by injection q with _ q; omega)
    rw [has_put_other hne] at hh
    rw [atKey_put_other hne]
    exact h u hu hh
theorem Few.put {D : DataW Unit} (h : Few D) (hD : IsMap D) {v : Nat} (hv : v < 4194304) (d : DataW Unit) : Few (D.put (Lit.int .i64 (v : Int)) d) := by
  intro kl hh
  by_cases e : kl = Lit.int .i64 (v : Int)
  · exact ⟨v, hv, e⟩
  · rw [has_put_other e] at hh
    exact h kl hh
theorem nodup_le : ∀ (N : Nat) (l : List Nat), l.Nodup → (∀ x ∈ l, x < N) → l.length ≤ N
  | 0, l, _, h => by
    cases l with
    | nil => simp
    | cons x l => exact absurd (h x List.mem_cons_self) (Nat.not_lt_zero _)
  | N + 1, l, hn, h => by
    have ih := nodup_le N (l.filter (fun x => x != N)) (hn.filter _) (fun x hx => by
      have h1 := List.mem_filter.1 hx
      have h2 := h x h1.1
      have h3 : x ≠ N := by simpa using h1.2
      omega)
    have hc : l.length ≤ (l.filter (fun x => x != N)).length + 1 := by
      clear ih h
      induction l with
      | nil => simp
      | cons x l ih =>
        have hnx := List.nodup_cons.1 hn
        by_cases e : x = N
        · subst e
          have hf : l.filter (fun y => y != x) = l := List.filter_eq_self.2 (fun y hy => by
            have : y ≠ x := fun q => hnx.1 (q ▸ hy)
            simpa using this)
          rw [List.filter_cons, hf]; simp
        · have := ih hnx.2
          rw [List.filter_cons, if_pos (by simpa using e)]
          simp only [List.length_cons]; omega
    omega
theorem few_size {D : DataW Unit} (hT : ∃ es, D = .map es ∧ es.Pairwise (fun p q => p.1 ≠ q.1) ∧ ∀ p ∈ es, WideAt.IsKeyLit p.1) (hF : Few D) : Maps.size D ≤ 4194304 := by
  obtain ⟨es, rfl, hp⟩ := hT
  have hk : ∀ p ∈ es, ∃ v : Nat, v < 4194304 ∧ p.1 = Lit.int .i64 (v : Int) := by
    intro p hp'
    exact hF p.1 (List.any_eq_true.2 ⟨p, hp', WideAt.sameKey_self (hp.2 p hp')⟩)
  have hl : (es.map (fun p => match p.1 with | .int _ a => a.toNat | _ => 0)).length ≤ 4194304 := by
    refine nodup_le 4194304 _ ?_ ?_
    · rw [List.Nodup, List.pairwise_map]
      refine hp.1.imp_of_mem (fun {a b} ha hb hne => ?_)
      obtain ⟨v, hv, ea⟩ := hk a ha
      obtain ⟨u, hu, eb⟩ := hk b hb
      rw [ea, eb]
      intro e
      apply hne
      rw [ea, eb]
      simp only [Int.toNat_natCast] at e
      rw [e]
    · intro x hx
      obtain ⟨p, hp', rfl⟩ := List.mem_map.1 hx
      obtain ⟨v, hv, e⟩ := hk p hp'
      rw [e]
      simpa using hv
  rw [List.length_map] at hl
  exact hl
theorem tight {w : World} {b n : Nat} {D : DataW Unit} (h : w.ownsMap Try.prog 3 (plainElem Try.prog 3) b n D) : w.ownsMap Try.prog 3 (plainElem Try.prog 3) b (Maps.size D) D := by
  obtain ⟨es, clock, h1, h2, hs, rfl⟩ := h
  exact ⟨es, clock, h1, h2, by simp [Maps.size, length_sorted], rfl⟩

theorem blk_lt_map {w : World} {B n : Nat} {D : DataW Unit} (h : w.ownsMap Try.prog 3 (plainElem Try.prog 3) B n D) : B < w.heap.size := h.lt
theorem depth_cells0 {w wr : World} {B : Nat} {a b : Value} (hg : (w.alloc (.cells #[a, b] 45)).grownBy wr (some B)) (hB : B < w.heap.size) : wr.cell? ⟨w.heap.size, 0, none⟩ = some a := hg.cell ((blk_cell (blk_new w (.cells #[a, b] 45)) 0).trans rfl) (by simp; omega)
theorem depth_cells1 {w wr : World} {B : Nat} {a b : Value} (hg : (w.alloc (.cells #[a, b] 45)).grownBy wr (some B)) (hB : B < w.heap.size) : wr.cell? ⟨w.heap.size, 1, none⟩ = some b := hg.cell ((blk_cell (blk_new w (.cells #[a, b] 45)) 1).trans rfl) (by simp; omega)
theorem depth_wf (fs : List Nat) (N v : Nat) (hv : v < 4194304) : True := trivial
theorem fold_bd (fs : List Nat) (N v : Nat) (hvN : v ≤ N + 1) (hv : v < 4194304) (l : List Nat) : -1 ≤ l.foldl (pstep (pd fs N) v) (-1) ∧ l.foldl (pstep (pd fs N) v) (-1) ≤ 4194305 := by
  have h := fold_le (g := pd fs N) (v := v) (b := 4194304) (fun u hu => by
    rw [pd_stable fs u N u (Nat.le_refl _) (by omega)]
    have := pd_le fs u u
    omega) l (-1) (by omega) (by omega)
  omega
theorem fold_wf (fs : List Nat) (N v : Nat) (hvN : v ≤ N + 1) (hv : v < 4194304) : (Lit.int .i64 (fs.foldl (pstep (pd fs N) v) (-1))).wf = true := by
  have := fold_bd fs N v hvN hv fs
  exact WalkArith.wf_i64 (by omega)
theorem pd_is (fs : List Nat) (N v : Nat) (hvN : v ≤ N + 1) : pd fs v v = mx (fs.foldl (pstep (pd fs N) v) (-1)) 0 := by
  rw [← pd_stable fs (N + 1) (N + 1) v hvN hvN]; rfl
theorem depth_end {fs : List Nat} {w wr w4 : World} {B n' : Nat} {D' : DataW Unit} {a b : Value} {v : Nat} {X c2 : Int} (hv : v < 4194304) (hX : X = pd fs v v) (hM : Mem fs D') (hF : Few D') (hD : IsMap D') (hown1 : w4.ownsMap Try.prog 3 (plainElem Try.prog 3) B n' (D'.put (Lit.int .i64 (v : Int)) (.lit (.int .i64 X)))) (hG : (w.alloc (.cells #[a, b] 45)).grownBy wr (some B)) (hgrow1 : wr.grownBy w4 (some B))
    (hat2 : (D'.put (Lit.int .i64 (v : Int)) (.lit (.int .i64 X))).atKey (Lit.int .i64 (v : Int)) (.lit (.int .i64 0)) = .lit (.int .i64 c2)) : Ending.returned (.int .i64 c2) = .returned (.int .i64 (pd fs v v)) ∧ ∃ n' D', w4.ownsMap Try.prog 3 (plainElem Try.prog 3) B n' D' ∧ Mem fs D' ∧ Few D' ∧ w.grownBy w4 (some B) := by
  rw [atKey_put_same hD (show WideAt.IsKeyLit (Lit.int .i64 (v : Int)) from trivial)] at hat2
  injection hat2 with hat2
  injection hat2 with _ hat2
  subst hat2
  exact ⟨by rw [hX], n', _, hown1, hM.put hD hX, hF.put hD hv _, (World.grownBy_alloc _ _ _).trans (hG.trans hgrow1)⟩
theorem take_fold (g : Nat → Int) (v : Nat) (fs : List Nat) (i : Nat) (h : i < fs.length) : (fs.take (i + 1)).foldl (pstep g v) (-1) = pstep g v ((fs.take i).foldl (pstep g v) (-1)) fs[i] := by
  rw [List.take_succ_eq_append_getElem h, List.foldl_append]; rfl
theorem rd_map (fs : List Nat) (i : Nat) (h : i < fs.length) : rd (fs.map (fun f : Nat => (f : Int))) (i : Int) = ((fs[i] : Nat) : Int) := by
  simp [rd, List.getD, h]
def o1_ (fs : List Nat) (N v : Nat) (o0 : Int) (f : Nat) : Int := pstep (pd fs N) v o0 f
theorem grown_drew (w : World) (row : Option Nat) : w.grownBy w.drew row := ⟨rfl, rfl, rfl, Nat.le_refl _, fun _ _ _ => rfl⟩

set_option maxHeartbeats 4000000 in
set_option maxRecDepth 100000 in
theorem depth_calls (fs : List Nat) (hfs : ∀ f ∈ fs, f < 4194304) (hlen : fs.length ≤ 1000) (base B : Nat) (A : Option Addr) (c : Nat) : ∀ (N v : Nat), v < N → v < 4194304 → ∀ (w : World) (n : Nat) (D : DataW Unit),
    Kd.R (Kd.int .i64) 3 w base (fun k => k ≠ B) (.slice A fs.length c) (fs.map (fun f : Nat => (f : Int))) → w.ownsMap Try.prog 3 (plainElem Try.prog 3) B n D → Mem fs D → Few D →
    Calls Try.prog 40 #[.agg #[.slice A fs.length c, .map (some B)], .int .i64 (v : Int)] w fun e w' => e = .returned (.int .i64 (pd fs v v)) ∧ ∃ n' D', w'.ownsMap Try.prog 3 (plainElem Try.prog 3) B n' D' ∧ Mem fs D' ∧ Few D' ∧ w.grownBy w' (some B) := by
  intro N
  induction N with
  | zero => intro v hv; exact absurd hv (Nat.not_lt_zero _)
  | succ N ih =>
    intro v hvN hv w n D hR hown hMem hFew
    have hown0 := hown.alloc (.cells #[.slice A fs.length c, .map (some B)] 45)
    have hkey := keyOf_int_mk Try.underlying3 (key_wf hv)
    have HM := Aside0.mk hMem
    have HF := Aside0.mk hFew
    have HR := Aside0.mk hR
    have IH := Aside0.mk ih
    have HB0 := Aside0.mk (blk_lt_map hown)
    clear hMem hFew hR ih
    cases hh : has D (Lit.int .i64 (v : Int)) with
    | true =>
      go_enter Try.func40, Try.ntmps40
      go_wp2_with (first | (at_lookup; refine wpList_lookup_own_ok_int _ rfl _ _ 43 rfl 3 3 .i64 depth_key Try.underlying43 Try.underlying3 (depth_zero _) B n D rfl hown0 _ _ rfl hkey ?_; intro c1 hat hwc) | fail)
      go_ret
      rw [HM.out v hv hh] at hat
      injection hat with hat
      injection hat with _ hat
      subst hat
      exact ⟨rfl, n, D, hown0, HM.out, HF.out, World.grownBy_alloc _ _ _⟩
    | false =>
      go_enter Try.func40, Try.ntmps40
      go_wp2_with (first | (at_lookup; refine wpList_lookup_own_ok_int _ rfl _ _ 43 rfl 3 3 .i64 depth_key Try.underlying43 Try.underlying3 (depth_zero _) B n D rfl hown0 _ _ rfl hkey ?_; intro c1 hat hwc) | fail)
      clear hat hwc
      go_loopg [7, 25] fs.length (fun gg s7 s25 wr => ∃ (i n' : Nat) (D' : DataW Unit), i ≤ fs.length ∧ fs.length - i ≤ gg ∧ s25 = .int .i64 (i : Int) ∧ s7 = .int .i64 ((fs.take i).foldl (pstep (pd fs N) v) (-1)) ∧ Aside0 (wr.ownsMap Try.prog 3 (plainElem Try.prog 3) B n' D') ∧ Aside0 (Mem fs D') ∧ Aside0 (Few D') ∧ Aside0 ((w.alloc (.cells #[.slice A fs.length c, .map (some B)] 45)).grownBy wr (some B)))
      case atStart => exact ⟨0, n, D, Nat.zero_le _, Nat.le_refl _, rfl, rfl, ⟨hown0⟩, HM, HF, ⟨World.grownBy.refl _ _⟩⟩
      case round =>
        clear HM HF hown hown0
        obtain ⟨i, n', D', hi, hg, rfl, rfl, HO, HM, HF, HG⟩ := hrel
        by_cases hlt : i < fs.length
        · have hltz : (i : Int) < (fs.length : Int) := by omega
          have HRW := Aside0.mk (Kd.R_grown (Kd.R_alloc HR.out _) HG.out (fun k hk e => hk (by injection e)))
          obtain ⟨ad, eA, hcell⟩ := Kd.at_int (Kd.R_reads' HRW.out).2.2 (i : Int) (by omega) (by rw [List.length_map]; omega)
          subst eA
          rw [show (i : Int).toNat = i from rfl, rd_map fs i hlt] at hcell
          have hfi := hfs fs[i] (List.getElem_mem hlt)
          have hstep := take_fold (pd fs N) v fs i hlt
          have hand := and_nat v fs[i] hv hfi
          have hsub := sub_and v fs[i] hv hfi
          have hle : v &&& fs[i] ≤ v := Nat.and_le_left
          have hc0 := depth_cells0 HG.out HB0.out
          have hc1 := depth_cells1 HG.out HB0.out
          have HST := Aside0.mk hstep
          have hfb := fold_bd fs N v (by omega) hv (fs.take i)
          clear hstep
          generalize ho0 : (fs.take i).foldl (pstep (pd fs N) v) (-1) = o0 at HST hfb ⊢
          generalize fs[i] = f at hcell hfi HST hand hsub hle
          by_cases hy : v &&& f = 0
          · have hy0 : (Go.bits .and .i64 (v : Int) (f : Int) == 0) = true := by rw [hand, hy]; rfl
            go_wp2_with (fail)
            go_roundg (fs.length - (i + 1))
            case measure => omega
            case rel => exact ⟨i + 1, n', D', by omega, by omega, by go_num, by rw [HST.out]; unfold pstep; rw [if_pos (.inl hy)], HO, HM, HF, HG⟩
          · have hy0 : (Go.bits .and .i64 (v : Int) (f : Int) == 0) = false := by rw [hand]; exact beq_eq_false_iff_ne.mpr (by omega)
            by_cases hn : v - (v &&& f) = 0
            · have hn0 : (Go.bits .andNot .i64 (v : Int) (f : Int) == 0) = true := by rw [hsub, hn]; rfl
              go_wp2_with (fail)
              go_roundg (fs.length - (i + 1))
              case measure => omega
              case rel => exact ⟨i + 1, n', D', by omega, by omega, by go_num, by rw [HST.out]; unfold pstep; rw [if_pos (.inr hn)], HO, HM, HF, HG⟩
            · have hn0 : (Go.bits .andNot .i64 (v : Int) (f : Int) == 0) = false := by rw [hsub]; exact beq_eq_false_iff_ne.mpr (by omega)
              have k1 := IH.out (v &&& f) (by omega) (by omega) _ n' D' (Kd.R_drew HRW.out) HO.out.drew HM.out HF.out
              have e1 : pd fs (v &&& f) (v &&& f) = pd fs N (v &&& f) := (pd_stable fs (v &&& f) N (v &&& f) (Nat.le_refl _) (by omega)).symm
              have e2 : pd fs (v - (v &&& f)) (v - (v &&& f)) = pd fs N (v - (v &&& f)) := (pd_stable fs (v - (v &&& f)) N (v - (v &&& f)) (Nat.le_refl _) (by omega)).symm
              have k2 := fun (w5 : World) (n5 : Nat) (D5 : DataW Unit) (hg5 : World.grownBy _ w5 (some B)) (ho5 : w5.ownsMap Try.prog 3 (plainElem Try.prog 3) B n5 D5) (hm5 : Mem fs D5) (hf5 : Few D5) => IH.out (v - (v &&& f)) (by omega) (by omega) w5 n5 D5 (Kd.R_grown HRW.out hg5 (fun k hk e => hk (by injection e))) ho5 hm5 hf5
              rw [e1] at k1
              rw [e2] at k2
              have K1 := Aside0.mk k1
              have K2 := Aside0.mk k2
              have b1 := pd_le fs (v &&& f) (v &&& f)
              have b2 := pd_le fs (v - (v &&& f)) (v - (v &&& f))
              rw [e1] at b1
              rw [e2] at b2
              have b1 : 0 ≤ pd fs N (v &&& f) ∧ pd fs N (v &&& f) ≤ 4194304 := by omega
              have b2 : 0 ≤ pd fs N (v - (v &&& f)) ∧ pd fs N (v - (v &&& f)) ≤ 4194304 := by omega
              have HPS : Aside0 (o1_ fs N v o0 f = (if o0 < 0 ∨ 1 + mx (pd fs N (v &&& f)) (pd fs N (v - (v &&& f))) < o0 then 1 + mx (pd fs N (v &&& f)) (pd fs N (v - (v &&& f))) else o0)) := ⟨by unfold o1_ pstep; rw [if_neg (by omega)]⟩
              rw [show pstep (pd fs N) v o0 f = o1_ fs N v o0 f from rfl] at HST
              generalize pd fs N (v &&& f) = p1 at K1 b1 HPS
              generalize pd fs N (v - (v &&& f)) = p2 at K2 b2 HPS
              clear k1 k2 e1 e2
              have hy1 : (((v &&& f : Nat) : Int) == 0) = false := beq_eq_false_iff_ne.mpr (by omega)
              have hn1 : (((v - (v &&& f) : Nat) : Int) == 0) = false := beq_eq_false_iff_ne.mpr (by omega)
              go_wp2_with (fail)
              clear hand hsub hy0 hn0 hy1 hn1 hcell ho0 hfb hle hy hn hfi hkey hfs
              obtain ⟨nn, hnn⟩ : ∃ nn, 1 + mx p1 p2 = nn := ⟨_, rfl⟩
              have hmw : IntKind.i64.wrap (1 + if p1 < p2 then p2 else p1) = nn := by rw [i64_w, ← hnn]; unfold wrap64 mx; split <;> omega
              rw [hnn] at HPS
              clear hnn b1 b2
              generalize hzz : v - (v &&& f) = z at K2 HPS ⊢
              generalize hyy : v &&& f = y at K1 HPS ⊢
              clear hzz hyy
              go_region_law (first | (go_simp; go_at_call 40; (with_reducible refine K1.out.mono ?_); rintro e w5 ⟨rfl, n5, D5, ho5, hm5, hf5, hg5_⟩; have hg5 := (grown_drew _ (some B)).trans hg5_; clear hg5_; have hc05 := hg5.cell hc0 (by have := HB0.out; simp; omega); have hc15 := hg5.cell hc1 (by have := HB0.out; simp; omega); have K3 := Aside0.mk (K2.out w5 n5 D5 hg5 ho5 hm5 hf5); have HG5 := Aside0.mk hg5; clear ho5 hm5 hf5 hg5) | (go_simp; go_at_call 40; (with_reducible refine K3.out.mono ?_); rintro e w6 ⟨rfl, n6, D6, ho6, hm6, hf6, hg6⟩; have HO6 := Aside0.mk ho6; have HM6 := Aside0.mk hm6; have HF6 := Aside0.mk hf6; have HG6 := Aside0.mk (HG5.out.trans hg6); clear ho6 hm6 hf6 hg6) | fail)
              all_goals
                generalize (if p1 < p2 then p2 else p1) = q at hmw ⊢
                by_cases hq1 : o0 < 0
                · have d1 : decide (o0 < 0) = true := decide_eq_true hq1
                  have HQ := Aside0.mk hq1
                  clear hq1
                  go_wp2_with (fail)
                  go_roundg (fs.length - (i + 1))
                  case measure => omega
                  case rel => exact ⟨i + 1, n6, D6, by omega, by omega, by go_num, by rw [HST.out, HPS.out]; rw [if_pos (.inl HQ.out)], HO6, HM6, HF6, ⟨HG.out.trans HG6.out⟩⟩
                · have d1 : decide (o0 < 0) = false := decide_eq_false hq1
                  by_cases hq2 : nn < o0
                  · have d2 : decide (nn < o0) = true := decide_eq_true hq2
                    have HQ := Aside0.mk hq2
                    clear hq1 hq2
                    go_wp2_with (fail)
                    go_roundg (fs.length - (i + 1))
                    case measure => omega
                    case rel => exact ⟨i + 1, n6, D6, by omega, by omega, by go_num, by rw [HST.out, HPS.out]; rw [if_pos (.inr HQ.out)], HO6, HM6, HF6, ⟨HG.out.trans HG6.out⟩⟩
                  · have d2 : decide (nn < o0) = false := decide_eq_false hq2
                    have HQ := Aside0.mk (not_or.mpr ⟨hq1, hq2⟩)
                    clear hq1 hq2
                    go_wp2_with (fail)
                    go_roundg (fs.length - (i + 1))
                    case measure => omega
                    case rel => exact ⟨i + 1, n6, D6, by omega, by omega, by go_num, by rw [HST.out, HPS.out]; rw [if_neg HQ.out], HO6, HM6, HF6, ⟨HG.out.trans HG6.out⟩⟩
        · have hltz : ¬ (i : Int) < (fs.length : Int) := by omega
          have hin : i = fs.length := by omega
          subst hin
          have hc0 := depth_cells0 HG.out HB0.out
          have hc1 := depth_cells1 HG.out HB0.out
          have hown' := tight HO.out
          have hsz := few_size (HO.out.entries depth_key) HF.out
          have hwf := fold_wf fs N v (by omega) hv
          have hpd := pd_is fs N v (by omega)
          have hD' : IsMap D' := (HO.out.tidy depth_key).isMap
          have HPD := Aside0.mk hpd
          clear hpd
          go_wp2_with (first | (at_lookup; refine wpList_lookup_own_int _ rfl _ _ 43 rfl 3 3 .i64 depth_key Try.underlying43 Try.underlying3 (depth_zero _) B _ _ rfl hown1 _ _ rfl hkey ?_; intro c2 hat2 hwc2) | (at_mapUpdate; refine wpList_mapUpdate_own _ rfl _ _ _ 43 rfl 3 3 depth_key Try.underlying43 _ B _ _ rfl hown' (by unfold maxLen; omega) _ _ _ rfl rfl hkey _ [] (plainElem_int Try.underlying3 (by first | exact hwf | (split <;> first | exact hwf | rfl) | (simp only [gt_iff_lt]; split <;> first | exact hwf | rfl))) ?_; intro w4 hown1 hgrow1; have hc1b := hgrow1.cell hc1 (by have := HB0.out; simp; omega)) | fail)
          all_goals (go_ret; exact depth_end hv (by rw [HPD.out]; unfold mx; first | rfl | (split <;> omega)) HM.out HF.out hD' hown1 HG.out hgrow1 hat2)

/-- the guesses that fail with a row, one bit each. -/
def failMask (row : List Int) (gs : List (List Int)) : Nat → Nat
  | 0 => 0
  | i + 1 => failMask row gs i + (if (rd_L1 gs (i : Int)).any (failsB row) = true then 2 ^ i else 0)
theorem failMask_lt (row : List Int) (gs : List (List Int)) : ∀ i, failMask row gs i < 2 ^ i
  | 0 => Nat.one_pos
  | i + 1 => by
    have := failMask_lt row gs i
    unfold failMask
    rw [Nat.pow_succ]
    split <;> omega
theorem failMask_small (row : List Int) (gs : List (List Int)) (i : Nat) (h : i ≤ 22) : failMask row gs i < 4194304 := Nat.lt_of_lt_of_le (failMask_lt row gs i) (Nat.pow_le_pow_right (by decide) h)
theorem mask_or {x i : Nat} (hx : x < 2 ^ i) (hi : i < 22) : Go.bits .or .i64 (x : Int) ((2 ^ i : Nat) : Int) = ((x + 2 ^ i : Nat) : Int) := by
  have h12 : 2 ^ i < 4194304 := Nat.pow_lt_pow_of_lt (by decide) hi
  have h := Nat.two_pow_add_eq_or_of_lt hx 1
  rw [Nat.mul_one] at h
  simp only [Go.bits, BitVec.toNat_or, BitVec.ofInt_natCast, BitVec.toNat_ofNat]
  have e1 : x % 2 ^ IntKind.i64.bits = x := Nat.mod_eq_of_lt (by show x < 2 ^ 64; omega)
  have e2 : 2 ^ i % 2 ^ IntKind.i64.bits = 2 ^ i := Nat.mod_eq_of_lt (by show 2 ^ i < 2 ^ 64; omega)
  rw [e1, e2, Nat.or_comm, ← h, i64_w]
  unfold wrap64
  omega
theorem mask_set {x i : Nat} {e : Value} (hx : x < 2 ^ i) (hi : i < 22) (h : e = .int .i64 (Go.bits .or .i64 (x : Int) (wrap64 ((2 : Int) ^ i))) := by rfl) : e = .int .i64 ((x + 2 ^ i : Nat) : Int) := by
  have h12 : 2 ^ i < 4194304 := Nat.pow_lt_pow_of_lt (by decide) hi
  have e1 : wrap64 ((2 : Int) ^ i) = ((2 ^ i : Nat) : Int) := by
    have : ((2 : Int) ^ i) = ((2 ^ i : Nat) : Int) := by rw [Int.natCast_pow]; rfl
    unfold wrap64
    omega
  rw [h, e1, mask_or hx hi]
/-- of each row the guesses that fail with it. -/
def masks (gs m : List (List Int)) : List Nat := m.map (fun row => failMask row gs gs.length)
theorem masks_len (gs m : List (List Int)) : (masks gs m).length = m.length := List.length_map _
theorem masks_small (gs m : List (List Int)) (h : gs.length ≤ 22) : ∀ f ∈ masks gs m, f < 4194304 := by
  intro f hf
  obtain ⟨row, _, rfl⟩ := List.mem_map.1 hf
  exact failMask_small row gs gs.length h
theorem masks_take (gs m : List (List Int)) (j : Nat) (hj : j < m.length) : (masks gs (m.take (j + 1))).map (fun f : Nat => (f : Int)) = (masks gs (m.take j)).map (fun f : Nat => (f : Int)) ++ [((failMask (rd_L1 m (j : Int)) gs gs.length : Nat) : Int)] := by
  have : rd_L1 m (j : Int) = m[j] := by simp [rd_L1, List.getD, hj]
  rw [this]
  unfold masks
  rw [List.take_succ_eq_append_getElem hj, List.map_append, List.map_append]; rfl
def impl_LeastDepth.f (l0 : List (List Int)) (l1 : List (List Int)) : Option Int := some (if 22 < l0.length ∨ 6 < l1.length then -1 else pd (masks l0 l1) (2 ^ l0.length - 1) (2 ^ l0.length - 1))

theorem box_grown {W : World} {b t : Nat} {cells : Array Value} (_hb : W.heap[b]? = some (.cells cells t (0, 0))) (j : Nat) (u : Value) : W.grownBy (W.setCell ⟨b, j, none⟩ u) (some b) := by
  have h := (Below.refl b W).setCell (p := ⟨b, j, none⟩) (Nat.le_refl _) u
  exact ⟨h.os, h.tape, h.output, h.size, fun k _ hne => Below.heap_setCell W ⟨b, j, none⟩ u k (fun e => hne (by rw [e]))⟩
theorem below_grown0 {w w' : World} {row : Option Nat} (hb : Below w.heap.size w w') : w.grownBy w' row := ⟨hb.os, hb.tape, hb.output, hb.size, fun k hk _ => hb.block k hk⟩
theorem map_below {w w' : World} {base B n : Nat} {D : DataW Unit} (h : w.ownsMap Try.prog 3 (plainElem Try.prog 3) B n D) (hb : Below base w w') (hB : B < base) : w'.ownsMap Try.prog 3 (plainElem Try.prog 3) B n D := by
  obtain ⟨es, clock, h1, h2⟩ := h
  exact ⟨es, clock, by rw [hb.block B hB]; exact h1, h2⟩
theorem box_cell0 {W : World} {b t : Nat} {u v : Value} (h : W.heap[b]? = some (.cells #[u, v] t (0, 0))) : W.cell? ⟨b, 0, none⟩ = some u := (blk_cell h 0).trans rfl
theorem box_cell1 {W : World} {b t : Nat} {u v : Value} (h : W.heap[b]? = some (.cells #[u, v] t (0, 0))) : W.cell? ⟨b, 1, none⟩ = some v := (blk_cell h 1).trans rfl
set_option maxHeartbeats 4000000 in
set_option maxRecDepth 100000 in
theorem impl_LeastDepth.calls (A0 : Option Addr) (c0 : Nat) (l0 : List (List Int)) (A1 : Option Addr) (c1 : Nat) (l1 : List (List Int)) (r : Int) (w : World) (hr0 : Kd.C (Kd.slice 3 (Kd.int .i64)) w A0 l0.length l0) (hc0 : l0.length ≤ c0) (hr1 : Kd.C (Kd.slice 3 (Kd.int .i64)) w A1 l1.length l1) (hc1 : l1.length ≤ c1) (h : impl_LeastDepth.f l0 l1 = some r) :
    Calls Try.prog 29 #[.slice A0 l0.length c0, .slice A1 l1.length c1] w fun e w' => e = .returned (.int .i64 r) ∧ Below w.heap.size w w' := by
  obtain rfl := Option.some.inj h
  clear h
  have HR0 := Aside0.mk hr0
  have HR1 := Aside0.mk hr1
  clear hr0 hr1 hc0 hc1
  by_cases h0 : 22 < l0.length
  · rw [if_pos (.inl h0)]
    have d0 : decide ((22 : Int) < (l0.length : Int)) = true := decide_eq_true (by omega)
    clear h0
    go_enter Try.func29, Try.ntmps29
    go_wp2_with (fail)
    go_ret
    exact ⟨rfl, Below.refl _ _⟩
  have d0 : decide ((22 : Int) < (l0.length : Int)) = false := decide_eq_false (by omega)
  by_cases h1 : 6 < l1.length
  · rw [if_pos (.inr h1)]
    have d1 : decide ((6 : Int) < (l1.length : Int)) = true := decide_eq_true (by omega)
    clear h0 h1
    go_enter Try.func29, Try.ntmps29
    go_wp2_with (fail)
    go_ret
    exact ⟨rfl, Below.refl _ _⟩
  have d1 : decide ((6 : Int) < (l1.length : Int)) = false := decide_eq_false (by omega)
  rw [if_neg (by omega)]
  have hl0 : l0.length ≤ 22 := by omega
  have hl1 : l1.length ≤ 6 := by omega
  clear h0 h1
  have hmm := @run_makeMap Try.prog
  go_enter Try.func29, Try.ntmps29
  go_wp2_with (fail)
  clear hmm
  go_loopg [23] l1.length (fun gg s23 wr => ∃ (j : Nat) (vs : Value), j ≤ l1.length ∧ l1.length - j ≤ gg ∧ s23 = .int .i64 (j : Int) ∧ Aside0 (wr.heap[w.heap.size + 1]? = some (.cells #[vs, .map (some w.heap.size)] 45 (0, 0))) ∧ Aside0 (Kd.R (Kd.int .i64) 3 wr (w.heap.size + 1 + 1) (fun _ => True) vs ((masks l0 (l1.take j)).map (fun f : Nat => (f : Int)))) ∧ Aside0 (wr.ownsMap Try.prog 3 (plainElem (H := Unit) Try.prog 3) w.heap.size 0 (.map [])) ∧ Aside0 (Below w.heap.size w wr))
  case atStart => exact ⟨0, .slice none 0 0, Nat.zero_le _, Nat.le_refl _, rfl, ⟨by have h := blk_new (w.alloc (.map #[] 0)) (.cells #[.slice none 0 0, .map (some w.heap.size)] 45); simpa using h⟩, ⟨Kd.R_nil _ _ _ _ _⟩, ⟨(World.ownsMap_made w Try.prog 3 _).alloc _⟩, ⟨below_alloc (below_alloc (Below.refl _ _) _) _⟩⟩
  case round =>
    obtain ⟨j, vs, hj, hg, rfl, HX, HS, HM, HW⟩ := hrel
    by_cases hlt : j < l1.length
    · have hltz : (j : Int) < (l1.length : Int) := by omega
      obtain ⟨ad, Aj, cj, e, hcell, hlen, hC⟩ := at_L1 (Kd.C_below HR1.out HW.out) (j : Int) (by omega) (by omega)
      subst e
      rw [show (j : Int).toNat = j from rfl] at hcell
      have HLEN := Aside0.mk hlen
      have HC := Aside0.mk hC
      have HT := Aside0.mk (masks_take l0 l1 j hlt)
      clear hlen hC
      go_wp2
      go_loopg [8, 29] l0.length (fun gg s8 s29 wi => ∃ i : Nat, i ≤ l0.length ∧ l0.length - i ≤ gg ∧ s29 = .int .i64 (i : Int) ∧ s8 = .int .i64 ((failMask (rd_L1 l1 (j : Int)) l0 i : Nat) : Int) ∧ Aside0 (Below wr.heap.size wr wi))
      case atStart => exact ⟨0, Nat.zero_le _, Nat.le_refl _, rfl, rfl, ⟨Below.refl _ _⟩⟩
      case round =>
        obtain ⟨i, hi, hgi, rfl, rfl, BW⟩ := hrel
        by_cases hil : i < l0.length
        · have hilz : (i : Int) < (l0.length : Int) := by omega
          obtain ⟨ad0, Ai, ci, e0, hcell0, hlen0, hC0⟩ := at_L1 (Kd.C_below HR0.out (HW.out.trans (BW.out.mono HW.out.size))) (i : Int) (by omega) (by omega)
          subst e0
          rw [show (i : Int).toNat = i from rfl] at hcell0
          have hcall := impl_FailsWith.calls Aj cj (rd_L1 l1 (j : Int)) Ai ci (rd_L1 l0 (i : Int)) _ _ (Kd.C_below HC.out BW.out) HLEN.out hC0 hlen0 rfl
          have hfs : failMask (rd_L1 l1 (j : Int)) l0 (i + 1) = failMask (rd_L1 l1 (j : Int)) l0 i + (if (rd_L1 l0 (i : Int)).any (failsB (rd_L1 l1 (j : Int))) = true then 2 ^ i else 0) := rfl
          have hfl := failMask_lt (rd_L1 l1 (j : Int)) l0 i
          have HHC := Aside0.mk hcall
          have HFS := Aside0.mk hfs
          have HFL := Aside0.mk hfl
          clear hcall hfs hfl hlen0 hC0
          have hi64 : (i : Int) ≤ 64 := by omega
          cases hq : (rd_L1 l0 (i : Int)).any (failsB (rd_L1 l1 (j : Int))) with
          | true =>
            rw [hq] at HHC HFS
            rw [if_pos rfl] at HFS
            clear hq
            go_wp2_with (first | (go_at_call 37; refine HHC.out.mono ?_; rintro e w3 ⟨rfl, hb⟩; have HB3 := Aside0.mk hb; clear hb) | fail)
            go_roundg (l0.length - (i + 1))
            case measure => omega
            case rel => exact ⟨i + 1, by omega, by omega, by go_num, by rw [HFS.out]; exact mask_set HFL.out (by omega), ⟨below_step BW.out HB3.out⟩⟩
          | false =>
            rw [hq] at HHC HFS
            rw [if_neg (by simp), Nat.add_zero] at HFS
            clear hq
            go_wp2_with (first | (go_at_call 37; refine HHC.out.mono ?_; rintro e w3 ⟨rfl, hb⟩; have HB3 := Aside0.mk hb; clear hb) | fail)
            go_roundg (l0.length - (i + 1))
            case measure => omega
            case rel => exact ⟨i + 1, by omega, by omega, by go_num, by rw [HFS.out]; rfl, ⟨below_step BW.out HB3.out⟩⟩
        · have hilz : ¬ (i : Int) < (l0.length : Int) := by omega
          have hin : i = l0.length := by omega
          subst hin
          generalize hL : (masks l0 (l1.take j)).map (fun f : Nat => (f : Int)) = L at HS HT
          have hlm : L.length ≤ 6 := by rw [← hL, List.length_map, masks_len, List.length_take]; omega
          clear hL
          obtain ⟨As, cs, rfl⟩ := Kd.R_slice HS.out
          have hbx := blk_below HX.out BW.out
          have hcx := box_cell0 hbx
          have HBX := Aside0.mk hbx
          have HSW := Aside0.mk (Kd.R_below HS.out BW.out)
          have HMW := Aside0.mk (HM.out.kept (row := none) (below_grown0 BW.out) (by simp))
          have HWW := Aside0.mk (HW.out.trans (BW.out.mono HW.out.size))
          have HPL := Aside0.mk (Nat.lt_of_lt_of_le (Array.getElem?_eq_some_iff.1 HX.out).1 BW.out.size)
          generalize ((failMask (rd_L1 l1 (j : Int)) l0 l0.length : Nat) : Int) = q at HT ⊢
          have HLM := Aside0.mk hlm
          clear hbx hlm
          go_wp2_with (first | ((with_reducible refine gate_builtin (b := .append) (xs := #[.tmp 43, .tmp 45]) rfl ?_); at_builtin; refine Kd.R_append (Kd.int .i64) (w0 := wr) (w.heap.size + 1 + 1) rfl (.tmp 43) (.tmp 45) 23 3 (.int .i64 0) 8 rfl Try.underlying23 info3 rfl (by decide) (by omega) (.slice As L.length cs) L q [.int .i64 q] (fun _ => True) (fun _ => False) rfl rfl ?aP (fun _ hk => hk.elim) ?aF ?aO ?aB ?aS ?aL ?_; (case aP => exact rfl); (case aB => exact Below.refl _ _); (case aF => exact (fun _ _ => trivial)); (case aO => exact HSW.out); (case aS => exact HPL.out); (case aL => have := HLM.out; omega); intro v2 w2 ho hb hg2 hat; clear hg2 hat; obtain ⟨A2, c2, rfl⟩ := Kd.R_slice ho; have hbx2 := (hb.block (w.heap.size + 1) (by omega)).trans HBX.out; have hcx2 := box_cell0 hbx2; have hfx2 := blk_frozen hbx2 0; have HO2 := Aside0.mk ho; have HB2 := Aside0.mk hb; have HX2 := Aside0.mk hbx2; clear ho hb hbx2) | fail)
          go_roundg (l1.length - (j + 1))
          case measure => omega
          case rel => exact ⟨j + 1, _, by omega, by omega, by go_num, ⟨by have h := blk_set HX2.out 0 (.slice A2 (L ++ [q]).length c2); simpa using h⟩, ⟨by rw [HT.out]; simpa using Kd.R_set HO2.out HX2.out (by decide) 0 _⟩, ⟨(map_below HMW.out HB2.out (by omega)).kept (box_grown HX2.out 0 _) (by simp)⟩, ⟨(HWW.out.trans (HB2.out.mono (by omega))).setCell (by simp) _⟩⟩
    · have hltz : ¬ (j : Int) < (l1.length : Int) := by omega
      have hkn : j = l1.length := by omega
      subst hkn
      rw [List.take_length] at HS
      obtain ⟨As, cs, rfl⟩ := Kd.R_slice HS.out
      rw [List.length_map] at HX HS
      have hcx := box_cell0 HX.out
      have hcx1 := box_cell1 HX.out
      have HD := Aside0.mk (depth_calls (masks l0 l1) (masks_small l0 l1 hl0) (by rw [masks_len]; omega) (w.heap.size + 1 + 1) w.heap.size As cs (2 ^ l0.length) (2 ^ l0.length - 1) (by have := Nat.two_pow_pos l0.length; omega) (by have h : 2 ^ l0.length ≤ 2 ^ 22 := Nat.pow_le_pow_right (by decide) hl0; have := Nat.two_pow_pos l0.length; omega) wr.drew 0 (.map []) (Kd.R_mono (Kd.R_bound (Kd.R_drew HS.out)) (fun k hk => by have := hk.2.1; omega)) HM.out.drew (fun v _ h => by simp [has] at h) (fun kl h => by simp [has] at h))
      have hi64 : (l0.length : Int) ≤ 64 := by omega
      clear HS HX HM
      have hsh : IntKind.i64.wrap (IntKind.i64.wrap ((2 : Int) ^ l0.length) - 1) = ((2 ^ l0.length - 1 : Nat) : Int) := by
        have h := Nat.two_pow_pos l0.length
        have h22 : 2 ^ l0.length ≤ 2 ^ 22 := Nat.pow_le_pow_right (by decide) hl0
        have e : ((2 : Int) ^ l0.length) = ((2 ^ l0.length : Nat) : Int) := by rw [Int.natCast_pow]; rfl
        rw [e, i64_w, i64_w]
        unfold wrap64
        omega
      rw [← hsh] at HD
      clear hsh
      obtain ⟨r0, hr0⟩ : ∃ r0, pd (masks l0 l1) (2 ^ l0.length - 1) (2 ^ l0.length - 1) = r0 := ⟨_, rfl⟩
      rw [hr0] at HD
      have HE := Aside0.mk hr0
      clear hr0
      go_wp2_with (fail)
      go_region_law (first | (go_simp; go_at_call 40; (with_reducible refine HD.out.mono ?_); rintro e w5 ⟨rfl, n5, D5, ho5, hm5, hf5, hg5⟩; have HG5 := Aside0.mk hg5; clear ho5 hm5 hf5 hg5) | fail)
      all_goals (go_wp2; go_ret; exact ⟨by rw [HE.out]; first | rfl | (go_simp; done) | (go_simp; rfl), (below_drew1 HW.out).grown HG5.out (by have := HW.out.size; simpa using this) (fun j hj => by cases hj; exact Nat.le_refl _)⟩)
end

/-! ### laws_big: function 30 -/
def laws_big.f (l0 : List Int) : Option (Bool) := some (decide ((l0.length : Int) > 1048576))
set_option maxHeartbeats 8000000 in
set_option maxRecDepth 100000 in
theorem laws_big.calls (A0 : Option Addr) (c0 : Nat) (l0 : List Int) (r : Bool) (w : World) (hr0 : Kd.C (Kd.int .u8) w A0 l0.length l0) (hc0 : l0.length ≤ c0) (h : laws_big.f l0 = some r) :
    Calls Try.prog 30 #[.slice A0 l0.length c0] w fun e w' => e = .returned (.bool r) ∧ Drawn0 w w' := by
  have HR0 := Aside0.mk hr0
  have HC0 := Aside0.mk hc0
  clear hr0 hc0
  have H : (some (decide ((l0.length : Int) > 1048576))) = some r := h
  clear h
  obtain rfl := Option.some.inj H
  go_enter Try.func30, Try.ntmps30
  go_wp2
  go_ret
  exact ⟨by first | rfl | (simp; done) | (simp [*]; done), by repeat (first | exact Drawn0.refl _ | apply Drawn0.step)⟩

/-- A state of type 58 at block g of W; what its slices lead to came in by w0. -/
def IsS58 (w0 W : World) (g : Nat) (f0 : List Int) (f1 : Int) (f2 : Int) : Prop := ∃ A0 c0, W.heap[g]? = some (.cells #[.slice A0 f0.length c0, .int .i64 f1, .int .i64 f2] 58 (0, 0)) ∧ w0.heap.size ≤ g ∧ Kd.C (Kd.int .u8) w0 A0 f0.length f0
theorem IsS58.grown {w0 W : World} {g : Nat} {f0 : List Int} {f1 : Int} {f2 : Int} {W1 : World} {row : Option Nat} (h : IsS58 w0 W g f0 f1 f2) (hw : W.grownBy W1 row) (hne : some g ≠ row) : IsS58 w0 W1 g f0 f1 f2 := by
  obtain ⟨A0, c0, hb, hg, hr0⟩ := h
  exact ⟨A0, c0, blk_grown hb hw hne, hg, hr0⟩
theorem IsS58.own_neN {w0 W : World} {g : Nat} {f0 : List Int} {f1 : Int} {f2 : Int} {α : Type} {d : Kd α} {e : Nat} {base : Nat} {ok : Nat → Prop} {v : Value} {xs : List α} (h : IsS58 w0 W g f0 f1 f2) (ho : Kd.N d e W base ok v xs) (ht : e ≠ 58) : some g ≠ v.ownBlock := by
  obtain ⟨A0, c0, hb, hg, hr0⟩ := h
  exact Kd.N_ne ho hb ht
theorem IsS58.fresh {w0 W : World} {g : Nat} {f0 : List Int} {f1 : Int} {f2 : Int} (h : IsS58 w0 W g f0 f1 f2) : ∀ k, W.heap.size ≤ k → k ≠ g := by
  obtain ⟨A0, c0, hb, hg, hr0⟩ := h
  exact Kd.freshB hb
theorem IsS58.kept {w0 W : World} {g : Nat} {f0 : List Int} {f1 : Int} {f2 : Int} {W1 : World} {S : Nat → Prop} (h : IsS58 w0 W g f0 f1 f2) (hk : Kept W W1 S) (hne : ¬ S g) : IsS58 w0 W1 g f0 f1 f2 := by
  obtain ⟨A0, c0, hb, hg, hr0⟩ := h
  exact ⟨A0, c0, blk_kept hb hk hne, hg, hr0⟩
theorem IsS58.below {w0 W : World} {g : Nat} {f0 : List Int} {f1 : Int} {f2 : Int} {W1 : World} (h : IsS58 w0 W g f0 f1 f2) (hw : Below W.heap.size W W1) : IsS58 w0 W1 g f0 f1 f2 := h.grown (grown_of_below hw none) (by simp)
theorem IsS58.alloc {w0 W : World} {g : Nat} {f0 : List Int} {f1 : Int} {f2 : Int} (h : IsS58 w0 W g f0 f1 f2) (o : Obj) : IsS58 w0 (W.alloc o) g f0 f1 f2 := h.below (below_alloc (Below.refl _ _) o)
theorem IsS58.drewN {w0 W : World} {g : Nat} {f0 : List Int} {f1 : Int} {f2 : Int} (h : IsS58 w0 W g f0 f1 f2) (m : Nat) : IsS58 w0 (W.drewN m) g f0 f1 f2 := h
theorem IsS58.drew {w0 W : World} {g : Nat} {f0 : List Int} {f1 : Int} {f2 : Int} (h : IsS58 w0 W g f0 f1 f2) : IsS58 w0 W.drew g f0 f1 f2 := h
theorem IsS58.at_ {w0 W : World} {g : Nat} {f0 : List Int} {f1 : Int} {f2 : Int} {w' : World} {m : Nat} (hq : W.drewN m = w') (h : IsS58 w0 W g f0 f1 f2) : IsS58 w0 w' g f0 f1 f2 := by subst hq; exact IsS58.drewN h m
theorem IsS58.apart {w0 W : World} {g : Nat} {f0 : List Int} {f1 : Int} {f2 : Int} {α : Type} {d : Kd α} {e : Nat} {base : Nat} {ok : Nat → Prop} {v : Value} {xs : List α} (h : IsS58 w0 W g f0 f1 f2) (ho : d.R e W base ok v xs) (ht : ∀ q, q ∈ e :: d.E → q ≠ 58) : d.R e W base (fun k => ok k ∧ k ≠ g) v xs := by
  obtain ⟨A0, c0, hb, hg, hr0⟩ := h
  exact Kd.R_types ho hb ht
theorem IsS58.own_ne {w0 W : World} {g : Nat} {f0 : List Int} {f1 : Int} {f2 : Int} {α : Type} {d : Kd α} {e : Nat} {base : Nat} {ok : Nat → Prop} {v : Value} {xs : List α} (h : IsS58 w0 W g f0 f1 f2) (ho : d.R e W base ok v xs) (ht : e ≠ 58) : some g ≠ v.ownBlock := by
  obtain ⟨A0, c0, hb, hg, hr0⟩ := h
  exact Kd.R_ne ho hb ht
theorem IsS58.apartQ {w0 W : World} {g : Nat} {f0 : List Int} {f1 : Int} {f2 : Int} {α : Type} {d : Kd α} {e : Nat} {base : Nat} {ok : Nat → Prop} {v : Value} {xs : List α} (h : IsS58 w0 W g f0 f1 f2) (ho : d.Q e W base ok v xs) (ht : ∀ q, q ∈ e :: d.E → q ≠ 58) : d.Q e W base (fun k => ok k ∧ k ≠ g) v xs := by
  obtain ⟨A0, c0, hb, hg, hr0⟩ := h
  exact Kd.Q_types ho hb ht
theorem IsS58.own_neQ {w0 W : World} {g : Nat} {f0 : List Int} {f1 : Int} {f2 : Int} {α : Type} {d : Kd α} {e : Nat} {base : Nat} {ok : Nat → Prop} {v : Value} {xs : List α} (h : IsS58 w0 W g f0 f1 f2) (ho : d.Q e W base ok v xs) (ht : e ≠ 58) : some g ≠ v.ownBlock := by
  obtain ⟨A0, c0, hb, hg, hr0⟩ := h
  exact Kd.Q_ne ho hb ht
theorem IsS58.apartS {w0 W : World} {g : Nat} {f0 : List Int} {f1 : Int} {f2 : Int} {α : Type} {d : Kd α} {e : Nat} {base : Nat} {ok : Nat → Prop} {v : Value} {xs : List α} (h : IsS58 w0 W g f0 f1 f2) (ho : d.S e W base ok v xs) (ht : ∀ q, q ∈ e :: d.E → q ≠ 58) : d.S e W base (fun k => ok k ∧ k ≠ g) v xs := by
  obtain ⟨A0, c0, hb, hg, hr0⟩ := h
  exact Kd.S_types ho hb ht
theorem IsS58.own_neS {w0 W : World} {g : Nat} {f0 : List Int} {f1 : Int} {f2 : Int} {α : Type} {d : Kd α} {e : Nat} {base : Nat} {ok : Nat → Prop} {v : Value} {xs : List α} (h : IsS58 w0 W g f0 f1 f2) (ho : d.S e W base ok v xs) (ht : e ≠ 58) : some g ≠ v.ownBlock := by
  obtain ⟨A0, c0, hb, hg, hr0⟩ := h
  exact Kd.S_ne ho hb ht
theorem IsS58.lt {w0 W : World} {g : Nat} {f0 : List Int} {f1 : Int} {f2 : Int} (h : IsS58 w0 W g f0 f1 f2) : g < W.heap.size := by
  obtain ⟨A0, c0, hb, hg, hr0⟩ := h
  exact blk_lt hb
theorem IsS58.ge {w0 W : World} {g : Nat} {f0 : List Int} {f1 : Int} {f2 : Int} (h : IsS58 w0 W g f0 f1 f2) : w0.heap.size ≤ g := by
  obtain ⟨A0, c0, hb, hg, hr0⟩ := h
  exact hg
theorem IsS58.ne_blk {w0 W : World} {g : Nat} {f0 : List Int} {f1 : Int} {f2 : Int} {a : Nat} {cs : Array Value} {t : TypeId} {fr : Nat × Nat} (h : IsS58 w0 W g f0 f1 f2) (hb2 : W.heap[a]? = some (.cells cs t fr)) (ht : t ≠ 58) : g ≠ a := by
  obtain ⟨A0, c0, hb, hg, hr0⟩ := h
  rintro rfl
  rw [hb] at hb2
  injection hb2 with hb2
  injection hb2 with _ ht2
  exact ht ht2.symm
theorem IsS58.far {w0 W : World} {g : Nat} {f0 : List Int} {f1 : Int} {f2 : Int} {p : Addr} (h : IsS58 w0 W g f0 f1 f2) (hne : g ≠ p.block) (u : Value) : IsS58 w0 (W.setCell p u) g f0 f1 f2 := by
  obtain ⟨A0, c0, hb, hg, hr0⟩ := h
  exact ⟨A0, c0, blk_far hb hne u, hg, hr0⟩
theorem cellS58_0 {W : World} {g : Nat} {A0 : Option Addr} {c0 : Nat} {f0 : List Int} {f1 : Int} {f2 : Int} (h : W.heap[g]? = some (.cells #[.slice A0 f0.length c0, .int .i64 f1, .int .i64 f2] 58 (0, 0))) : W.cell? ⟨g, 0, none⟩ = some (.slice A0 f0.length c0) := (blk_cell h 0).trans rfl
theorem cellS58_1 {W : World} {g : Nat} {A0 : Option Addr} {c0 : Nat} {f0 : List Int} {f1 : Int} {f2 : Int} (h : W.heap[g]? = some (.cells #[.slice A0 f0.length c0, .int .i64 f1, .int .i64 f2] 58 (0, 0))) : W.cell? ⟨g, 1, none⟩ = some (.int .i64 f1) := (blk_cell h 1).trans rfl
theorem IsS58.set_1 {w0 W : World} {g : Nat} {f0 : List Int} {f1 : Int} {f2 : Int} (h : IsS58 w0 W g f0 f1 f2) (x : Int) : IsS58 w0 (W.setCell ⟨g, 1, none⟩ (.int .i64 x)) g f0 x f2 := by
  obtain ⟨A0, c0, hb, hg, hr0⟩ := h
  exact ⟨A0, c0, by simpa using blk_set hb 1 (.int .i64 x), hg, hr0⟩
theorem cellS58_2 {W : World} {g : Nat} {A0 : Option Addr} {c0 : Nat} {f0 : List Int} {f1 : Int} {f2 : Int} (h : W.heap[g]? = some (.cells #[.slice A0 f0.length c0, .int .i64 f1, .int .i64 f2] 58 (0, 0))) : W.cell? ⟨g, 2, none⟩ = some (.int .i64 f2) := (blk_cell h 2).trans rfl
theorem IsS58.set_2 {w0 W : World} {g : Nat} {f0 : List Int} {f1 : Int} {f2 : Int} (h : IsS58 w0 W g f0 f1 f2) (x : Int) : IsS58 w0 (W.setCell ⟨g, 2, none⟩ (.int .i64 x)) g f0 f1 x := by
  obtain ⟨A0, c0, hb, hg, hr0⟩ := h
  exact ⟨A0, c0, by simpa using blk_set hb 2 (.int .i64 x), hg, hr0⟩
theorem IsS58.new (w0 W : World) (A0 : Option Addr) (c0 : Nat) (f0 : List Int) (f1 : Int) (f2 : Int) (hB : Below w0.heap.size w0 W) (hr0 : Kd.C (Kd.int .u8) w0 A0 f0.length f0) : IsS58 w0 (W.alloc (.cells #[.slice A0 f0.length c0, .int .i64 f1, .int .i64 f2] 58)) W.heap.size f0 f1 f2 := ⟨A0, c0, by simpa using heap_alloc_new W _, hB.size, hr0⟩

/-! ### spec_l1New: function 41 -/
def spec_l1New.l0 : Nat → List Int → Int → Int → Option (List Int × Int × Int)
  | 0, _, _, _ => none
  | k + 1, x0, x3, x4 => if x4 < (x0.length : Int) then (if x4 < 4000 then (if 0 ≤ x4 then (spec_l1New.l0 k x0 (Go.bits .and .i64 (wrap64 ((wrap64 ((wrap64 (x3 * 137)) + (wrap64 (rd x0 x4)))) + 11)) 1073741823) (wrap64 (x4 + 1))) else (none)) else (some (x0, 0, x3))) else (some (x0, 0, x3))
def spec_l1New.f (k : Nat) (l0 : List Int) : Option (List Int × Int × Int) := spec_l1New.l0 k l0 (wrap64 (193017 + (l0.length : Int))) 0
theorem spec_l1New.mono_l : ∀ k, (∀ y0 y1 y2, LeO (spec_l1New.l0 k y0 y1 y2) (spec_l1New.l0 (k + 1) y0 y1 y2))
  | 0 => fun _ _ _ r h => by simp [spec_l1New.l0] at h
  | k + 1 => by
    have ih0 := spec_l1New.mono_l k
    · intro y0 y1 y2
      unfold spec_l1New.l0
      repeat' first
      | (with_reducible exact ih0 _ _ _)
      | (with_reducible exact LeO.refl _)
      | (with_reducible exact LeO.none _)
      | (with_reducible refine LeO.ite ?_ ?_)
      | (with_reducible refine LeO.bind ?_ (fun _ => ?_))
      | exact ih0 _ _ _
      | exact LeO.none _
      | refine LeO.ite ?_ ?_
      | refine LeO.bind ?_ (fun _ => ?_)
theorem spec_l1New.mono : ∀ a0 k, LeO (spec_l1New.f k a0) (spec_l1New.f (k + 1) a0) := by
  intro a0 k
  have ih0 := spec_l1New.mono_l k
  unfold spec_l1New.f
  repeat' first
      | (with_reducible exact ih0 _ _ _)
      | (with_reducible exact LeO.refl _)
      | (with_reducible exact LeO.none _)
      | (with_reducible refine LeO.ite ?_ ?_)
      | (with_reducible refine LeO.bind ?_ (fun _ => ?_))
      | exact ih0 _ _ _
      | exact LeO.none _
      | refine LeO.ite ?_ ?_
      | refine LeO.bind ?_ (fun _ => ?_)
set_option maxHeartbeats 8000000 in
set_option maxRecDepth 100000 in
theorem spec_l1New.calls (k : Nat) (A0 : Option Addr) (c0 : Nat) (l0 : List Int) (r1 : List Int) (r2 : Int) (r3 : Int) (w0 w : World) (hB : Below w0.heap.size w0 w) (hr0 : Kd.C (Kd.int .u8) w0 A0 l0.length l0) (hc0 : l0.length ≤ c0) (h : spec_l1New.f k l0 = some (r1, r2, r3)) :
    Calls Try.prog 41 #[.slice A0 l0.length c0] w fun e w' => ∃ g_ : Nat, e = .returned (.pointer (some ⟨g_, 0, none⟩)) ∧ IsS58 w0 w' g_ r1 r2 r3 ∧ Below w0.heap.size w0 w' ∧ Below w.heap.size w w' := by
  have hu58 := Try.underlying58
  have HR0 := Aside0.mk hr0
  have HC0 := Aside0.mk hc0
  clear hr0 hc0
  have HBW := Aside0.mk (Below.refl w.heap.size w)
  have HW0 := Aside0.mk hB.size
  have HB := Aside0.mk hB
  clear hB
  have H : (spec_l1New.l0 k l0 (wrap64 (193017 + (l0.length : Int))) 0) = some (r1, r2, r3) := h
  clear h
  have H' := Aside0.mk H
  clear H
  go_enter Try.func41, Try.ntmps41
  go_wp2
  go_loopg [3, 4] k (fun kq v3 v4 w' => ∃ (x3_1 : Int) (x4_1 : Int), v3 = .int .i64 x3_1 ∧ v4 = .int .i64 x4_1 ∧ Aside0 (spec_l1New.l0 kq l0 x3_1 x4_1 = some (r1, r2, r3)) ∧ Aside0 (kq ≤ k) ∧ Aside0 (Below w0.heap.size w0 w') ∧ Aside0 (Below w.heap.size w w'))
  case atStart => exact ⟨(wrap64 (193017 + (l0.length : Int))), (0), (by first | rfl | (simp; done) | (simp [*]; done)), (by first | rfl | (simp; done) | (simp [*]; done)), H', ⟨Nat.le_refl _⟩, ⟨by repeat (first | (with_reducible first | exact HB.out | apply below_alloc | apply pw_below_drewN | apply below_drew1) | exact HB.out)⟩, ⟨by repeat (first | (with_reducible first | exact HBW.out | apply below_alloc | apply pw_below_drewN | apply below_drew1) | exact HBW.out)⟩⟩
  case round =>
    clear H'
    obtain ⟨x3_1, x4_1, rfl, rfl, HA, HK1, HB, HBW⟩ := hrel
    cases gk with
    | zero => exact absurd HA.out (by simp [spec_l1New.l0])
    | succ k1 =>
      have H := HA.out
      clear HA
      simp only [spec_l1New.l0] at H
      by_cases c2 : x4_1 < (l0.length : Int)
      · rw [if_pos c2] at H
        have c2b0 : decide (x4_1 < (l0.length : Int)) = true := decide_eq_true c2
        clear c2
        by_cases c3 : x4_1 < 4000
        · rw [if_pos c3] at H
          have c3b0 : decide (x4_1 < 4000) = true := decide_eq_true c3
          clear c3
          by_cases c4 : 0 ≤ x4_1
          · rw [if_pos c4] at H
            have c4b0 : decide (0 ≤ x4_1) = true := decide_eq_true c4
            clear c4
            have H' := Aside0.mk H
            clear H
            have p125 : 0 ≤ (x4_1 : Int) := of_decide_eq_true (by first | (with_reducible assumption) | assumption)
            have q125 : x4_1 < (l0.length : Int) := of_decide_eq_true (by first | (with_reducible assumption) | assumption)
            obtain ⟨ad125, e125, hx125_0⟩ := Kd.at_int HR0.out x4_1 p125 q125
            cases e125
            replace hx125_0 := pw_cell_below HB.out hx125_0
            replace p125 := eq_true p125
            replace q125 := eq_true q125
            go_wp2
            go_roundg k1
            case measure => have := HK1.out; omega
            case rel => exact ⟨(Go.bits .and .i64 (wrap64 ((wrap64 ((wrap64 (x3_1 * 137)) + (wrap64 (rd l0 x4_1)))) + 11)) 1073741823), (wrap64 (x4_1 + 1)), (by first | rfl | (simp; done) | (simp [*]; done)), (by first | rfl | (simp; done) | (simp [*]; done)), H', ⟨by have := HK1.out; omega⟩, ⟨by repeat (first | (with_reducible first | exact HB.out | apply below_alloc | apply pw_below_drewN | apply below_drew1) | exact HB.out)⟩, ⟨by repeat (first | (with_reducible first | exact HBW.out | apply below_alloc | apply pw_below_drewN | apply below_drew1) | exact HBW.out)⟩⟩
          · rw [if_neg c4] at H
            exact absurd H (by simp)
        · rw [if_neg c3] at H
          have c3b0 : decide (x4_1 < 4000) = false := decide_eq_false c3
          clear c3
          simp only [Option.some.injEq, Prod.mk.injEq] at H
          obtain ⟨rfl, rfl, rfl⟩ := H
          go_wp2_with (first | ((with_reducible refine gate_dst (N := 31) rfl ?_); refine box_event ?hg (N := 31) ?hd (cs := #[.slice A0 l0.length c0, .int .i64 0, .int .i64 x3_1]) (t := 58) ?hr ?_; (case hd => rfl); (case hg => rfl); (case hr => first | (go_simp; done) | (go_simp; rfl)); intro gb126 hg w5 hbox hb; have n0_ := Aside0.mk (below_step HBW.out hb); have n1_ := Aside0.mk (below_step (by repeat (first | (with_reducible first | exact HB.out | apply below_alloc | apply pw_below_drewN | apply below_drew1) | exact HB.out)) hb); have n2_ := Aside0.mk (hbox); have n3_ := Aside0.mk ((by rw [hg]; exact (below_size (by repeat (first | (with_reducible first | exact HBW.out | apply below_alloc | apply pw_below_drewN | apply below_drew1) | exact HBW.out))) : w.heap.size ≤ gb126)); have n4_ := Aside0.mk ((Nat.le_trans HW0.out (by rw [hg]; exact (below_size (by repeat (first | (with_reducible first | exact HBW.out | apply below_alloc | apply pw_below_drewN | apply below_drew1) | exact HBW.out))) : w.heap.size ≤ gb126) : w0.heap.size ≤ gb126)); clear HBW; clear HB; have HBW := n0_; have HB := n1_; have BK126 := n2_; have GW126 := n3_; have GE126 := n4_; clear n0_ n1_ n2_ n3_ n4_; clear hb hbox hg))
          go_ret
          exact ⟨_, rfl, (show IsS58 w0 _ gb126 l0 0 x3_1 from ⟨_, _, by (with_reducible repeat (first | refine blk_drewN ?_ _ | refine blk_drew ?_ | refine blk_alloc ?_ _)); exact BK126.out, GE126.out, HR0.out⟩), by repeat (first | (with_reducible first | exact HB.out | apply below_alloc | apply pw_below_drewN | apply below_drew1 | refine below_set ?_ GE126.out) | exact HB.out), by repeat (first | (with_reducible first | exact HBW.out | apply below_alloc | apply pw_below_drewN | apply below_drew1 | refine below_set ?_ GW126.out) | exact HBW.out)⟩
      · rw [if_neg c2] at H
        have c2b0 : decide (x4_1 < (l0.length : Int)) = false := decide_eq_false c2
        clear c2
        simp only [Option.some.injEq, Prod.mk.injEq] at H
        obtain ⟨rfl, rfl, rfl⟩ := H
        go_wp2_with (first | ((with_reducible refine gate_dst (N := 31) rfl ?_); refine box_event ?hg (N := 31) ?hd (cs := #[.slice A0 l0.length c0, .int .i64 0, .int .i64 x3_1]) (t := 58) ?hr ?_; (case hd => rfl); (case hg => rfl); (case hr => first | (go_simp; done) | (go_simp; rfl)); intro gb127 hg w6 hbox hb; have n0_ := Aside0.mk (below_step HBW.out hb); have n1_ := Aside0.mk (below_step (by repeat (first | (with_reducible first | exact HB.out | apply below_alloc | apply pw_below_drewN | apply below_drew1) | exact HB.out)) hb); have n2_ := Aside0.mk (hbox); have n3_ := Aside0.mk ((by rw [hg]; exact (below_size (by repeat (first | (with_reducible first | exact HBW.out | apply below_alloc | apply pw_below_drewN | apply below_drew1) | exact HBW.out))) : w.heap.size ≤ gb127)); have n4_ := Aside0.mk ((Nat.le_trans HW0.out (by rw [hg]; exact (below_size (by repeat (first | (with_reducible first | exact HBW.out | apply below_alloc | apply pw_below_drewN | apply below_drew1) | exact HBW.out))) : w.heap.size ≤ gb127) : w0.heap.size ≤ gb127)); clear HBW; clear HB; have HBW := n0_; have HB := n1_; have BK127 := n2_; have GW127 := n3_; have GE127 := n4_; clear n0_ n1_ n2_ n3_ n4_; clear hb hbox hg))
        go_ret
        exact ⟨_, rfl, (show IsS58 w0 _ gb127 l0 0 x3_1 from ⟨_, _, by (with_reducible repeat (first | refine blk_drewN ?_ _ | refine blk_drew ?_ | refine blk_alloc ?_ _)); exact BK127.out, GE127.out, HR0.out⟩), by repeat (first | (with_reducible first | exact HB.out | apply below_alloc | apply pw_below_drewN | apply below_drew1 | refine below_set ?_ GE127.out) | exact HB.out), by repeat (first | (with_reducible first | exact HBW.out | apply below_alloc | apply pw_below_drewN | apply below_drew1 | refine below_set ?_ GW127.out) | exact HBW.out)⟩

/-! ### spec_l1Byte: function 53 -/
def spec_l1Byte.f (s0_0 : List Int) (s0_1 : Int) (s0_2 : Int) : Option (Int × Int × Int) := if s0_1 < (s0_0.length : Int) then (if 0 ≤ s0_1 then (some (Go.bits .and .i64 (wrap64 ((Go.bits .and .i64 (Go.bits .xor .i64 ((wrap64 ((wrap64 (s0_2 * 6364136223846793005)) + 1442695040888963407)) / 8589934592) ((wrap64 ((wrap64 (s0_2 * 6364136223846793005)) + 1442695040888963407)) / 140737488355328)) 255) + (wrap64 (rd s0_0 s0_1)))) 255, wrap64 (s0_1 + 1), wrap64 ((wrap64 (s0_2 * 6364136223846793005)) + 1442695040888963407))) else (none)) else (some (Go.bits .and .i64 (Go.bits .xor .i64 ((wrap64 ((wrap64 (s0_2 * 6364136223846793005)) + 1442695040888963407)) / 8589934592) ((wrap64 ((wrap64 (s0_2 * 6364136223846793005)) + 1442695040888963407)) / 140737488355328)) 255, s0_1, wrap64 ((wrap64 (s0_2 * 6364136223846793005)) + 1442695040888963407)))
set_option maxHeartbeats 8000000 in
set_option maxRecDepth 100000 in
theorem spec_l1Byte.calls (g : Nat) (s0_0 : List Int) (s0_1 : Int) (s0_2 : Int) (r1 : Int) (r2 : Int) (r3 : Int) (w0 w : World) (hI : IsS58 w0 w g s0_0 s0_1 s0_2) (hB : Below w0.heap.size w0 w) (h : spec_l1Byte.f s0_0 s0_1 s0_2 = some (r1, r2, r3)) :
    Calls Try.prog 53 #[.pointer (some ⟨g, 0, none⟩)] w fun e w' => e = .returned (.int .i64 r1) ∧ IsS58 w0 w' g s0_0 r2 r3 ∧ Below w0.heap.size w0 w' ∧ KeepBut w w' g none := by
  have HI0 := Aside0.mk hI
  have HK := Aside0.mk (KeepBut.refl w g none)
  have HL := Aside0.mk hB.size
  clear hI
  have HW0 := Aside0.mk hB.size
  have HB := Aside0.mk hB
  clear hB
  have H : (if s0_1 < (s0_0.length : Int) then (if 0 ≤ s0_1 then (some (Go.bits .and .i64 (wrap64 ((Go.bits .and .i64 (Go.bits .xor .i64 ((wrap64 ((wrap64 (s0_2 * 6364136223846793005)) + 1442695040888963407)) / 8589934592) ((wrap64 ((wrap64 (s0_2 * 6364136223846793005)) + 1442695040888963407)) / 140737488355328)) 255) + (wrap64 (rd s0_0 s0_1)))) 255, wrap64 (s0_1 + 1), wrap64 ((wrap64 (s0_2 * 6364136223846793005)) + 1442695040888963407))) else (none)) else (some (Go.bits .and .i64 (Go.bits .xor .i64 ((wrap64 ((wrap64 (s0_2 * 6364136223846793005)) + 1442695040888963407)) / 8589934592) ((wrap64 ((wrap64 (s0_2 * 6364136223846793005)) + 1442695040888963407)) / 140737488355328)) 255, s0_1, wrap64 ((wrap64 (s0_2 * 6364136223846793005)) + 1442695040888963407)))) = some (r1, r2, r3) := h
  clear h
  by_cases c2 : s0_1 < (s0_0.length : Int)
  · rw [if_pos c2] at H
    have c2b0 : decide (s0_1 < (s0_0.length : Int)) = true := decide_eq_true c2
    clear c2
    by_cases c3 : 0 ≤ s0_1
    · rw [if_pos c3] at H
      have c3b0 : decide (0 ≤ s0_1) = true := decide_eq_true c3
      clear c3
      simp only [Option.some.injEq, Prod.mk.injEq] at H
      obtain ⟨rfl, rfl, rfl⟩ := H
      obtain ⟨ASz4_0, cSz4_0, HGz4, hgz4, HSz4_0⟩ := HI0.out
      have hcz4_0 := cellS58_0 HGz4
      have hcz4_1 := cellS58_1 HGz4
      have hcz4_2 := cellS58_2 HGz4
      have hfz4_1 := blk_frozen HGz4 1
      have hfz4_2 := blk_frozen HGz4 2
      clear HGz4 hgz4
      have p128 : 0 ≤ (s0_1 : Int) := of_decide_eq_true (by first | (with_reducible assumption) | assumption)
      have q128 : s0_1 < (s0_0.length : Int) := of_decide_eq_true (by first | (with_reducible assumption) | assumption)
      obtain ⟨ad128, e128, hx128_0⟩ := Kd.at_int HSz4_0 s0_1 p128 q128
      cases e128
      have hn128_0 : ad128.block ≠ g := Nat.ne_of_lt (Nat.lt_of_lt_of_le (by have := World.block_lt_of_cell? _ _ hx128_0; first | rwa [add_block] at this | exact this) (IsS58.ge HI0.out))
      replace hx128_0 := pw_cell_below HB.out hx128_0
      replace hx128_0 := (cell_far (p := ⟨g, 2, none⟩) (by first | (rw [add_block]; exact hn128_0) | (show (Addr.add _ _).block ≠ _; rw [add_block]; exact hn128_0) | exact hn128_0) (.int .i64 (wrap64 ((wrap64 (s0_2 * 6364136223846793005)) + 1442695040888963407)))).trans hx128_0
      (try have hy128_0 := fun (n_ : Nat) => (show (((w.drewN n_).setCell ⟨g, 2, none⟩ (.int .i64 (wrap64 ((wrap64 (s0_2 * 6364136223846793005)) + 1442695040888963407))))).cell? _ = some _ from hx128_0))
      clear hn128_0
      replace p128 := eq_true p128
      replace q128 := eq_true q128
      go_enter Try.func53, Try.ntmps53
      go_wp2
      repeat (go_quiet (fail); try go_wp2)
      go_ret
      exact ⟨by first | rfl | (simp [errW_none, errW_some] <;> rfl) | (simp [*, errW_none, errW_some] <;> rfl), by repeat (first | (with_reducible first | exact HI0.out | apply IsS58.alloc | apply IsS58.drewN | apply IsS58.drew | apply IsS58.set_1 | apply IsS58.set_2) | exact HI0.out), by repeat (first | (with_reducible first | exact HB.out | apply below_alloc | apply pw_below_drewN | apply below_drew1 | refine below_set ?_ (IsS58.ge HI0.out)) | exact HB.out), by repeat (first | (with_reducible first | exact HK.out | apply KeepBut.set_ | apply keep_drewN | apply keep_drew | apply keep_alloc) | exact HK.out)⟩
    · rw [if_neg c3] at H
      exact absurd H (by simp)
  · rw [if_neg c2] at H
    have c2b0 : decide (s0_1 < (s0_0.length : Int)) = false := decide_eq_false c2
    clear c2
    simp only [Option.some.injEq, Prod.mk.injEq] at H
    obtain ⟨rfl, rfl, rfl⟩ := H
    obtain ⟨ASz5_0, cSz5_0, HGz5, hgz5, HSz5_0⟩ := HI0.out
    have hcz5_0 := cellS58_0 HGz5
    have hcz5_1 := cellS58_1 HGz5
    have hcz5_2 := cellS58_2 HGz5
    have hfz5_1 := blk_frozen HGz5 1
    have hfz5_2 := blk_frozen HGz5 2
    clear HGz5 hgz5
    go_enter Try.func53, Try.ntmps53
    go_wp2
    repeat (go_quiet (fail); try go_wp2)
    go_ret
    exact ⟨by first | rfl | (simp [errW_none, errW_some] <;> rfl) | (simp [*, errW_none, errW_some] <;> rfl), by repeat (first | (with_reducible first | exact HI0.out | apply IsS58.alloc | apply IsS58.drewN | apply IsS58.drew | apply IsS58.set_1 | apply IsS58.set_2) | exact HI0.out), by repeat (first | (with_reducible first | exact HB.out | apply below_alloc | apply pw_below_drewN | apply below_drew1 | refine below_set ?_ (IsS58.ge HI0.out)) | exact HB.out), by repeat (first | (with_reducible first | exact HK.out | apply KeepBut.set_ | apply keep_drewN | apply keep_drew | apply keep_alloc) | exact HK.out)⟩

/-! ### spec_l1Below: function 49 -/
def spec_l1Below.f (s0_0 : List Int) (s0_1 : Int) (s0_2 : Int) (a1 : Int) : Option (Int × Int × Int) := if a1 ≤ 0 then (some (0, s0_1, s0_2)) else (if a1 ≤ 256 then ((spec_l1Byte.f s0_0 s0_1 s0_2).bind fun bt129 => (if a1 = 0 then (none) else (some (Int.tmod bt129.1 a1, bt129.2.1, bt129.2.2)))) else ((spec_l1Byte.f s0_0 s0_1 s0_2).bind fun bt132 => ((spec_l1Byte.f s0_0 bt132.2.1 bt132.2.2).bind fun bt135 => ((spec_l1Byte.f s0_0 bt135.2.1 bt135.2.2).bind fun bt138 => (if a1 = 0 then (none) else (some (Int.tmod (wrap64 ((wrap64 ((wrap64 (bt132.1 * 65536)) + (wrap64 (bt135.1 * 256)))) + bt138.1)) a1, bt138.2.1, bt138.2.2)))))))
set_option maxHeartbeats 8000000 in
set_option maxRecDepth 100000 in
theorem spec_l1Below.calls (g : Nat) (s0_0 : List Int) (s0_1 : Int) (s0_2 : Int) (a1 : Int) (r1 : Int) (r2 : Int) (r3 : Int) (w0 w : World) (hI : IsS58 w0 w g s0_0 s0_1 s0_2) (hB : Below w0.heap.size w0 w) (h : spec_l1Below.f s0_0 s0_1 s0_2 a1 = some (r1, r2, r3)) :
    Calls Try.prog 49 #[.pointer (some ⟨g, 0, none⟩), .int .i64 a1] w fun e w' => e = .returned (.int .i64 r1) ∧ IsS58 w0 w' g s0_0 r2 r3 ∧ Below w0.heap.size w0 w' ∧ KeepBut w w' g none := by
  have HI0 := Aside0.mk hI
  have HK := Aside0.mk (KeepBut.refl w g none)
  have HL := Aside0.mk hB.size
  clear hI
  have HW0 := Aside0.mk hB.size
  have HB := Aside0.mk hB
  clear hB
  have H : (if a1 ≤ 0 then (some (0, s0_1, s0_2)) else (if a1 ≤ 256 then ((spec_l1Byte.f s0_0 s0_1 s0_2).bind fun bt129 => (if a1 = 0 then (none) else (some (Int.tmod bt129.1 a1, bt129.2.1, bt129.2.2)))) else ((spec_l1Byte.f s0_0 s0_1 s0_2).bind fun bt132 => ((spec_l1Byte.f s0_0 bt132.2.1 bt132.2.2).bind fun bt135 => ((spec_l1Byte.f s0_0 bt135.2.1 bt135.2.2).bind fun bt138 => (if a1 = 0 then (none) else (some (Int.tmod (wrap64 ((wrap64 ((wrap64 (bt132.1 * 65536)) + (wrap64 (bt135.1 * 256)))) + bt138.1)) a1, bt138.2.1, bt138.2.2)))))))) = some (r1, r2, r3) := h
  clear h
  by_cases c3 : a1 ≤ 0
  · rw [if_pos c3] at H
    have c3b0 : decide (a1 ≤ 0) = true := decide_eq_true c3
    clear c3
    simp only [Option.some.injEq, Prod.mk.injEq] at H
    obtain ⟨rfl, rfl, rfl⟩ := H
    go_enter Try.func49, Try.ntmps49
    go_wp2
    go_ret
    exact ⟨by first | rfl | (simp [errW_none, errW_some] <;> rfl) | (simp [*, errW_none, errW_some] <;> rfl), by repeat (first | (with_reducible first | exact HI0.out | apply IsS58.alloc | apply IsS58.drewN | apply IsS58.drew | apply IsS58.set_1 | apply IsS58.set_2) | exact HI0.out), by repeat (first | (with_reducible first | exact HB.out | apply below_alloc | apply pw_below_drewN | apply below_drew1 | refine below_set ?_ (IsS58.ge HI0.out)) | exact HB.out), by repeat (first | (with_reducible first | exact HK.out | apply KeepBut.set_ | apply keep_drewN | apply keep_drew | apply keep_alloc) | exact HK.out)⟩
  · rw [if_neg c3] at H
    have c3b0 : decide (a1 ≤ 0) = false := decide_eq_false c3
    clear c3
    by_cases c4 : a1 ≤ 256
    · rw [if_pos c4] at H
      have c4b0 : decide (a1 ≤ 256) = true := decide_eq_true c4
      clear c4
      replace H := Option.bind_eq_some_iff.mp H
      obtain ⟨⟨t129, t130, t131⟩, A50, H⟩ := H
      replace H : (if a1 = 0 then (none) else (some (Int.tmod t129 a1, t130, t131))) = some (r1, r2, r3) := H
      have A5 := Aside0.mk A50
      clear A50
      by_cases c6 : a1 = 0
      · rw [if_pos c6] at H
        exact absurd H (by simp)
      · rw [if_neg c6] at H
        have c6b0 : (a1 == 0) = false := beq_eq_false_iff_ne.mpr c6
        have c6b1 : (a1 != 0) = true := bne_iff_ne.mpr c6
        simp only [Option.some.injEq, Prod.mk.injEq] at H
        obtain ⟨rfl, rfl, rfl⟩ := H
        go_enter Try.func49, Try.ntmps49
        go_wp2_with (first | ((with_reducible refine gate_callee (f := 53) rfl ?_); refine goesL_ (some 13) rfl rfl Try.func53 (by kernel_rfl) rfl #[.pointer (some ⟨g, 0, none⟩)] rfl (by (try simp only [List.map_toArray, List.map_cons, List.map_nil]); first | done | rfl | (simp only [List.length_drop, List.length_take]; rfl)) ?_; (with_reducible refine (spec_l1Byte.calls g s0_0 s0_1 s0_2 t129 t130 t131 w0 _ ?side1 ?side2 A5.out).mono ?_); (case side1 => repeat (first | (with_reducible first | exact HI0.out | apply IsS58.alloc | apply IsS58.drewN | apply IsS58.drew | apply IsS58.set_1 | apply IsS58.set_2) | exact HI0.out)); (case side2 => repeat (first | (with_reducible first | exact HB.out | apply below_alloc | apply pw_below_drewN | apply below_drew1 | refine below_set ?_ (IsS58.ge HI0.out)) | exact HB.out)); rintro e w7 ⟨rfl, hi, hb, hk⟩; refine ⟨_, rfl, ?_⟩; have n0_ := Aside0.mk (KeepBut.trans (by repeat (first | (with_reducible first | exact HK.out | apply KeepBut.set_ | apply keep_drewN | apply keep_drew | apply keep_alloc) | exact HK.out)) hk (.inl rfl)); have n1_ := Aside0.mk (hb); have n2_ := Aside0.mk (hi); clear HK; clear HB; clear HI0; have HK := n0_; have HB := n1_; have HI0 := n2_; clear n0_ n1_ n2_; (try clear hb); (try clear hb2); (try clear hk); (try clear hi)))
        go_ret
        exact ⟨by first | rfl | (simp [errW_none, errW_some] <;> rfl) | (simp [*, errW_none, errW_some] <;> rfl), by repeat (first | (with_reducible first | exact HI0.out | apply IsS58.alloc | apply IsS58.drewN | apply IsS58.drew | apply IsS58.set_1 | apply IsS58.set_2) | exact HI0.out), by repeat (first | (with_reducible first | exact HB.out | apply below_alloc | apply pw_below_drewN | apply below_drew1 | refine below_set ?_ (IsS58.ge HI0.out)) | exact HB.out), by repeat (first | (with_reducible first | exact HK.out | apply KeepBut.set_ | apply keep_drewN | apply keep_drew | apply keep_alloc) | exact HK.out)⟩
    · rw [if_neg c4] at H
      have c4b0 : decide (a1 ≤ 256) = false := decide_eq_false c4
      clear c4
      replace H := Option.bind_eq_some_iff.mp H
      obtain ⟨⟨t132, t133, t134⟩, A80, H⟩ := H
      replace H : ((spec_l1Byte.f s0_0 t133 t134).bind fun bt135 => ((spec_l1Byte.f s0_0 bt135.2.1 bt135.2.2).bind fun bt138 => (if a1 = 0 then (none) else (some (Int.tmod (wrap64 ((wrap64 ((wrap64 (t132 * 65536)) + (wrap64 (bt135.1 * 256)))) + bt138.1)) a1, bt138.2.1, bt138.2.2))))) = some (r1, r2, r3) := H
      have A8 := Aside0.mk A80
      clear A80
      replace H := Option.bind_eq_some_iff.mp H
      obtain ⟨⟨t135, t136, t137⟩, A90, H⟩ := H
      replace H : ((spec_l1Byte.f s0_0 t136 t137).bind fun bt138 => (if a1 = 0 then (none) else (some (Int.tmod (wrap64 ((wrap64 ((wrap64 (t132 * 65536)) + (wrap64 (t135 * 256)))) + bt138.1)) a1, bt138.2.1, bt138.2.2)))) = some (r1, r2, r3) := H
      have A9 := Aside0.mk A90
      clear A90
      replace H := Option.bind_eq_some_iff.mp H
      obtain ⟨⟨t138, t139, t140⟩, A100, H⟩ := H
      replace H : (if a1 = 0 then (none) else (some (Int.tmod (wrap64 ((wrap64 ((wrap64 (t132 * 65536)) + (wrap64 (t135 * 256)))) + t138)) a1, t139, t140))) = some (r1, r2, r3) := H
      have A10 := Aside0.mk A100
      clear A100
      by_cases c11 : a1 = 0
      · rw [if_pos c11] at H
        exact absurd H (by simp)
      · rw [if_neg c11] at H
        have c11b0 : (a1 == 0) = false := beq_eq_false_iff_ne.mpr c11
        have c11b1 : (a1 != 0) = true := bne_iff_ne.mpr c11
        simp only [Option.some.injEq, Prod.mk.injEq] at H
        obtain ⟨rfl, rfl, rfl⟩ := H
        go_enter Try.func49, Try.ntmps49
        go_wp2_with (first | ((with_reducible refine gate_callee (f := 53) rfl ?_); refine goesL_ (some 17) rfl rfl Try.func53 (by kernel_rfl) rfl #[.pointer (some ⟨g, 0, none⟩)] rfl (by (try simp only [List.map_toArray, List.map_cons, List.map_nil]); first | done | rfl | (simp only [List.length_drop, List.length_take]; rfl)) ?_; (with_reducible refine (spec_l1Byte.calls g s0_0 s0_1 s0_2 t132 t133 t134 w0 _ ?side1 ?side2 A8.out).mono ?_); (case side1 => repeat (first | (with_reducible first | exact HI0.out | apply IsS58.alloc | apply IsS58.drewN | apply IsS58.drew | apply IsS58.set_1 | apply IsS58.set_2) | exact HI0.out)); (case side2 => repeat (first | (with_reducible first | exact HB.out | apply below_alloc | apply pw_below_drewN | apply below_drew1 | refine below_set ?_ (IsS58.ge HI0.out)) | exact HB.out)); rintro e w12 ⟨rfl, hi, hb, hk⟩; refine ⟨_, rfl, ?_⟩; have n0_ := Aside0.mk (KeepBut.trans (by repeat (first | (with_reducible first | exact HK.out | apply KeepBut.set_ | apply keep_drewN | apply keep_drew | apply keep_alloc) | exact HK.out)) hk (.inl rfl)); have n1_ := Aside0.mk (hb); have n2_ := Aside0.mk (hi); clear HK; clear HB; clear HI0; have HK := n0_; have HB := n1_; have HI0 := n2_; clear n0_ n1_ n2_; (try clear hb); (try clear hb2); (try clear hk); (try clear hi)) | ((with_reducible refine gate_callee (f := 53) rfl ?_); refine goesL_ (some 19) rfl rfl Try.func53 (by kernel_rfl) rfl #[.pointer (some ⟨g, 0, none⟩)] rfl (by (try simp only [List.map_toArray, List.map_cons, List.map_nil]); first | done | rfl | (simp only [List.length_drop, List.length_take]; rfl)) ?_; (with_reducible refine (spec_l1Byte.calls g s0_0 t133 t134 t135 t136 t137 w0 _ ?side1 ?side2 A9.out).mono ?_); (case side1 => repeat (first | (with_reducible first | exact HI0.out | apply IsS58.alloc | apply IsS58.drewN | apply IsS58.drew | apply IsS58.set_1 | apply IsS58.set_2) | exact HI0.out)); (case side2 => repeat (first | (with_reducible first | exact HB.out | apply below_alloc | apply pw_below_drewN | apply below_drew1 | refine below_set ?_ (IsS58.ge HI0.out)) | exact HB.out)); rintro e w13 ⟨rfl, hi, hb, hk⟩; refine ⟨_, rfl, ?_⟩; have n0_ := Aside0.mk (KeepBut.trans (by repeat (first | (with_reducible first | exact HK.out | apply KeepBut.set_ | apply keep_drewN | apply keep_drew | apply keep_alloc) | exact HK.out)) hk (.inl rfl)); have n1_ := Aside0.mk (hb); have n2_ := Aside0.mk (hi); clear HK; clear HB; clear HI0; have HK := n0_; have HB := n1_; have HI0 := n2_; clear n0_ n1_ n2_; (try clear hb); (try clear hb2); (try clear hk); (try clear hi)) | ((with_reducible refine gate_callee (f := 53) rfl ?_); refine goesL_ (some 21) rfl rfl Try.func53 (by kernel_rfl) rfl #[.pointer (some ⟨g, 0, none⟩)] rfl (by (try simp only [List.map_toArray, List.map_cons, List.map_nil]); first | done | rfl | (simp only [List.length_drop, List.length_take]; rfl)) ?_; (with_reducible refine (spec_l1Byte.calls g s0_0 t136 t137 t138 t139 t140 w0 _ ?side1 ?side2 A10.out).mono ?_); (case side1 => repeat (first | (with_reducible first | exact HI0.out | apply IsS58.alloc | apply IsS58.drewN | apply IsS58.drew | apply IsS58.set_1 | apply IsS58.set_2) | exact HI0.out)); (case side2 => repeat (first | (with_reducible first | exact HB.out | apply below_alloc | apply pw_below_drewN | apply below_drew1 | refine below_set ?_ (IsS58.ge HI0.out)) | exact HB.out)); rintro e w14 ⟨rfl, hi, hb, hk⟩; refine ⟨_, rfl, ?_⟩; have n0_ := Aside0.mk (KeepBut.trans (by repeat (first | (with_reducible first | exact HK.out | apply KeepBut.set_ | apply keep_drewN | apply keep_drew | apply keep_alloc) | exact HK.out)) hk (.inl rfl)); have n1_ := Aside0.mk (hb); have n2_ := Aside0.mk (hi); clear HK; clear HB; clear HI0; have HK := n0_; have HB := n1_; have HI0 := n2_; clear n0_ n1_ n2_; (try clear hb); (try clear hb2); (try clear hk); (try clear hi)))
        go_ret
        exact ⟨by first | rfl | (simp [errW_none, errW_some] <;> rfl) | (simp [*, errW_none, errW_some] <;> rfl), by repeat (first | (with_reducible first | exact HI0.out | apply IsS58.alloc | apply IsS58.drewN | apply IsS58.drew | apply IsS58.set_1 | apply IsS58.set_2) | exact HI0.out), by repeat (first | (with_reducible first | exact HB.out | apply below_alloc | apply pw_below_drewN | apply below_drew1 | refine below_set ?_ (IsS58.ge HI0.out)) | exact HB.out), by repeat (first | (with_reducible first | exact HK.out | apply KeepBut.set_ | apply keep_drewN | apply keep_drew | apply keep_alloc) | exact HK.out)⟩

end Go.Proofs.Ytbbfgkjhnfcjiaa.PFnPlanned
