/-
 Texts of the proof, in build order: words that the walks use, contracts of functions, plain facts.
-/
import Derived.Test.YtcjjmhgboibbgaaGreatEa3
import Derived.Test.YtcjjmhgboibbgaaGreatEa4
import Derived.Test.YtcjjmhgboibbgaaGreatEa10
import Derived.Test.YtcjjmhgboibbgaaGreatEa18
import Derived.Test.YtcjjmhgboibbgaaGreatEa19
set_option maxHeartbeats 40000000
set_option maxRecDepth 100000
set_option linter.unusedVariables false
set_option linter.unusedSimpArgs false
section
namespace Go.Proofs.Q
open RowKit Pw Pl Pm
attribute [local go_sem] max2_int min2_int max_two min_two max_three min_three max_four min_four   -- for this text's walks alone
mutual
def real_rounded.l0 : Nat → List Int → Int → List Int → Int → Option (Int × Int)
 | 0, _, _, _, _ => none
 | k + 1, x0, x1, x2, x7 => if x1 ≥ x7 then ((real_nat_shl.f x0 (wrap64 (x1 - x7))).bind fun t266 => (real_rounded.j1 k x0 x1 x2 x7 t266 x2)) else ((real_nat_shl.f x2 (wrap64 (x7 - x1))).bind fun t269 => (real_rounded.j1 k x0 x1 x2 x7 x0 t269))
def real_rounded.j1 : Nat → List Int → Int → List Int → Int → List Int → List Int → Option (Int × Int)
 | 0, _, _, _, _, _, _ => none
 | k + 1, x0, x1, x2, x7, x8, x9 => (real_nat_div.f k x8 x9).bind fun bt272 => ((real_nat_bits.f k bt272.1).bind fun t278 => (if t278 > 24 then (real_rounded.l0 k x0 x1 x2 (wrap64 (x7 + 1))) else ((real_nat_small.f k bt272.1).bind fun t279 => ((real_nat_shl.f bt272.2 1).bind fun t280 => ((real_nat_cmp.f k t280 x9).bind fun t283 => (if t283 > 0 then (real_rounded.j2 k x7 (wrap64 (t279)) true) else (if t283 = 0 then (real_rounded.j2 k x7 (wrap64 (t279)) ((Int.tmod (wrap64 (t279)) 2) == 1)) else (real_rounded.j2 k x7 (wrap64 (t279)) false))))))))
def real_rounded.j2 : Nat → Int → Int → Bool → Option (Int × Int)
 | 0, _, _, _ => none
 | k + 1, x7, x12, x71 => if x71 = true then (real_rounded.j3 k x7 (wrap64 (x12 + 1))) else (real_rounded.j3 k x7 x12)
def real_rounded.j3 : Nat → Int → Int → Option (Int × Int)
 | 0, _, _ => none
 | k + 1, x7, x12 => if x12 = 16777216 then (real_rounded.j4 k (wrap64 (x7 + 1)) 8388608) else (real_rounded.j4 k x7 x12)
def real_rounded.j4 : Nat → Int → Int → Option (Int × Int)
 | 0, _, _ => none
 | k + 1, x7, x12 => if x7 > 150 then (none) else (if x12 = 0 then (some (0, 0)) else (some (x12, x7)))
end
def real_rounded.f (k : Nat) (l0 : List Int) (a1 : Int) (l2 : List Int) : Option (Int × Int) := if (l0.length : Int) = 0 then (some (0, 0)) else ((real_nat_bits.f k l0).bind fun t264 => ((real_nat_bits.f k l2).bind fun t265 => (real_rounded.l0 k l0 a1 l2 (mx (-150) (wrap64 ((wrap64 ((wrap64 ((wrap64 (t264 - t265)) + a1)) - 24)) - 1))))))
theorem real_rounded.calls (k : Nat) (P0_ : Nat → Prop) (A0 : Option Addr) (c0 : Nat) (l0 : List Int) (a1 : Int) (P2_ : Nat → Prop) (A2 : Option Addr) (c2 : Nat) (l2 : List Int) (r1 : Int) (r2 : Int) (w : World) (hs0 : Kd.V (Kd.int .u32) 128 w w.heap.size (fun k_ => P0_ k_) (.slice A0 l0.length c0) l0) (hs2 : Kd.V (Kd.int .u32) 128 w w.heap.size (fun k_ => P2_ k_) (.slice A2 l2.length c2) l2) (h : real_rounded.f k l0 a1 l2 = some (r1, r2)) :
  Calls Tryz.prog 104 #[.slice A0 l0.length c0, .int .i64 a1, .slice A2 l2.length c2] w fun e w' => e = .returned (.agg #[.int .i64 r1, .int .i64 r2]) ∧ Below w.heap.size w w' := by
 have hu57 := Tryz.underlying36
 have HO0 := As.mk (show Kd.V (Kd.int .u32) 128 w w.heap.size (fun k_ => ((P0_ k_ ∨ P2_ k_) ∨ w.heap.size ≤ k_)) (.slice A0 l0.length c0) l0 from Kd.V_mono hs0 (fun k_ hk => .inl (.inl hk)))
 have HO2 := As.mk (show Kd.V (Kd.int .u32) 128 w w.heap.size (fun k_ => ((P0_ k_ ∨ P2_ k_) ∨ w.heap.size ≤ k_)) (.slice A2 l2.length c2) l2 from Kd.V_mono hs2 (fun k_ hk => .inl (.inr hk)))
 have HB := As.mk (Below.refl w.heap.size w)
 have H : (if (l0.length : Int) = 0 then (some (0, 0)) else ((real_nat_bits.f k l0).bind fun t264 => ((real_nat_bits.f k l2).bind fun t265 => (real_rounded.l0 k l0 a1 l2 (mx (-150) (wrap64 ((wrap64 ((wrap64 ((wrap64 (t264 - t265)) + a1)) - 24)) - 1))))))) = some (r1, r2) := h
 clear h
 by_cases c4 : (l0.length : Int) = 0
 ·rw [if_pos c4] at H
  have c4b0 : ((l0.length : Int) == 0) = true := beq_iff_eq.mpr c4
  have c4b1 : ((l0.length : Int) != 0) = false := bne_eq_false_iff_eq.mpr c4
  clear c4
  simp only [Option.some.injEq, Prod.mk.injEq] at H
  obtain ⟨rfl, rfl⟩ := H
  go_enter Tryz.func104, Tryz.ntmps104
  go_wp2_with (first | ((with_reducible refine gD (N := 6) rfl ?_); refine bx 6 #[.int .i64 0, .int .i64 0] 36 ?_; intro gb263 hg w5 hbox hb; replace HO0 := As.mk (Kd.V_below (Kd.V_elderB (by (with_reducible repeat (first | apply Kd.V_alloc | apply Kd.V_drewN | apply Kd.V_drew)); exact HO0.out) gb263 (Nat.le_of_eq hg.symm)) hb); replace HO2 := As.mk (Kd.V_below (Kd.V_elderB (by (with_reducible repeat (first | apply Kd.V_alloc | apply Kd.V_drewN | apply Kd.V_drew)); exact HO2.out) gb263 (Nat.le_of_eq hg.symm)) hb); have BK263 := As.mk (hbox); have GW263 := As.mk ((by rw [hg]; exact (bZ zz) : w.heap.size ≤ gb263)); have GE263 := GW263; replace HB := As.mk (bS zz hb); clear hb hbox hg; have hcz6_0 : w5.cell? ⟨gb263, 0, none⟩ = some (.int .i64 0) := (kC BK263.out 0).trans rfl; have hcz6_1 : w5.cell? ⟨gb263, 1, none⟩ = some (.int .i64 0) := (kC BK263.out 1).trans rfl; have hfz6_0 := kF BK263.out 0; have hfz6_1 := kF BK263.out 1))
  refine bodyPost_ret (results_cell_row rfl _ _ gb263 36 #[.int .i64 0, .int .i64 0] (0, 0) _ rfl (by (with_reducible repeat (first | apply kN | apply kD | apply kA)); refine kP (cs := #[.int .i64 0, .int .i64 0]) ?_ 1 _ rfl; (with_reducible repeat (first | apply kN | apply kD | apply kA)); refine kP (cs := #[.int .i64 0, .int .i64 0]) ?_ 0 _ rfl; (with_reducible repeat (first | apply kN | apply kD | apply kA)); exact BK263.out) Tryz.underlying36 rfl (by kernel_rfl)) rfl ?_
  exact ⟨by first | rfl | (simp [eN, eS] <;> rfl) | (simp [*, eN, eS] <;> rfl), by repeat (first | (with_reducible first | exact HB.out | apply bA | apply bN | apply bD | refine bT ?_ GE263.out) | exact HB.out)⟩
 ·rw [if_neg c4] at H
  have c4b0 : ((l0.length : Int) == 0) = false := beq_eq_false_iff_ne.mpr c4
  have c4b1 : ((l0.length : Int) != 0) = true := bne_iff_ne.mpr c4
  have c4b2 : ¬ (l0 = []) := fun h_ => c4 (by rw [h_]; rfl)
  replace H := Option.bind_eq_some_iff.mp H
  obtain ⟨t264, A70, H⟩ := H
  replace H : ((real_nat_bits.f k l2).bind fun t265 => (real_rounded.l0 k l0 a1 l2 (mx (-150) (wrap64 ((wrap64 ((wrap64 ((wrap64 (t264 - t265)) + a1)) - 24)) - 1))))) = some (r1, r2) := H
  have A7 := As.mk A70
  clear A70
  replace H := Option.bind_eq_some_iff.mp H
  obtain ⟨t265, A80, H⟩ := H
  replace H : (real_rounded.l0 k l0 a1 l2 (mx (-150) (wrap64 ((wrap64 ((wrap64 ((wrap64 (t264 - t265)) + a1)) - 24)) - 1)))) = some (r1, r2) := H
  have A8 := As.mk A80
  clear A80
  obtain ⟨ji9, hji9⟩ : ∃ j_ : Int, (mx (-150) (wrap64 ((wrap64 ((wrap64 ((wrap64 (t264 - t265)) + a1)) - 24)) - 1))) = j_ := ⟨_, rfl⟩
  replace H : (real_rounded.l0 k l0 a1 l2 ji9) = some (r1, r2) := by first | (rw [hji9] at H; exact H) | (simp only [hji9] at H ⊢; exact H)
  (try rw [hji9] at A7)
  (try rw [hji9] at A8)
  have hji9_ : (if (-150) < (wrap64 ((wrap64 ((wrap64 ((wrap64 (t264 - t265)) + a1)) - 24)) - 1)) then (wrap64 ((wrap64 ((wrap64 ((wrap64 (t264 - t265)) + a1)) - 24)) - 1)) else (-150)) = ji9 := hji9
  have H' := As.mk H
  clear H
  go_enter Tryz.func104, Tryz.ntmps104
  go_wp2_with (first | ((with_reducible refine gD (N := 6) rfl ?_); refine bx 6 #[.int .i64 0, .int .i64 0] 36 ?_; intro gb263 hg w10 hbox hb; replace HO0 := As.mk (Kd.V_below (Kd.V_elderB (by (with_reducible repeat (first | apply Kd.V_alloc | apply Kd.V_drewN | apply Kd.V_drew)); exact HO0.out) gb263 (Nat.le_of_eq hg.symm)) hb); replace HO2 := As.mk (Kd.V_below (Kd.V_elderB (by (with_reducible repeat (first | apply Kd.V_alloc | apply Kd.V_drewN | apply Kd.V_drew)); exact HO2.out) gb263 (Nat.le_of_eq hg.symm)) hb); have BK263 := As.mk (hbox); have GW263 := As.mk ((by rw [hg]; exact (bZ zz) : w.heap.size ≤ gb263)); have GE263 := GW263; replace HB := As.mk (bS zz hb); clear hb hbox hg) | ((with_reducible refine gC (f := 111) rfl ?_); refine gl 19 Tryz.func111 #[.slice A0 l0.length c0] ?_; (with_reducible refine (real_nat_bits.calls k _ _ l0 t264 _ ?side1 ?side2 A7.out).mono ?_); (case side1 => repeat (first | exact (Kd.V_reads' HO0.out).2.2 | (with_reducible first | apply Kd.C_alloc | apply Kd.C_drewN | apply Kd.C_drew))); (case side2 => exact (Kd.V_reads' HO0.out).2.1); rintro e w' ⟨rfl, ⟨nd, rfl⟩⟩; refine ⟨_, rfl, ?_⟩) | ((with_reducible refine gC (f := 111) rfl ?_); refine gl 21 Tryz.func111 #[.slice A2 l2.length c2] ?_; (with_reducible refine (real_nat_bits.calls k _ _ l2 t265 _ ?side1 ?side2 A8.out).mono ?_); (case side1 => repeat (first | exact (Kd.V_reads' HO2.out).2.2 | (with_reducible first | apply Kd.C_alloc | apply Kd.C_drewN | apply Kd.C_drew))); (case side2 => exact (Kd.V_reads' HO2.out).2.1); rintro e w' ⟨rfl, ⟨nd, rfl⟩⟩; refine ⟨_, rfl, ?_⟩))
  go_loopg [7] k (fun kq v7 w' => ∃ (x7_1 : Int) (x264000_1 : Int) (x264001_1 : Int), v7 = .int .i64 x7_1 ∧ As (real_rounded.l0 kq l0 a1 l2 x7_1 = some (r1, r2)) ∧ As (kq ≤ k) ∧ As (Kd.V (Kd.int .u32) 128 w' w.heap.size (fun k_ => ((P0_ k_ ∨ P2_ k_) ∨ w.heap.size ≤ k_) ∧ k_ ≠ gb263) (.slice A0 l0.length c0) l0) ∧ As (Kd.V (Kd.int .u32) 128 w' w.heap.size (fun k_ => ((P0_ k_ ∨ P2_ k_) ∨ w.heap.size ≤ k_) ∧ k_ ≠ gb263) (.slice A2 l2.length c2) l2) ∧ As (w'.heap[gb263]? = some (.cells #[.int .i64 x264000_1, .int .i64 x264001_1] 36 (0, 0))) ∧ As (Below w.heap.size w w'))
  case atStart => exact ⟨(ji9), (0), (0), (by first | rfl | (simp; done) | (simp only [← hji9] <;> (first | rfl | simp)) | (simp [*]; done)), H', ⟨Nat.le_refl _⟩, ⟨by (with_reducible repeat (first | apply Kd.V_alloc | apply Kd.V_drewN | apply Kd.V_drew)); exact HO0.out⟩, ⟨by (with_reducible repeat (first | apply Kd.V_alloc | apply Kd.V_drewN | apply Kd.V_drew)); exact HO2.out⟩, ⟨by (with_reducible repeat (first | apply kN | apply kD | apply kA)); exact BK263.out⟩, ⟨by repeat (first | (with_reducible first | exact HB.out | apply bA | apply bN | apply bD | refine bT ?_ GE263.out) | exact HB.out)⟩⟩
  case round =>
   clear H'
   try clear c2
   try clear p2
   try clear c4
   try clear c4b0
   try clear c4b1
   try clear c4b2
   try clear p6
   try clear c8
   try clear hcz6_0
   try clear hcz6_1
   try clear hfz6_0
   try clear hfz6_1
   obtain ⟨x7_1, x264000_1, x264001_1, rfl, HA, HK1, HO_0, HO_2, BK263, HB⟩ := hrel
   cases gk with
   | zero => exact absurd HA.out (by simp [real_rounded.l0])
   | succ k1 =>
    have H := HA.out
    clear HA
    simp only [real_rounded.l0] at H
    have HC11 := As.mk H
    clear H
    go_upto_if 32 with (fail)
    go_cut [8, 9] (fun v8 v9 wc => ∃ (kq : Nat) (x8_10 : List Int) (x9_10 : List Int), As (real_rounded.j1 kq l0 a1 l2 x7_1 x8_10 x9_10 = some (r1, r2)) ∧ As (kq ≤ k1) ∧ As (Kd.V (Kd.int .u32) 128 wc w.heap.size (fun k_ => ((P0_ k_ ∨ P2_ k_) ∨ w.heap.size ≤ k_) ∧ k_ ≠ gb263) (.slice A0 l0.length c0) l0) ∧ As (Kd.V (Kd.int .u32) 128 wc w.heap.size (fun k_ => ((P0_ k_ ∨ P2_ k_) ∨ w.heap.size ≤ k_) ∧ k_ ≠ gb263) (.slice A2 l2.length c2) l2) ∧ As (Kd.V (Kd.int .u32) 128 wc w.heap.size (fun k_ => ((P0_ k_ ∨ P2_ k_) ∨ w.heap.size ≤ k_) ∧ k_ ≠ gb263) v8 x8_10) ∧ As (Kd.V (Kd.int .u32) 128 wc w.heap.size (fun k_ => ((P0_ k_ ∨ P2_ k_) ∨ w.heap.size ≤ k_) ∧ k_ ≠ gb263) v9 x9_10) ∧ As (wc.heap[gb263]? = some (.cells #[.int .i64 x264000_1, .int .i64 x264001_1] 36 (0, 0))) ∧ As (Below w.heap.size w wc))
    case first =>
     have H := HC11.out
     clear HC11
     by_cases c12 : a1 ≥ x7_1
     ·rw [if_pos c12] at H
      have c12b0 : decide (x7_1 ≤ a1) = true := decide_eq_true c12
      clear c12
      (first | rw [c12b0] | (simp only [i64_w, i32_w]; rw [c12b0]) | skip)
      replace H := Option.bind_eq_some_iff.mp H
      obtain ⟨t266, A130, H⟩ := H
      replace H : (real_rounded.j1 k1 l0 a1 l2 x7_1 t266 l2) = some (r1, r2) := H
      have A13 := As.mk A130
      clear A130
      have H' := As.mk H
      clear H
      go_wp2_with (first | ((with_reducible refine gC (f := 112) rfl ?_); refine gl 37 Tryz.func112 #[.slice A0 l0.length c0, .int .i64 (wrap64 (a1 - x7_1))] ?_; (with_reducible refine (real_nat_shl.calls _ _ l0 (wrap64 (a1 - x7_1)) t266 _ ?side1 ?side2 A13.out).mono ?_); (case side1 => repeat (first | exact (Kd.V_reads' HO_0.out).2.2 | (with_reducible first | apply Kd.C_alloc | apply Kd.C_drewN | apply Kd.C_drew))); (case side2 => exact (Kd.V_reads' HO_0.out).2.1); rintro e w14 ⟨v267, rfl, ho0, hb⟩; refine ⟨_, rfl, ?_⟩; replace HO_0 := As.mk (Kd.V_below (by (with_reducible repeat (first | apply Kd.V_alloc | apply Kd.V_drewN | apply Kd.V_drew)); exact HO_0.out) hb); replace HO_2 := As.mk (Kd.V_below (by (with_reducible repeat (first | apply Kd.V_alloc | apply Kd.V_drewN | apply Kd.V_drew)); exact HO_2.out) hb); have HO268 := As.mk (Kd.V_lower (Kd.V_mono (ok' := fun k_ => ((P0_ k_ ∨ P2_ k_) ∨ w.heap.size ≤ k_) ∧ k_ ≠ gb263) ho0 (fun k_ hk_ => ⟨(.inr (Nat.le_trans (bZ (by repeat (first | (with_reducible first | exact HB.out | apply bA | apply bN | apply bD | refine bT ?_ GE263.out) | exact HB.out))) hk_)), (Kd.freshB (g := gb263) (o := .cells #[.int .i64 x264000_1, .int .i64 x264001_1] 36 (0, 0)) (by (with_reducible repeat (first | apply kN | apply kD | apply kA)); exact BK263.out) k_ hk_)⟩)) (bZ (by repeat (first | (with_reducible first | exact HB.out | apply bA | apply bN | apply bD | refine bT ?_ GE263.out) | exact HB.out)))); replace BK263 := As.mk (kB (g := gb263) (o := .cells #[.int .i64 x264000_1, .int .i64 x264001_1] 36 (0, 0)) (by (with_reducible repeat (first | apply kN | apply kD | apply kA)); exact BK263.out) hb); replace HB := As.mk (bS (by repeat (first | (with_reducible first | exact HB.out | apply bA | apply bN | apply bD | refine bT ?_ GE263.out) | exact HB.out)) hb); (try clear hb); (try clear ho0)))
      go_meet
      case rel => exact ⟨_, (t266), (l2), H', ⟨by have := HK1.out; first | omega | exact Nat.le_refl _⟩, ⟨by (with_reducible repeat (first | apply Kd.V_alloc | apply Kd.V_drewN | apply Kd.V_drew)); exact HO_0.out⟩, ⟨by (with_reducible repeat (first | apply Kd.V_alloc | apply Kd.V_drewN | apply Kd.V_drew)); exact HO_2.out⟩, ⟨by (with_reducible repeat (first | apply Kd.V_alloc | apply Kd.V_drewN | apply Kd.V_drew)); exact HO268.out⟩, ⟨by (with_reducible repeat (first | apply Kd.V_alloc | apply Kd.V_drewN | apply Kd.V_drew)); exact HO_2.out⟩, ⟨by (with_reducible repeat (first | apply kN | apply kD | apply kA)); exact BK263.out⟩, ⟨by repeat (first | (with_reducible first | exact HB.out | apply bA | apply bN | apply bD | refine bT ?_ GE263.out) | exact HB.out)⟩⟩
     ·rw [if_neg c12] at H
      have c12b0 : decide (x7_1 ≤ a1) = false := decide_eq_false c12
      clear c12
      (first | rw [c12b0] | (simp only [i64_w, i32_w]; rw [c12b0]) | skip)
      replace H := Option.bind_eq_some_iff.mp H
      obtain ⟨t269, A150, H⟩ := H
      replace H : (real_rounded.j1 k1 l0 a1 l2 x7_1 l0 t269) = some (r1, r2) := H
      have A15 := As.mk A150
      clear A150
      have H' := As.mk H
      clear H
      go_wp2_with (first | ((with_reducible refine gC (f := 112) rfl ?_); refine gl 42 Tryz.func112 #[.slice A2 l2.length c2, .int .i64 (wrap64 (x7_1 - a1))] ?_; (with_reducible refine (real_nat_shl.calls _ _ l2 (wrap64 (x7_1 - a1)) t269 _ ?side1 ?side2 A15.out).mono ?_); (case side1 => repeat (first | exact (Kd.V_reads' HO_2.out).2.2 | (with_reducible first | apply Kd.C_alloc | apply Kd.C_drewN | apply Kd.C_drew))); (case side2 => exact (Kd.V_reads' HO_2.out).2.1); rintro e w16 ⟨v270, rfl, ho0, hb⟩; refine ⟨_, rfl, ?_⟩; replace HO_0 := As.mk (Kd.V_below (by (with_reducible repeat (first | apply Kd.V_alloc | apply Kd.V_drewN | apply Kd.V_drew)); exact HO_0.out) hb); replace HO_2 := As.mk (Kd.V_below (by (with_reducible repeat (first | apply Kd.V_alloc | apply Kd.V_drewN | apply Kd.V_drew)); exact HO_2.out) hb); have HO271 := As.mk (Kd.V_lower (Kd.V_mono (ok' := fun k_ => ((P0_ k_ ∨ P2_ k_) ∨ w.heap.size ≤ k_) ∧ k_ ≠ gb263) ho0 (fun k_ hk_ => ⟨(.inr (Nat.le_trans (bZ (by repeat (first | (with_reducible first | exact HB.out | apply bA | apply bN | apply bD | refine bT ?_ GE263.out) | exact HB.out))) hk_)), (Kd.freshB (g := gb263) (o := .cells #[.int .i64 x264000_1, .int .i64 x264001_1] 36 (0, 0)) (by (with_reducible repeat (first | apply kN | apply kD | apply kA)); exact BK263.out) k_ hk_)⟩)) (bZ (by repeat (first | (with_reducible first | exact HB.out | apply bA | apply bN | apply bD | refine bT ?_ GE263.out) | exact HB.out)))); replace BK263 := As.mk (kB (g := gb263) (o := .cells #[.int .i64 x264000_1, .int .i64 x264001_1] 36 (0, 0)) (by (with_reducible repeat (first | apply kN | apply kD | apply kA)); exact BK263.out) hb); replace HB := As.mk (bS (by repeat (first | (with_reducible first | exact HB.out | apply bA | apply bN | apply bD | refine bT ?_ GE263.out) | exact HB.out)) hb); (try clear hb); (try clear ho0)))
      go_meet
      case rel => exact ⟨_, (l0), (t269), H', ⟨by have := HK1.out; first | omega | exact Nat.le_refl _⟩, ⟨by (with_reducible repeat (first | apply Kd.V_alloc | apply Kd.V_drewN | apply Kd.V_drew)); exact HO_0.out⟩, ⟨by (with_reducible repeat (first | apply Kd.V_alloc | apply Kd.V_drewN | apply Kd.V_drew)); exact HO_2.out⟩, ⟨by (with_reducible repeat (first | apply Kd.V_alloc | apply Kd.V_drewN | apply Kd.V_drew)); exact HO_0.out⟩, ⟨by (with_reducible repeat (first | apply Kd.V_alloc | apply Kd.V_drewN | apply Kd.V_drew)); exact HO271.out⟩, ⟨by (with_reducible repeat (first | apply kN | apply kD | apply kA)); exact BK263.out⟩, ⟨by repeat (first | (with_reducible first | exact HB.out | apply bA | apply bN | apply bD | refine bT ?_ GE263.out) | exact HB.out)⟩⟩
    case rest =>
     clear HC11
     try clear c1
     try clear c2
     try clear p2
     try clear c4
     try clear c4b0
     try clear c4b1
     try clear c4b2
     try clear p6
     try clear c8
     try clear c9
     try clear c12
     try clear c12b0
     try clear hcz6_0
     try clear hcz6_1
     try clear hfz6_0
     try clear hfz6_1
     try clear p2
     try clear p6
     obtain ⟨kq, x8_10, x9_10, HA, HJ10, HO_0, HO_2, HO_8, HO_9, BK263, HB⟩ := hcut
     cases kq with
     | zero => exact absurd HA.out (by simp [real_rounded.j1])
     | succ kj10 =>
      have H := HA.out
      clear HA
      simp only [real_rounded.j1] at H
      replace H := Option.bind_eq_some_iff.mp H
      obtain ⟨⟨t272, t275⟩, A170, H⟩ := H
      replace H : ((real_nat_bits.f kj10 t272).bind fun t278 => (if t278 > 24 then (real_rounded.l0 kj10 l0 a1 l2 (wrap64 (x7_1 + 1))) else ((real_nat_small.f kj10 t272).bind fun t279 => ((real_nat_shl.f t275 1).bind fun t280 => ((real_nat_cmp.f kj10 t280 x9_10).bind fun t283 => (if t283 > 0 then (real_rounded.j2 kj10 x7_1 (wrap64 (t279)) true) else (if t283 = 0 then (real_rounded.j2 kj10 x7_1 (wrap64 (t279)) ((Int.tmod (wrap64 (t279)) 2) == 1)) else (real_rounded.j2 kj10 x7_1 (wrap64 (t279)) false)))))))) = some (r1, r2) := H
      have A17 := As.mk A170
      clear A170
      replace H := Option.bind_eq_some_iff.mp H
      obtain ⟨t278, A180, H⟩ := H
      replace H : (if t278 > 24 then (real_rounded.l0 kj10 l0 a1 l2 (wrap64 (x7_1 + 1))) else ((real_nat_small.f kj10 t272).bind fun t279 => ((real_nat_shl.f t275 1).bind fun t280 => ((real_nat_cmp.f kj10 t280 x9_10).bind fun t283 => (if t283 > 0 then (real_rounded.j2 kj10 x7_1 (wrap64 (t279)) true) else (if t283 = 0 then (real_rounded.j2 kj10 x7_1 (wrap64 (t279)) ((Int.tmod (wrap64 (t279)) 2) == 1)) else (real_rounded.j2 kj10 x7_1 (wrap64 (t279)) false))))))) = some (r1, r2) := H
      have A18 := As.mk A180
      clear A180
      by_cases c19 : t278 > 24
      ·rw [if_pos c19] at H
       have c19b0 : decide (24 < t278) = true := decide_eq_true c19
       clear c19
       have H' := As.mk H
       clear H
       obtain ⟨Ao20, co20, eo20⟩ := Kd.V_slice HO_8.out
       subst eo20
       obtain ⟨Ao21, co21, eo21⟩ := Kd.V_slice HO_9.out
       subst eo21
       go_wp2_with (first | ((with_reducible refine gC (f := 113) rfl ?_); refine gl 46 Tryz.func113 #[.slice Ao20 x8_10.length co20, .slice Ao21 x9_10.length co21] ?_; (with_reducible refine (real_nat_div.calls kj10 _ _ x8_10 _ _ x9_10 t272 t275 _ ?side1 ?side2 ?side3 ?side4 A17.out).mono ?_); (case side1 => repeat (first | exact (Kd.V_reads' HO_8.out).2.2 | (with_reducible first | apply Kd.C_alloc | apply Kd.C_drewN | apply Kd.C_drew))); (case side2 => exact (Kd.V_reads' HO_8.out).2.1); (case side3 => repeat (first | exact (Kd.V_reads' HO_9.out).2.2 | (with_reducible first | apply Kd.C_alloc | apply Kd.C_drewN | apply Kd.C_drew))); (case side4 => exact (Kd.V_reads' HO_9.out).2.1); rintro e w22 ⟨v273, v276, rfl, ho0, ho1, hb⟩; refine ⟨_, rfl, ?_⟩; replace HO_0 := As.mk (Kd.V_below (by (with_reducible repeat (first | apply Kd.V_alloc | apply Kd.V_drewN | apply Kd.V_drew)); exact HO_0.out) hb); replace HO_2 := As.mk (Kd.V_below (by (with_reducible repeat (first | apply Kd.V_alloc | apply Kd.V_drewN | apply Kd.V_drew)); exact HO_2.out) hb); replace HO_8 := As.mk (Kd.V_below (by (with_reducible repeat (first | apply Kd.V_alloc | apply Kd.V_drewN | apply Kd.V_drew)); exact HO_8.out) hb); replace HO_9 := As.mk (Kd.V_below (by (with_reducible repeat (first | apply Kd.V_alloc | apply Kd.V_drewN | apply Kd.V_drew)); exact HO_9.out) hb); have HO274 := As.mk (Kd.V_lower (Kd.V_mono (ok' := fun k_ => ((P0_ k_ ∨ P2_ k_) ∨ w.heap.size ≤ k_) ∧ k_ ≠ gb263) ho0 (fun k_ hk_ => ⟨(.inr (Nat.le_trans (bZ (by repeat (first | (with_reducible first | exact HB.out | apply bA | apply bN | apply bD | refine bT ?_ GE263.out) | exact HB.out))) hk_)), (Kd.freshB (g := gb263) (o := .cells #[.int .i64 x264000_1, .int .i64 x264001_1] 36 (0, 0)) (by (with_reducible repeat (first | apply kN | apply kD | apply kA)); exact BK263.out) k_ hk_)⟩)) (bZ (by repeat (first | (with_reducible first | exact HB.out | apply bA | apply bN | apply bD | refine bT ?_ GE263.out) | exact HB.out)))); have HO277 := As.mk (Kd.V_lower (Kd.V_mono (ok' := fun k_ => ((P0_ k_ ∨ P2_ k_) ∨ w.heap.size ≤ k_) ∧ k_ ≠ gb263) ho1 (fun k_ hk_ => ⟨(.inr (Nat.le_trans (bZ (by repeat (first | (with_reducible first | exact HB.out | apply bA | apply bN | apply bD | refine bT ?_ GE263.out) | exact HB.out))) hk_)), (Kd.freshB (g := gb263) (o := .cells #[.int .i64 x264000_1, .int .i64 x264001_1] 36 (0, 0)) (by (with_reducible repeat (first | apply kN | apply kD | apply kA)); exact BK263.out) k_ hk_)⟩)) (bZ (by repeat (first | (with_reducible first | exact HB.out | apply bA | apply bN | apply bD | refine bT ?_ GE263.out) | exact HB.out)))); replace BK263 := As.mk (kB (g := gb263) (o := .cells #[.int .i64 x264000_1, .int .i64 x264001_1] 36 (0, 0)) (by (with_reducible repeat (first | apply kN | apply kD | apply kA)); exact BK263.out) hb); replace HB := As.mk (bS (by repeat (first | (with_reducible first | exact HB.out | apply bA | apply bN | apply bD | refine bT ?_ GE263.out) | exact HB.out)) hb); (try clear hb); (try clear ho0); (try clear ho1); obtain ⟨Ao23, co23, eo23⟩ := Kd.V_slice HO274.out; subst eo23) | ((with_reducible refine gC (f := 111) rfl ?_); refine gl 50 Tryz.func111 #[.slice Ao23 t272.length co23] ?_; (with_reducible refine (real_nat_bits.calls kj10 _ _ t272 t278 _ ?side1 ?side2 A18.out).mono ?_); (case side1 => repeat (first | exact (Kd.V_reads' HO274.out).2.2 | (with_reducible first | apply Kd.C_alloc | apply Kd.C_drewN | apply Kd.C_drew))); (case side2 => exact (Kd.V_reads' HO274.out).2.1); rintro e w' ⟨rfl, ⟨nd, rfl⟩⟩; refine ⟨_, rfl, ?_⟩))
       go_roundg kj10
       case measure => have := HK1.out; have := HJ10.out; omega
       case rel => exact ⟨(wrap64 (x7_1 + 1)), (x264000_1), (x264001_1), (by first | rfl | (simp; done) | (simp [*]; done)), H', ⟨by have := HK1.out; have := HJ10.out; omega⟩, ⟨by (with_reducible repeat (first | apply Kd.V_alloc | apply Kd.V_drewN | apply Kd.V_drew)); exact HO_0.out⟩, ⟨by (with_reducible repeat (first | apply Kd.V_alloc | apply Kd.V_drewN | apply Kd.V_drew)); exact HO_2.out⟩, ⟨by (with_reducible repeat (first | apply kN | apply kD | apply kA)); exact BK263.out⟩, ⟨by repeat (first | (with_reducible first | exact HB.out | apply bA | apply bN | apply bD | refine bT ?_ GE263.out) | exact HB.out)⟩⟩
      ·rw [if_neg c19] at H
       have c19b0 : decide (24 < t278) = false := decide_eq_false c19
       clear c19
       replace H := Option.bind_eq_some_iff.mp H
       obtain ⟨t279, A240, H⟩ := H
       replace H : ((real_nat_shl.f t275 1).bind fun t280 => ((real_nat_cmp.f kj10 t280 x9_10).bind fun t283 => (if t283 > 0 then (real_rounded.j2 kj10 x7_1 (wrap64 (t279)) true) else (if t283 = 0 then (real_rounded.j2 kj10 x7_1 (wrap64 (t279)) ((Int.tmod (wrap64 (t279)) 2) == 1)) else (real_rounded.j2 kj10 x7_1 (wrap64 (t279)) false))))) = some (r1, r2) := H
       have A24 := As.mk A240
       clear A240
       replace H := Option.bind_eq_some_iff.mp H
       obtain ⟨t280, A250, H⟩ := H
       replace H : ((real_nat_cmp.f kj10 t280 x9_10).bind fun t283 => (if t283 > 0 then (real_rounded.j2 kj10 x7_1 (wrap64 (t279)) true) else (if t283 = 0 then (real_rounded.j2 kj10 x7_1 (wrap64 (t279)) ((Int.tmod (wrap64 (t279)) 2) == 1)) else (real_rounded.j2 kj10 x7_1 (wrap64 (t279)) false)))) = some (r1, r2) := H
       have A25 := As.mk A250
       clear A250
       replace H := Option.bind_eq_some_iff.mp H
       obtain ⟨t283, A260, H⟩ := H
       replace H : (if t283 > 0 then (real_rounded.j2 kj10 x7_1 (wrap64 (t279)) true) else (if t283 = 0 then (real_rounded.j2 kj10 x7_1 (wrap64 (t279)) ((Int.tmod (wrap64 (t279)) 2) == 1)) else (real_rounded.j2 kj10 x7_1 (wrap64 (t279)) false))) = some (r1, r2) := H
       have A26 := As.mk A260
       clear A260
       have HC27 := As.mk H
       clear H
       obtain ⟨Ao28, co28, eo28⟩ := Kd.V_slice HO_8.out
       subst eo28
       obtain ⟨Ao29, co29, eo29⟩ := Kd.V_slice HO_9.out
       subst eo29
       go_upto_region 13 with (first | ((with_reducible refine gC (f := 113) rfl ?_); refine gl 46 Tryz.func113 #[.slice Ao28 x8_10.length co28, .slice Ao29 x9_10.length co29] ?_; (with_reducible refine (real_nat_div.calls kj10 _ _ x8_10 _ _ x9_10 t272 t275 _ ?side1 ?side2 ?side3 ?side4 A17.out).mono ?_); (case side1 => repeat (first | exact (Kd.V_reads' HO_8.out).2.2 | (with_reducible first | apply Kd.C_alloc | apply Kd.C_drewN | apply Kd.C_drew))); (case side2 => exact (Kd.V_reads' HO_8.out).2.1); (case side3 => repeat (first | exact (Kd.V_reads' HO_9.out).2.2 | (with_reducible first | apply Kd.C_alloc | apply Kd.C_drewN | apply Kd.C_drew))); (case side4 => exact (Kd.V_reads' HO_9.out).2.1); rintro e w30 ⟨v273, v276, rfl, ho0, ho1, hb⟩; refine ⟨_, rfl, ?_⟩; replace HO_0 := As.mk (Kd.V_below (by (with_reducible repeat (first | apply Kd.V_alloc | apply Kd.V_drewN | apply Kd.V_drew)); exact HO_0.out) hb); replace HO_2 := As.mk (Kd.V_below (by (with_reducible repeat (first | apply Kd.V_alloc | apply Kd.V_drewN | apply Kd.V_drew)); exact HO_2.out) hb); replace HO_8 := As.mk (Kd.V_below (by (with_reducible repeat (first | apply Kd.V_alloc | apply Kd.V_drewN | apply Kd.V_drew)); exact HO_8.out) hb); replace HO_9 := As.mk (Kd.V_below (by (with_reducible repeat (first | apply Kd.V_alloc | apply Kd.V_drewN | apply Kd.V_drew)); exact HO_9.out) hb); have HO274 := As.mk (Kd.V_lower (Kd.V_mono (ok' := fun k_ => ((P0_ k_ ∨ P2_ k_) ∨ w.heap.size ≤ k_) ∧ k_ ≠ gb263) ho0 (fun k_ hk_ => ⟨(.inr (Nat.le_trans (bZ (by repeat (first | (with_reducible first | exact HB.out | apply bA | apply bN | apply bD | refine bT ?_ GE263.out) | exact HB.out))) hk_)), (Kd.freshB (g := gb263) (o := .cells #[.int .i64 x264000_1, .int .i64 x264001_1] 36 (0, 0)) (by (with_reducible repeat (first | apply kN | apply kD | apply kA)); exact BK263.out) k_ hk_)⟩)) (bZ (by repeat (first | (with_reducible first | exact HB.out | apply bA | apply bN | apply bD | refine bT ?_ GE263.out) | exact HB.out)))); have HO277 := As.mk (Kd.V_lower (Kd.V_mono (ok' := fun k_ => ((P0_ k_ ∨ P2_ k_) ∨ w.heap.size ≤ k_) ∧ k_ ≠ gb263) ho1 (fun k_ hk_ => ⟨(.inr (Nat.le_trans (bZ (by repeat (first | (with_reducible first | exact HB.out | apply bA | apply bN | apply bD | refine bT ?_ GE263.out) | exact HB.out))) hk_)), (Kd.freshB (g := gb263) (o := .cells #[.int .i64 x264000_1, .int .i64 x264001_1] 36 (0, 0)) (by (with_reducible repeat (first | apply kN | apply kD | apply kA)); exact BK263.out) k_ hk_)⟩)) (bZ (by repeat (first | (with_reducible first | exact HB.out | apply bA | apply bN | apply bD | refine bT ?_ GE263.out) | exact HB.out)))); replace BK263 := As.mk (kB (g := gb263) (o := .cells #[.int .i64 x264000_1, .int .i64 x264001_1] 36 (0, 0)) (by (with_reducible repeat (first | apply kN | apply kD | apply kA)); exact BK263.out) hb); replace HB := As.mk (bS (by repeat (first | (with_reducible first | exact HB.out | apply bA | apply bN | apply bD | refine bT ?_ GE263.out) | exact HB.out)) hb); (try clear hb); (try clear ho0); (try clear ho1); obtain ⟨Ao31, co31, eo31⟩ := Kd.V_slice HO274.out; subst eo31) | ((with_reducible refine gC (f := 111) rfl ?_); refine gl 50 Tryz.func111 #[.slice Ao31 t272.length co31] ?_; (with_reducible refine (real_nat_bits.calls kj10 _ _ t272 t278 _ ?side1 ?side2 A18.out).mono ?_); (case side1 => repeat (first | exact (Kd.V_reads' HO274.out).2.2 | (with_reducible first | apply Kd.C_alloc | apply Kd.C_drewN | apply Kd.C_drew))); (case side2 => exact (Kd.V_reads' HO274.out).2.1); rintro e w' ⟨rfl, ⟨nd, rfl⟩⟩; refine ⟨_, rfl, ?_⟩) | ((with_reducible refine gC (f := 114) rfl ?_); refine gl 55 Tryz.func114 #[.slice Ao31 t272.length co31] ?_; (with_reducible refine (real_nat_small.calls kj10 _ _ t272 t279 _ ?side1 ?side2 A24.out).mono ?_); (case side1 => repeat (first | exact (Kd.V_reads' HO274.out).2.2 | (with_reducible first | apply Kd.C_alloc | apply Kd.C_drewN | apply Kd.C_drew))); (case side2 => exact (Kd.V_reads' HO274.out).2.1); rintro e w' ⟨rfl, ⟨nd, rfl⟩⟩; refine ⟨_, rfl, ?_⟩; obtain ⟨Ao32, co32, eo32⟩ := Kd.V_slice HO277.out; subst eo32) | ((with_reducible refine gC (f := 112) rfl ?_); refine gl 58 Tryz.func112 #[.slice Ao32 t275.length co32, .int .i64 1] ?_; (with_reducible refine (real_nat_shl.calls _ _ t275 1 t280 _ ?side1 ?side2 A25.out).mono ?_); (case side1 => repeat (first | exact (Kd.V_reads' HO277.out).2.2 | (with_reducible first | apply Kd.C_alloc | apply Kd.C_drewN | apply Kd.C_drew))); (case side2 => exact (Kd.V_reads' HO277.out).2.1); rintro e w33 ⟨v281, rfl, ho0, hb⟩; refine ⟨_, rfl, ?_⟩; replace HO_0 := As.mk (Kd.V_below (by (with_reducible repeat (first | apply Kd.V_alloc | apply Kd.V_drewN | apply Kd.V_drew)); exact HO_0.out) hb); replace HO_2 := As.mk (Kd.V_below (by (with_reducible repeat (first | apply Kd.V_alloc | apply Kd.V_drewN | apply Kd.V_drew)); exact HO_2.out) hb); replace HO_8 := As.mk (Kd.V_below (by (with_reducible repeat (first | apply Kd.V_alloc | apply Kd.V_drewN | apply Kd.V_drew)); exact HO_8.out) hb); replace HO_9 := As.mk (Kd.V_below (by (with_reducible repeat (first | apply Kd.V_alloc | apply Kd.V_drewN | apply Kd.V_drew)); exact HO_9.out) hb); replace HO274 := As.mk (Kd.V_below (by (with_reducible repeat (first | apply Kd.V_alloc | apply Kd.V_drewN | apply Kd.V_drew)); exact HO274.out) hb); replace HO277 := As.mk (Kd.V_below (by (with_reducible repeat (first | apply Kd.V_alloc | apply Kd.V_drewN | apply Kd.V_drew)); exact HO277.out) hb); have HO282 := As.mk (Kd.V_lower (Kd.V_mono (ok' := fun k_ => ((P0_ k_ ∨ P2_ k_) ∨ w.heap.size ≤ k_) ∧ k_ ≠ gb263) ho0 (fun k_ hk_ => ⟨(.inr (Nat.le_trans (bZ (by repeat (first | (with_reducible first | exact HB.out | apply bA | apply bN | apply bD | refine bT ?_ GE263.out) | exact HB.out))) hk_)), (Kd.freshB (g := gb263) (o := .cells #[.int .i64 x264000_1, .int .i64 x264001_1] 36 (0, 0)) (by (with_reducible repeat (first | apply kN | apply kD | apply kA)); exact BK263.out) k_ hk_)⟩)) (bZ (by repeat (first | (with_reducible first | exact HB.out | apply bA | apply bN | apply bD | refine bT ?_ GE263.out) | exact HB.out)))); replace BK263 := As.mk (kB (g := gb263) (o := .cells #[.int .i64 x264000_1, .int .i64 x264001_1] 36 (0, 0)) (by (with_reducible repeat (first | apply kN | apply kD | apply kA)); exact BK263.out) hb); replace HB := As.mk (bS (by repeat (first | (with_reducible first | exact HB.out | apply bA | apply bN | apply bD | refine bT ?_ GE263.out) | exact HB.out)) hb); (try clear hb); (try clear ho0); obtain ⟨Ao34, co34, eo34⟩ := Kd.V_slice HO282.out; subst eo34) | ((with_reducible refine gC (f := 115) rfl ?_); refine gl 60 Tryz.func115 #[.slice Ao34 t280.length co34, .slice Ao29 x9_10.length co29] ?_; (with_reducible refine (real_nat_cmp.calls kj10 _ _ t280 _ _ x9_10 t283 _ ?side1 ?side2 ?side3 ?side4 A26.out).mono ?_); (case side1 => repeat (first | exact (Kd.V_reads' HO282.out).2.2 | (with_reducible first | apply Kd.C_alloc | apply Kd.C_drewN | apply Kd.C_drew))); (case side2 => exact (Kd.V_reads' HO282.out).2.1); (case side3 => repeat (first | exact (Kd.V_reads' HO_9.out).2.2 | (with_reducible first | apply Kd.C_alloc | apply Kd.C_drewN | apply Kd.C_drew))); (case side4 => exact (Kd.V_reads' HO_9.out).2.1); rintro e w' ⟨rfl, ⟨nd, rfl⟩⟩; refine ⟨_, rfl, ?_⟩))
       (try simp only [Act.put, List.setIfInBounds_toArray, List.set_cons_zero, List.set_cons_succ])
       go_cut [71] (fun v71 wc => ∃ (kq : Nat) (x71_26 : Bool), v71 = .bool x71_26 ∧ As (real_rounded.j2 kq x7_1 (wrap64 (t279)) x71_26 = some (r1, r2)) ∧ As (kq ≤ kj10) ∧ As (wc.heap[gb263]? = some (.cells #[.int .i64 x264000_1, .int .i64 x264001_1] 36 (0, 0))) ∧ As (Below w.heap.size w wc))
       case first =>
        have H := HC27.out
        clear HC27
        by_cases c35 : t283 > 0
        ·rw [if_pos c35] at H
         have c35b0 : decide (0 < t283) = true := decide_eq_true c35
         clear c35
         (first | rw [c35b0] | (simp only [i64_w, i32_w]; rw [c35b0]) | skip)
         have H' := As.mk H
         clear H
         go_wp2
         go_meet
         case rel => exact ⟨_, (true), (by first | rfl | (simp; done) | (simp [*]; done)), H', ⟨by have := HK1.out; have := HJ10.out; first | omega | exact Nat.le_refl _⟩, ⟨by (with_reducible repeat (first | apply kN | apply kD | apply kA)); exact BK263.out⟩, ⟨by repeat (first | (with_reducible first | exact HB.out | apply bA | apply bN | apply bD | refine bT ?_ GE263.out) | exact HB.out)⟩⟩
        ·rw [if_neg c35] at H
         have c35b0 : decide (0 < t283) = false := decide_eq_false c35
         clear c35
         (first | rw [c35b0] | (simp only [i64_w, i32_w]; rw [c35b0]) | skip)
         by_cases c36 : t283 = 0
         ·rw [if_pos c36] at H
          have c36b0 : (t283 == 0) = true := beq_iff_eq.mpr c36
          have c36b1 : (t283 != 0) = false := bne_eq_false_iff_eq.mpr c36
          clear c36
          have H' := As.mk H
          clear H
          go_wp2
          go_meet
          case rel => exact ⟨_, (((Int.tmod (wrap64 (t279)) 2) == 1)), (by first | rfl | (simp; done) | (simp [*]; done)), H', ⟨by have := HK1.out; have := HJ10.out; first | omega | exact Nat.le_refl _⟩, ⟨by (with_reducible repeat (first | apply kN | apply kD | apply kA)); exact BK263.out⟩, ⟨by repeat (first | (with_reducible first | exact HB.out | apply bA | apply bN | apply bD | refine bT ?_ GE263.out) | exact HB.out)⟩⟩
         ·rw [if_neg c36] at H
          have c36b0 : (t283 == 0) = false := beq_eq_false_iff_ne.mpr c36
          have c36b1 : (t283 != 0) = true := bne_iff_ne.mpr c36
          have H' := As.mk H
          clear H
          go_wp2
          go_meet
          case rel => exact ⟨_, (false), (by first | rfl | (simp; done) | (simp [*]; done)), H', ⟨by have := HK1.out; have := HJ10.out; first | omega | exact Nat.le_refl _⟩, ⟨by (with_reducible repeat (first | apply kN | apply kD | apply kA)); exact BK263.out⟩, ⟨by repeat (first | (with_reducible first | exact HB.out | apply bA | apply bN | apply bD | refine bT ?_ GE263.out) | exact HB.out)⟩⟩
       case rest =>
        clear HC27
        try clear c1
        try clear c2
        try clear p2
        try clear c3
        try clear c4
        try clear c4b0
        try clear c4b1
        try clear c4b2
        try clear p6
        try clear c8
        try clear c9
        try clear c12
        try clear c12b0
        try clear c19
        try clear c19b0
        try clear c35
        try clear c35b0
        try clear c36
        try clear c36b0
        try clear c36b1
        try clear hcz6_0
        try clear hcz6_1
        try clear hfz6_0
        try clear hfz6_1
        try clear p2
        try clear p6
        obtain ⟨kq, x71_26, rfl, HA, HJ26, BK263, HB⟩ := hcut
        cases kq with
        | zero => exact absurd HA.out (by simp [real_rounded.j2])
        | succ kj26 =>
         have H := HA.out
         clear HA
         simp only [real_rounded.j2] at H
         have HC37 := As.mk H
         clear H
         go_upto_if 71 with (fail)
         go_cut [12] (fun v12 wc => ∃ (kq : Nat) (x12_36 : Int), v12 = .int .i64 x12_36 ∧ As (real_rounded.j3 kq x7_1 x12_36 = some (r1, r2)) ∧ As (kq ≤ kj26) ∧ As (wc.heap[gb263]? = some (.cells #[.int .i64 x264000_1, .int .i64 x264001_1] 36 (0, 0))) ∧ As (Below w.heap.size w wc))
         case first =>
          have H := HC37.out
          clear HC37
          by_cases c38 : x71_26 = true
          ·subst c38
           have H1 : (real_rounded.j3 kj26 x7_1 (wrap64 ((wrap64 (t279)) + 1))) = some (r1, r2) := by rw [if_pos rfl] at H; exact H
           clear H
           have H := H1
           clear H1
           have H' := As.mk H
           clear H
           go_wp2
           go_meet
           case rel => exact ⟨_, (wrap64 ((wrap64 (t279)) + 1)), (by first | rfl | (simp; done) | (simp [*]; done)), H', ⟨by have := HK1.out; have := HJ10.out; have := HJ26.out; first | omega | exact Nat.le_refl _⟩, ⟨by (with_reducible repeat (first | apply kN | apply kD | apply kA)); exact BK263.out⟩, ⟨by repeat (first | (with_reducible first | exact HB.out | apply bA | apply bN | apply bD | refine bT ?_ GE263.out) | exact HB.out)⟩⟩
          ·replace c38 := Bool.eq_false_iff.mpr c38
           subst c38
           have H1 : (real_rounded.j3 kj26 x7_1 (wrap64 (t279))) = some (r1, r2) := by rw [if_neg (show ¬ (false = true) by decide)] at H; exact H
           clear H
           have H := H1
           clear H1
           have H' := As.mk H
           clear H
           go_wp2
           go_meet
           case rel => exact ⟨_, ((wrap64 (t279))), (by first | rfl | (simp; done) | (simp [*]; done)), H', ⟨by have := HK1.out; have := HJ10.out; have := HJ26.out; first | omega | exact Nat.le_refl _⟩, ⟨by (with_reducible repeat (first | apply kN | apply kD | apply kA)); exact BK263.out⟩, ⟨by repeat (first | (with_reducible first | exact HB.out | apply bA | apply bN | apply bD | refine bT ?_ GE263.out) | exact HB.out)⟩⟩
         case rest =>
          clear HC37
          try clear c1
          try clear c2
          try clear p2
          try clear c3
          try clear c4
          try clear c4b0
          try clear c4b1
          try clear c4b2
          try clear p6
          try clear c8
          try clear c9
          try clear c12
          try clear c12b0
          try clear c19
          try clear c19b0
          try clear c35
          try clear c35b0
          try clear c36
          try clear c36b0
          try clear c36b1
          try clear c38
          try clear hcz6_0
          try clear hcz6_1
          try clear hfz6_0
          try clear hfz6_1
          try clear p2
          try clear p6
          obtain ⟨kq, x12_36, rfl, HA, HJ36, BK263, HB⟩ := hcut
          cases kq with
          | zero => exact absurd HA.out (by simp [real_rounded.j3])
          | succ kj36 =>
           have H := HA.out
           clear HA
           simp only [real_rounded.j3] at H
           have HC39 := As.mk H
           clear H
           go_upto_if 75 with (fail)
           go_cut [7, 12] (fun v7 v12 wc => ∃ (kq : Nat) (x7_38 : Int) (x12_38 : Int), v7 = .int .i64 x7_38 ∧ v12 = .int .i64 x12_38 ∧ As (real_rounded.j4 kq x7_38 x12_38 = some (r1, r2)) ∧ As (kq ≤ kj36) ∧ As (wc.heap[gb263]? = some (.cells #[.int .i64 x264000_1, .int .i64 x264001_1] 36 (0, 0))) ∧ As (Below w.heap.size w wc))
           case first =>
            have H := HC39.out
            clear HC39
            by_cases c40 : x12_36 = 16777216
            ·rw [if_pos c40] at H
             have c40b0 : (x12_36 == 16777216) = true := beq_iff_eq.mpr c40
             have c40b1 : (x12_36 != 16777216) = false := bne_eq_false_iff_eq.mpr c40
             clear c40
             (first | rw [c40b0] | (simp only [i64_w, i32_w]; rw [c40b0]) | skip)
             have H' := As.mk H
             clear H
             go_wp2
             go_meet
             case rel => exact ⟨_, (wrap64 (x7_1 + 1)), (8388608), (by first | rfl | (simp; done) | (simp [*]; done)), (by first | rfl | (simp; done) | (simp [*]; done)), H', ⟨by have := HK1.out; have := HJ10.out; have := HJ26.out; have := HJ36.out; first | omega | exact Nat.le_refl _⟩, ⟨by (with_reducible repeat (first | apply kN | apply kD | apply kA)); exact BK263.out⟩, ⟨by repeat (first | (with_reducible first | exact HB.out | apply bA | apply bN | apply bD | refine bT ?_ GE263.out) | exact HB.out)⟩⟩
            ·rw [if_neg c40] at H
             have c40b0 : (x12_36 == 16777216) = false := beq_eq_false_iff_ne.mpr c40
             have c40b1 : (x12_36 != 16777216) = true := bne_iff_ne.mpr c40
             (first | rw [c40b0] | (simp only [i64_w, i32_w]; rw [c40b0]) | skip)
             have H' := As.mk H
             clear H
             go_wp2
             go_meet
             case rel => exact ⟨_, (x7_1), (x12_36), (by first | rfl | (simp; done) | (simp [*]; done)), (by first | rfl | (simp; done) | (simp [*]; done)), H', ⟨by have := HK1.out; have := HJ10.out; have := HJ26.out; have := HJ36.out; first | omega | exact Nat.le_refl _⟩, ⟨by (with_reducible repeat (first | apply kN | apply kD | apply kA)); exact BK263.out⟩, ⟨by repeat (first | (with_reducible first | exact HB.out | apply bA | apply bN | apply bD | refine bT ?_ GE263.out) | exact HB.out)⟩⟩
           case rest =>
            clear HC39
            try clear c1
            try clear c2
            try clear p2
            try clear c3
            try clear c4
            try clear c4b0
            try clear c4b1
            try clear c4b2
            try clear p6
            try clear c8
            try clear c9
            try clear c12
            try clear c12b0
            try clear c19
            try clear c19b0
            try clear c35
            try clear c35b0
            try clear c36
            try clear c36b0
            try clear c36b1
            try clear c38
            try clear c40
            try clear c40b0
            try clear c40b1
            try clear hcz6_0
            try clear hcz6_1
            try clear hfz6_0
            try clear hfz6_1
            try clear p2
            try clear p6
            obtain ⟨kq, x7_38, x12_38, rfl, rfl, HA, HJ38, BK263, HB⟩ := hcut
            cases kq with
            | zero => exact absurd HA.out (by simp [real_rounded.j4])
            | succ kj38 =>
             have H := HA.out
             clear HA
             simp only [real_rounded.j4] at H
             by_cases c41 : x7_38 > 150
             ·rw [if_pos c41] at H
              exact absurd H (by simp)
             ·rw [if_neg c41] at H
              have c41b0 : decide (150 < x7_38) = false := decide_eq_false c41
              clear c41
              by_cases c42 : x12_38 = 0
              ·rw [if_pos c42] at H
               have c42b0 : (x12_38 == 0) = true := beq_iff_eq.mpr c42
               have c42b1 : (x12_38 != 0) = false := bne_eq_false_iff_eq.mpr c42
               clear c42
               simp only [Option.some.injEq, Prod.mk.injEq] at H
               obtain ⟨rfl, rfl⟩ := H
               have hcz43_0 : wc.cell? ⟨gb263, 0, none⟩ = some (.int .i64 x264000_1) := (kC BK263.out 0).trans rfl
               have hcz43_1 : wc.cell? ⟨gb263, 1, none⟩ = some (.int .i64 x264001_1) := (kC BK263.out 1).trans rfl
               have hfz43_0 := kF BK263.out 0
               have hfz43_1 := kF BK263.out 1
               go_wp2
               refine bodyPost_ret (results_cell_row rfl _ _ gb263 36 #[.int .i64 0, .int .i64 0] (0, 0) _ rfl (by (with_reducible repeat (first | apply kN | apply kD | apply kA)); refine kP (cs := #[.int .i64 0, .int .i64 x264001_1]) ?_ 1 _ rfl; (with_reducible repeat (first | apply kN | apply kD | apply kA)); refine kP (cs := #[.int .i64 x264000_1, .int .i64 x264001_1]) ?_ 0 _ rfl; (with_reducible repeat (first | apply kN | apply kD | apply kA)); exact BK263.out) Tryz.underlying36 rfl (by kernel_rfl)) rfl ?_
               exact ⟨by first | rfl | (simp [eN, eS] <;> rfl) | (simp only [← hji9]; first | rfl | (simp [eN, eS] <;> rfl)) | (simp [*, eN, eS] <;> rfl), by repeat (first | (with_reducible first | exact HB.out | apply bA | apply bN | apply bD | refine bT ?_ GE263.out) | exact HB.out)⟩
              ·rw [if_neg c42] at H
               have c42b0 : (x12_38 == 0) = false := beq_eq_false_iff_ne.mpr c42
               have c42b1 : (x12_38 != 0) = true := bne_iff_ne.mpr c42
               simp only [Option.some.injEq, Prod.mk.injEq] at H
               obtain ⟨rfl, rfl⟩ := H
               have hcz44_0 : wc.cell? ⟨gb263, 0, none⟩ = some (.int .i64 x264000_1) := (kC BK263.out 0).trans rfl
               have hcz44_1 : wc.cell? ⟨gb263, 1, none⟩ = some (.int .i64 x264001_1) := (kC BK263.out 1).trans rfl
               have hfz44_0 := kF BK263.out 0
               have hfz44_1 := kF BK263.out 1
               go_wp2
               refine bodyPost_ret (results_cell_row rfl _ _ gb263 36 #[.int .i64 x12_38, .int .i64 x7_38] (0, 0) _ rfl (by (with_reducible repeat (first | apply kN | apply kD | apply kA)); refine kP (cs := #[.int .i64 x12_38, .int .i64 x264001_1]) ?_ 1 _ rfl; (with_reducible repeat (first | apply kN | apply kD | apply kA)); refine kP (cs := #[.int .i64 x264000_1, .int .i64 x264001_1]) ?_ 0 _ rfl; (with_reducible repeat (first | apply kN | apply kD | apply kA)); exact BK263.out) Tryz.underlying36 rfl (by kernel_rfl)) rfl ?_
               exact ⟨by first | rfl | (simp [eN, eS] <;> rfl) | (simp only [← hji9]; first | rfl | (simp [eN, eS] <;> rfl)) | (simp [*, eN, eS] <;> rfl), by repeat (first | (with_reducible first | exact HB.out | apply bA | apply bN | apply bD | refine bT ?_ GE263.out) | exact HB.out)⟩
def real_natOf.f (k : Nat) (a0 : Int) : Option (List Int) := (real_trim.f k (([(a0) % 4294967296, (a0 / 4294967296) % 4294967296] : List Int))).bind fun t287 => (some t287)
theorem real_natOf.calls (k : Nat) (a0 : Int) (r : List Int) (w : World) (h : real_natOf.f k a0 = some r) :
  Calls Tryz.prog 105 #[.int .u64 a0] w fun e w' => ∃ v0_ : Value, e = .returned (v0_) ∧ Kd.V (Kd.int .u32) 128 w' w.heap.size (fun k_ => (w.heap.size ≤ k_)) v0_ r ∧ Below w.heap.size w w' := by
 have HB := As.mk (Below.refl w.heap.size w)
 have H : ((real_trim.f k (([(a0) % 4294967296, (a0 / 4294967296) % 4294967296] : List Int))).bind fun t287 => (some t287)) = some r := h
 clear h
 obtain ⟨y284, hy284⟩ : ∃ y_ : List Int, y_ = (([(a0) % 4294967296, (a0 / 4294967296) % 4294967296] : List Int)) := ⟨_, rfl⟩
 replace H : ((real_trim.f k y284).bind fun t287 => (some t287)) = some r := by first | (rw [hy284]; with_reducible exact H) | (have H2_ := (Option.bind_some _ _).symm.trans H; rw [hy284]; with_reducible exact H2_) | (have H2_ := (Option.bind_some _ _).symm.trans H; with_reducible exact H2_) | with_reducible exact H | (rw [hy284]; exact H) | exact H
 have Ny284 := As.mk hy284
 clear hy284
 replace H := Option.bind_eq_some_iff.mp H
 obtain ⟨t287, A20, H⟩ := H
 replace H : (some t287) = some r := H
 have A2 := As.mk A20
 clear A20
 obtain rfl := Option.some.inj H
 go_enter Tryz.func105, Tryz.ntmps105
 go_wp2_with (first | ((with_reducible refine gD (N := 8) rfl ?_); refine Kd.R_lit (Kd.int .u32) _ 128 ?hg (N := 8) ?hd (xs := ([(a0) % 4294967296, (a0 / 4294967296) % 4294967296] : List Int)) (inner := [.int .u32 ((a0) % 4294967296), .int .u32 ((a0 / 4294967296) % 4294967296)]) (ok := fun _ => True) (okp := fun _ => True) ?hr ?hp (fun _ hk => hk) trivial (Below.refl _ _) (Nat.le_refl _) (by simp) ?_; (case hd => rfl); (case hg => rfl); (case hr => first | (go_simp; done) | (go_simp; rfl)); (case hp => exact (Reps.one (show Kd.M (Kd.int .u32) _ _ _ ((a0) % 4294967296) [.int .u32 ((a0) % 4294967296)] from rfl) (Reps.one (show Kd.M (Kd.int .u32) _ _ _ ((a0 / 4294967296) % 4294967296) [.int .u32 ((a0 / 4294967296) % 4294967296)] from rfl) (Reps.none _ _)))); intro v285 w3 ho4 hb hg_ hnew_; clear hg_ hnew_; (first | rw [← Ny284.out] at ho4 | (simp only [Int.reduceToNat] at ho4; rw [← Ny284.out] at ho4)); have HO286 := As.mk (Kd.R_lower (Kd.R_newM (M := fun k_ => (w.heap.size ≤ k_)) ho4 (bZ zz) (fun k_ h_ => h_)) (bZ zz)); replace HB := As.mk (bS zz hb); clear hb ho4; obtain ⟨Ao5, co5, eo5⟩ := Kd.R_slice HO286.out; subst eo5) | ((with_reducible refine gC (f := 116) rfl ?_); refine gl 9 Tryz.func116 #[.slice Ao5 y284.length co5] ?_; (with_reducible refine (real_trim.calls k (fun k_ => some k_ = (.slice Ao5 y284.length co5 : Value).ownBlock) _ _ y284 t287 _ ?side1 A2.out).mono ?_); (case side1 => exact Kd.R_V (Kd.R_tight rfl (HO286.out))); rintro e w6 ⟨v288, rfl, ho0, hb⟩; refine ⟨_, rfl, ?_⟩; have HO289 := As.mk (Kd.V_lower (Kd.V_mono (ok' := fun k_ => (w.heap.size ≤ k_)) ho0 (fun k_ hk_ => Or.elim hk_ (fun hs_ => ((HO286.out).1 k_ hs_.symm).1) (fun hn_ => (Nat.le_trans (bZ zz) hn_)))) (bZ zz)); replace HO286 := As.mk (Kd.R_below (by (with_reducible repeat (first | apply Kd.R_alloc | apply Kd.R_drewN | apply Kd.R_drew)); exact HO286.out) hb); replace HB := As.mk (bS zz hb); (try clear hb); (try clear ho0)))
 go_ret
 exact ⟨_, by first | rfl | (simp [eN, eS] <;> rfl) | (simp [*, eN, eS] <;> rfl), by (with_reducible repeat (first | apply Kd.V_alloc | apply Kd.V_drewN | apply Kd.V_drew)); exact HO289.out, zz⟩
def real_FromInt.f (k : Nat) (a0 : Int) : Option (Int × Int) := if a0 < 0 then ((real_natOf.f k (IntKind.u64.wrap (-(IntKind.u64.wrap (a0))))).bind fun t291 => ((real_rounded.f k t291 0 (([1] : List Int))).bind fun bt297 => ((real_signed.f (decide (a0 < 0)) bt297.1 bt297.2).bind fun bt299 => (some (bt299.1, bt299.2))))) else ((real_natOf.f k (IntKind.u64.wrap (a0))).bind fun t301 => ((real_rounded.f k t301 0 (([1] : List Int))).bind fun bt307 => ((real_signed.f (decide (a0 < 0)) bt307.1 bt307.2).bind fun bt309 => (some (bt309.1, bt309.2)))))
theorem real_FromInt.calls (k : Nat) (a0 : Int) (r1 : Int) (r2 : Int) (w : World) (h : real_FromInt.f k a0 = some (r1, r2)) :
  Calls Tryz.prog 97 #[.int .i64 a0] w fun e w' => e = .returned (.agg #[.int .i64 r1, .int .i64 r2]) ∧ Below w.heap.size w w' := by
 have hlit : ∀ W : World, Kd.V (Kd.int .u32) 128 (W.alloc (.cells #[.int .u32 1] 128)) (W.alloc (.cells #[.int .u32 1] 128)).heap.size (fun k => k < (W.alloc (.cells #[.int .u32 1] 128)).heap.size) (.slice (some ⟨W.heap.size, 0, none⟩) [(1 : Int)].length 1) [1] := fun W =>
  Kd.V_mk (Nat.le_refl _) (Kd.C_F (Kd.heap_int _) (Kd.C_of_reads (d := (0 : Int)) ⟨rfl, by simp, fun _ => ⟨_, rfl, fun j hj => by
   obtain rfl : j = 0 := by simp at hj; omega
   rw [add_at, kC (heap_alloc_new W _)]; rfl⟩⟩))
 unfold real_FromInt.f at h
 by_cases c2 : a0 < 0
 ·rw [if_pos c2] at h
  have c2b0 : decide (a0 < 0) = true := decide_eq_true c2
  rw [c2b0] at h
  obtain ⟨t291, A3, h⟩ := Option.bind_eq_some_iff.mp h
  obtain ⟨⟨t297, t298⟩, A4, h⟩ := Option.bind_eq_some_iff.mp h
  obtain ⟨⟨t299, t300⟩, A5, h⟩ := Option.bind_eq_some_iff.mp h
  have A3 := Lib.hid A3
  have A4 := Lib.hid A4
  have A5 := Lib.hid A5
  simp only [Option.some.injEq, Prod.mk.injEq] at h
  obtain ⟨rfl, rfl⟩ := h
  clear c2
  go_enter Tryz.func97, Tryz.ntmps97
  go_wp2_with (first | (go_at_call 105; refine (real_natOf.calls k _ t291 _ A3.out).mono ?_; rintro e w2 ⟨v, rfl, hv, hb⟩; obtain ⟨A, c, rfl⟩ := Kd.V_slice hv; (have HV := Lib.hid hv); (have r0 := kB (heap_alloc_new _ _) hb); (have HB := Lib.hid (bS (bA (Below.refl w.heap.size w) _) hb)); clear hv hb) | (go_at_call 104; refine (real_rounded.calls k _ A c t291 0 _ _ 1 [1] t297 t298 _ (Kd.V_alloc HV.out _) (hlit _) A4.out).mono ?_; rintro e w3 ⟨rfl, hb⟩; (replace r0 := kB (kA r0 _) hb); (replace HB := Lib.hid (bS (bA HB.out _) hb)); clear hb HV) | (go_at_call 103; refine (real_signed.calls _ t297 t298 t299 t300 _ A5.out).mono ?_; rintro e w4 ⟨rfl, hb⟩; (replace r0 := kB r0 hb); (replace HB := Lib.hid (bS HB.out hb)); (have k0 := kC r0 0); (have k1 := kC r0 1); (have f0 := kF r0 0); (have f1 := kF r0 1); clear hb r0))
  refine bodyPost_ret (v := .agg #[.int .i64 t299, .int .i64 t300]) ?_ rfl ⟨rfl, bT (bT HB.out (Nat.le_refl _)) (Nat.le_refl _)⟩
  simp [results, Tryz.results97, go_sem, k0, k1]
 ·rw [if_neg c2] at h
  have c2b0 : decide (a0 < 0) = false := decide_eq_false c2
  rw [c2b0] at h
  obtain ⟨t291, A3, h⟩ := Option.bind_eq_some_iff.mp h
  obtain ⟨⟨t297, t298⟩, A4, h⟩ := Option.bind_eq_some_iff.mp h
  obtain ⟨⟨t299, t300⟩, A5, h⟩ := Option.bind_eq_some_iff.mp h
  have A3 := Lib.hid A3
  have A4 := Lib.hid A4
  have A5 := Lib.hid A5
  simp only [Option.some.injEq, Prod.mk.injEq] at h
  obtain ⟨rfl, rfl⟩ := h
  clear c2
  go_enter Tryz.func97, Tryz.ntmps97
  go_wp2_with (first | (go_at_call 105; refine (real_natOf.calls k _ t291 _ A3.out).mono ?_; rintro e w2 ⟨v, rfl, hv, hb⟩; obtain ⟨A, c, rfl⟩ := Kd.V_slice hv; (have HV := Lib.hid hv); (have r0 := kB (heap_alloc_new _ _) hb); (have HB := Lib.hid (bS (bA (Below.refl w.heap.size w) _) hb)); clear hv hb) | (go_at_call 104; refine (real_rounded.calls k _ A c t291 0 _ _ 1 [1] t297 t298 _ (Kd.V_alloc HV.out _) (hlit _) A4.out).mono ?_; rintro e w3 ⟨rfl, hb⟩; (replace r0 := kB (kA r0 _) hb); (replace HB := Lib.hid (bS (bA HB.out _) hb)); clear hb HV) | (go_at_call 103; refine (real_signed.calls _ t297 t298 t299 t300 _ A5.out).mono ?_; rintro e w4 ⟨rfl, hb⟩; (replace r0 := kB r0 hb); (replace HB := Lib.hid (bS HB.out hb)); (have k0 := kC r0 0); (have k1 := kC r0 1); (have f0 := kF r0 0); (have f1 := kF r0 1); clear hb r0))
  refine bodyPost_ret (v := .agg #[.int .i64 t299, .int .i64 t300]) ?_ rfl ⟨rfl, bT (bT HB.out (Nat.le_refl _)) (Nat.le_refl _)⟩
  simp [results, Tryz.results97, go_sem, k0, k1]
def value_realOf.f (k : Nat) (a0_0 : Int) (a0_1 : Int) (a0_2 : Int) (a0_3 : Int) (a0_4 : Bool) : Option (Int × Int) := if a0_0 = 1 then ((real_FromInt.f k a0_1).bind fun bt313 => (some (bt313.1, bt313.2))) else (some (a0_2, a0_3))
theorem value_realOf.calls (k : Nat) (a0_0 : Int) (a0_1 : Int) (a0_2 : Int) (a0_3 : Int) (a0_4 : Bool) (r1 : Int) (r2 : Int) (w : World) (h : value_realOf.f k a0_0 a0_1 a0_2 a0_3 a0_4 = some (r1, r2)) :
  Calls Tryz.prog 87 #[.agg #[.int .i64 a0_0, .int .i64 a0_1, .int .i64 a0_2, .int .i64 a0_3, .bool a0_4]] w fun e w' => e = .returned (.agg #[.int .i64 r1, .int .i64 r2]) ∧ Below w.heap.size w w' := by
 have hu59 := Tryz.underlying38
 have hu57 := Tryz.underlying36
 have HB := As.mk (Below.refl w.heap.size w)
 have H : (if a0_0 = 1 then ((real_FromInt.f k a0_1).bind fun bt313 => (some (bt313.1, bt313.2))) else (some (a0_2, a0_3))) = some (r1, r2) := h
 clear h
 by_cases c2 : a0_0 = 1
 ·rw [if_pos c2] at H
  have c2b0 : (a0_0 == 1) = true := beq_iff_eq.mpr c2
  have c2b1 : (a0_0 != 1) = false := bne_eq_false_iff_eq.mpr c2
  clear c2
  replace H := Option.bind_eq_some_iff.mp H
  obtain ⟨⟨t313, t314⟩, A30, H⟩ := H
  replace H : (some (t313, t314)) = some (r1, r2) := H
  have A3 := As.mk A30
  clear A30
  simp only [Option.some.injEq, Prod.mk.injEq] at H
  obtain ⟨rfl, rfl⟩ := H
  go_enter Tryz.func87, Tryz.ntmps87
  go_wp2_with (first | ((with_reducible refine gD (N := 1) rfl ?_); refine bx 1 #[.int .i64 a0_0, .int .i64 a0_1, .int .i64 a0_2, .int .i64 a0_3, .bool a0_4] 38 ?_; intro gb311 hg w4 hbox hb; have BK311 := As.mk (hbox); have GW311 := As.mk ((by rw [hg]; exact (bZ zz) : w.heap.size ≤ gb311)); have GE311 := GW311; replace HB := As.mk (bS zz hb); clear hb hbox hg) | ((with_reducible refine gD (N := 2) rfl ?_); refine bx 2 #[.int .i64 0, .int .i64 0] 36 ?_; intro gb312 hg w5 hbox hb; have BK312 := As.mk (hbox); have GW312 := As.mk ((by rw [hg]; exact (bZ (by repeat (first | (with_reducible first | exact HB.out | apply bA | apply bN | apply bD | refine bT ?_ GE311.out) | exact HB.out))) : w.heap.size ≤ gb312)); have GE312 := GW312; replace HB := As.mk (bS (by repeat (first | (with_reducible first | exact HB.out | apply bA | apply bN | apply bD | refine bT ?_ GE311.out) | exact HB.out)) hb); have NB311_312 := As.mk ((by rw [hg]; exact Nat.ne_of_lt (blk_lt (g := gb311) (o := .cells #[.int .i64 a0_0, .int .i64 a0_1, .int .i64 a0_2, .int .i64 a0_3, .bool a0_4] 38 (0, 0)) (by (with_reducible repeat (first | apply kN | apply kD | apply kA)); exact BK311.out)) : gb311 ≠ gb312)); have NB312_311 := As.mk ((by rw [hg]; exact Nat.ne_of_gt (blk_lt (g := gb311) (o := .cells #[.int .i64 a0_0, .int .i64 a0_1, .int .i64 a0_2, .int .i64 a0_3, .bool a0_4] 38 (0, 0)) (by (with_reducible repeat (first | apply kN | apply kD | apply kA)); exact BK311.out)) : gb312 ≠ gb311)); replace BK311 := As.mk (kB (g := gb311) (o := .cells #[.int .i64 a0_0, .int .i64 a0_1, .int .i64 a0_2, .int .i64 a0_3, .bool a0_4] 38 (0, 0)) (by (with_reducible repeat (first | apply kN | apply kD | apply kA)); exact BK311.out) hb); clear hb hbox hg; have hnb6 := NB311_312.out; have hnc6 := NB312_311.out; have hcz7_0 : w5.cell? ⟨gb311, 0, none⟩ = some (.int .i64 a0_0) := (kC BK311.out 0).trans rfl; have hcz7_1 : w5.cell? ⟨gb311, 1, none⟩ = some (.int .i64 a0_1) := (kC BK311.out 1).trans rfl; have hcz7_2 : w5.cell? ⟨gb311, 2, none⟩ = some (.int .i64 a0_2) := (kC BK311.out 2).trans rfl; have hcz7_3 : w5.cell? ⟨gb311, 3, none⟩ = some (.int .i64 a0_3) := (kC BK311.out 3).trans rfl; have hcz7_4 : w5.cell? ⟨gb311, 4, none⟩ = some (.bool a0_4) := (kC BK311.out 4).trans rfl; have hfz7_0 := kF BK311.out 0; have hfz7_1 := kF BK311.out 1; have hfz7_2 := kF BK311.out 2; have hfz7_3 := kF BK311.out 3; have hfz7_4 := kF BK311.out 4) | ((with_reducible refine gC (f := 97) rfl ?_); refine gl 8 Tryz.func97 #[.int .i64 a0_1] ?_; (with_reducible refine (real_FromInt.calls k a0_1 t313 t314 _ A3.out).mono ?_); rintro e w8 ⟨rfl, hb⟩; refine ⟨_, rfl, ?_⟩; replace BK311 := As.mk (kB (g := gb311) (o := .cells #[.int .i64 a0_0, .int .i64 a0_1, .int .i64 a0_2, .int .i64 a0_3, .bool a0_4] 38 (0, 0)) (by (with_reducible repeat (first | apply kN | apply kD | apply kA)); exact BK311.out) hb); replace BK312 := As.mk (kB (g := gb312) (o := .cells #[.int .i64 0, .int .i64 0] 36 (0, 0)) (by (with_reducible repeat (first | apply kN | apply kD | apply kA)); exact BK312.out) hb); replace HB := As.mk (bS (by repeat (first | (with_reducible first | exact HB.out | apply bA | apply bN | apply bD | refine bT ?_ GE311.out | refine bT ?_ GE312.out) | exact HB.out)) hb); (try clear hb); have hcz9_0 : w8.cell? ⟨gb312, 0, none⟩ = some (.int .i64 0) := (kC BK312.out 0).trans rfl; have hcz9_1 : w8.cell? ⟨gb312, 1, none⟩ = some (.int .i64 0) := (kC BK312.out 1).trans rfl; have hfz9_0 := kF BK312.out 0; have hfz9_1 := kF BK312.out 1))
  refine bodyPost_ret (results_cell_row rfl _ _ gb312 36 #[.int .i64 t313, .int .i64 t314] (0, 0) _ rfl (by (with_reducible repeat (first | apply kN | apply kD | apply kA)); refine kP (cs := #[.int .i64 t313, .int .i64 0]) ?_ 1 _ rfl; (with_reducible repeat (first | apply kN | apply kD | apply kA)); refine kP (cs := #[.int .i64 0, .int .i64 0]) ?_ 0 _ rfl; (with_reducible repeat (first | apply kN | apply kD | apply kA)); exact BK312.out) Tryz.underlying36 rfl (by kernel_rfl)) rfl ?_
  exact ⟨by first | rfl | (simp [eN, eS] <;> rfl) | (simp [*, eN, eS] <;> rfl), by repeat (first | (with_reducible first | exact HB.out | apply bA | apply bN | apply bD | refine bT ?_ GE311.out | refine bT ?_ GE312.out) | exact HB.out)⟩
 ·rw [if_neg c2] at H
  have c2b0 : (a0_0 == 1) = false := beq_eq_false_iff_ne.mpr c2
  have c2b1 : (a0_0 != 1) = true := bne_iff_ne.mpr c2
  simp only [Option.some.injEq, Prod.mk.injEq] at H
  obtain ⟨rfl, rfl⟩ := H
  go_enter Tryz.func87, Tryz.ntmps87
  go_wp2_with (first | ((with_reducible refine gD (N := 1) rfl ?_); refine bx 1 #[.int .i64 a0_0, .int .i64 a0_1, .int .i64 a0_2, .int .i64 a0_3, .bool a0_4] 38 ?_; intro gb311 hg w10 hbox hb; have BK311 := As.mk (hbox); have GW311 := As.mk ((by rw [hg]; exact (bZ zz) : w.heap.size ≤ gb311)); have GE311 := GW311; replace HB := As.mk (bS zz hb); clear hb hbox hg) | ((with_reducible refine gD (N := 2) rfl ?_); refine bx 2 #[.int .i64 0, .int .i64 0] 36 ?_; intro gb312 hg w11 hbox hb; have BK312 := As.mk (hbox); have GW312 := As.mk ((by rw [hg]; exact (bZ (by repeat (first | (with_reducible first | exact HB.out | apply bA | apply bN | apply bD | refine bT ?_ GE311.out) | exact HB.out))) : w.heap.size ≤ gb312)); have GE312 := GW312; replace HB := As.mk (bS (by repeat (first | (with_reducible first | exact HB.out | apply bA | apply bN | apply bD | refine bT ?_ GE311.out) | exact HB.out)) hb); have NB311_312 := As.mk ((by rw [hg]; exact Nat.ne_of_lt (blk_lt (g := gb311) (o := .cells #[.int .i64 a0_0, .int .i64 a0_1, .int .i64 a0_2, .int .i64 a0_3, .bool a0_4] 38 (0, 0)) (by (with_reducible repeat (first | apply kN | apply kD | apply kA)); exact BK311.out)) : gb311 ≠ gb312)); have NB312_311 := As.mk ((by rw [hg]; exact Nat.ne_of_gt (blk_lt (g := gb311) (o := .cells #[.int .i64 a0_0, .int .i64 a0_1, .int .i64 a0_2, .int .i64 a0_3, .bool a0_4] 38 (0, 0)) (by (with_reducible repeat (first | apply kN | apply kD | apply kA)); exact BK311.out)) : gb312 ≠ gb311)); replace BK311 := As.mk (kB (g := gb311) (o := .cells #[.int .i64 a0_0, .int .i64 a0_1, .int .i64 a0_2, .int .i64 a0_3, .bool a0_4] 38 (0, 0)) (by (with_reducible repeat (first | apply kN | apply kD | apply kA)); exact BK311.out) hb); clear hb hbox hg; have hnb12 := NB311_312.out; have hnc12 := NB312_311.out; have hcz13_0 : w11.cell? ⟨gb311, 0, none⟩ = some (.int .i64 a0_0) := (kC BK311.out 0).trans rfl; have hcz13_1 : w11.cell? ⟨gb311, 1, none⟩ = some (.int .i64 a0_1) := (kC BK311.out 1).trans rfl; have hcz13_2 : w11.cell? ⟨gb311, 2, none⟩ = some (.int .i64 a0_2) := (kC BK311.out 2).trans rfl; have hcz13_3 : w11.cell? ⟨gb311, 3, none⟩ = some (.int .i64 a0_3) := (kC BK311.out 3).trans rfl; have hcz13_4 : w11.cell? ⟨gb311, 4, none⟩ = some (.bool a0_4) := (kC BK311.out 4).trans rfl; have hfz13_0 := kF BK311.out 0; have hfz13_1 := kF BK311.out 1; have hfz13_2 := kF BK311.out 2; have hfz13_3 := kF BK311.out 3; have hfz13_4 := kF BK311.out 4; have hcz14_0 : w11.cell? ⟨gb312, 0, none⟩ = some (.int .i64 0) := (kC BK312.out 0).trans rfl; have hcz14_1 : w11.cell? ⟨gb312, 1, none⟩ = some (.int .i64 0) := (kC BK312.out 1).trans rfl; have hfz14_0 := kF BK312.out 0; have hfz14_1 := kF BK312.out 1))
  refine bodyPost_ret (results_cell_row rfl _ _ gb312 36 #[.int .i64 a0_2, .int .i64 a0_3] (0, 0) _ rfl (by (with_reducible repeat (first | apply kN | apply kD | apply kA)); refine kP (cs := #[.int .i64 a0_2, .int .i64 0]) ?_ 1 _ rfl; (with_reducible repeat (first | apply kN | apply kD | apply kA)); refine kP (cs := #[.int .i64 0, .int .i64 0]) ?_ 0 _ rfl; (with_reducible repeat (first | apply kN | apply kD | apply kA)); exact BK312.out) Tryz.underlying36 rfl (by kernel_rfl)) rfl ?_
  exact ⟨by first | rfl | (simp [eN, eS] <;> rfl) | (simp [*, eN, eS] <;> rfl), by repeat (first | (with_reducible first | exact HB.out | apply bA | apply bN | apply bD | refine bT ?_ GE311.out | refine bT ?_ GE312.out) | exact HB.out)⟩
end Go.Proofs.Q
end
