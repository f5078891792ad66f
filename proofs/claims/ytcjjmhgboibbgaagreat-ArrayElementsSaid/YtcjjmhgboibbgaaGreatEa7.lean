/-
 Texts of the proof, in build order: words that the walks use, contracts of functions, plain facts.
-/
import Derived.Test.YtcjjmhgboibbgaaGreatEa3
import Derived.Test.YtcjjmhgboibbgaaGreatEa4
import Derived.Test.YtcjjmhgboibbgaaGreatEa5
set_option maxHeartbeats 40000000
set_option maxRecDepth 100000
set_option linter.unusedVariables false
set_option linter.unusedSimpArgs false
section
namespace Go.Proofs.Q
open RowKit Pw Pl Pm
attribute [local go_sem] max2_int min2_int max_two min_two max_three min_three max_four min_four   -- for this text's walks alone
mutual
def array_Subscripts.j0 : Nat → List (S54) → Int → Bool → Option (List Int × Int)
 | 0, _, _, _ => none
 | k + 1, x0, x1, x33 => if x33 = true then (some (([] : List Int), 3)) else ((array_strides.f x0).bind fun bt120 => (array_Subscripts.l0 k x1 bt120.1 ([] : List Int) x0 (x0.length : Int) 0))
def array_Subscripts.l0 : Nat → Int → List Int → List Int → List (S54) → Int → Int → Option (List Int × Int)
 | 0, _, _, _, _, _, _ => none
 | k + 1, x1, x10, x12, x39, x40, x41 => if x41 < x40 then (if 0 ≤ x41 then (if x41 < (x39.length : Int) then (if x41 < (x10.length : Int) then (if (rd x10 x41) = 0 then (none) else (if x12.length < 17592186044416 then (array_Subscripts.l0 k (Int.tmod x1 (rd x10 x41)) x10 (x12 ++ [wrap64 (((rd_T54 x39 x41).f0) + (wrap64 (Int.tdiv x1 (rd x10 x41))))]) x39 x40 (wrap64 (x41 + 1))) else (none))) else (none)) else (none)) else (none)) else (some (x12, 0))
end
def array_Subscripts.f (k : Nat) (l0 : List (S54)) (a1 : Int) : Option (List Int × Int) := (array_checked.f (([l0] : List (List (S54))))).bind fun t112 => (if t112 = 0 then ((array_sizes.f l0).bind fun bt113 => (if a1 < 0 then (array_Subscripts.j0 k l0 a1 true) else (array_Subscripts.j0 k l0 a1 (decide (a1 ≥ bt113.2.2.2.2.1))))) else (some (([] : List Int), t112)))
def array_Subscripts.T12 : Bool × List (List Nat × List Nat) := (true, [([], []), ([], []), ([1], [1]), ([], []), ([], []), ([], []), ([4, 5], [4, 5]), ([6], [6]), ([3, 7], [3, 7]), ([2, 8], [2, 8]), ([9], [9]), ([0, 10], [0, 10]), ([11, 11, 0, 1, 2, 3, 4, 5, 6, 7, 8, 9, 10, 11], [0, 11])])
def array_Subscripts.B12 : List Nat := [0, 0, 2, 0, 0, 0, 48, 112, 248, 510, 1022, 2047, 4095]
theorem array_Subscripts.tab12 : rtab .any (opsOf Tryz.f23 12) = array_Subscripts.T12 := by kernel_rfl
theorem array_Subscripts.bits12 : waitsOk array_Subscripts.T12.2 array_Subscripts.B12 = true := by kernel_rfl
theorem array_Subscripts.calls (k : Nat) (P0_ : Nat → Prop) (A0 : Option Addr) (c0 : Nat) (l0 : List (S54)) (a1 : Int) (r1 : List Int) (r2 : Int) (w : World) (hs0 : Kd.V k54 54 w w.heap.size (fun k_ => P0_ k_) (.slice A0 l0.length c0) l0) (h : array_Subscripts.f k l0 a1 = some (r1, r2)) :
  Calls Tryz.prog 23 #[.slice A0 l0.length c0, .int .i64 a1] w fun e w' => ∃ v0_ : Value, e = .returned (.tuple #[v0_, .int .i64 r2]) ∧ Kd.R (Kd.int .i64) 3 w' w.heap.size (fun k_ => (w.heap.size ≤ k_)) v0_ r1 ∧ Below w.heap.size w w' := by
 have hu71 := Tryz.underlying84
 have hu40 := Tryz.underlying54
 have HO0 := As.mk (show Kd.V k54 54 w w.heap.size (fun k_ => (P0_ k_ ∨ w.heap.size ≤ k_)) (.slice A0 l0.length c0) l0 from Kd.V_mono hs0 (fun k_ hk => .inl hk))
 have HB := As.mk (Below.refl w.heap.size w)
 have H : ((array_checked.f (([l0] : List (List (S54))))).bind fun t112 => (if t112 = 0 then ((array_sizes.f l0).bind fun bt113 => (if a1 < 0 then (array_Subscripts.j0 k l0 a1 true) else (array_Subscripts.j0 k l0 a1 (decide (a1 ≥ bt113.2.2.2.2.1))))) else (some (([] : List Int), t112)))) = some (r1, r2) := h
 clear h
 obtain ⟨y109, hy109⟩ : ∃ y_ : List (List (S54)), y_ = (([l0] : List (List (S54)))) := ⟨_, rfl⟩
 replace H : ((array_checked.f y109).bind fun t112 => (if t112 = 0 then ((array_sizes.f l0).bind fun bt113 => (if a1 < 0 then (array_Subscripts.j0 k l0 a1 true) else (array_Subscripts.j0 k l0 a1 (decide (a1 ≥ bt113.2.2.2.2.1))))) else (some (([] : List Int), t112)))) = some (r1, r2) := by first | (rw [hy109]; with_reducible exact H) | (have H2_ := (Option.bind_some _ _).symm.trans H; rw [hy109]; with_reducible exact H2_) | (have H2_ := (Option.bind_some _ _).symm.trans H; with_reducible exact H2_) | with_reducible exact H | (rw [hy109]; exact H) | exact H
 have Ny109 := As.mk hy109
 clear hy109
 replace H := Option.bind_eq_some_iff.mp H
 obtain ⟨t112, A30, H⟩ := H
 replace H : (if t112 = 0 then ((array_sizes.f l0).bind fun bt113 => (if a1 < 0 then (array_Subscripts.j0 k l0 a1 true) else (array_Subscripts.j0 k l0 a1 (decide (a1 ≥ bt113.2.2.2.2.1))))) else (some (([] : List Int), t112))) = some (r1, r2) := H
 have A3 := As.mk A30
 clear A30
 by_cases c4 : t112 = 0
 ·rw [if_pos c4] at H
  have c4b0 : (t112 == 0) = true := beq_iff_eq.mpr c4
  have c4b1 : (t112 != 0) = false := bne_eq_false_iff_eq.mpr c4
  clear c4
  replace H := Option.bind_eq_some_iff.mp H
  obtain ⟨⟨t113, t114, t115, t116, t117, t118⟩, A50, H⟩ := H
  replace H : (if a1 < 0 then (array_Subscripts.j0 k l0 a1 true) else (array_Subscripts.j0 k l0 a1 (decide (a1 ≥ t117)))) = some (r1, r2) := H
  have A5 := As.mk A50
  clear A50
  have HC6 := As.mk H
  clear H
  go_enter Tryz.func23, Tryz.ntmps23
  go_upto_region 5 with (first | ((with_reducible refine gD (N := 16) rfl ?_); refine Kd.N_lit (Kd.slice 54 k54) _ 22 ?hg (N' := 16) ?hd (xs := ([l0] : List (List (S54)))) (inner := [.slice A0 l0.length c0]) (ok := (fun k_ => (P0_ k_ ∨ w.heap.size ≤ k_))) (okp := (fun k_ => (P0_ k_ ∨ w.heap.size ≤ k_))) ?hr ?hp (fun _ hk => hk) ((show ∀ k_, w.heap.size ≤ k_ → (fun k_ => (P0_ k_ ∨ w.heap.size ≤ k_)) k_ from fun k_ hk => (.inr (Nat.le_trans (bZ zz) hk))) _ (Nat.le_refl _)) (Below.refl _ _) (Nat.le_refl _) (by simp) ?_; (case hd => rfl); (case hg => rfl); (case hr => first | (go_simp; done) | (go_simp; rfl)); (case hp => exact (Reps.one (show Kd.FK (Kd.slice 54 k54) _ _ l0 [.slice A0 l0.length c0] from (Kd.FK_slice_mk (Kd.V_reads' (Kd.V_mono (ok' := (fun k_ => (P0_ k_ ∨ w.heap.size ≤ k_))) (HO0.out) (fun k_ hk => hk))).2.1 (Kd.V_F (Kd.V_mono (ok' := (fun k_ => (P0_ k_ ∨ w.heap.size ≤ k_))) (HO0.out) (fun k_ hk => hk))))) (Reps.none _ _))); intro v110 w7 ho8 hb hg_ hnew_; clear hg_ hnew_; (first | rw [← Ny109.out] at ho8 | (simp only [Int.reduceToNat] at ho8; rw [← Ny109.out] at ho8)); replace HO0 := As.mk (Kd.V_elder' (by (with_reducible repeat (first | apply Kd.V_alloc | apply Kd.V_drewN | apply Kd.V_drew)); exact HO0.out) (Kd.N_base ho8) hb); have HO111 := As.mk (Kd.N_lower ho8 (bZ zz)); replace HB := As.mk (bS zz hb); clear hb ho8; obtain ⟨Ao9, co9, eo9⟩ := Kd.N_slice HO111.out; subst eo9) | ((with_reducible refine gC (f := 27) rfl ?_); refine gl 17 Tryz.func27 #[.slice Ao9 y109.length co9] ?_; (with_reducible refine (array_checked.calls _ _ y109 t112 _ ?side1 ?side2 A3.out).mono ?_); (case side1 => repeat (first | exact (Kd.N_reads' HO111.out).2.2 | (with_reducible first | apply Kd.C_alloc | apply Kd.C_drewN | apply Kd.C_drew))); (case side2 => exact (Kd.N_reads' HO111.out).2.1); rintro e w10 ⟨rfl, hb⟩; refine ⟨_, rfl, ?_⟩; replace HO0 := As.mk (Kd.V_below (by (with_reducible repeat (first | apply Kd.V_alloc | apply Kd.V_drewN | apply Kd.V_drew)); exact HO0.out) hb); replace HO111 := As.mk (Kd.N_below (by (with_reducible repeat (first | apply Kd.N_alloc | apply Kd.N_drewN | apply Kd.N_drew)); exact HO111.out) hb); replace HB := As.mk (bS zz hb); (try clear hb)) | ((with_reducible refine gC (f := 53) rfl ?_); refine gl 23 Tryz.func53 #[.slice A0 l0.length c0] ?_; (with_reducible refine (array_sizes.calls _ _ l0 t113 t114 t115 t116 t117 t118 _ ?side1 ?side2 A5.out).mono ?_); (case side1 => repeat (first | exact (Kd.V_reads' HO0.out).2.2 | (with_reducible first | apply Kd.C_alloc | apply Kd.C_drewN | apply Kd.C_drew))); (case side2 => exact (Kd.V_reads' HO0.out).2.1); rintro e w11 ⟨rfl, hb⟩; refine ⟨_, rfl, ?_⟩; replace HO0 := As.mk (Kd.V_below (by (with_reducible repeat (first | apply Kd.V_alloc | apply Kd.V_drewN | apply Kd.V_drew)); exact HO0.out) hb); replace HO111 := As.mk (Kd.N_below (by (with_reducible repeat (first | apply Kd.N_alloc | apply Kd.N_drewN | apply Kd.N_drew)); exact HO111.out) hb); replace HB := As.mk (bS zz hb); (try clear hb)) | ((with_reducible refine gD (N := 7) rfl ?_); refine bx 7 #[.int .i64 0, .int .i64 0, .int .i64 0, .int .i64 0] 84 ?_; intro gb119 hg w12 hbox hb; replace HO0 := As.mk (Kd.V_below (Kd.V_elderB (by (with_reducible repeat (first | apply Kd.V_alloc | apply Kd.V_drewN | apply Kd.V_drew)); exact HO0.out) gb119 (Nat.le_of_eq hg.symm)) hb); replace HO111 := As.mk (Kd.N_below (Kd.N_elderB (by (with_reducible repeat (first | apply Kd.N_alloc | apply Kd.N_drewN | apply Kd.N_drew)); exact HO111.out) gb119 (Nat.le_of_eq hg.symm)) hb); have BK119 := As.mk (hbox); have GW119 := As.mk ((by rw [hg]; exact (bZ zz) : w.heap.size ≤ gb119)); have GE119 := GW119; replace HB := As.mk (bS zz hb); clear hb hbox hg; have hcz13_0 : w12.cell? ⟨gb119, 0, none⟩ = some (.int .i64 0) := (kC BK119.out 0).trans rfl; have hcz13_1 : w12.cell? ⟨gb119, 1, none⟩ = some (.int .i64 0) := (kC BK119.out 1).trans rfl; have hcz13_2 : w12.cell? ⟨gb119, 2, none⟩ = some (.int .i64 0) := (kC BK119.out 2).trans rfl; have hcz13_3 : w12.cell? ⟨gb119, 3, none⟩ = some (.int .i64 0) := (kC BK119.out 3).trans rfl; have hfz13_0 := kF BK119.out 0; have hfz13_1 := kF BK119.out 1; have hfz13_2 := kF BK119.out 2; have hfz13_3 := kF BK119.out 3))
  (try simp only [Act.put, List.setIfInBounds_toArray, List.set_cons_zero, List.set_cons_succ])
  go_cut [33] (fun v33 wc => ∃ (kq : Nat) (x33_5 : Bool), v33 = .bool x33_5 ∧ As (array_Subscripts.j0 kq l0 a1 x33_5 = some (r1, r2)) ∧ As (kq ≤ k) ∧ As (Kd.V k54 54 wc w.heap.size (fun k_ => (P0_ k_ ∨ w.heap.size ≤ k_) ∧ k_ ≠ gb119) (.slice A0 l0.length c0) l0) ∧ As (wc.heap[gb119]? = some (.cells #[.int .i64 t113, .int .i64 t114, .int .i64 t115, .int .i64 t116] 84 (0, 0))) ∧ As (Below w.heap.size w wc))
  case first =>
   have H := HC6.out
   clear HC6
   by_cases c14 : a1 < 0
   ·rw [if_pos c14] at H
    have c14b0 : decide (a1 < 0) = true := decide_eq_true c14
    clear c14
    (first | rw [c14b0] | (simp only [i64_w, i32_w]; rw [c14b0]) | skip)
    have H' := As.mk H
    clear H
    go_wp2
    go_meet
    case rel => exact ⟨_, (true), (by first | rfl | (simp; done) | (simp [*]; done)), H', ⟨by first | omega | exact Nat.le_refl _⟩, ⟨by (with_reducible repeat (first | apply Kd.V_alloc | apply Kd.V_drewN | apply Kd.V_drew)); exact Kd.V_mono (Kd.V_far (p := ⟨gb119, 3, none⟩) (Kd.V_far (p := ⟨gb119, 2, none⟩) (Kd.V_far (p := ⟨gb119, 1, none⟩) (Kd.V_far (p := ⟨gb119, 0, none⟩) (Kd.V_mono HO0.out (fun k_ hk => (⟨hk, hk.2⟩ : _ ∧ k_ ≠ gb119))) (fun _ hk => hk.2) (.int .i64 t113)) (fun _ hk => hk.2) (.int .i64 t114)) (fun _ hk => hk.2) (.int .i64 t115)) (fun _ hk => hk.2) (.int .i64 t116)) (fun _ hk => ⟨hk.1.1.1, hk.1.2⟩)⟩, ⟨by (with_reducible repeat (first | apply kN | apply kD | apply kA)); refine kP (cs := #[.int .i64 t113, .int .i64 t114, .int .i64 t115, .int .i64 0]) ?_ 3 _ rfl; (with_reducible repeat (first | apply kN | apply kD | apply kA)); refine kP (cs := #[.int .i64 t113, .int .i64 t114, .int .i64 0, .int .i64 0]) ?_ 2 _ rfl; (with_reducible repeat (first | apply kN | apply kD | apply kA)); refine kP (cs := #[.int .i64 t113, .int .i64 0, .int .i64 0, .int .i64 0]) ?_ 1 _ rfl; (with_reducible repeat (first | apply kN | apply kD | apply kA)); refine kP (cs := #[.int .i64 0, .int .i64 0, .int .i64 0, .int .i64 0]) ?_ 0 _ rfl; (with_reducible repeat (first | apply kN | apply kD | apply kA)); exact BK119.out⟩, ⟨by repeat (first | (with_reducible first | exact HB.out | apply bA | apply bN | apply bD | refine bT ?_ GE119.out) | exact HB.out)⟩⟩
   ·rw [if_neg c14] at H
    have c14b0 : decide (a1 < 0) = false := decide_eq_false c14
    clear c14
    (first | rw [c14b0] | (simp only [i64_w, i32_w]; rw [c14b0]) | skip)
    have H' := As.mk H
    clear H
    go_wp2
    go_meet
    case rel => exact ⟨_, (decide (a1 ≥ t117)), (by first | rfl | (simp; done) | (simp [*]; done)), H', ⟨by first | omega | exact Nat.le_refl _⟩, ⟨by (with_reducible repeat (first | apply Kd.V_alloc | apply Kd.V_drewN | apply Kd.V_drew)); exact Kd.V_mono (Kd.V_far (p := ⟨gb119, 3, none⟩) (Kd.V_far (p := ⟨gb119, 2, none⟩) (Kd.V_far (p := ⟨gb119, 1, none⟩) (Kd.V_far (p := ⟨gb119, 0, none⟩) (Kd.V_mono HO0.out (fun k_ hk => (⟨hk, hk.2⟩ : _ ∧ k_ ≠ gb119))) (fun _ hk => hk.2) (.int .i64 t113)) (fun _ hk => hk.2) (.int .i64 t114)) (fun _ hk => hk.2) (.int .i64 t115)) (fun _ hk => hk.2) (.int .i64 t116)) (fun _ hk => ⟨hk.1.1.1, hk.1.2⟩)⟩, ⟨by (with_reducible repeat (first | apply kN | apply kD | apply kA)); refine kP (cs := #[.int .i64 t113, .int .i64 t114, .int .i64 t115, .int .i64 0]) ?_ 3 _ rfl; (with_reducible repeat (first | apply kN | apply kD | apply kA)); refine kP (cs := #[.int .i64 t113, .int .i64 t114, .int .i64 0, .int .i64 0]) ?_ 2 _ rfl; (with_reducible repeat (first | apply kN | apply kD | apply kA)); refine kP (cs := #[.int .i64 t113, .int .i64 0, .int .i64 0, .int .i64 0]) ?_ 1 _ rfl; (with_reducible repeat (first | apply kN | apply kD | apply kA)); refine kP (cs := #[.int .i64 0, .int .i64 0, .int .i64 0, .int .i64 0]) ?_ 0 _ rfl; (with_reducible repeat (first | apply kN | apply kD | apply kA)); exact BK119.out⟩, ⟨by repeat (first | (with_reducible first | exact HB.out | apply bA | apply bN | apply bD | refine bT ?_ GE119.out) | exact HB.out)⟩⟩
  case rest =>
   clear HC6
   try clear c1
   try clear p2
   try clear c3
   try clear c4
   try clear c4b0
   try clear c4b1
   try clear c14
   try clear c14b0
   try clear hcz13_0
   try clear hcz13_1
   try clear hcz13_2
   try clear hcz13_3
   try clear hfz13_0
   try clear hfz13_1
   try clear hfz13_2
   try clear hfz13_3
   obtain ⟨kq, x33_5, rfl, HA, HJ5, HO_0, BK119, HB⟩ := hcut
   cases kq with
   | zero => exact absurd HA.out (by simp [array_Subscripts.j0])
   | succ kj5 =>
    have H := HA.out
    clear HA
    simp only [array_Subscripts.j0] at H
    by_cases c15 : x33_5 = true
    ·subst c15
     have H1 : (some (([] : List Int), 3)) = some (r1, r2) := by rw [if_pos rfl] at H; exact H
     clear H
     have H := H1
     clear H1
     simp only [Option.some.injEq, Prod.mk.injEq] at H
     obtain ⟨rfl, rfl⟩ := H
     go_wp2
     go_ret2
     exact ⟨_, by first | rfl | (simp [eN, eS] <;> rfl) | (simp [*, eN, eS] <;> rfl), by first | exact Kd.R_nil _ _ _ _ _ | exact Kd.N_nil _ _ _ _ _ | exact Kd.V_nil _ _ _ _ _ | exact Kd.Q_nil _ _ _ _ _ | exact Kd.S_nil _ _ _ _ _, by repeat (first | (with_reducible first | exact HB.out | apply bA | apply bN | apply bD | refine bT ?_ GE119.out) | exact HB.out)⟩
    ·replace c15 := Bool.eq_false_iff.mpr c15
     subst c15
     have H1 : ((array_strides.f l0).bind fun bt120 => (array_Subscripts.l0 kj5 a1 bt120.1 ([] : List Int) l0 (l0.length : Int) 0)) = some (r1, r2) := by rw [if_neg (show ¬ (false = true) by decide)] at H; exact H
     clear H
     have H := H1
     clear H1
     replace H := Option.bind_eq_some_iff.mp H
     obtain ⟨⟨t120, t121⟩, A160, H⟩ := H
     replace H : (array_Subscripts.l0 kj5 a1 t120 ([] : List Int) l0 (l0.length : Int) 0) = some (r1, r2) := H
     have A16 := As.mk A160
     clear A160
     have H' := As.mk H
     clear H
     go_wp2_with (first | ((with_reducible refine gC (f := 57) rfl ?_); refine gl 36 Tryz.func57 #[.slice A0 l0.length c0] ?_; (with_reducible refine (array_strides.calls _ _ l0 t120 t121 _ ?side1 ?side2 A16.out).mono ?_); (case side1 => repeat (first | exact (Kd.V_reads' HO_0.out).2.2 | (with_reducible first | apply Kd.C_alloc | apply Kd.C_drewN | apply Kd.C_drew))); (case side2 => exact (Kd.V_reads' HO_0.out).2.1); rintro e w17 ⟨v122, rfl, ho0, hb⟩; refine ⟨_, rfl, ?_⟩; replace HO_0 := As.mk (Kd.V_elder' (by (with_reducible repeat (first | apply Kd.V_alloc | apply Kd.V_drewN | apply Kd.V_drew)); exact HO_0.out) (Kd.R_base ho0) hb); have HO123 := As.mk (Kd.R_lower (Kd.R_newM (M := fun k_ => (w.heap.size ≤ k_)) ho0 (bZ (by repeat (first | (with_reducible first | exact HB.out | apply bA | apply bN | apply bD | refine bT ?_ GE119.out) | exact HB.out))) (fun k_ h_ => h_)) (bZ (by repeat (first | (with_reducible first | exact HB.out | apply bA | apply bN | apply bD | refine bT ?_ GE119.out) | exact HB.out)))); replace BK119 := As.mk (kB (g := gb119) (o := .cells #[.int .i64 t113, .int .i64 t114, .int .i64 t115, .int .i64 t116] 84 (0, 0)) (by (with_reducible repeat (first | apply kN | apply kD | apply kA)); exact BK119.out) hb); replace HB := As.mk (bS (by repeat (first | (with_reducible first | exact HB.out | apply bA | apply bN | apply bD | refine bT ?_ GE119.out) | exact HB.out)) hb); (try clear hb); (try clear ho0)))
     go_loopg [1, 12, 41] kj5 (fun kq v1 v12 v41 w' => ∃ (x1_2 : Int) (x12_2 : List Int) (x41_2 : Int), v1 = .int .i64 x1_2 ∧ v41 = .int .i64 x41_2 ∧ As (array_Subscripts.l0 kq x1_2 t120 x12_2 l0 (l0.length : Int) x41_2 = some (r1, r2)) ∧ As (kq ≤ kj5) ∧ As (Kd.R (Kd.int .i64) 3 w' w.heap.size (fun k_ => (w.heap.size ≤ k_) ∧ some k_ ≠ (v12 : Value).ownBlock) v122 t120) ∧ As (Kd.R (Kd.int .i64) 3 w' w.heap.size (fun k_ => (w.heap.size ≤ k_) ∧ some k_ ≠ (v122 : Value).ownBlock) v12 x12_2) ∧ As (Kd.V k54 54 w' w.heap.size (fun k_ => (P0_ k_ ∨ w.heap.size ≤ k_) ∧ some k_ ≠ (v122 : Value).ownBlock ∧ some k_ ≠ (v12 : Value).ownBlock ∧ k_ ≠ gb119) (.slice A0 l0.length c0) l0) ∧ As (w'.heap[gb119]? = some (.cells #[.int .i64 t113, .int .i64 t114, .int .i64 t115, .int .i64 t116] 84 (0, 0))) ∧ As (Below w.heap.size w w'))
     case atStart => exact ⟨(a1), (([] : List Int)), (0), (by first | rfl | (simp; done) | (simp [*]; done)), (by first | rfl | (simp; done) | (simp [*]; done)), H', ⟨Nat.le_refl _⟩, ⟨by (with_reducible repeat (first | apply Kd.R_alloc | apply Kd.R_drewN | apply Kd.R_drew)); exact Kd.R_mono HO123.out (fun _ hk => ⟨hk.1, (by simp [Value.ownBlock])⟩)⟩, ⟨by first | exact Kd.R_nil _ _ _ _ _ | exact Kd.N_nil _ _ _ _ _ | exact Kd.V_nil _ _ _ _ _ | exact Kd.Q_nil _ _ _ _ _ | exact Kd.S_nil _ _ _ _ _⟩, ⟨by (with_reducible repeat (first | apply Kd.V_alloc | apply Kd.V_drewN | apply Kd.V_drew)); exact Kd.V_mono HO_0.out (fun _ hk => ⟨hk.1.1, ⟨hk.2, ⟨(by simp [Value.ownBlock]), hk.1.2⟩⟩⟩)⟩, ⟨by (with_reducible repeat (first | apply kN | apply kD | apply kA)); exact BK119.out⟩, ⟨by repeat (first | (with_reducible first | exact HB.out | apply bA | apply bN | apply bD | refine bT ?_ GE119.out) | exact HB.out)⟩⟩
     case round =>
      clear H'
      try clear c1
      try clear p2
      try clear c3
      try clear c4
      try clear c4b0
      try clear c4b1
      try clear c14
      try clear c14b0
      try clear c15
      try clear hcz13_0
      try clear hcz13_1
      try clear hcz13_2
      try clear hcz13_3
      try clear hfz13_0
      try clear hfz13_1
      try clear hfz13_2
      try clear hfz13_3
      try clear p2
      obtain ⟨x1_2, x12_2, x41_2, rfl, rfl, HA, HK2, HO_10, HO_12, HO_39, BK119, HB⟩ := hrel
      cases gk with
      | zero => exact absurd HA.out (by simp [array_Subscripts.l0])
      | succ k2 =>
       have H := HA.out
       clear HA
       simp only [array_Subscripts.l0] at H
       by_cases c18 : x41_2 < (l0.length : Int)
       ·rw [if_pos c18] at H
        have c18b0 : decide (x41_2 < (l0.length : Int)) = true := decide_eq_true c18
        clear c18
        by_cases c19 : 0 ≤ x41_2
        ·rw [if_pos c19] at H
         have c19b0 : decide (0 ≤ x41_2) = true := decide_eq_true c19
         clear c19
         by_cases c20 : x41_2 < (l0.length : Int)
         ·rw [if_pos c20] at H
          have c20b0 : decide (x41_2 < (l0.length : Int)) = true := decide_eq_true c20
          clear c20
          by_cases c21 : x41_2 < (t120.length : Int)
          ·rw [if_pos c21] at H
           have c21b0 : decide (x41_2 < (t120.length : Int)) = true := decide_eq_true c21
           clear c21
           by_cases c22 : (rd t120 x41_2) = 0
           ·rw [if_pos c22] at H
            exact absurd H (by simp)
           ·rw [if_neg c22] at H
            have c22b0 : ((rd t120 x41_2) == 0) = false := beq_eq_false_iff_ne.mpr c22
            have c22b1 : ((rd t120 x41_2) != 0) = true := bne_iff_ne.mpr c22
            by_cases c23 : x12_2.length < 17592186044416
            ·rw [if_pos c23] at H
             have LMc23 := As.mk c23
             clear c23
             obtain ⟨y127, hy127⟩ : ∃ y_ : List Int, y_ = (x12_2 ++ [wrap64 (((rd_T54 l0 x41_2).f0) + (wrap64 (Int.tdiv x1_2 (rd t120 x41_2))))]) := ⟨_, rfl⟩
             replace H : (array_Subscripts.l0 k2 (Int.tmod x1_2 (rd t120 x41_2)) t120 y127 l0 (l0.length : Int) (wrap64 (x41_2 + 1))) = some (r1, r2) := by first | (rw [hy127]; with_reducible exact H) | (have H2_ := (Option.bind_some _ _).symm.trans H; rw [hy127]; with_reducible exact H2_) | (have H2_ := (Option.bind_some _ _).symm.trans H; with_reducible exact H2_) | with_reducible exact H | (rw [hy127]; exact H) | exact H
             have Ny127 := As.mk hy127
             clear hy127
             have H' := As.mk H
             clear H
             have p124 : 0 ≤ (x41_2 : Int) := od
             have q124 : x41_2 < (l0.length : Int) := od
             obtain ⟨ad124, e124, hx124_0, hx124_1⟩ := at_T54 (Kd.V_reads' HO_39.out).2.2 x41_2 p124 q124
             cases e124
             replace p124 := eq_true p124
             replace q124 := eq_true q124
             try go_wp2_with (first | ((with_reducible refine gD (N := 14) rfl ?_); refine bx 14 #[.int .i64 0, .int .i64 0] 54 ?_; intro gb125 hg w24 hbox hb; replace HO_10 := As.mk (Kd.R_below (by (with_reducible repeat (first | apply Kd.R_alloc | apply Kd.R_drewN | apply Kd.R_drew)); exact HO_10.out) hb); replace HO_12 := As.mk (Kd.R_below (by (with_reducible repeat (first | apply Kd.R_alloc | apply Kd.R_drewN | apply Kd.R_drew)); exact HO_12.out) hb); replace HO_39 := As.mk (Kd.V_below (Kd.V_elderB (by (with_reducible repeat (first | apply Kd.V_alloc | apply Kd.V_drewN | apply Kd.V_drew)); exact HO_39.out) gb125 (Nat.le_of_eq hg.symm)) hb); have BK125 := As.mk (hbox); have GW125 := As.mk ((by rw [hg]; exact (bZ (by repeat (first | (with_reducible first | exact HB.out | apply bA | apply bN | apply bD | refine bT ?_ GE119.out) | exact HB.out))) : w.heap.size ≤ gb125)); have GE125 := GW125; replace HB := As.mk (bS (by repeat (first | (with_reducible first | exact HB.out | apply bA | apply bN | apply bD | refine bT ?_ GE119.out) | exact HB.out)) hb); have NB119_125 := As.mk ((by rw [hg]; exact Nat.ne_of_lt (blk_lt (g := gb119) (o := .cells #[.int .i64 t113, .int .i64 t114, .int .i64 t115, .int .i64 t116] 84 (0, 0)) (by (with_reducible repeat (first | apply kN | apply kD | apply kA)); exact BK119.out)) : gb119 ≠ gb125)); have NB125_119 := As.mk ((by rw [hg]; exact Nat.ne_of_gt (blk_lt (g := gb119) (o := .cells #[.int .i64 t113, .int .i64 t114, .int .i64 t115, .int .i64 t116] 84 (0, 0)) (by (with_reducible repeat (first | apply kN | apply kD | apply kA)); exact BK119.out)) : gb125 ≠ gb119)); replace BK119 := As.mk (kB (g := gb119) (o := .cells #[.int .i64 t113, .int .i64 t114, .int .i64 t115, .int .i64 t116] 84 (0, 0)) (by (with_reducible repeat (first | apply kN | apply kD | apply kA)); exact BK119.out) hb); clear hb hbox hg; have hnb25 := NB125_119.out; have hnc25 := NB119_125.out; have hcz26_0 : w24.cell? ⟨gb125, 0, none⟩ = some (.int .i64 0) := (kC BK125.out 0).trans rfl; have hcz26_1 : w24.cell? ⟨gb125, 1, none⟩ = some (.int .i64 0) := (kC BK125.out 1).trans rfl; have hfz26_0 := kF BK125.out 0; have hfz26_1 := kF BK125.out 1))
             have n0_ : As (Kd.R (Kd.int .i64) 3 ((w24.setCell ⟨gb125, 0, none⟩ (.int .i64 ((rd_T54 l0 x41_2).f0))).setCell ⟨gb125, 1, none⟩ (.int .i64 ((rd_T54 l0 x41_2).f1))) w.heap.size (fun k_ => (w.heap.size ≤ k_) ∧ some k_ ≠ (u12 : Value).ownBlock) v122 t120) := ⟨by (with_reducible repeat (first | apply Kd.R_alloc | apply Kd.R_drewN | apply Kd.R_drew)); exact Kd.R_mono (Kd.R_far (p := ⟨gb125, 1, none⟩) (Kd.R_far (p := ⟨gb125, 0, none⟩) (Kd.R_types HO_10.out BK125.out (by decide)) (fun _ hk => hk.2) (.int .i64 ((rd_T54 l0 x41_2).f0))) (fun _ hk => hk.2) (.int .i64 ((rd_T54 l0 x41_2).f1))) (fun _ hk => ⟨hk.1.1, hk.1.2⟩)⟩
             have n1_ : As (Kd.R (Kd.int .i64) 3 ((w24.setCell ⟨gb125, 0, none⟩ (.int .i64 ((rd_T54 l0 x41_2).f0))).setCell ⟨gb125, 1, none⟩ (.int .i64 ((rd_T54 l0 x41_2).f1))) w.heap.size (fun k_ => (w.heap.size ≤ k_) ∧ some k_ ≠ (v122 : Value).ownBlock) u12 x12_2) := ⟨by (with_reducible repeat (first | apply Kd.R_alloc | apply Kd.R_drewN | apply Kd.R_drew)); exact Kd.R_mono (Kd.R_far (p := ⟨gb125, 1, none⟩) (Kd.R_far (p := ⟨gb125, 0, none⟩) (Kd.R_types HO_12.out BK125.out (by decide)) (fun _ hk => hk.2) (.int .i64 ((rd_T54 l0 x41_2).f0))) (fun _ hk => hk.2) (.int .i64 ((rd_T54 l0 x41_2).f1))) (fun _ hk => ⟨hk.1.1, hk.1.2⟩)⟩
             have n2_ : As (Kd.V k54 54 ((w24.setCell ⟨gb125, 0, none⟩ (.int .i64 ((rd_T54 l0 x41_2).f0))).setCell ⟨gb125, 1, none⟩ (.int .i64 ((rd_T54 l0 x41_2).f1))) w.heap.size (fun k_ => (P0_ k_ ∨ w.heap.size ≤ k_) ∧ some k_ ≠ (v122 : Value).ownBlock ∧ some k_ ≠ (u12 : Value).ownBlock ∧ k_ ≠ gb119 ∧ k_ ≠ gb125) (.slice (some ad124) l0.length c0) l0) := ⟨by (with_reducible repeat (first | apply Kd.V_alloc | apply Kd.V_drewN | apply Kd.V_drew)); exact Kd.V_mono (Kd.V_far (p := ⟨gb125, 1, none⟩) (Kd.V_far (p := ⟨gb125, 0, none⟩) (Kd.V_mono HO_39.out (fun k_ hk => (⟨hk, hk.2⟩ : _ ∧ k_ ≠ gb125))) (fun _ hk => hk.2) (.int .i64 ((rd_T54 l0 x41_2).f0))) (fun _ hk => hk.2) (.int .i64 ((rd_T54 l0 x41_2).f1))) (fun _ hk => ⟨hk.1.1.1, ⟨hk.1.1.2.1, ⟨hk.1.1.2.2.1, ⟨hk.1.1.2.2.2, hk.1.2⟩⟩⟩⟩)⟩
             have n3_ : As (((w24.setCell ⟨gb125, 0, none⟩ (.int .i64 ((rd_T54 l0 x41_2).f0))).setCell ⟨gb125, 1, none⟩ (.int .i64 ((rd_T54 l0 x41_2).f1))).heap[gb119]? = some (.cells #[.int .i64 t113, .int .i64 t114, .int .i64 t115, .int .i64 t116] 84 (0, 0))) := ⟨by (with_reducible repeat (first | apply kN | apply kD | apply kA)); refine blk_far ?_ NB119_125.out _; (with_reducible repeat (first | apply kN | apply kD | apply kA)); refine blk_far ?_ NB119_125.out _; (with_reducible repeat (first | apply kN | apply kD | apply kA)); exact BK119.out⟩
             have n4_ : As (((w24.setCell ⟨gb125, 0, none⟩ (.int .i64 ((rd_T54 l0 x41_2).f0))).setCell ⟨gb125, 1, none⟩ (.int .i64 ((rd_T54 l0 x41_2).f1))).heap[gb125]? = some (.cells #[.int .i64 ((rd_T54 l0 x41_2).f0), .int .i64 ((rd_T54 l0 x41_2).f1)] 54 (0, 0))) := ⟨by (with_reducible repeat (first | apply kN | apply kD | apply kA)); refine kP (cs := #[.int .i64 ((rd_T54 l0 x41_2).f0), .int .i64 0]) ?_ 1 _ rfl; (with_reducible repeat (first | apply kN | apply kD | apply kA)); refine kP (cs := #[.int .i64 0, .int .i64 0]) ?_ 0 _ rfl; (with_reducible repeat (first | apply kN | apply kD | apply kA)); exact BK125.out⟩
             have n5_ : As (Below w.heap.size w ((w24.setCell ⟨gb125, 0, none⟩ (.int .i64 ((rd_T54 l0 x41_2).f0))).setCell ⟨gb125, 1, none⟩ (.int .i64 ((rd_T54 l0 x41_2).f1)))) := ⟨by repeat (first | (with_reducible first | exact HB.out | apply bA | apply bN | apply bD | refine bT ?_ GE119.out | refine bT ?_ GE125.out) | exact HB.out)⟩
             (try clear HO_10)
             (try clear HO_12)
             (try clear HO_39)
             (try clear BK119)
             (try clear BK125)
             (try clear HB)
             generalize ((w24.setCell ⟨gb125, 0, none⟩ (.int .i64 ((rd_T54 l0 x41_2).f0))).setCell ⟨gb125, 1, none⟩ (.int .i64 ((rd_T54 l0 x41_2).f1))) = w27 at n0_ n1_ n2_ n3_ n4_ n5_ ⊢
             have HO_10 := n0_
             have HO_12 := n1_
             have HO_39 := n2_
             have BK119 := n3_
             have BK125 := n4_
             have HB := n5_
             clear n0_ n1_ n2_ n3_ n4_ n5_
             replace HO_10 := As.mk (Kd.R_drew HO_10.out)
             replace HO_12 := As.mk (Kd.R_drew HO_12.out)
             replace HO_39 := As.mk (Kd.V_drew HO_39.out)
             replace BK119 := As.mk (kD BK119.out)
             replace BK125 := As.mk (kD BK125.out)
             replace HB := As.mk (bD HB.out)
             obtain ⟨Ao29, co29, eo29⟩ := Kd.R_slice HO_10.out
             (first | subst eo29 | (injection eo29 with f1_ f2_ f3_; have f4_ := f1_.symm; have f5_ := f3_.symm; clear f1_ f2_ f3_; subst f4_; subst f5_))
             have p126 : 0 ≤ (x41_2 : Int) := od
             have q126 : x41_2 < (t120.length : Int) := od
             obtain ⟨ad126, e126, hx126_0⟩ := Kd.at_int (Kd.R_reads' HO_10.out).2.2 x41_2 p126 q126
             cases e126
             replace p126 := eq_true p126
             replace q126 := eq_true q126
             refine start_ (n := 13) (S := fun w' => w'.cell? ⟨gb125, 0, none⟩ = some (.int .i64 ((rd_T54 l0 x41_2).f0)) ∧ w'.cell? ⟨gb125, 1, none⟩ = some (.int .i64 ((rd_T54 l0 x41_2).f1)) ∧ w'.cell? (ad126.add (x41_2).toNat) = some (.int .i64 (rd t120 x41_2))) (ds := [10, 11]) #[false, false, false, false, false, false, false, false, false, false, false, false, false] (by kernel_rfl) rfl rfl ⟨(kC BK125.out 0).trans rfl, (kC BK125.out 1).trans rfl, hx126_0⟩ (fun hHeld => ?_); refine with_tabW array_Subscripts.tab12 array_Subscripts.bits12 (fun HT_ HW_ => ?_)
             generalize w27.drew = w28 at HO_10 HO_12 HO_39 BK119 BK125 HB hx126_0 hHeld ⊢
             refine pw 0 46 13 1 HT_ ?_
             refine pw 1 47 13 3 HT_ ?_
             refine pw 3 49 13 11 HT_ ?_
             refine pw 4 50 13 27 HT_ ?_
             refine pw 5 51 13 59 HT_ ?_
             refine pw 6 52 13 123 HT_ ?_
             refine tw 2 48 13 127 HT_ HW_ hHeld ?_
             refine tw 7 53 13 255 HT_ HW_ hHeld ?_
             refine pw 8 54 13 511 HT_ ?_
             refine pw 9 55 13 1023 HT_ ?_
             refine last_ (i := 10) (N := some 56) #[true, true, true, true, true, true, true, true, true, true, true, false, false] rfl rfl (one_of HT_.out (by kernel_rfl)) (by decide) (fun K hK => ?_)
             refine value_ (w1 := ?_) (v := ?_) (by rfl) rfl ?_ ?_
             rotate_left 2
             ·go_simp
              constructor
              ·rfl
              ·rfl
             refine hK.out _ _ ?_
             clear hK K
             refine nm 56 ?_
             refine last_ (i := 11) (N := some 57) #[true, true, true, true, true, true, true, true, true, true, true, true, false] rfl rfl (one_of HT_.out (by kernel_rfl)) (by decide) (fun K hK => ?_)
             refine Kd.R_append_step (Kd.int .i64) (w0 := w) w.heap.size (by rfl) (.tmp 46) (.tmp 56) 34 3 (.int .i64 0) 8 rfl Tryz.underlying34 info3 rfl (by decide) (by omega) u12 x12_2 (wrap64 (((rd_T54 l0 x41_2).f0) + (wrap64 (Int.tdiv x1_2 (rd t120 x41_2))))) [.int .i64 (wrap64 (((rd_T54 l0 x41_2).f0) + (wrap64 (Int.tdiv x1_2 (rd t120 x41_2)))))] (fun k_ => (w.heap.size ≤ k_) ∧ some k_ ≠ (.slice (some ad126) t120.length co29 : Value).ownBlock) (fun _ => False) rfl rfl ?aP (fun _ hk => hk.elim) ?aF ?aO ?aB ?aS ?aL ?_
             (case aP => exact rfl)
             (case aB => exact (by repeat (first | (with_reducible first | exact HB.out | apply bA | apply bN | apply bD | refine bT ?_ GE119.out | refine bT ?_ GE125.out) | exact HB.out)))
             (case aF => exact (fun k_ hk => ⟨(Nat.le_trans (bZ (by repeat (first | (with_reducible first | exact HB.out | apply bA | apply bN | apply bD | refine bT ?_ GE119.out | refine bT ?_ GE125.out) | exact HB.out))) hk), Kd.fresh' (Kd.R_lt (by (with_reducible repeat (first | apply Kd.R_alloc | apply Kd.R_drewN | apply Kd.R_drew)); exact HO_10.out)) k_ hk⟩))
             (case aO => exact (by (with_reducible repeat (first | apply Kd.R_alloc | apply Kd.R_drewN | apply Kd.R_drew)); exact HO_12.out))
             (case aS => exact (bZ (by repeat (first | (with_reducible first | exact HB.out | apply bA | apply bN | apply bD | refine bT ?_ GE119.out | refine bT ?_ GE125.out) | exact HB.out))))
             (case aL => have := LMc23.out; omega)
             intro v128 w30 ho hb hg hat
             rw [← Ny127.out] at ho
             replace HO_10 := As.mk (Kd.R_after (ok := (fun k_ => (w.heap.size ≤ k_))) (by (with_reducible repeat (first | apply Kd.R_alloc | apply Kd.R_drewN | apply Kd.R_drew)); exact HO_10.out) hg hat)
             replace HO_39 := As.mk (Kd.V_afterv (ok := (fun k_ => (P0_ k_ ∨ w.heap.size ≤ k_) ∧ some k_ ≠ (.slice (some ad126) t120.length co29 : Value).ownBlock ∧ k_ ≠ gb119 ∧ k_ ≠ gb125)) (by (with_reducible repeat (first | apply Kd.V_alloc | apply Kd.V_drewN | apply Kd.V_drew)); exact Kd.V_mono HO_39.out (fun _ hk => ⟨⟨hk.1, ⟨hk.2.1, ⟨hk.2.2.2.1, hk.2.2.2.2⟩⟩⟩, hk.2.2.1⟩)) hg hat)
             replace BK119 := As.mk (blk_grown (g := gb119) (o := .cells #[.int .i64 t113, .int .i64 t114, .int .i64 t115, .int .i64 t116] 84 (0, 0)) (by (with_reducible repeat (first | apply kN | apply kD | apply kA)); exact BK119.out) hg (Kd.R_ne HO_12.out BK119.out (by decide)))
             replace BK125 := As.mk (blk_grown (g := gb125) (o := .cells #[.int .i64 ((rd_T54 l0 x41_2).f0), .int .i64 ((rd_T54 l0 x41_2).f1)] 54 (0, 0)) (by (with_reducible repeat (first | apply kN | apply kD | apply kA)); exact BK125.out) hg (Kd.R_ne HO_12.out BK125.out (by decide)))
             replace HB := As.mk (hb)
             have HO129 := As.mk (ho)
             clear HO_12
             clear ho hb hg hat
             refine hK.out _ _ ?_
             clear hK K
             refine nm 57 ?_
             refine pw 12 12 13 8191 HT_ ?_
             refine done_ (done_of HT_.out (by kernel_rfl)) ?_
             have p130 : 0 ≤ (x41_2 : Int) := od
             have q130 : x41_2 < (t120.length : Int) := od
             obtain ⟨ad130, e130, hx130_0⟩ := Kd.at_int (Kd.R_reads' HO_10.out).2.2 x41_2 p130 q130
             obtain rfl : ad126 = ad130 := (by injection e130)
             replace p130 := eq_true p130
             replace q130 := eq_true q130
             try go_wp2
             go_roundg k2
             case measure => have := HJ5.out; have := HK2.out; omega
             case rel => exact ⟨(Int.tmod x1_2 (rd t120 x41_2)), (y127), (wrap64 (x41_2 + 1)), (by first | rfl | (simp; done) | (simp [*]; done)), (by first | rfl | (simp; done) | (simp [*]; done)), H', ⟨by have := HJ5.out; have := HK2.out; omega⟩, ⟨by (with_reducible repeat (first | apply Kd.R_alloc | apply Kd.R_drewN | apply Kd.R_drew)); exact HO_10.out⟩, ⟨by (with_reducible repeat (first | apply Kd.R_alloc | apply Kd.R_drewN | apply Kd.R_drew)); exact HO129.out⟩, ⟨by (with_reducible repeat (first | apply Kd.V_alloc | apply Kd.V_drewN | apply Kd.V_drew)); exact Kd.V_mono HO_39.out (fun _ hk => ⟨hk.1.1, ⟨hk.1.2.1, ⟨hk.2, hk.1.2.2.1⟩⟩⟩)⟩, ⟨by (with_reducible repeat (first | apply kN | apply kD | apply kA)); exact BK119.out⟩, ⟨by repeat (first | (with_reducible first | exact HB.out | apply bA | apply bN | apply bD | refine bT ?_ GE119.out | refine bT ?_ GE125.out) | exact HB.out)⟩⟩
            ·rw [if_neg c23] at H
             exact absurd H (by simp)
          ·rw [if_neg c21] at H
           exact absurd H (by simp)
         ·rw [if_neg c20] at H
          exact absurd H (by simp)
        ·rw [if_neg c19] at H
         exact absurd H (by simp)
       ·rw [if_neg c18] at H
        have c18b0 : decide (x41_2 < (l0.length : Int)) = false := decide_eq_false c18
        clear c18
        simp only [Option.some.injEq, Prod.mk.injEq] at H
        obtain ⟨rfl, rfl⟩ := H
        go_wp2
        go_ret2
        exact ⟨_, by first | rfl | (simp [eN, eS] <;> rfl) | (simp [*, eN, eS] <;> rfl), by (with_reducible repeat (first | apply Kd.R_alloc | apply Kd.R_drewN | apply Kd.R_drew)); exact Kd.R_mono HO_12.out (fun _ hk => hk.1), by repeat (first | (with_reducible first | exact HB.out | apply bA | apply bN | apply bD | refine bT ?_ GE119.out) | exact HB.out)⟩
 ·rw [if_neg c4] at H
  have c4b0 : (t112 == 0) = false := beq_eq_false_iff_ne.mpr c4
  have c4b1 : (t112 != 0) = true := bne_iff_ne.mpr c4
  simp only [Option.some.injEq, Prod.mk.injEq] at H
  obtain ⟨rfl, rfl⟩ := H
  go_enter Tryz.func23, Tryz.ntmps23
  go_wp2_with (first | ((with_reducible refine gD (N := 16) rfl ?_); refine Kd.N_lit (Kd.slice 54 k54) _ 22 ?hg (N' := 16) ?hd (xs := ([l0] : List (List (S54)))) (inner := [.slice A0 l0.length c0]) (ok := (fun k_ => (P0_ k_ ∨ w.heap.size ≤ k_))) (okp := (fun k_ => (P0_ k_ ∨ w.heap.size ≤ k_))) ?hr ?hp (fun _ hk => hk) ((show ∀ k_, w.heap.size ≤ k_ → (fun k_ => (P0_ k_ ∨ w.heap.size ≤ k_)) k_ from fun k_ hk => (.inr (Nat.le_trans (bZ zz) hk))) _ (Nat.le_refl _)) (Below.refl _ _) (Nat.le_refl _) (by simp) ?_; (case hd => rfl); (case hg => rfl); (case hr => first | (go_simp; done) | (go_simp; rfl)); (case hp => exact (Reps.one (show Kd.FK (Kd.slice 54 k54) _ _ l0 [.slice A0 l0.length c0] from (Kd.FK_slice_mk (Kd.V_reads' (Kd.V_mono (ok' := (fun k_ => (P0_ k_ ∨ w.heap.size ≤ k_))) (HO0.out) (fun k_ hk => hk))).2.1 (Kd.V_F (Kd.V_mono (ok' := (fun k_ => (P0_ k_ ∨ w.heap.size ≤ k_))) (HO0.out) (fun k_ hk => hk))))) (Reps.none _ _))); intro v110 w31 ho32 hb hg_ hnew_; clear hg_ hnew_; (first | rw [← Ny109.out] at ho32 | (simp only [Int.reduceToNat] at ho32; rw [← Ny109.out] at ho32)); replace HO0 := As.mk (Kd.V_elder' (by (with_reducible repeat (first | apply Kd.V_alloc | apply Kd.V_drewN | apply Kd.V_drew)); exact HO0.out) (Kd.N_base ho32) hb); have HO111 := As.mk (Kd.N_lower ho32 (bZ zz)); replace HB := As.mk (bS zz hb); clear hb ho32; obtain ⟨Ao33, co33, eo33⟩ := Kd.N_slice HO111.out; subst eo33) | ((with_reducible refine gC (f := 27) rfl ?_); refine gl 17 Tryz.func27 #[.slice Ao33 y109.length co33] ?_; (with_reducible refine (array_checked.calls _ _ y109 t112 _ ?side1 ?side2 A3.out).mono ?_); (case side1 => repeat (first | exact (Kd.N_reads' HO111.out).2.2 | (with_reducible first | apply Kd.C_alloc | apply Kd.C_drewN | apply Kd.C_drew))); (case side2 => exact (Kd.N_reads' HO111.out).2.1); rintro e w34 ⟨rfl, hb⟩; refine ⟨_, rfl, ?_⟩; replace HO0 := As.mk (Kd.V_below (by (with_reducible repeat (first | apply Kd.V_alloc | apply Kd.V_drewN | apply Kd.V_drew)); exact HO0.out) hb); replace HO111 := As.mk (Kd.N_below (by (with_reducible repeat (first | apply Kd.N_alloc | apply Kd.N_drewN | apply Kd.N_drew)); exact HO111.out) hb); replace HB := As.mk (bS zz hb); (try clear hb)))
  go_ret2
  exact ⟨_, by first | rfl | (simp [eN, eS] <;> rfl) | (simp [*, eN, eS] <;> rfl), by first | exact Kd.R_nil _ _ _ _ _ | exact Kd.N_nil _ _ _ _ _ | exact Kd.V_nil _ _ _ _ _ | exact Kd.Q_nil _ _ _ _ _ | exact Kd.S_nil _ _ _ _ _, zz⟩
end Go.Proofs.Q
end
