/-
 Texts of the proof, in build order: words that the walks use, contracts of functions, plain facts.
-/
import Derived.Test.YtcjjmhgboibbgaaGreatBa6
import Derived.Test.YtcjjmhgboibbgaaGreatBa9
import Derived.Test.YtcjjmhgboibbgaaGreatBa15
import Derived.Test.YtcjjmhgboibbgaaGreatBa23
set_option maxHeartbeats 40000000
set_option maxRecDepth 100000
set_option linter.unusedVariables false
set_option linter.unusedSimpArgs false
section
namespace Go.Proofs.Q
open RowKit Pw Pl Pm
attribute [local go_sem] max2_int min2_int max_two min_two max_three min_three max_four min_four
theorem info34 : (Tryz.prog.info? 34).map (fun i => (i.zero, i.size, i.bytes)) = some (some (.slice none 0 0), 1, 24) := by kernel_rfl
def rd_L10 (xs : List (List Int)) (i : Int) : (List Int) := xs.getD i.toNat ([] : List Int)
theorem at_L10 {w : World} {A : Option Addr} {n : Nat} {xs : List (List Int)} (h : Kd.C (Kd.slice 3 (Kd.int .i64)) w A n xs) (i : Int) (h0 : 0 ≤ i) (h1 : i < n) : ∃ ad A0 c0, A = some ad ∧ w.cell? (ad.add i.toNat) = some (.slice A0 (rd_L10 xs i).length c0) ∧ (rd_L10 xs i).length ≤ c0 ∧ (Kd.int .i64).C w A0 (rd_L10 xs i).length (rd_L10 xs i) := by
 obtain ⟨ad, c, e, _, hK, hc0⟩ := Kd.C_get h ([] : List Int) i h0 h1
 have hc : ∀ j u, c[j]? = some u → w.cell? (ad.add (i.toNat * 1 + j)) = some u := hc0
 obtain ⟨A0, c0, rfl, l0, g0⟩ := hK
 exact ⟨ad, A0, c0, e, by have hq := hc 0 _ rfl; rwa [Nat.mul_one, Nat.add_zero] at hq, l0, g0⟩
mutual
def manorboyref08_All.l0 : Nat → List (S54) → List (List Int) → Int → Option ((List (List Int)))
 | 0, _, _, _ => none
 | k + 1, x0, x3, x4 => if x4 < (x0.length : Int) then (manorboyref08_All.l1 k x0 x3 x4 ([] : List (List Int)) 0) else (some x3)
def manorboyref08_All.l1 : Nat → List (S54) → List (List Int) → Int → List (List Int) → Int → Option ((List (List Int)))
 | 0, _, _, _, _, _ => none
 | k + 1, x0, x3, x4, x5, x6 => if x6 < (x3.length : Int) then (if 0 ≤ x4 then (if x4 < (x0.length : Int) then (manorboyref08_All.l2 k x0 x3 x4 x5 x6 ((rd_T54 x0 x4).f0)) else (none)) else (none)) else (manorboyref08_All.l0 k x0 x5 (wrap64 (x4 + 1)))
def manorboyref08_All.l2 : Nat → List (S54) → List (List Int) → Int → List (List Int) → Int → Int → Option ((List (List Int)))
 | 0, _, _, _, _, _, _ => none
 | k + 1, x0, x3, x4, x5, x6, x7 => if 0 ≤ x4 then (if x4 < (x0.length : Int) then (if x7 ≤ ((rd_T54 x0 x4).f1) then ((some (([] : List Int) : List Int)).bind fun y189 => (if 0 ≤ x6 then (if x6 < (x3.length : Int) then (if y189.length + (rd_L10 x3 x6).length < 17592186044416 then ((some (y189 ++ (rd_L10 x3 x6) : List Int)).bind fun y193 => (if y193.length < 17592186044416 then (if x5.length < 5864062014805 then (manorboyref08_All.l2 k x0 x3 x4 (x5 ++ [(y193 ++ [x7])]) x6 (wrap64 (x7 + 1))) else (none)) else (none))) else (none)) else (none)) else (none))) else (manorboyref08_All.l1 k x0 x3 x4 x5 (wrap64 (x6 + 1)))) else (none)) else (none)
end
def manorboyref08_All.f (k : Nat) (l0 : List (S54)) : Option ((List (List Int))) := manorboyref08_All.l0 k l0 (([(([] : List Int))] : List (List Int))) 0
theorem manorboyref08_All.calls (k : Nat) (A0 : Option Addr) (c0 : Nat) (l0 : List (S54)) (r : List (List Int)) (w : World) (hr0 : Kd.C k54 w A0 l0.length l0) (hc0 : l0.length ≤ c0) (h : manorboyref08_All.f k l0 = some r) :
  Calls Tryz.prog 39 #[.slice A0 l0.length c0] w fun e w' => ∃ v0_ : Value, e = .returned (v0_) ∧ Kd.N (Kd.slice 3 (Kd.int .i64)) 34 w' w.heap.size (fun k_ => (w.heap.size ≤ k_)) v0_ r ∧ Below w.heap.size w w' := by
 have HR0 := As.mk hr0
 have HC0 := As.mk hc0
 clear hr0 hc0
 have HB := As.mk (Below.refl w.heap.size w)
 have H : (manorboyref08_All.l0 k l0 (([(([] : List Int))] : List (List Int))) 0) = some r := h
 clear h
 obtain ⟨y181, hy181⟩ : ∃ y_ : List Int, y_ = (([] : List Int)) := ⟨_, rfl⟩
 replace H : (manorboyref08_All.l0 k l0 (([y181] : List (List Int))) 0) = some r := by first | (rw [hy181]; with_reducible exact H) | (have H2_ := (Option.bind_some _ _).symm.trans H; rw [hy181]; with_reducible exact H2_) | (have H2_ := (Option.bind_some _ _).symm.trans H; with_reducible exact H2_) | with_reducible exact H | (rw [hy181]; exact H) | exact H
 have Ny181 := As.mk hy181
 clear hy181
 obtain ⟨y184, hy184⟩ : ∃ y_ : List (List Int), y_ = (([y181] : List (List Int))) := ⟨_, rfl⟩
 replace H : (manorboyref08_All.l0 k l0 y184 0) = some r := by first | (rw [hy184]; with_reducible exact H) | (have H2_ := (Option.bind_some _ _).symm.trans H; rw [hy184]; with_reducible exact H2_) | (have H2_ := (Option.bind_some _ _).symm.trans H; with_reducible exact H2_) | with_reducible exact H | (rw [hy184]; exact H) | exact H
 have Ny184 := As.mk hy184
 clear hy184
 have H' := As.mk H
 clear H
 go_enter Tryz.func39, Tryz.ntmps39
 go_wp2_with (first | ((with_reducible refine gD (N := 8) rfl ?_); refine Kd.R_lit (Kd.int .i64) _ 3 ?hg (N := 8) ?hd (xs := ([] : List Int)) (inner := []) (ok := fun _ => True) (okp := fun _ => True) ?hr ?hp (fun _ hk => hk) trivial (Below.refl _ _) (Nat.le_refl _) (by simp) ?_; (case hd => rfl); (case hg => rfl); (case hr => first | (go_simp; done) | (go_simp; rfl)); (case hp => exact (Reps.none _ _)); intro v182 w2 ho3 hb hg_ hnew_; clear hg_ hnew_; (first | rw [← Ny181.out] at ho3 | (simp only [Int.reduceToNat] at ho3; rw [← Ny181.out] at ho3)); have HO183 := As.mk (Kd.R_lower (Kd.R_newM (M := fun k_ => (w.heap.size ≤ k_)) ho3 (bZ (by repeat (first | exact HB.out | apply bA | apply bN | apply bD))) (fun k_ h_ => h_)) (bZ (by repeat (first | exact HB.out | apply bA | apply bN | apply bD)))); replace HB := As.mk (bS (by repeat (first | exact HB.out | apply bA | apply bN | apply bD)) hb); clear hb ho3; obtain ⟨Ao4, co4, eo4⟩ := Kd.R_slice HO183.out; subst eo4) | ((with_reducible refine gD (N := 9) rfl ?_); refine Kd.N_lit (Kd.slice 3 (Kd.int .i64)) _ 34 ?hg (N' := 9) ?hd (xs := ([y181] : List (List Int))) (inner := [.slice Ao4 y181.length co4]) (ok := (fun k_ => (w.heap.size ≤ k_))) (okp := (fun k_ => (w.heap.size ≤ k_))) ?hr ?hp (fun _ hk => hk) ((show ∀ k_, w2.heap.size ≤ k_ → (fun k_ => (w.heap.size ≤ k_)) k_ from fun k_ hk => (Nat.le_trans (bZ (by repeat (first | exact HB.out | apply bA | apply bN | apply bD))) hk)) _ (Nat.le_refl _)) (Below.refl _ _) (Nat.le_refl _) (by simp) ?_; (case hd => rfl); (case hg => rfl); (case hr => first | (go_simp; done) | (go_simp; rfl)); (case hp => exact (Reps.one (show Kd.FK (Kd.slice 3 (Kd.int .i64)) _ _ y181 [.slice Ao4 y181.length co4] from (Kd.FK_slice_mk (Kd.R_reads' (Kd.R_mono (ok' := (fun k_ => (w.heap.size ≤ k_))) (HO183.out) (fun k_ hk => hk.1))).2.1 (Kd.R_F (Kd.R_mono (ok' := (fun k_ => (w.heap.size ≤ k_))) (HO183.out) (fun k_ hk => hk.1))))) (Reps.none _ _))); intro v185 w5 ho6 hb hg_ hnew_; clear hg_ hnew_; (first | rw [← Ny184.out] at ho6 | (simp only [Int.reduceToNat] at ho6; rw [← Ny184.out] at ho6)); have HO186 := As.mk (Kd.N_lower ho6 (bZ (by repeat (first | exact HB.out | apply bA | apply bN | apply bD)))); replace HB := As.mk (bS (by repeat (first | exact HB.out | apply bA | apply bN | apply bD)) hb); clear HO183; clear hb ho6))
 go_loopg [3, 4] k (fun kq v3 v4 w' => ∃ (x3_1 : List (List Int)) (x4_1 : Int), v4 = .int .i64 x4_1 ∧ As (manorboyref08_All.l0 kq l0 x3_1 x4_1 = some r) ∧ As (kq ≤ k) ∧ As (Kd.N (Kd.slice 3 (Kd.int .i64)) 34 w' w.heap.size (fun k_ => (w.heap.size ≤ k_)) v3 x3_1) ∧ As (Below w.heap.size w w'))
 case atStart => exact ⟨(y184), (0), (by first | rfl | (simp; done) | (simp [*]; done)), H', ⟨Nat.le_refl _⟩, ⟨by (with_reducible repeat (first | apply Kd.N_alloc | apply Kd.N_drewN | apply Kd.N_drew)); exact HO186.out⟩, ⟨by repeat (first | exact HB.out | apply bA | apply bN | apply bD)⟩⟩
 case round =>
  clear H'
  try clear p2
  try clear c3
  obtain ⟨x3_1, x4_1, rfl, HA, HK1, HO_3, HB⟩ := hrel
  cases gk with
  | zero => exact absurd HA.out (by simp [manorboyref08_All.l0])
  | succ k1 =>
   have H := HA.out
   clear HA
   simp only [manorboyref08_All.l0] at H
   by_cases c7 : x4_1 < (l0.length : Int)
   ·rw [if_pos c7] at H
    have c7b0 : decide (x4_1 < (l0.length : Int)) = true := decide_eq_true c7
    clear c7
    have H' := As.mk H
    clear H
    go_wp2
    go_loopg [5, 6] k1 (fun kq v5 v6 w' => ∃ (x5_2 : List (List Int)) (x6_2 : Int), v6 = .int .i64 x6_2 ∧ As (manorboyref08_All.l1 kq l0 x3_1 x4_1 x5_2 x6_2 = some r) ∧ As (kq ≤ k1) ∧ As (Kd.N (Kd.slice 3 (Kd.int .i64)) 34 w' w.heap.size (fun k_ => (w.heap.size ≤ k_) ∧ some k_ ≠ (v5 : Value).ownBlock) u3 x3_1) ∧ As (Kd.N (Kd.slice 3 (Kd.int .i64)) 34 w' w.heap.size (fun k_ => (w.heap.size ≤ k_) ∧ some k_ ≠ (u3 : Value).ownBlock) v5 x5_2) ∧ As (Below w.heap.size w w'))
    case atStart => exact ⟨(([] : List (List Int))), (0), (by first | rfl | (simp; done) | (simp [*]; done)), H', ⟨Nat.le_refl _⟩, ⟨by (with_reducible repeat (first | apply Kd.N_alloc | apply Kd.N_drewN | apply Kd.N_drew)); exact Kd.N_mono HO_3.out (fun _ hk => ⟨hk, (by simp [Value.ownBlock])⟩)⟩, ⟨by first | exact Kd.S_nil _ _ _ _ _ | exact Kd.N_nil _ _ _ _ _ | exact Kd.V_nil _ _ _ _ _ | exact Kd.Q_nil _ _ _ _ _ | exact Kd.R_nil _ _ _ _ _⟩, ⟨by repeat (first | exact HB.out | apply bA | apply bN | apply bD)⟩⟩
    case round =>
     clear H'
     try clear p2
     try clear c3
     try clear c7
     try clear c7b0
     try clear p2
     obtain ⟨x5_2, x6_2, rfl, HA, HK2, HO_3, HO_5, HB⟩ := hrel
     cases gk with
     | zero => exact absurd HA.out (by simp [manorboyref08_All.l1])
     | succ k2 =>
      have H := HA.out
      clear HA
      simp only [manorboyref08_All.l1] at H
      by_cases c8 : x6_2 < (x3_1.length : Int)
      ·rw [if_pos c8] at H
       have c8b0 : decide (x6_2 < (x3_1.length : Int)) = true := decide_eq_true c8
       clear c8
       by_cases c9 : 0 ≤ x4_1
       ·rw [if_pos c9] at H
        have c9b0 : decide (0 ≤ x4_1) = true := decide_eq_true c9
        clear c9
        by_cases c10 : x4_1 < (l0.length : Int)
        ·rw [if_pos c10] at H
         have c10b0 : decide (x4_1 < (l0.length : Int)) = true := decide_eq_true c10
         clear c10
         have H' := As.mk H
         clear H
         obtain ⟨Ao11, co11, eo11⟩ := Kd.N_slice HO_3.out
         subst eo11
         have p187 : 0 ≤ (x4_1 : Int) := of_decide_eq_true (by with_reducible assumption)
         have q187 : x4_1 < (l0.length : Int) := of_decide_eq_true (by with_reducible assumption)
         obtain ⟨ad187, e187, hx187_0, hx187_1⟩ := at_T54 HR0.out x4_1 p187 q187
         cases e187
         replace hx187_0 := (HB.out.cell (World.block_lt_of_cell? w _ hx187_0)).trans hx187_0
         replace hx187_1 := (HB.out.cell (World.block_lt_of_cell? w _ hx187_1)).trans hx187_1
         replace p187 := eq_true p187
         replace q187 := eq_true q187
         go_wp2
         go_loopg [5, 7] k2 (fun kq v5 v7 w' => ∃ (x5_3 : List (List Int)) (x7_3 : Int), v7 = .int .i64 x7_3 ∧ As (manorboyref08_All.l2 kq l0 x3_1 x4_1 x5_3 x6_2 x7_3 = some r) ∧ As (kq ≤ k2) ∧ As (Kd.N (Kd.slice 3 (Kd.int .i64)) 34 w' w.heap.size (fun k_ => (w.heap.size ≤ k_) ∧ some k_ ≠ (v5 : Value).ownBlock) (.slice Ao11 x3_1.length co11) x3_1) ∧ As (Kd.N (Kd.slice 3 (Kd.int .i64)) 34 w' w.heap.size (fun k_ => (w.heap.size ≤ k_) ∧ some k_ ≠ ((.slice Ao11 x3_1.length co11) : Value).ownBlock) v5 x5_3) ∧ As (Below w.heap.size w w'))
         case atStart => exact ⟨(x5_2), ((rd_T54 l0 x4_1).f0), (by first | rfl | (simp; done) | (simp [*]; done)), H', ⟨Nat.le_refl _⟩, ⟨by (with_reducible repeat (first | apply Kd.N_alloc | apply Kd.N_drewN | apply Kd.N_drew)); exact HO_3.out⟩, ⟨by (with_reducible repeat (first | apply Kd.N_alloc | apply Kd.N_drewN | apply Kd.N_drew)); exact HO_5.out⟩, ⟨by repeat (first | exact HB.out | apply bA | apply bN | apply bD)⟩⟩
         case round =>
          clear H'
          try clear c1
          try clear p1
          try clear q1
          try clear hx1
          try clear p2
          try clear c3
          try clear c7
          try clear c7b0
          try clear c8
          try clear c8b0
          try clear c9
          try clear c9b0
          try clear c10
          try clear c10b0
          try clear hx187_0
          try clear hx187_1
          try clear p187
          try clear p2
          try clear q187
          obtain ⟨x5_3, x7_3, rfl, HA, HK3, HO_3, HO_5, HB⟩ := hrel
          cases gk with
          | zero => exact absurd HA.out (by simp [manorboyref08_All.l2])
          | succ k3 =>
           have H := HA.out
           clear HA
           simp only [manorboyref08_All.l2] at H
           by_cases c12 : 0 ≤ x4_1
           ·rw [if_pos c12] at H
            have c12b0 : decide (0 ≤ x4_1) = true := decide_eq_true c12
            clear c12
            by_cases c13 : x4_1 < (l0.length : Int)
            ·rw [if_pos c13] at H
             have c13b0 : decide (x4_1 < (l0.length : Int)) = true := decide_eq_true c13
             clear c13
             by_cases c14 : x7_3 ≤ ((rd_T54 l0 x4_1).f1)
             ·rw [if_pos c14] at H
              have c14b0 : decide (x7_3 ≤ ((rd_T54 l0 x4_1).f1)) = true := decide_eq_true c14
              clear c14
              obtain ⟨y189, hy189⟩ : ∃ y_ : List Int, y_ = (([] : List Int)) := ⟨_, rfl⟩
              replace H : (if 0 ≤ x6_2 then (if x6_2 < (x3_1.length : Int) then (if y189.length + (rd_L10 x3_1 x6_2).length < 17592186044416 then ((some (y189 ++ (rd_L10 x3_1 x6_2) : List Int)).bind fun y193 => (if y193.length < 17592186044416 then (if x5_3.length < 5864062014805 then (manorboyref08_All.l2 k3 l0 x3_1 x4_1 (x5_3 ++ [(y193 ++ [x7_3])]) x6_2 (wrap64 (x7_3 + 1))) else (none)) else (none))) else (none)) else (none)) else (none)) = some r := by first | (rw [hy189]; with_reducible exact H) | (have H2_ := (Option.bind_some _ _).symm.trans H; rw [hy189]; with_reducible exact H2_) | (have H2_ := (Option.bind_some _ _).symm.trans H; with_reducible exact H2_) | with_reducible exact H | (rw [hy189]; exact H) | exact H
              have Ny189 := As.mk hy189
              clear hy189
              by_cases c15 : 0 ≤ x6_2
              ·rw [if_pos c15] at H
               have c15b0 : decide (0 ≤ x6_2) = true := decide_eq_true c15
               clear c15
               by_cases c16 : x6_2 < (x3_1.length : Int)
               ·rw [if_pos c16] at H
                have c16b0 : decide (x6_2 < (x3_1.length : Int)) = true := decide_eq_true c16
                clear c16
                by_cases c17 : y189.length + (rd_L10 x3_1 x6_2).length < 17592186044416
                ·rw [if_pos c17] at H
                 have LMc17 := As.mk c17
                 clear c17
                 obtain ⟨y193, hy193⟩ : ∃ y_ : List Int, y_ = (y189 ++ (rd_L10 x3_1 x6_2)) := ⟨_, rfl⟩
                 replace H : (if y193.length < 17592186044416 then (if x5_3.length < 5864062014805 then (manorboyref08_All.l2 k3 l0 x3_1 x4_1 (x5_3 ++ [(y193 ++ [x7_3])]) x6_2 (wrap64 (x7_3 + 1))) else (none)) else (none)) = some r := by first | (rw [hy193]; with_reducible exact H) | (have H2_ := (Option.bind_some _ _).symm.trans H; rw [hy193]; with_reducible exact H2_) | (have H2_ := (Option.bind_some _ _).symm.trans H; with_reducible exact H2_) | with_reducible exact H | (rw [hy193]; exact H) | exact H
                 have Ny193 := As.mk hy193
                 clear hy193
                 by_cases c18 : y193.length < 17592186044416
                 ·rw [if_pos c18] at H
                  have LMc18 := As.mk c18
                  clear c18
                  obtain ⟨y196, hy196⟩ : ∃ y_ : List Int, y_ = (y193 ++ [x7_3]) := ⟨_, rfl⟩
                  replace H : (if x5_3.length < 5864062014805 then (manorboyref08_All.l2 k3 l0 x3_1 x4_1 (x5_3 ++ [y196]) x6_2 (wrap64 (x7_3 + 1))) else (none)) = some r := by first | (rw [hy196]; with_reducible exact H) | (have H2_ := (Option.bind_some _ _).symm.trans H; rw [hy196]; with_reducible exact H2_) | (have H2_ := (Option.bind_some _ _).symm.trans H; with_reducible exact H2_) | with_reducible exact H | (rw [hy196]; exact H) | exact H
                  have Ny196 := As.mk hy196
                  clear hy196
                  by_cases c19 : x5_3.length < 5864062014805
                  ·rw [if_pos c19] at H
                   have LMc19 := As.mk c19
                   clear c19
                   obtain ⟨y199, hy199⟩ : ∃ y_ : List (List Int), y_ = (x5_3 ++ [y196]) := ⟨_, rfl⟩
                   replace H : (manorboyref08_All.l2 k3 l0 x3_1 x4_1 y199 x6_2 (wrap64 (x7_3 + 1))) = some r := by first | (rw [hy199]; with_reducible exact H) | (have H2_ := (Option.bind_some _ _).symm.trans H; rw [hy199]; with_reducible exact H2_) | (have H2_ := (Option.bind_some _ _).symm.trans H; with_reducible exact H2_) | with_reducible exact H | (rw [hy199]; exact H) | exact H
                   have Ny199 := As.mk hy199
                   clear hy199
                   have H' := As.mk H
                   clear H
                   have p188 : 0 ≤ (x4_1 : Int) := of_decide_eq_true (by with_reducible assumption)
                   have q188 : x4_1 < (l0.length : Int) := of_decide_eq_true (by with_reducible assumption)
                   obtain ⟨ad188, e188, hx188_0, hx188_1⟩ := at_T54 HR0.out x4_1 p188 q188
                   obtain rfl : ad187 = ad188 := (by injection e188)
                   replace hx188_0 := (HB.out.cell (World.block_lt_of_cell? w _ hx188_0)).trans hx188_0
                   replace hx188_1 := (HB.out.cell (World.block_lt_of_cell? w _ hx188_1)).trans hx188_1
                   replace p188 := eq_true p188
                   replace q188 := eq_true q188
                   go_wp2_with (first | ((with_reducible refine gD (N := 37) rfl ?_); refine Kd.R_lit (Kd.int .i64) _ 3 ?hg (N := 37) ?hd (xs := ([] : List Int)) (inner := []) (ok := fun _ => True) (okp := fun _ => True) ?hr ?hp (fun _ hk => hk) trivial (Below.refl _ _) (Nat.le_refl _) (by simp) ?_; (case hd => rfl); (case hg => rfl); (case hr => first | (go_simp; done) | (go_simp; rfl)); (case hp => exact (Reps.none _ _)); intro v190 w20 ho21 hb hg_ hnew_; clear hg_ hnew_; (first | rw [← Ny189.out] at ho21 | (simp only [Int.reduceToNat] at ho21; rw [← Ny189.out] at ho21)); replace HO_3 := As.mk (Kd.N_elder' (by (with_reducible repeat (first | apply Kd.N_alloc | apply Kd.N_drewN | apply Kd.N_drew)); exact HO_3.out) (Kd.R_base ho21) hb); replace HO_5 := As.mk (Kd.N_elder' (by (with_reducible repeat (first | apply Kd.N_alloc | apply Kd.N_drewN | apply Kd.N_drew)); exact HO_5.out) (Kd.R_base ho21) hb); have HO191 := As.mk (Kd.R_lower (Kd.R_newM (M := fun k_ => (w.heap.size ≤ k_)) ho21 (bZ (by repeat (first | exact HB.out | apply bA | apply bN | apply bD))) (fun k_ h_ => h_)) (bZ (by repeat (first | exact HB.out | apply bA | apply bN | apply bD)))); replace HB := As.mk (bS (by repeat (first | exact HB.out | apply bA | apply bN | apply bD)) hb); clear hb ho21; have p192 : 0 ≤ (x6_2 : Int) := of_decide_eq_true (by with_reducible assumption); have q192 : x6_2 < (x3_1.length : Int) := of_decide_eq_true (by with_reducible assumption); obtain ⟨ad192, A192_0, c192_0, e192, hx192_0, hl192_0, hi192_0⟩ := at_L10 (Kd.N_reads' HO_3.out).2.2 x6_2 p192 q192; cases e192; obtain ⟨ce192, hce192, hMe192, hcc192⟩ := Kd.N_get HO_3.out [] x6_2 p192 (by first | exact q192 | exact of_decide_eq_true (by with_reducible assumption) | (have e_ := (Kd.N_reads' HO_3.out).1; omega)); obtain ⟨ua192_0, uc192_0, rfl, ul192_0, ge192_0⟩ := Kd.FK_slice_open hMe192; have hv192_0 := hcc192 0 _ rfl; rw [Nat.add_zero, show ((Kd.slice 3 (Kd.int .i64))).sz = 1 from rfl, Nat.mul_one] at hv192_0; replace hv192_0 := Option.some.inj (hv192_0.symm.trans hx192_0); injection hv192_0 with hva_ hvn_ hvc_; rw [hva_] at ge192_0; rw [hvc_] at ul192_0; have HL192_0 := As.mk (show Kd.V (Kd.int .i64) 3 _ w.heap.size _ _ (rd_L10 x3_1 x6_2) from Kd.V_mk ul192_0 ge192_0); clear hva_ hvn_ hvc_ ge192_0 ul192_0; clear hcc192 hce192; have HR192_0 := As.mk hi192_0; have HC192_0 := As.mk hl192_0; clear hi192_0 hl192_0; replace p192 := eq_true p192; replace q192 := eq_true q192) | ((with_reducible refine gB (b := .append) (xs := #[.tmp 37, .tmp 41]) rfl ?_); at_builtin; refine Kd.R_append_rows (Kd.int .i64) (w0 := w) w.heap.size rfl (.tmp 37) (.tmp 41) 34 3 (.int .i64 0) 8 rfl Tryz.underlying34 info3 rfl (by decide) (by omega) v190 y189 (rd_L10 x3_1 x6_2) _ _ _ (fun k_ => (w.heap.size ≤ k_)) (fun _ => False) rfl rfl ?aO ?aR (fun _ _ h => h) (fun _ h => h.elim) ?aF ?aB ?aS ?aL ?_; (case aR => repeat (first | exact (by repeat (first | (with_reducible exact HR192_0.out) | (with_reducible refine Kd.C_alloc ?_ _) | (with_reducible refine Kd.C_drewN ?_ _) | (with_reducible refine Kd.C_drew ?_) | exact HR192_0.out)) | (with_reducible refine Kd.C_alloc ?_ _) | (with_reducible refine Kd.C_drewN ?_ _) | (with_reducible refine Kd.C_drew ?_))); (case aB => exact (by repeat (first | exact HB.out | apply bA | apply bN | apply bD))); (case aF => exact (fun k_ hk => (Nat.le_trans (bZ (by repeat (first | exact HB.out | apply bA | apply bN | apply bD))) hk))); (case aO => exact (by (with_reducible repeat (first | apply Kd.R_alloc | apply Kd.R_drewN | apply Kd.R_drew)); exact Kd.R_mono HO191.out (fun _ hk => hk.1))); (case aS => exact (bZ (by repeat (first | exact HB.out | apply bA | apply bN | apply bD)))); (case aL => have := LMc17.out; omega); intro v194 w22 ho hb hg hat; rw [← Ny193.out] at ho; replace HO_3 := As.mk (Kd.N_afterv (ok := (fun k_ => (w.heap.size ≤ k_) ∧ some k_ ≠ (u5 : Value).ownBlock)) (by (with_reducible repeat (first | apply Kd.N_alloc | apply Kd.N_drewN | apply Kd.N_drew)); exact HO_3.out) hg hat); replace HO_5 := As.mk (Kd.N_afterv (ok := (fun k_ => (w.heap.size ≤ k_) ∧ some k_ ≠ (.slice (some ad192) x3_1.length co11 : Value).ownBlock)) (by (with_reducible repeat (first | apply Kd.N_alloc | apply Kd.N_drewN | apply Kd.N_drew)); exact HO_5.out) hg hat); replace HL192_0 := As.mk (Kd.V_afterv (ok := (fun k_ => (w.heap.size ≤ k_) ∧ some k_ ≠ (.slice (some ad192) x3_1.length co11 : Value).ownBlock ∧ some k_ ≠ (u5 : Value).ownBlock)) (by (with_reducible repeat (first | apply Kd.V_alloc | apply Kd.V_drewN | apply Kd.V_drew)); exact Kd.V_mono HL192_0.out (fun _ hk => ⟨⟨hk.1.1.1, ⟨hk.2, hk.1.1.2⟩⟩, hk.1.2⟩)) hg hat); replace HB := As.mk (hb); have HO195 := As.mk (ho); clear HO191; clear ho hb hg hat) | ((with_reducible refine gB (b := .append) (xs := #[.tmp 42, .tmp 44]) rfl ?_); at_builtin; refine Kd.R_append (Kd.int .i64) (w0 := w) w.heap.size rfl (.tmp 42) (.tmp 44) 34 3 (.int .i64 0) 8 rfl Tryz.underlying34 info3 rfl (by decide) (by omega) v194 y193 x7_3 [.int .i64 x7_3] (fun k_ => (w.heap.size ≤ k_)) (fun _ => False) rfl rfl ?aP (fun _ hk => hk.elim) ?aF ?aO ?aB ?aS ?aL ?_; (case aP => exact rfl); (case aB => exact (by repeat (first | exact HB.out | apply bA | apply bN | apply bD))); (case aF => exact (fun k_ hk => (Nat.le_trans (bZ (by repeat (first | exact HB.out | apply bA | apply bN | apply bD))) hk))); (case aO => exact (by (with_reducible repeat (first | apply Kd.R_alloc | apply Kd.R_drewN | apply Kd.R_drew)); exact HO195.out)); (case aS => exact (bZ (by repeat (first | exact HB.out | apply bA | apply bN | apply bD)))); (case aL => have := LMc18.out; omega); intro v197 w23 ho hb hg hat; rw [← Ny196.out] at ho; replace HO_3 := As.mk (Kd.N_afterv (ok := (fun k_ => (w.heap.size ≤ k_) ∧ some k_ ≠ (u5 : Value).ownBlock)) (by (with_reducible repeat (first | apply Kd.N_alloc | apply Kd.N_drewN | apply Kd.N_drew)); exact HO_3.out) hg hat); replace HO_5 := As.mk (Kd.N_afterv (ok := (fun k_ => (w.heap.size ≤ k_) ∧ some k_ ≠ (.slice (some ad192) x3_1.length co11 : Value).ownBlock)) (by (with_reducible repeat (first | apply Kd.N_alloc | apply Kd.N_drewN | apply Kd.N_drew)); exact HO_5.out) hg hat); replace HL192_0 := As.mk (Kd.V_afterv (ok := (fun k_ => (w.heap.size ≤ k_) ∧ some k_ ≠ (.slice (some ad192) x3_1.length co11 : Value).ownBlock ∧ some k_ ≠ (u5 : Value).ownBlock)) (by (with_reducible repeat (first | apply Kd.V_alloc | apply Kd.V_drewN | apply Kd.V_drew)); exact HL192_0.out) hg hat); replace HB := As.mk (hb); have HO198 := As.mk (ho); clear HO195; clear ho hb hg hat; obtain ⟨Ao25, co25, eo25⟩ := Kd.R_slice HO198.out; subst eo25) | ((with_reducible refine gB (b := .append) (xs := #[.tmp 36, .tmp 46]) rfl ?_); at_builtin; refine Kd.N_append (Kd.slice 3 (Kd.int .i64)) (w0 := w) w.heap.size rfl (.tmp 36) (.tmp 46) 75 34 (.slice none 0 0) 24 rfl Tryz.underlying75 info34 rfl (by decide) (by omega) u5 x5_3 y196 [.slice Ao25 y196.length co25] (fun k_ => (w.heap.size ≤ k_) ∧ some k_ ≠ (.slice (some ad192) x3_1.length co11 : Value).ownBlock) (fun k_ => ((fun k_ => (w.heap.size ≤ k_) ∧ some k_ ≠ (.slice (some ad192) x3_1.length co11 : Value).ownBlock)) k_ ∧ some k_ ≠ (u5 : Value).ownBlock) rfl rfl ?aP (fun _ hk => hk) ?aF ?aO ?aB ?aS ?aL ?_; (case aP => exact (Kd.FK_slice_mk (Kd.R_reads' (Kd.R_mono (ok' := (fun k_ => ((fun k_ => (w.heap.size ≤ k_) ∧ some k_ ≠ (.slice (some ad192) x3_1.length co11 : Value).ownBlock)) k_ ∧ some k_ ≠ (u5 : Value).ownBlock)) (Kd.R_apart' (Kd.R_apart' (HO198.out) (Kd.N_typed HO_3.out) (by decide)) (Kd.N_typed HO_5.out) (by decide)) (fun k_ hk => ⟨⟨hk.1.1, hk.1.2⟩, hk.2⟩))).2.1 (Kd.R_F (Kd.R_mono (ok' := (fun k_ => ((fun k_ => (w.heap.size ≤ k_) ∧ some k_ ≠ (.slice (some ad192) x3_1.length co11 : Value).ownBlock)) k_ ∧ some k_ ≠ (u5 : Value).ownBlock)) (Kd.R_apart' (Kd.R_apart' (HO198.out) (Kd.N_typed HO_3.out) (by decide)) (Kd.N_typed HO_5.out) (by decide)) (fun k_ hk => ⟨⟨hk.1.1, hk.1.2⟩, hk.2⟩))))); (case aB => exact (by repeat (first | exact HB.out | apply bA | apply bN | apply bD))); (case aF => exact (fun k_ hk => ⟨(Nat.le_trans (bZ (by repeat (first | exact HB.out | apply bA | apply bN | apply bD))) hk), Kd.fresh' (Kd.N_lt (by (with_reducible repeat (first | apply Kd.N_alloc | apply Kd.N_drewN | apply Kd.N_drew)); exact HO_3.out)) k_ hk⟩)); (case aO => exact (by (with_reducible repeat (first | apply Kd.N_alloc | apply Kd.N_drewN | apply Kd.N_drew)); exact Kd.N_mono HO_5.out (fun _ hk => ⟨hk.1.1, hk.1.2⟩))); (case aS => exact (bZ (by repeat (first | exact HB.out | apply bA | apply bN | apply bD)))); (case aL => have := LMc19.out; omega); intro v200 w24 ho hb hg hat; rw [← Ny199.out] at ho; replace HO_3 := As.mk (Kd.N_afterv (ok := (fun k_ => (w.heap.size ≤ k_) ∧ some k_ ≠ (.slice Ao25 y196.length co25 : Value).ownBlock)) (by (with_reducible repeat (first | apply Kd.N_alloc | apply Kd.N_drewN | apply Kd.N_drew)); exact Kd.N_mono HO_3.out (fun _ hk => ⟨⟨hk.1.1, hk.2⟩, hk.1.2⟩)) hg hat); replace HL192_0 := As.mk (Kd.V_afterv (ok := (fun k_ => (w.heap.size ≤ k_) ∧ some k_ ≠ (.slice (some ad192) x3_1.length co11 : Value).ownBlock ∧ some k_ ≠ (.slice Ao25 y196.length co25 : Value).ownBlock)) (by (with_reducible repeat (first | apply Kd.V_alloc | apply Kd.V_drewN | apply Kd.V_drew)); exact Kd.V_mono HL192_0.out (fun _ hk => ⟨⟨hk.1.1, ⟨hk.1.2.1, hk.2⟩⟩, hk.1.2.2⟩)) hg hat); replace HB := As.mk (hb); have HO201 := As.mk (ho); clear HO_5 HO198; clear ho hb hg hat))
                   go_roundg k3
                   case measure => have := HK1.out; have := HK2.out; have := HK3.out; omega
                   case rel => exact ⟨(y199), (wrap64 (x7_3 + 1)), (by first | rfl | (simp; done) | (simp [*]; done)), H', ⟨by have := HK1.out; have := HK2.out; have := HK3.out; omega⟩, ⟨by (with_reducible repeat (first | apply Kd.N_alloc | apply Kd.N_drewN | apply Kd.N_drew)); exact Kd.N_mono HO_3.out (fun _ hk => ⟨hk.1.1, hk.2⟩)⟩, ⟨by (with_reducible repeat (first | apply Kd.N_alloc | apply Kd.N_drewN | apply Kd.N_drew)); exact HO201.out⟩, ⟨by repeat (first | exact HB.out | apply bA | apply bN | apply bD)⟩⟩
                  ·rw [if_neg c19] at H
                   exact absurd H (by simp)
                 ·rw [if_neg c18] at H
                  exact absurd H (by simp)
                ·rw [if_neg c17] at H
                 exact absurd H (by simp)
               ·rw [if_neg c16] at H
                exact absurd H (by simp)
              ·rw [if_neg c15] at H
               exact absurd H (by simp)
             ·rw [if_neg c14] at H
              have c14b0 : decide (x7_3 ≤ ((rd_T54 l0 x4_1).f1)) = false := decide_eq_false c14
              clear c14
              have H' := As.mk H
              clear H
              have p188 : 0 ≤ (x4_1 : Int) := of_decide_eq_true (by with_reducible assumption)
              have q188 : x4_1 < (l0.length : Int) := of_decide_eq_true (by with_reducible assumption)
              obtain ⟨ad188, e188, hx188_0, hx188_1⟩ := at_T54 HR0.out x4_1 p188 q188
              obtain rfl : ad187 = ad188 := (by injection e188)
              replace hx188_0 := (HB.out.cell (World.block_lt_of_cell? w _ hx188_0)).trans hx188_0
              replace hx188_1 := (HB.out.cell (World.block_lt_of_cell? w _ hx188_1)).trans hx188_1
              replace p188 := eq_true p188
              replace q188 := eq_true q188
              go_wp2
              go_roundg k3
              case measure => have := HK1.out; have := HK2.out; have := HK3.out; omega
              case rel => exact ⟨(x5_3), (wrap64 (x6_2 + 1)), (by first | rfl | (simp; done) | (simp [*]; done)), H', ⟨by have := HK1.out; have := HK2.out; have := HK3.out; omega⟩, ⟨by (with_reducible repeat (first | apply Kd.N_alloc | apply Kd.N_drewN | apply Kd.N_drew)); exact HO_3.out⟩, ⟨by (with_reducible repeat (first | apply Kd.N_alloc | apply Kd.N_drewN | apply Kd.N_drew)); exact HO_5.out⟩, ⟨by repeat (first | exact HB.out | apply bA | apply bN | apply bD)⟩⟩
            ·rw [if_neg c13] at H
             exact absurd H (by simp)
           ·rw [if_neg c12] at H
            exact absurd H (by simp)
        ·rw [if_neg c10] at H
         exact absurd H (by simp)
       ·rw [if_neg c9] at H
        exact absurd H (by simp)
      ·rw [if_neg c8] at H
       have c8b0 : decide (x6_2 < (x3_1.length : Int)) = false := decide_eq_false c8
       clear c8
       have H' := As.mk H
       clear H
       obtain ⟨Ao26, co26, eo26⟩ := Kd.N_slice HO_3.out
       subst eo26
       go_wp2
       go_roundg k2
       case measure => have := HK1.out; have := HK2.out; omega
       case rel => exact ⟨(x5_2), (wrap64 (x4_1 + 1)), (by first | rfl | (simp; done) | (simp [*]; done)), H', ⟨by have := HK1.out; have := HK2.out; omega⟩, ⟨by (with_reducible repeat (first | apply Kd.N_alloc | apply Kd.N_drewN | apply Kd.N_drew)); exact Kd.N_mono HO_5.out (fun _ hk => hk.1)⟩, ⟨by repeat (first | exact HB.out | apply bA | apply bN | apply bD)⟩⟩
   ·rw [if_neg c7] at H
    have c7b0 : decide (x4_1 < (l0.length : Int)) = false := decide_eq_false c7
    clear c7
    obtain rfl := Option.some.inj H
    go_wp2
    go_ret
    exact ⟨_, by first | rfl | (simp [eN, eS] <;> rfl) | (simp [*, eN, eS] <;> rfl), by (with_reducible repeat (first | apply Kd.N_alloc | apply Kd.N_drewN | apply Kd.N_drew)); exact HO_3.out, by repeat (first | exact HB.out | apply bA | apply bN | apply bD)⟩
end Go.Proofs.Q
end
section
namespace Go.Proofs.Q
open RowKit Rf Pw Pl Pm
theorem ref_in_l (l : List S54) (ks : List Int) (h4 : l.length ≤ 4) : ∀ (r : List S54) (s : List Int) (j : Nat), l.drop j = r → ks.drop j = s → s.length = r.length → Ev (fun k => manorboyref08_In.l0 k l ks (j : Int)) (inB r s) := by
 intro r
 induction r with
 | nil =>
  intro s j h hs hl
  cases s with
  | cons x s => simp at hl
  | nil =>
   refine Ev.one fun k => ?_
   simp only [manorboyref08_In.l0, if_neg (not_lt_nil h), inB]
 | cons d r ih =>
  intro s j h hs hl
  cases s with
  | nil => simp at hl
  | cons x s =>
   have hj := lt_drop h
   have hj2 := lt_drop hs
   have c1 : (j : Int) < (l.length : Int) := by omega
   have c2 : (0 : Int) ≤ (j : Int) := by omega
   have c3 : (j : Int) < (ks.length : Int) := by omega
   have e3 := wrap_next (j := j) (by omega)
   by_cases b1 : x < d.f0
   ·have : decide (d.f0 ≤ x ∧ x ≤ d.f1) = false := decide_eq_false (by omega)
    refine Ev.one fun k => ?_
    simp only [manorboyref08_In.l0, if_pos c1, if_pos c2, if_pos c3, rdT_drop h, rd_drop hs, if_pos b1, inB, this, Bool.false_and]
   ·by_cases b2 : x > d.f1
    ·have : decide (d.f0 ≤ x ∧ x ≤ d.f1) = false := decide_eq_false (by omega)
     refine Ev.one fun k => ?_
     simp only [manorboyref08_In.l0, if_pos c1, if_pos c2, if_pos c3, rdT_drop h, rd_drop hs, if_neg b1, if_pos b2, inB, this, Bool.false_and]
    ·have : decide (d.f0 ≤ x ∧ x ≤ d.f1) = true := decide_eq_true (by omega)
     have e : inB (d :: r) (x :: s) = inB r s := by simp only [inB, this, Bool.true_and]
     rw [e]
     refine Ev.succ (ih s (j + 1) (drop_next h) (drop_next hs) (by simpa using hl)) fun k => ?_
     simp only [manorboyref08_In.l0, if_pos c1, if_pos c2, if_pos c3, rdT_drop h, rd_drop hs, if_neg b1, if_neg b2, e3]
theorem ref_place_l (l : List S54) (ks : List Int) (hp : Proper l) (h4 : l.length ≤ 4) : ∀ (r : List S54) (s : List Int) (j : Nat) (acc : Int), l.drop j = r → ks.drop j = s → inB r s = true → 0 ≤ acc → (acc + 1) * prodL r ≤ 1000 → Ev (fun k => manorboyref08_place.l0 k l ks acc (j : Int)) (acc * prodL r + plc r s) := by
 intro r
 induction r with
 | nil =>
  intro s j acc h hs hb h0 h1
  cases s with
  | cons x s => simp [inB] at hb
  | nil =>
   refine Ev.one fun k => ?_
   simp only [manorboyref08_place.l0, if_neg (not_lt_nil h), plc, prodL]
   simp
 | cons d r ih =>
  intro s j acc h hs hb h0 h1
  cases s with
  | nil => simp [inB] at hb
  | cons x s =>
   have hj := lt_drop h
   have hj2 := lt_drop hs
   have c1 : (j : Int) < (l.length : Int) := by omega
   have c2 : (0 : Int) ≤ (j : Int) := by omega
   have c3 : (j : Int) < (ks.length : Int) := by omega
   have e3 := wrap_next (j := j) (by omega)
   have hpd : Proper (d :: r) := by rw [← h]; exact hp.drop _
   have hpr : Proper r := by rw [← drop_next h]; exact hp.drop _
   have hP := hpr.pos
   have hx := hpd.2.1 d (by simp)
   have hn := hpd.1 d (by simp)
   unfold near at hn
   simp only [inB, Bool.and_eq_true, decide_eq_true_eq] at hb
   have he : ext d = d.f1 - d.f0 + 1 := rfl
   simp only [prodL] at h1
   have m1 : acc * ext d ≤ 1000 * 1000 := by
    have a1 : acc + 1 ≤ 1000 := by
     have : 1 ≤ ext d * prodL r := by
      have := Int.mul_le_mul hx.1 hP (by omega) (by omega)
      simpa using this
     have := Int.mul_le_mul_of_nonneg_left this (show 0 ≤ acc + 1 by omega)
     omega
    exact Int.mul_le_mul (by omega) hx.2 (by omega) (by omega)
   have m0 : 0 ≤ acc * ext d := Int.mul_nonneg h0 (by omega)
   have m2 : (acc * ext d + x - d.f0 + 1) * prodL r ≤ 1000 := by
    have a1 : acc * ext d + x - d.f0 + 1 ≤ (acc + 1) * ext d := by rw [Int.add_mul]; omega
    have := Int.mul_le_mul_of_nonneg_right a1 (show 0 ≤ prodL r by omega)
    rw [Int.mul_assoc] at this
    omega
   have w1 : wrap64 (d.f1 - d.f0) = d.f1 - d.f0 := wrap64_id (by omega) (by omega)
   have w2 : wrap64 (d.f1 - d.f0 + 1) = ext d := wrap64_id (by omega) (by omega)
   have w3 : wrap64 (acc * ext d) = acc * ext d := wrap64_id (by omega) (by omega)
   have w4 : wrap64 (acc * ext d + x) = acc * ext d + x := wrap64_id (by omega) (by omega)
   have w5 : wrap64 (acc * ext d + x - d.f0) = acc * ext d + x - d.f0 := wrap64_id (by omega) (by omega)
   have := ih s (j + 1) (acc * ext d + x - d.f0) (drop_next h) (drop_next hs) hb.2 (by omega) m2
   have e : acc * prodL (d :: r) + plc (d :: r) (x :: s) = (acc * ext d + x - d.f0) * prodL r + plc r s := by
    simp only [prodL, plc]
    rw [show acc * ext d + x - d.f0 = acc * ext d + (x - d.f0) by omega, Int.add_mul, Int.mul_assoc, Int.mul_comm (x - d.f0)]
    omega
   rw [e]
   refine Ev.succ this fun k => ?_
   simp only [manorboyref08_place.l0, if_pos c1, if_pos c2, if_pos c3, rdT_drop h, rd_drop hs, w1, w2, w3, w4, w5, e3]
theorem allS_snoc (d : S54) : ∀ l : List S54, allS (l ++ [d]) = (allS l).flatMap fun p => (ints d.f0 (ext d).toNat).map fun s => p ++ [s]
 | [] => by
  show (ints d.f0 (ext d).toNat).flatMap (fun k => [[k]]) = _
  simp only [allS, List.flatMap_cons, List.flatMap_nil, List.append_nil, List.nil_append]
  rw [List.map_eq_flatMap]
 | e :: l => by
  have ih := allS_snoc d l
  show (ints e.f0 (ext e).toNat).flatMap (fun k => (allS (l ++ [d])).map (k :: ·)) = _
  rw [ih]
  show _ = ((ints e.f0 (ext e).toNat).flatMap fun k => (allS l).map (k :: ·)).flatMap _
  rw [List.flatMap_assoc]
  congr 1
  funext k
  rw [List.map_flatMap, List.flatMap_map]
  congr 1
  funext p
  simp [List.map_map, Function.comp_def]
theorem ints_succ (x : Int) (m : Nat) : ints x (m + 1) = x :: ints (x + 1) m := by
 unfold ints
 rw [List.range_succ_eq_map]
 simp only [List.map_cons, List.map_map]
 congr 1
 ·simp
 ·apply List.map_congr_left
  intro a _
  simp only [Function.comp_apply]
  push_cast
  omega
theorem rdL_drop {l r : List (List Int)} {d : List Int} {j : Nat} (h : l.drop j = d :: r) : rd_L10 l (j : Int) = d := by
 have : l[j]? = some d := by
  have := congrArg (fun x => x[0]?) h
  simpa using this
 simp [rd_L10, List.getD, this]
theorem all_l2 {R : List (List Int)} (l : List S54) (x3 : List (List Int)) (i x6 : Nat) (d : S54) (rl : List S54) (p : List Int) (q : List (List Int)) (hd : l.drop i = d :: rl) (hq : x3.drop x6 = p :: q) (hp4 : p.length ≤ 4) (h4 : l.length ≤ 4) (h3 : x3.length ≤ 1000) (hn : near d) :
  ∀ (m : Nat) (x7 : Int) (x5 : List (List Int)), x7 + (m : Int) = d.f1 + 1 → -2147483647 ≤ x7 → x5.length + m ≤ 3000000 → Ev (fun k => manorboyref08_All.l1 k l x3 (i : Int) (x5 ++ (ints x7 m).map (fun s => p ++ [s])) ((x6 + 1 : Nat) : Int)) R → Ev (fun k => manorboyref08_All.l2 k l x3 (i : Int) x5 (x6 : Int) x7) R := by
 have hi := lt_drop hd
 have h6 := lt_drop hq
 have c1 : (0 : Int) ≤ (i : Int) := by omega
 have c2 : (i : Int) < (l.length : Int) := by omega
 have c3 : (0 : Int) ≤ (x6 : Int) := by omega
 have c4 : (x6 : Int) < (x3.length : Int) := by omega
 unfold near at hn
 intro m
 induction m with
 | zero =>
  intro x7 x5 hm hlo hb h
  refine Ev.succ h fun k => ?_
  simp only [manorboyref08_All.l2, if_pos c1, if_pos c2, rdT_drop hd, wrap_next (j := x6) (by omega)]
  rw [if_neg (by omega)]
  simp [ints]
 | succ m ih =>
  intro x7 x5 hm hlo hb h
  have c5 : x7 ≤ d.f1 := by omega
  have e7 : wrap64 (x7 + 1) = x7 + 1 := wrap64_id (by omega) (by omega)
  have c6 : ([] : List Int).length + p.length < 17592186044416 := by simp; omega
  have c7 : p.length < 17592186044416 := by omega
  have c8 : x5.length < 5864062014805 := by omega
  refine Ev.succ (ih (x7 + 1) (x5 ++ [p ++ [x7]]) (by push_cast at hm; omega) (by omega) (by simp; omega) ?_) fun k => ?_
  ·rw [ints_succ] at h
   simpa using h
  ·simp only [manorboyref08_All.l2, if_pos c1, if_pos c2, if_pos c3, if_pos c4, rdT_drop hd, rdL_drop hq, if_pos c5, Option.bind_some, List.nil_append, if_pos c6, if_pos c7, if_pos c8, e7]
theorem all_l1 {R : List (List Int)} (l : List S54) (x3 : List (List Int)) (i : Nat) (d : S54) (rl : List S54) (hd : l.drop i = d :: rl) (h4 : l.length ≤ 4) (h3 : x3.length ≤ 1000) (hp4 : ∀ p ∈ x3, p.length ≤ 4) (hn : near d) (he : 1 ≤ ext d ∧ ext d ≤ 1000) :
  ∀ (q : List (List Int)) (x6 : Nat) (x5 : List (List Int)), x3.drop x6 = q → x5.length + q.length * 1000 ≤ 2000000 → Ev (fun k => manorboyref08_All.l0 k l (x5 ++ q.flatMap fun p => (ints d.f0 (ext d).toNat).map fun s => p ++ [s]) ((i + 1 : Nat) : Int)) R → Ev (fun k => manorboyref08_All.l1 k l x3 (i : Int) x5 (x6 : Int)) R := by
 have hi := lt_drop hd
 have c1 : (0 : Int) ≤ (i : Int) := by omega
 have c2 : (i : Int) < (l.length : Int) := by omega
 intro q
 induction q with
 | nil =>
  intro x6 x5 hq hb h
  refine Ev.succ h fun k => ?_
  have hx := List.drop_eq_nil_iff.1 hq
  have c3 : ¬ ((x6 : Int) < (x3.length : Int)) := by omega
  simp only [manorboyref08_All.l1, if_neg c3, wrap_next (j := i) (by omega), List.flatMap_nil, List.append_nil]
 | cons p q ih =>
  intro x6 x5 hq hb h
  have h6 := lt_drop hq
  have c3 : (x6 : Int) < (x3.length : Int) := by omega
  have hl : ((ints d.f0 (ext d).toNat).map fun s => p ++ [s]).length = (ext d).toNat := by simp [ints]
  have he2 : ext d = d.f1 - d.f0 + 1 := rfl
  have hn' := hn
  unfold near at hn'
  simp only [List.length_cons] at hb
  have hlen : (x5 ++ (ints d.f0 (ext d).toNat).map fun s => p ++ [s]).length = x5.length + (ext d).toNat := by rw [List.length_append, hl]
  have := ih (x6 + 1) (x5 ++ (ints d.f0 (ext d).toNat).map fun s => p ++ [s]) (drop_next hq) (by rw [hlen]; omega) (by
   rw [List.flatMap_cons] at h
   simpa [List.append_assoc] using h)
  refine Ev.succ (all_l2 l x3 i x6 d rl p q hd hq (hp4 p (mem_drop hq)) h4 h3 hn (ext d).toNat d.f0 x5 (by omega) (by omega) (by omega) this) fun k => ?_
  simp only [manorboyref08_All.l1, if_pos c1, if_pos c2, if_pos c3, rdT_drop hd]
theorem prodL_app : ∀ a b : List S54, prodL (a ++ b) = prodL a * prodL b
 | [], b => by simp [prodL]
 | d :: a, b => by simp only [List.cons_append, prodL, prodL_app a b, Int.mul_assoc]
theorem prodL_take {l : List S54} (hp : Proper l) (i : Nat) : prodL (l.take i) ≤ 1000 := by
 have h1 := prodL_app (l.take i) (l.drop i)
 rw [List.take_append_drop] at h1
 have h2 := (hp.drop i).pos
 have h3 : 1 ≤ prodL (l.take i) := prodL_pos _ fun d hd => (hp.2.1 d (List.mem_of_mem_take hd)).1
 have h4 := Int.mul_le_mul_of_nonneg_left h2 (show 0 ≤ prodL (l.take i) by omega)
 have := hp.2.2
 omega
theorem all_l0 (l : List S54) (hp : Proper l) (h4 : l.length ≤ 4) : ∀ (r : List S54) (i : Nat), l.drop i = r → Ev (fun k => manorboyref08_All.l0 k l (allS (l.take i)) (i : Int)) (allS l) := by
 intro r
 induction r with
 | nil =>
  intro i h
  have hj := List.drop_eq_nil_iff.1 h
  rw [List.take_of_length_le hj]
  refine Ev.one fun k => ?_
  simp only [manorboyref08_All.l0, if_neg (not_lt_nil h)]
 | cons d r ih =>
  intro i h
  have hi := lt_drop h
  have c2 : (i : Int) < (l.length : Int) := by omega
  have hlen : ((allS (l.take i)).length : Int) ≤ 1000 := by
   rw [allS_len2 _ fun d hd => (hp.2.1 d (List.mem_of_mem_take hd)).1]
   exact prodL_take hp i
  have := all_l1 (R := allS l) l (allS (l.take i)) i d r h h4 (by omega) (fun p hpm => by
   have := allS_length _ p hpm
   rw [this, List.length_take]; omega) (hp.1 d (mem_drop h)) (hp.2.1 d (mem_drop h)) (allS (l.take i)) 0 [] rfl (by simp; omega) (by
   have := ih (i + 1) (drop_next h)
   rw [take_next h, allS_snoc] at this
   simpa using this)
  refine Ev.succ this fun k => ?_
  simp only [manorboyref08_All.l0, if_pos c2]
  rfl
theorem ref_all {l : List S54} (he : errOf l = 0) : Ev (fun k => manorboyref08_All.f k l) (allS l) := by
 obtain ⟨_, hp, _, h1, h4⟩ := errOf_zero he
 exact all_l0 l hp h4 l 0 rfl
end Go.Proofs.Q
end
section
namespace Go.Proofs.Q
open RowKit Rf Pw Pl Pm
def AI (n : Int) (w : World) (e : Ending) (w' : World) : Prop := e = .returned (.int .i64 n) ∧ Below w.heap.size w w'
theorem ref_size_l (l : List S54) (hp : Proper l) (h4 : l.length ≤ 4) : ∀ (r : List S54) (j : Nat) (acc : Int), l.drop j = r → 1 ≤ acc → acc * prodL r ≤ 1000 → Ev (fun k => manorboyref08_size.l0 k l acc (j : Int)) (acc * prodL r) := by
 intro r
 induction r with
 | nil =>
  intro j acc h h0 h1
  refine Ev.one fun k => ?_
  simp only [manorboyref08_size.l0, if_neg (not_lt_nil h), prodL]
  simp
 | cons d r ih =>
  intro j acc h h0 h1
  have hj := lt_drop h
  have c1 : (j : Int) < (l.length : Int) := by omega
  have c2 : (0 : Int) ≤ (j : Int) := by omega
  have e3 := wrap_next (j := j) (by omega)
  have hpd : Proper (d :: r) := by rw [← h]; exact hp.drop _
  have hpr : Proper r := by rw [← drop_next h]; exact hp.drop _
  have hP := hpr.pos
  have hx := hpd.2.1 d (by simp)
  have hn := hpd.1 d (by simp)
  unfold near at hn
  have he : ext d = d.f1 - d.f0 + 1 := rfl
  simp only [prodL] at h1
  rw [← Int.mul_assoc] at h1
  have m0 : 1 ≤ acc * ext d := by
   have := Int.mul_le_mul h0 hx.1 (by omega) (by omega)
   simpa using this
  have m1 : acc * ext d ≤ 1000 := by
   have := Int.mul_le_mul_of_nonneg_left hP (show 0 ≤ acc * ext d by omega)
   omega
  have w1 : wrap64 (d.f1 - d.f0) = d.f1 - d.f0 := wrap64_id (by omega) (by omega)
  have w2 : wrap64 (d.f1 - d.f0 + 1) = ext d := wrap64_id (by omega) (by omega)
  have w3 : wrap64 (acc * ext d) = acc * ext d := wrap64_id (by omega) (by omega)
  have := ih (j + 1) (acc * ext d) (drop_next h) m0 h1
  have e : acc * prodL (d :: r) = (acc * ext d) * prodL r := by simp only [prodL]; rw [Int.mul_assoc]
  rw [e]
  refine Ev.succ this fun k => ?_
  rw [manorboyref08_size.l0, if_pos c1, if_pos c2, rdT_drop h, w1, w2, w3, e3]
theorem ref_size {l : List S54} (he : errOf l = 0) : Ev (fun k => manorboyref08_size.f k l) (prodL l) := by
 obtain ⟨_, hp, _, _, h4⟩ := errOf_zero he
 have := ref_size_l l hp h4 l 0 1 rfl (by decide) (by rw [Int.one_mul]; exact hp.2.2)
 rw [Int.one_mul] at this
 exact this
theorem rsize_w {l : List S54} (he : errOf l = 0) (A : Option Addr) (c : Nat) (w : World) (hr : Kd.C k54 w A l.length l) (hc : l.length ≤ c) : Calls Tryz.prog 46 #[.slice A l.length c] w (AI (prodL l) w) := by
 obtain ⟨k, hk⟩ := (ref_size he).at
 refine (manorboyref08_size.calls k A c l _ w hr hc hk).mono ?_
 rintro e w1 ⟨rfl, hb⟩
 exact ⟨rfl, hb.below⟩
theorem rerr_w (l : List S54) (A : Option Addr) (c : Nat) (w : World) (hr : Kd.C k54 w A l.length l) (hc : l.length ≤ c) : Calls Tryz.prog 45 #[.slice A l.length c] w (AI (errOf l) w) := by
 obtain ⟨k, hk⟩ := (ref_err l).at
 refine (manorboyref08_Error.calls k A c l _ w hr hc hk).mono ?_
 rintro e w1 ⟨rfl, hb⟩
 exact ⟨rfl, hb⟩
theorem rtype_w (t : Int) (w : World) : Calls Tryz.prog 42 #[.int .i64 t] w (Bq (isTy t) w) := by
 refine (manorboyref08_IsType.calls t (isTy t) w ?_).mono ?_
 ·unfold manorboyref08_IsType.f isTy
  by_cases h : t ≥ 1
  ·rw [if_pos h]; refine congrArg some ?_; rw [Bool.eq_iff_iff]; simp; omega
  ·rw [if_neg h]; refine congrArg some ?_; rw [Bool.eq_iff_iff]; simp; omega
 ·rintro e w1 ⟨rfl, hb⟩
  exact ⟨rfl, hb.below⟩
theorem rin_w (l : List S54) (ks : List Int) (hl : ks.length = l.length) (h4 : l.length ≤ 4) (A A1 : Option Addr) (c c1 : Nat) (w : World) (hr : Kd.C k54 w A l.length l) (hc : l.length ≤ c) (hr1 : Kd.C (Kd.int .i64) w A1 ks.length ks) (hc1 : ks.length ≤ c1) :
  Calls Tryz.prog 40 #[.slice A l.length c, .slice A1 ks.length c1] w (Bq (inB l ks) w) := by
 obtain ⟨k, hk⟩ := (ref_in_l l ks h4 l ks 0 rfl rfl hl).at
 refine (manorboyref08_In.calls k A c l A1 c1 ks _ w hr hc hr1 hc1 hk).mono ?_
 rintro e w1 ⟨rfl, hb⟩
 exact ⟨rfl, hb.below⟩
theorem rplace_w {l : List S54} (he : errOf l = 0) (ks : List Int) (hi : inB l ks = true) (A A1 : Option Addr) (c c1 : Nat) (w : World) (hr : Kd.C k54 w A l.length l) (hc : l.length ≤ c) (hr1 : Kd.C (Kd.int .i64) w A1 ks.length ks) (hc1 : ks.length ≤ c1) :
  Calls Tryz.prog 41 #[.slice A l.length c, .slice A1 ks.length c1] w (AI (plc l ks) w) := by
 obtain ⟨_, hp, _, _, h4⟩ := errOf_zero he
 obtain ⟨k, hk⟩ := (ref_place_l l ks hp h4 l ks 0 0 rfl rfl hi (by decide) (by have := hp.2.2; omega)).at
 rw [Int.zero_mul, Int.zero_add] at hk
 refine (manorboyref08_place.calls k A c l A1 c1 ks _ w hr hc hr1 hc1 hk).mono ?_
 rintro e w1 ⟨rfl, hb⟩
 exact ⟨rfl, hb.below⟩
theorem rall_w {l : List S54} (he : errOf l = 0) (A : Option Addr) (c : Nat) (w : World) (hr : Kd.C k54 w A l.length l) (hc : l.length ≤ c) :
  Calls Tryz.prog 39 #[.slice A l.length c] w fun e w' => ∃ v : Value, e = .returned v ∧ Kd.N (Kd.slice 3 (Kd.int .i64)) 34 w' w.heap.size (fun k_ => w.heap.size ≤ k_) v (allS l) ∧ Below w.heap.size w w' := by
 obtain ⟨k, hk⟩ := (ref_all he).at
 exact manorboyref08_All.calls k A c l _ w hr hc hk
theorem ref_dims_l (a : List S54) (h4 : a.length ≤ 1000) : ∀ (r : List S54) (j : Nat), a.drop j = r → Ev (fun k => manorboyref08_SameDims.l0 k a a (j : Int)) true := by
 intro r
 induction r with
 | nil =>
  intro j h
  refine Ev.one fun k => ?_
  simp only [manorboyref08_SameDims.l0, if_neg (not_lt_nil h)]
 | cons d r ih =>
  intro j h
  have hj := lt_drop h
  have c1 : (j : Int) < (a.length : Int) := by omega
  have c2 : (0 : Int) ≤ (j : Int) := by omega
  have e3 := wrap_next (j := j) (by omega)
  refine Ev.succ (ih (j + 1) (drop_next h)) fun k => ?_
  rw [manorboyref08_SameDims.l0, if_pos c1, if_pos c2, if_pos c1, if_neg (by simp), e3]
theorem rdims_w (l : List S54) (h4 : l.length ≤ 1000) (A A1 : Option Addr) (c c1 : Nat) (w : World) (hr : Kd.C k54 w A l.length l) (hc : l.length ≤ c) (hr1 : Kd.C k54 w A1 l.length l) (hc1 : l.length ≤ c1) :
  Calls Tryz.prog 44 #[.slice A l.length c, .slice A1 l.length c1] w (Bq true w) := by
 obtain ⟨k, hk⟩ := (ref_dims_l l h4 l 0 rfl).at
 refine (manorboyref08_SameDims.calls k A c l A1 c1 l true w hr hc hr1 hc1 (by unfold manorboyref08_SameDims.f; rw [if_pos rfl]; exact hk)).mono ?_
 rintro e w1 ⟨rfl, hb⟩
 exact ⟨rfl, hb.below⟩
end Go.Proofs.Q
end
section
namespace Go.Proofs.Q
open RowKit Shelf Rf Pw Pl Pm
theorem c3_of {W : World} {g ty : Nat} {a b c : Value} (h : W.heap[g]? = some (.cells #[a, b, c] ty)) : (W.cell? ⟨g, 0, none⟩ = some a ∧ W.cell? ⟨g, 1, none⟩ = some b ∧ W.cell? ⟨g, 2, none⟩ = some c) ∧ g < W.heap.size ∧ W.frozen? ⟨g, 0, none⟩ = false ∧ W.frozen? ⟨g, 1, none⟩ = false ∧ W.frozen? ⟨g, 2, none⟩ = false :=
 ⟨⟨by rw [kC h 0]; rfl, by rw [kC h 1]; rfl, by rw [kC h 2]; rfl⟩, blk_lt h, kF h 0, kF h 1, kF h 2⟩
theorem below_set3 {b : Nat} {w W : World} {x0 x1 x2 : Value} (h : Below w.heap.size w W) (hg : w.heap.size ≤ b) : Below w.heap.size w (((W.setCell ⟨b, 0, none⟩ x0).setCell ⟨b, 1, none⟩ x1).setCell ⟨b, 2, none⟩ x2) :=
 bT (bT (bT h hg) hg) hg
theorem rnew_no2 (t : Int) (ht : isTy t = true) (l : List S54) (he : errOf l ≠ 0) (A : Option Addr) (c : Nat) (w : World) (hr : Kd.C k54 w A l.length l) (hc : l.length ≤ c) : Calls Tryz.prog 13 #[.int .i64 t, .slice A l.length c] w (ResizeNo (errOf l) w) := by
 have HT := Lib.hid (fun W => ht ▸ rtype_w t W : ∀ W, Calls Tryz.prog 42 #[.int .i64 t] W (Bq true W))
 have HR := Lib.hid hr
 have HC := Lib.hid hc
 have HE := Lib.hid (fun W h => rerr_w l A c W h hc)
 have eb : (errOf l != 0) = true := by simpa using he
 clear hr hc he
 generalize errOf l = x at HE eb ⊢
 have hZ : (w.alloc (.cells #[.int .i64 0, .slice none 0 0, .slice none 0 0] 25)).heap[w.heap.size]? = some (.cells #[.int .i64 0, .slice none 0 0, .slice none 0 0] 25) := heap_alloc_new w _
 have hB : Below w.heap.size w (w.alloc (.cells #[.int .i64 0, .slice none 0 0, .slice none 0 0] 25)) := bA (Below.refl _ _) _
 go_enter Tryz.func13, Tryz.ntmps13
 go_wp2_with (first
  | (go_at_call 42; refine (HT.out _).mono ?_; rintro e w1 ⟨rfl, hb⟩; (replace hZ := kB hZ hb); (replace hB := bS hB hb); clear hb)
  | (go_at_call 45; refine (HE.out _ (Kd.C_below HR.out hB)).mono ?_; rintro e w2 ⟨rfl, hb⟩; (replace hZ := kB hZ hb); (replace hB := bS hB hb); (obtain ⟨⟨z0, z1, z2⟩, zl, zf0, zf1, zf2⟩ := c3_of hZ); clear hb))
 refine bodyPost_ret (v := .tuple #[.agg #[.int .i64 0, .slice none 0 0, .slice none 0 0], .int .i64 x]) (by clear hZ; simp [results, Tryz.results13, go_sem, z0, z1, z2, zl]) rfl ⟨rfl, below_set3 hB (Nat.le_refl _)⟩
end Go.Proofs.Q
end
section
namespace Go.Proofs.Q
open RowKit Shelf Pw Pl Pm
attribute [local go_sem high] eqA38
def vd_T3 : Bool × List (List Nat × List Nat) := (true, [([], []), ([], []), ([1], [1]), ([2], [2]), ([0, 3], [0, 3]), ([4, 3], [4]), ([5], [5]), ([6, 5], [5, 6]), ([7, 5, 5], [5, 7]), ([5, 8], [5, 8]), ([9, 8, 0, 1, 2, 3, 4, 5, 6, 7, 8, 9], [9])])
def vd_B3 : List Nat := [0, 0, 2, 6, 15, 31, 63, 127, 255, 511, 1023]
theorem vd_tab3 : rtab .any (opsOf Tryz.f50 3) = vd_T3 := by kernel_rfl
theorem vd_bits3 : waitsOk vd_T3.2 vd_B3 = true := by kernel_rfl
def vd_T5 : Bool × List (List Nat × List Nat) := (true, [([], []), ([], []), ([1], [1]), ([2], [2]), ([0, 3], [0, 3]), ([4, 3], [4]), ([5], [5]), ([6, 5], [5, 6]), ([7, 5, 5], [5, 7]), ([5, 8], [5, 8]), ([9, 8, 0, 1, 2, 3, 4, 5, 6, 7, 8, 9], [9])])
def vd_B5 : List Nat := [0, 0, 2, 6, 15, 31, 63, 127, 255, 511, 1023]
theorem vd_tab5 : rtab .any (opsOf Tryz.f50 5) = vd_T5 := by kernel_rfl
theorem vd_bits5 : waitsOk vd_T5.2 vd_B5 = true := by kernel_rfl
theorem c5_al (W : World) (a b c d e : Value) (ty : Nat) : (W.alloc (.cells #[a, b, c, d, e] ty)).cell? ⟨W.heap.size, 0, none⟩ = some a ∧ (W.alloc (.cells #[a, b, c, d, e] ty)).cell? ⟨W.heap.size, 1, none⟩ = some b ∧ (W.alloc (.cells #[a, b, c, d, e] ty)).cell? ⟨W.heap.size, 2, none⟩ = some c ∧ (W.alloc (.cells #[a, b, c, d, e] ty)).cell? ⟨W.heap.size, 3, none⟩ = some d ∧ (W.alloc (.cells #[a, b, c, d, e] ty)).cell? ⟨W.heap.size, 4, none⟩ = some e := by
 have h := heap_alloc_new W (.cells #[a, b, c, d, e] ty)
 exact ⟨by rw [kC h 0]; rfl, by rw [kC h 1]; rfl, by rw [kC h 2]; rfl, by rw [kC h 3]; rfl, by rw [kC h 4]; rfl⟩
/-- a value is one -/
def vdB (a b c d : Int) (f : Bool) : Bool := if a = 1 then decide (c = 0 ∧ d = 0 ∧ f = false) && ivB b else if a = 2 then decide (b = 0 ∧ f = false) && rvB c d else if a = 3 then decide (b = 0 ∧ c = 0 ∧ d = 0) else false
theorem vd1 (b c d : Int) (f : Bool) (w : World) : Calls Tryz.prog 50 #[.agg #[.int .i64 1, .int .i64 b, .int .i64 c, .int .i64 d, .bool f]] w (Bq (decide (c = 0 ∧ d = 0 ∧ f = false) && ivB b) w) := by
 by_cases h1 : c = 0
 ·by_cases h2 : d = 0
  ·subst h1 h2
   cases f with
   | false =>
    rw [show (decide ((0 : Int) = 0 ∧ (0 : Int) = 0 ∧ false = false) && ivB b) = ivB b by simp]
    go_enter Tryz.func50, Tryz.ntmps50
    go_wp2
    have hs := c5_al w (.int .i64 1) (.int .i64 b) (.int .i64 0) (.int .i64 0) (.bool false) 38
    have hB0 : Below w.heap.size w (w.alloc (.cells #[.int .i64 1, .int .i64 b, .int .i64 0, .int .i64 0, .bool false] 38)).drew := below_drew (bA (Below.refl _ _) _)
    generalize hg : w.heap.size = g at hs ⊢
    replace hs : ((w.alloc (.cells #[.int .i64 1, .int .i64 b, .int .i64 0, .int .i64 0, .bool false] 38)).drew.cell? ⟨g, 0, none⟩ = some (.int .i64 1) ∧ (w.alloc (.cells #[.int .i64 1, .int .i64 b, .int .i64 0, .int .i64 0, .bool false] 38)).drew.cell? ⟨g, 1, none⟩ = some (.int .i64 b) ∧ (w.alloc (.cells #[.int .i64 1, .int .i64 b, .int .i64 0, .int .i64 0, .bool false] 38)).drew.cell? ⟨g, 2, none⟩ = some (.int .i64 0) ∧ (w.alloc (.cells #[.int .i64 1, .int .i64 b, .int .i64 0, .int .i64 0, .bool false] 38)).drew.cell? ⟨g, 3, none⟩ = some (.int .i64 0) ∧ (w.alloc (.cells #[.int .i64 1, .int .i64 b, .int .i64 0, .int .i64 0, .bool false] 38)).drew.cell? ⟨g, 4, none⟩ = some (.bool false)) := hs
    refine start_ (n := 11) (S := fun w' => w'.cell? ⟨g, 0, none⟩ = some (.int .i64 1) ∧ w'.cell? ⟨g, 1, none⟩ = some (.int .i64 b) ∧ w'.cell? ⟨g, 2, none⟩ = some (.int .i64 0) ∧ w'.cell? ⟨g, 3, none⟩ = some (.int .i64 0) ∧ w'.cell? ⟨g, 4, none⟩ = some (.bool false)) (ds := []) (lq 11 0) (by kernel_rfl) rfl (by kernel_rfl) ⟨hs.1, hs.2.1, hs.2.2.1, hs.2.2.2.1, hs.2.2.2.2⟩ (fun hHeld => ?_); refine with_tabW vd_tab3 vd_bits3 (fun HT_ HW_ => ?_)
    refine pv 1 8 11 2 HT_ ?_
    refine tv 2 9 11 6 HT_ HW_ hHeld ?_
    refine tv 0 7 11 7 HT_ HW_ hHeld ?_
    refine one_ (i := 3) (N := some 10) (lq 11 15) rfl rfl (one_of HT_.out (by kernel_rfl)) (by decide) (fun K hK => ?_)
    refine goes_ Tryz.func77 (by kernel_rfl) rfl #[.int .i64 b] (by rfl) rfl rfl (by (try simp only [List.map_toArray, List.map_cons, List.map_nil]); first | done | rfl) ?_
    refine (rint _ _).mono ?_
    rintro e w1 ⟨rfl, hb⟩
    have hB1 := bS hB0 hb
    have hs1 : _ ∧ _ ∧ _ ∧ _ ∧ _ := ⟨cB hb hs.1, cB hb hs.2.1, cB hb hs.2.2.1, cB hb hs.2.2.2.1, cB hb hs.2.2.2.2⟩
    refine ⟨_, rfl, hK.out _ _ ⟨hs1.1, hs1.2.1, hs1.2.2.1, hs1.2.2.2.1, hs1.2.2.2.2⟩ (fun hHeld => ?_)⟩; clear hK K
    refine norm_ (a' := ?_) ?_ ?_; rotate_left; show Act.put _ (some 10) _ = _; (go_simp; rfl)
    refine pv 4 11 11 31 HT_ ?_
    refine pv 5 12 11 63 HT_ ?_
    refine pv 6 13 11 127 HT_ ?_
    refine tv 7 14 11 255 HT_ HW_ hHeld ?_
    refine one_ (i := 8) (N := some 15) (lq 11 511) rfl rfl (one_of HT_.out (by kernel_rfl)) (by decide) (fun K hK => ?_)
    refine goes_ Tryz.func78 (by kernel_rfl) rfl #[.int .i64 b] (by rfl) rfl rfl (by (try simp only [List.map_toArray, List.map_cons, List.map_nil]); first | done | rfl) ?_
    refine (rvalid1 _ _).mono ?_
    rintro e w2 ⟨rfl, hb2⟩
    have hB2 := bS hB1 hb2
    have hs2 : _ ∧ _ ∧ _ ∧ _ ∧ _ := ⟨cB hb2 hs1.1, cB hb2 hs1.2.1, cB hb2 hs1.2.2.1, cB hb2 hs1.2.2.2.1, cB hb2 hs1.2.2.2.2⟩
    refine ⟨_, rfl, hK.out _ _ ⟨hs2.1, hs2.2.1, hs2.2.2.1, hs2.2.2.2.1, hs2.2.2.2.2⟩ (fun hHeld => ?_)⟩; clear hK K
    refine norm_ (a' := ?_) ?_ ?_; rotate_left; show Act.put _ (some 15) _ = _; (go_simp; rfl)
    refine pv 9 16 11 1023 HT_ ?_
    refine pv 10 2 11 2047 HT_ ?_
    refine done_ (done_of HT_.out (by kernel_rfl)) ?_
    go_wp2
    go_ret
    exact ⟨rfl, hB2⟩
   | true =>
    rw [show (decide ((0 : Int) = 0 ∧ (0 : Int) = 0 ∧ true = false) && ivB b) = false by simp]
    go_enter Tryz.func50, Tryz.ntmps50
    go_wp2
    have hs := c5_al w (.int .i64 1) (.int .i64 b) (.int .i64 0) (.int .i64 0) (.bool true) 38
    have hB0 : Below w.heap.size w (w.alloc (.cells #[.int .i64 1, .int .i64 b, .int .i64 0, .int .i64 0, .bool true] 38)).drew := below_drew (bA (Below.refl _ _) _)
    generalize hg : w.heap.size = g at hs ⊢
    replace hs : ((w.alloc (.cells #[.int .i64 1, .int .i64 b, .int .i64 0, .int .i64 0, .bool true] 38)).drew.cell? ⟨g, 0, none⟩ = some (.int .i64 1) ∧ (w.alloc (.cells #[.int .i64 1, .int .i64 b, .int .i64 0, .int .i64 0, .bool true] 38)).drew.cell? ⟨g, 1, none⟩ = some (.int .i64 b) ∧ (w.alloc (.cells #[.int .i64 1, .int .i64 b, .int .i64 0, .int .i64 0, .bool true] 38)).drew.cell? ⟨g, 2, none⟩ = some (.int .i64 0) ∧ (w.alloc (.cells #[.int .i64 1, .int .i64 b, .int .i64 0, .int .i64 0, .bool true] 38)).drew.cell? ⟨g, 3, none⟩ = some (.int .i64 0) ∧ (w.alloc (.cells #[.int .i64 1, .int .i64 b, .int .i64 0, .int .i64 0, .bool true] 38)).drew.cell? ⟨g, 4, none⟩ = some (.bool true)) := hs
    refine start_ (n := 11) (S := fun w' => w'.cell? ⟨g, 0, none⟩ = some (.int .i64 1) ∧ w'.cell? ⟨g, 1, none⟩ = some (.int .i64 b) ∧ w'.cell? ⟨g, 2, none⟩ = some (.int .i64 0) ∧ w'.cell? ⟨g, 3, none⟩ = some (.int .i64 0) ∧ w'.cell? ⟨g, 4, none⟩ = some (.bool true)) (ds := []) (lq 11 0) (by kernel_rfl) rfl (by kernel_rfl) ⟨hs.1, hs.2.1, hs.2.2.1, hs.2.2.2.1, hs.2.2.2.2⟩ (fun hHeld => ?_); refine with_tabW vd_tab3 vd_bits3 (fun HT_ HW_ => ?_)
    refine pv 1 8 11 2 HT_ ?_
    refine tv 2 9 11 6 HT_ HW_ hHeld ?_
    refine tv 0 7 11 7 HT_ HW_ hHeld ?_
    refine one_ (i := 3) (N := some 10) (lq 11 15) rfl rfl (one_of HT_.out (by kernel_rfl)) (by decide) (fun K hK => ?_)
    refine goes_ Tryz.func77 (by kernel_rfl) rfl #[.int .i64 b] (by rfl) rfl rfl (by (try simp only [List.map_toArray, List.map_cons, List.map_nil]); first | done | rfl) ?_
    refine (rint _ _).mono ?_
    rintro e w1 ⟨rfl, hb⟩
    have hB1 := bS hB0 hb
    have hs1 : _ ∧ _ ∧ _ ∧ _ ∧ _ := ⟨cB hb hs.1, cB hb hs.2.1, cB hb hs.2.2.1, cB hb hs.2.2.2.1, cB hb hs.2.2.2.2⟩
    refine ⟨_, rfl, hK.out _ _ ⟨hs1.1, hs1.2.1, hs1.2.2.1, hs1.2.2.2.1, hs1.2.2.2.2⟩ (fun hHeld => ?_)⟩; clear hK K
    refine norm_ (a' := ?_) ?_ ?_; rotate_left; show Act.put _ (some 10) _ = _; (go_simp; rfl)
    refine pv 4 11 11 31 HT_ ?_
    refine pv 5 12 11 63 HT_ ?_
    refine uv 6 13 11 127 HT_ ?_
    refine uv 7 14 11 255 HT_ ?_
    refine uv 8 15 11 511 HT_ ?_
    refine pv 9 16 11 1023 HT_ ?_
    refine pv 10 2 11 2047 HT_ ?_
    refine done_ (done_of HT_.out (by kernel_rfl)) ?_
    go_wp2
    go_ret
    exact ⟨rfl, hB1⟩
  ·rw [show (decide (c = 0 ∧ d = 0 ∧ f = false) && ivB b) = false by simp [h2]]
   have b1 : (d == 0) = false := beq_eq_false_iff_ne.mpr h2
   subst h1
   clear h2
   go_enter Tryz.func50, Tryz.ntmps50
   go_wp2
   have hs := c5_al w (.int .i64 1) (.int .i64 b) (.int .i64 0) (.int .i64 d) (.bool f) 38
   have hB0 : Below w.heap.size w (w.alloc (.cells #[.int .i64 1, .int .i64 b, .int .i64 0, .int .i64 d, .bool f] 38)).drew := below_drew (bA (Below.refl _ _) _)
   generalize hg : w.heap.size = g at hs ⊢
   replace hs : ((w.alloc (.cells #[.int .i64 1, .int .i64 b, .int .i64 0, .int .i64 d, .bool f] 38)).drew.cell? ⟨g, 0, none⟩ = some (.int .i64 1) ∧ (w.alloc (.cells #[.int .i64 1, .int .i64 b, .int .i64 0, .int .i64 d, .bool f] 38)).drew.cell? ⟨g, 1, none⟩ = some (.int .i64 b) ∧ (w.alloc (.cells #[.int .i64 1, .int .i64 b, .int .i64 0, .int .i64 d, .bool f] 38)).drew.cell? ⟨g, 2, none⟩ = some (.int .i64 0) ∧ (w.alloc (.cells #[.int .i64 1, .int .i64 b, .int .i64 0, .int .i64 d, .bool f] 38)).drew.cell? ⟨g, 3, none⟩ = some (.int .i64 d) ∧ (w.alloc (.cells #[.int .i64 1, .int .i64 b, .int .i64 0, .int .i64 d, .bool f] 38)).drew.cell? ⟨g, 4, none⟩ = some (.bool f)) := hs
   refine start_ (n := 11) (S := fun w' => w'.cell? ⟨g, 0, none⟩ = some (.int .i64 1) ∧ w'.cell? ⟨g, 1, none⟩ = some (.int .i64 b) ∧ w'.cell? ⟨g, 2, none⟩ = some (.int .i64 0) ∧ w'.cell? ⟨g, 3, none⟩ = some (.int .i64 d) ∧ w'.cell? ⟨g, 4, none⟩ = some (.bool f)) (ds := []) (lq 11 0) (by kernel_rfl) rfl (by kernel_rfl) ⟨hs.1, hs.2.1, hs.2.2.1, hs.2.2.2.1, hs.2.2.2.2⟩ (fun hHeld => ?_); refine with_tabW vd_tab3 vd_bits3 (fun HT_ HW_ => ?_)
   refine pv 1 8 11 2 HT_ ?_
   refine tv 2 9 11 6 HT_ HW_ hHeld ?_
   refine tv 0 7 11 7 HT_ HW_ hHeld ?_
   refine one_ (i := 3) (N := some 10) (lq 11 15) rfl rfl (one_of HT_.out (by kernel_rfl)) (by decide) (fun K hK => ?_)
   refine goes_ Tryz.func77 (by kernel_rfl) rfl #[.int .i64 b] (by rfl) rfl rfl (by (try simp only [List.map_toArray, List.map_cons, List.map_nil]); first | done | rfl) ?_
   refine (rint _ _).mono ?_
   rintro e w1 ⟨rfl, hb⟩
   have hB1 := bS hB0 hb
   have hs1 : _ ∧ _ ∧ _ ∧ _ ∧ _ := ⟨cB hb hs.1, cB hb hs.2.1, cB hb hs.2.2.1, cB hb hs.2.2.2.1, cB hb hs.2.2.2.2⟩
   refine ⟨_, rfl, hK.out _ _ ⟨hs1.1, hs1.2.1, hs1.2.2.1, hs1.2.2.2.1, hs1.2.2.2.2⟩ (fun hHeld => ?_)⟩; clear hK K
   refine norm_ (a' := ?_) ?_ ?_; rotate_left; show Act.put _ (some 10) _ = _; (go_simp; rfl)
   refine pv 4 11 11 31 HT_ ?_
   refine pv 5 12 11 63 HT_ ?_
   refine uv 6 13 11 127 HT_ ?_
   refine uv 7 14 11 255 HT_ ?_
   refine uv 8 15 11 511 HT_ ?_
   refine pv 9 16 11 1023 HT_ ?_
   refine pv 10 2 11 2047 HT_ ?_
   refine done_ (done_of HT_.out (by kernel_rfl)) ?_
   go_wp2
   go_ret
   exact ⟨rfl, hB1⟩
 ·rw [show (decide (c = 0 ∧ d = 0 ∧ f = false) && ivB b) = false by simp [h1]]
  have b1 : (c == 0) = false := beq_eq_false_iff_ne.mpr h1
  clear h1
  go_enter Tryz.func50, Tryz.ntmps50
  go_wp2
  have hs := c5_al w (.int .i64 1) (.int .i64 b) (.int .i64 c) (.int .i64 d) (.bool f) 38
  have hB0 : Below w.heap.size w (w.alloc (.cells #[.int .i64 1, .int .i64 b, .int .i64 c, .int .i64 d, .bool f] 38)).drew := below_drew (bA (Below.refl _ _) _)
  generalize hg : w.heap.size = g at hs ⊢
  replace hs : ((w.alloc (.cells #[.int .i64 1, .int .i64 b, .int .i64 c, .int .i64 d, .bool f] 38)).drew.cell? ⟨g, 0, none⟩ = some (.int .i64 1) ∧ (w.alloc (.cells #[.int .i64 1, .int .i64 b, .int .i64 c, .int .i64 d, .bool f] 38)).drew.cell? ⟨g, 1, none⟩ = some (.int .i64 b) ∧ (w.alloc (.cells #[.int .i64 1, .int .i64 b, .int .i64 c, .int .i64 d, .bool f] 38)).drew.cell? ⟨g, 2, none⟩ = some (.int .i64 c) ∧ (w.alloc (.cells #[.int .i64 1, .int .i64 b, .int .i64 c, .int .i64 d, .bool f] 38)).drew.cell? ⟨g, 3, none⟩ = some (.int .i64 d) ∧ (w.alloc (.cells #[.int .i64 1, .int .i64 b, .int .i64 c, .int .i64 d, .bool f] 38)).drew.cell? ⟨g, 4, none⟩ = some (.bool f)) := hs
  refine start_ (n := 11) (S := fun w' => w'.cell? ⟨g, 0, none⟩ = some (.int .i64 1) ∧ w'.cell? ⟨g, 1, none⟩ = some (.int .i64 b) ∧ w'.cell? ⟨g, 2, none⟩ = some (.int .i64 c) ∧ w'.cell? ⟨g, 3, none⟩ = some (.int .i64 d) ∧ w'.cell? ⟨g, 4, none⟩ = some (.bool f)) (ds := []) (lq 11 0) (by kernel_rfl) rfl (by kernel_rfl) ⟨hs.1, hs.2.1, hs.2.2.1, hs.2.2.2.1, hs.2.2.2.2⟩ (fun hHeld => ?_); refine with_tabW vd_tab3 vd_bits3 (fun HT_ HW_ => ?_)
  refine pv 1 8 11 2 HT_ ?_
  refine tv 2 9 11 6 HT_ HW_ hHeld ?_
  refine tv 0 7 11 7 HT_ HW_ hHeld ?_
  refine one_ (i := 3) (N := some 10) (lq 11 15) rfl rfl (one_of HT_.out (by kernel_rfl)) (by decide) (fun K hK => ?_)
  refine goes_ Tryz.func77 (by kernel_rfl) rfl #[.int .i64 b] (by rfl) rfl rfl (by (try simp only [List.map_toArray, List.map_cons, List.map_nil]); first | done | rfl) ?_
  refine (rint _ _).mono ?_
  rintro e w1 ⟨rfl, hb⟩
  have hB1 := bS hB0 hb
  have hs1 : _ ∧ _ ∧ _ ∧ _ ∧ _ := ⟨cB hb hs.1, cB hb hs.2.1, cB hb hs.2.2.1, cB hb hs.2.2.2.1, cB hb hs.2.2.2.2⟩
  refine ⟨_, rfl, hK.out _ _ ⟨hs1.1, hs1.2.1, hs1.2.2.1, hs1.2.2.2.1, hs1.2.2.2.2⟩ (fun hHeld => ?_)⟩; clear hK K
  refine norm_ (a' := ?_) ?_ ?_; rotate_left; show Act.put _ (some 10) _ = _; (go_simp; rfl)
  refine pv 4 11 11 31 HT_ ?_
  refine pv 5 12 11 63 HT_ ?_
  refine uv 6 13 11 127 HT_ ?_
  refine uv 7 14 11 255 HT_ ?_
  refine uv 8 15 11 511 HT_ ?_
  refine pv 9 16 11 1023 HT_ ?_
  refine pv 10 2 11 2047 HT_ ?_
  refine done_ (done_of HT_.out (by kernel_rfl)) ?_
  go_wp2
  go_ret
  exact ⟨rfl, hB1⟩
end Go.Proofs.Q
end
section
namespace Go.Proofs.Q
open RowKit Shelf Pw Pl Pm
attribute [local go_sem high] eqA38
theorem vd2 (b c d : Int) (f : Bool) (hc0 : -9223372036854775808 ≤ c) (hc1 : c ≤ 9223372036854775807) (w : World) : Calls Tryz.prog 50 #[.agg #[.int .i64 2, .int .i64 b, .int .i64 c, .int .i64 d, .bool f]] w (Bq (decide (b = 0 ∧ f = false) && rvB c d) w) := by
 by_cases h1 : b = 0
 ·subst h1
  cases f with
  | false =>
   rw [show (decide ((0 : Int) = 0 ∧ false = false) && rvB c d) = rvB c d by simp]
   go_enter Tryz.func50, Tryz.ntmps50
   go_wp2
   have hs := c5_al w (.int .i64 2) (.int .i64 0) (.int .i64 c) (.int .i64 d) (.bool false) 38
   have hB0 : Below w.heap.size w (w.alloc (.cells #[.int .i64 2, .int .i64 0, .int .i64 c, .int .i64 d, .bool false] 38)).drew := below_drew (bA (Below.refl _ _) _)
   generalize hg : w.heap.size = g at hs ⊢
   replace hs : ((w.alloc (.cells #[.int .i64 2, .int .i64 0, .int .i64 c, .int .i64 d, .bool false] 38)).drew.cell? ⟨g, 0, none⟩ = some (.int .i64 2) ∧ (w.alloc (.cells #[.int .i64 2, .int .i64 0, .int .i64 c, .int .i64 d, .bool false] 38)).drew.cell? ⟨g, 1, none⟩ = some (.int .i64 0) ∧ (w.alloc (.cells #[.int .i64 2, .int .i64 0, .int .i64 c, .int .i64 d, .bool false] 38)).drew.cell? ⟨g, 2, none⟩ = some (.int .i64 c) ∧ (w.alloc (.cells #[.int .i64 2, .int .i64 0, .int .i64 c, .int .i64 d, .bool false] 38)).drew.cell? ⟨g, 3, none⟩ = some (.int .i64 d) ∧ (w.alloc (.cells #[.int .i64 2, .int .i64 0, .int .i64 c, .int .i64 d, .bool false] 38)).drew.cell? ⟨g, 4, none⟩ = some (.bool false)) := hs
   refine start_ (n := 11) (S := fun w' => w'.cell? ⟨g, 0, none⟩ = some (.int .i64 2) ∧ w'.cell? ⟨g, 1, none⟩ = some (.int .i64 0) ∧ w'.cell? ⟨g, 2, none⟩ = some (.int .i64 c) ∧ w'.cell? ⟨g, 3, none⟩ = some (.int .i64 d) ∧ w'.cell? ⟨g, 4, none⟩ = some (.bool false)) (ds := []) (lq 11 0) (by kernel_rfl) rfl (by kernel_rfl) ⟨hs.1, hs.2.1, hs.2.2.1, hs.2.2.2.1, hs.2.2.2.2⟩ (fun hHeld => ?_); refine with_tabW vd_tab5 vd_bits5 (fun HT_ HW_ => ?_)
   refine pv 1 20 11 2 HT_ ?_
   refine tv 2 21 11 6 HT_ HW_ hHeld ?_
   refine tv 0 19 11 7 HT_ HW_ hHeld ?_
   refine one_ (i := 3) (N := some 22) (lq 11 15) rfl rfl (one_of HT_.out (by kernel_rfl)) (by decide) (fun K hK => ?_)
   refine goes_ Tryz.func68 (by kernel_rfl) rfl #[.agg #[.int .i64 c, .int .i64 d]] (by rfl) rfl rfl (by (try simp only [List.map_toArray, List.map_cons, List.map_nil]); first | done | rfl) ?_
   refine (rreal _ _ _).mono ?_
   rintro e w1 ⟨rfl, hb⟩
   have hB1 := bS hB0 hb
   have hs1 : _ ∧ _ ∧ _ ∧ _ ∧ _ := ⟨cB hb hs.1, cB hb hs.2.1, cB hb hs.2.2.1, cB hb hs.2.2.2.1, cB hb hs.2.2.2.2⟩
   refine ⟨_, rfl, hK.out _ _ ⟨hs1.1, hs1.2.1, hs1.2.2.1, hs1.2.2.2.1, hs1.2.2.2.2⟩ (fun hHeld => ?_)⟩; clear hK K
   refine norm_ (a' := ?_) ?_ ?_; rotate_left; show Act.put _ (some 22) _ = _; (go_simp; rfl)
   refine pv 4 23 11 31 HT_ ?_
   refine pv 5 24 11 63 HT_ ?_
   refine pv 6 25 11 127 HT_ ?_
   refine tv 7 26 11 255 HT_ HW_ hHeld ?_
   refine one_ (i := 8) (N := some 27) (lq 11 511) rfl rfl (one_of HT_.out (by kernel_rfl)) (by decide) (fun K hK => ?_)
   refine goes_ Tryz.func79 (by kernel_rfl) rfl #[.agg #[.int .i64 c, .int .i64 d]] (by rfl) rfl rfl (by (try simp only [List.map_toArray, List.map_cons, List.map_nil]); first | done | rfl) ?_
   refine (rvalid2 _ _ hc0 hc1 _).mono ?_
   rintro e w2 ⟨rfl, hb2⟩
   have hB2 := bS hB1 hb2
   have hs2 : _ ∧ _ ∧ _ ∧ _ ∧ _ := ⟨cB hb2 hs1.1, cB hb2 hs1.2.1, cB hb2 hs1.2.2.1, cB hb2 hs1.2.2.2.1, cB hb2 hs1.2.2.2.2⟩
   refine ⟨_, rfl, hK.out _ _ ⟨hs2.1, hs2.2.1, hs2.2.2.1, hs2.2.2.2.1, hs2.2.2.2.2⟩ (fun hHeld => ?_)⟩; clear hK K
   refine norm_ (a' := ?_) ?_ ?_; rotate_left; show Act.put _ (some 27) _ = _; (go_simp; rfl)
   refine pv 9 28 11 1023 HT_ ?_
   refine pv 10 2 11 2047 HT_ ?_
   refine done_ (done_of HT_.out (by kernel_rfl)) ?_
   go_wp2
   go_ret
   exact ⟨rfl, hB2⟩
  | true =>
   rw [show (decide ((0 : Int) = 0 ∧ true = false) && rvB c d) = false by simp]
   go_enter Tryz.func50, Tryz.ntmps50
   go_wp2
   have hs := c5_al w (.int .i64 2) (.int .i64 0) (.int .i64 c) (.int .i64 d) (.bool true) 38
   have hB0 : Below w.heap.size w (w.alloc (.cells #[.int .i64 2, .int .i64 0, .int .i64 c, .int .i64 d, .bool true] 38)).drew := below_drew (bA (Below.refl _ _) _)
   generalize hg : w.heap.size = g at hs ⊢
   replace hs : ((w.alloc (.cells #[.int .i64 2, .int .i64 0, .int .i64 c, .int .i64 d, .bool true] 38)).drew.cell? ⟨g, 0, none⟩ = some (.int .i64 2) ∧ (w.alloc (.cells #[.int .i64 2, .int .i64 0, .int .i64 c, .int .i64 d, .bool true] 38)).drew.cell? ⟨g, 1, none⟩ = some (.int .i64 0) ∧ (w.alloc (.cells #[.int .i64 2, .int .i64 0, .int .i64 c, .int .i64 d, .bool true] 38)).drew.cell? ⟨g, 2, none⟩ = some (.int .i64 c) ∧ (w.alloc (.cells #[.int .i64 2, .int .i64 0, .int .i64 c, .int .i64 d, .bool true] 38)).drew.cell? ⟨g, 3, none⟩ = some (.int .i64 d) ∧ (w.alloc (.cells #[.int .i64 2, .int .i64 0, .int .i64 c, .int .i64 d, .bool true] 38)).drew.cell? ⟨g, 4, none⟩ = some (.bool true)) := hs
   refine start_ (n := 11) (S := fun w' => w'.cell? ⟨g, 0, none⟩ = some (.int .i64 2) ∧ w'.cell? ⟨g, 1, none⟩ = some (.int .i64 0) ∧ w'.cell? ⟨g, 2, none⟩ = some (.int .i64 c) ∧ w'.cell? ⟨g, 3, none⟩ = some (.int .i64 d) ∧ w'.cell? ⟨g, 4, none⟩ = some (.bool true)) (ds := []) (lq 11 0) (by kernel_rfl) rfl (by kernel_rfl) ⟨hs.1, hs.2.1, hs.2.2.1, hs.2.2.2.1, hs.2.2.2.2⟩ (fun hHeld => ?_); refine with_tabW vd_tab5 vd_bits5 (fun HT_ HW_ => ?_)
   refine pv 1 20 11 2 HT_ ?_
   refine tv 2 21 11 6 HT_ HW_ hHeld ?_
   refine tv 0 19 11 7 HT_ HW_ hHeld ?_
   refine one_ (i := 3) (N := some 22) (lq 11 15) rfl rfl (one_of HT_.out (by kernel_rfl)) (by decide) (fun K hK => ?_)
   refine goes_ Tryz.func68 (by kernel_rfl) rfl #[.agg #[.int .i64 c, .int .i64 d]] (by rfl) rfl rfl (by (try simp only [List.map_toArray, List.map_cons, List.map_nil]); first | done | rfl) ?_
   refine (rreal _ _ _).mono ?_
   rintro e w1 ⟨rfl, hb⟩
   have hB1 := bS hB0 hb
   have hs1 : _ ∧ _ ∧ _ ∧ _ ∧ _ := ⟨cB hb hs.1, cB hb hs.2.1, cB hb hs.2.2.1, cB hb hs.2.2.2.1, cB hb hs.2.2.2.2⟩
   refine ⟨_, rfl, hK.out _ _ ⟨hs1.1, hs1.2.1, hs1.2.2.1, hs1.2.2.2.1, hs1.2.2.2.2⟩ (fun hHeld => ?_)⟩; clear hK K
   refine norm_ (a' := ?_) ?_ ?_; rotate_left; show Act.put _ (some 22) _ = _; (go_simp; rfl)
   refine pv 4 23 11 31 HT_ ?_
   refine pv 5 24 11 63 HT_ ?_
   refine uv 6 25 11 127 HT_ ?_
   refine uv 7 26 11 255 HT_ ?_
   refine uv 8 27 11 511 HT_ ?_
   refine pv 9 28 11 1023 HT_ ?_
   refine pv 10 2 11 2047 HT_ ?_
   refine done_ (done_of HT_.out (by kernel_rfl)) ?_
   go_wp2
   go_ret
   exact ⟨rfl, hB1⟩
 ·rw [show (decide (b = 0 ∧ f = false) && rvB c d) = false by simp [h1]]
  have b1 : (b == 0) = false := beq_eq_false_iff_ne.mpr h1
  clear h1
  go_enter Tryz.func50, Tryz.ntmps50
  go_wp2
  have hs := c5_al w (.int .i64 2) (.int .i64 b) (.int .i64 c) (.int .i64 d) (.bool f) 38
  have hB0 : Below w.heap.size w (w.alloc (.cells #[.int .i64 2, .int .i64 b, .int .i64 c, .int .i64 d, .bool f] 38)).drew := below_drew (bA (Below.refl _ _) _)
  generalize hg : w.heap.size = g at hs ⊢
  replace hs : ((w.alloc (.cells #[.int .i64 2, .int .i64 b, .int .i64 c, .int .i64 d, .bool f] 38)).drew.cell? ⟨g, 0, none⟩ = some (.int .i64 2) ∧ (w.alloc (.cells #[.int .i64 2, .int .i64 b, .int .i64 c, .int .i64 d, .bool f] 38)).drew.cell? ⟨g, 1, none⟩ = some (.int .i64 b) ∧ (w.alloc (.cells #[.int .i64 2, .int .i64 b, .int .i64 c, .int .i64 d, .bool f] 38)).drew.cell? ⟨g, 2, none⟩ = some (.int .i64 c) ∧ (w.alloc (.cells #[.int .i64 2, .int .i64 b, .int .i64 c, .int .i64 d, .bool f] 38)).drew.cell? ⟨g, 3, none⟩ = some (.int .i64 d) ∧ (w.alloc (.cells #[.int .i64 2, .int .i64 b, .int .i64 c, .int .i64 d, .bool f] 38)).drew.cell? ⟨g, 4, none⟩ = some (.bool f)) := hs
  refine start_ (n := 11) (S := fun w' => w'.cell? ⟨g, 0, none⟩ = some (.int .i64 2) ∧ w'.cell? ⟨g, 1, none⟩ = some (.int .i64 b) ∧ w'.cell? ⟨g, 2, none⟩ = some (.int .i64 c) ∧ w'.cell? ⟨g, 3, none⟩ = some (.int .i64 d) ∧ w'.cell? ⟨g, 4, none⟩ = some (.bool f)) (ds := []) (lq 11 0) (by kernel_rfl) rfl (by kernel_rfl) ⟨hs.1, hs.2.1, hs.2.2.1, hs.2.2.2.1, hs.2.2.2.2⟩ (fun hHeld => ?_); refine with_tabW vd_tab5 vd_bits5 (fun HT_ HW_ => ?_)
  refine pv 1 20 11 2 HT_ ?_
  refine tv 2 21 11 6 HT_ HW_ hHeld ?_
  refine tv 0 19 11 7 HT_ HW_ hHeld ?_
  refine one_ (i := 3) (N := some 22) (lq 11 15) rfl rfl (one_of HT_.out (by kernel_rfl)) (by decide) (fun K hK => ?_)
  refine goes_ Tryz.func68 (by kernel_rfl) rfl #[.agg #[.int .i64 c, .int .i64 d]] (by rfl) rfl rfl (by (try simp only [List.map_toArray, List.map_cons, List.map_nil]); first | done | rfl) ?_
  refine (rreal _ _ _).mono ?_
  rintro e w1 ⟨rfl, hb⟩
  have hB1 := bS hB0 hb
  have hs1 : _ ∧ _ ∧ _ ∧ _ ∧ _ := ⟨cB hb hs.1, cB hb hs.2.1, cB hb hs.2.2.1, cB hb hs.2.2.2.1, cB hb hs.2.2.2.2⟩
  refine ⟨_, rfl, hK.out _ _ ⟨hs1.1, hs1.2.1, hs1.2.2.1, hs1.2.2.2.1, hs1.2.2.2.2⟩ (fun hHeld => ?_)⟩; clear hK K
  refine norm_ (a' := ?_) ?_ ?_; rotate_left; show Act.put _ (some 22) _ = _; (go_simp; rfl)
  refine pv 4 23 11 31 HT_ ?_
  refine pv 5 24 11 63 HT_ ?_
  refine uv 6 25 11 127 HT_ ?_
  refine uv 7 26 11 255 HT_ ?_
  refine uv 8 27 11 511 HT_ ?_
  refine pv 9 28 11 1023 HT_ ?_
  refine pv 10 2 11 2047 HT_ ?_
  refine done_ (done_of HT_.out (by kernel_rfl)) ?_
  go_wp2
  go_ret
  exact ⟨rfl, hB1⟩
end Go.Proofs.Q
end
