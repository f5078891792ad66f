/-
 Texts of the proof, in build order: words that the walks use, contracts of functions, plain facts.
-/
import Derived.Test.YtcjjmhgboibbgaaGreatEa3
import Derived.Test.YtcjjmhgboibbgaaGreatEa4
import Derived.Test.YtcjjmhgboibbgaaGreatEa9
set_option maxHeartbeats 40000000
set_option maxRecDepth 100000
set_option linter.unusedVariables false
set_option linter.unusedSimpArgs false
section
namespace Go.Proofs.Q
open RowKit Pw Pl Pm
attribute [local go_sem] max2_int min2_int max_two min_two max_three min_three max_four min_four   -- for this text's walks alone
attribute [local go_sem high] eqA36 eqA38
def value_ofInt.f (a0 : Int) : Option (Int × Int × Int × Int × Bool) := some (1, a0, 0, 0, false)
theorem value_ofInt.calls (a0 : Int) (r1 : Int) (r2 : Int) (r3 : Int) (r4 : Int) (r5 : Bool) (w : World) (h : value_ofInt.f a0 = some (r1, r2, r3, r4, r5)) :
  Calls Tryz.prog 72 #[.int .i64 a0] w fun e w' => e = .returned (.agg #[.int .i64 r1, .int .i64 r2, .int .i64 r3, .int .i64 r4, .bool r5]) ∧ Below w.heap.size w w' := by
 have hu59 := Tryz.underlying38
 have HB := As.mk (Below.refl w.heap.size w)
 have H : (some (1, a0, 0, 0, false)) = some (r1, r2, r3, r4, r5) := h
 clear h
 simp only [Option.some.injEq, Prod.mk.injEq] at H
 obtain ⟨rfl, rfl, rfl, rfl, rfl⟩ := H
 go_enter Tryz.func72, Tryz.ntmps72
 go_wp2_with (first | ((with_reducible refine gD (N := 2) rfl ?_); refine bx 2 #[.int .i64 0, .int .i64 0, .int .i64 0, .int .i64 0, .bool false] 38 ?_; intro gb457 hg w2 hbox hb; have BK457 := As.mk (hbox); have GW457 := As.mk ((by rw [hg]; exact (bZ zz) : w.heap.size ≤ gb457)); have GE457 := GW457; replace HB := As.mk (bS zz hb); clear hb hbox hg; have hcz3_0 : w2.cell? ⟨gb457, 0, none⟩ = some (.int .i64 0) := (kC BK457.out 0).trans rfl; have hcz3_1 : w2.cell? ⟨gb457, 1, none⟩ = some (.int .i64 0) := (kC BK457.out 1).trans rfl; have hcz3_2 : w2.cell? ⟨gb457, 2, none⟩ = some (.int .i64 0) := (kC BK457.out 2).trans rfl; have hcz3_3 : w2.cell? ⟨gb457, 3, none⟩ = some (.int .i64 0) := (kC BK457.out 3).trans rfl; have hcz3_4 : w2.cell? ⟨gb457, 4, none⟩ = some (.bool false) := (kC BK457.out 4).trans rfl; have hfz3_0 := kF BK457.out 0; have hfz3_1 := kF BK457.out 1; have hfz3_2 := kF BK457.out 2; have hfz3_3 := kF BK457.out 3; have hfz3_4 := kF BK457.out 4))
 refine bodyPost_ret (results_cell_row rfl _ _ gb457 38 #[.int .i64 1, .int .i64 a0, .int .i64 0, .int .i64 0, .bool false] (0, 0) _ rfl (by (with_reducible repeat (first | apply kN | apply kD | apply kA)); refine kP (cs := #[.int .i64 1, .int .i64 a0, .int .i64 0, .int .i64 0, .bool false]) ?_ 4 _ rfl; (with_reducible repeat (first | apply kN | apply kD | apply kA)); refine kP (cs := #[.int .i64 1, .int .i64 a0, .int .i64 0, .int .i64 0, .bool false]) ?_ 3 _ rfl; (with_reducible repeat (first | apply kN | apply kD | apply kA)); refine kP (cs := #[.int .i64 1, .int .i64 a0, .int .i64 0, .int .i64 0, .bool false]) ?_ 2 _ rfl; (with_reducible repeat (first | apply kN | apply kD | apply kA)); refine kP (cs := #[.int .i64 1, .int .i64 0, .int .i64 0, .int .i64 0, .bool false]) ?_ 1 _ rfl; (with_reducible repeat (first | apply kN | apply kD | apply kA)); refine kP (cs := #[.int .i64 0, .int .i64 0, .int .i64 0, .int .i64 0, .bool false]) ?_ 0 _ rfl; (with_reducible repeat (first | apply kN | apply kD | apply kA)); exact BK457.out) Tryz.underlying38 rfl (by kernel_rfl)) rfl ?_
 exact ⟨by first | rfl | (simp [eN, eS] <;> rfl) | (simp [*, eN, eS] <;> rfl), by repeat (first | (with_reducible first | exact HB.out | apply bA | apply bN | apply bD | refine bT ?_ GE457.out) | exact HB.out)⟩
def integer_Valid.f (a0 : Int) : Option (Bool) := if a0 ≥ (-2147483647) then (some (decide (a0 ≤ 2147483647))) else (some false)
theorem integer_Valid.calls (a0 : Int) (r : Bool) (w : World) (h : integer_Valid.f a0 = some r) :
  Calls Tryz.prog 73 #[.int .i64 a0] w fun e w' => e = .returned (.bool r) ∧ Dn w w' := by
 have H : (if a0 ≥ (-2147483647) then (some (decide (a0 ≤ 2147483647))) else (some false)) = some r := h
 clear h
 by_cases c2 : a0 ≥ (-2147483647)
 ·rw [if_pos c2] at H
  have c2b0 : decide ((-2147483647) ≤ a0) = true := decide_eq_true c2
  clear c2
  obtain rfl := Option.some.inj H
  go_enter Tryz.func73, Tryz.ntmps73
  go_wp2
  go_ret
  exact ⟨by first | rfl | (simp; done) | (simp [*]; done), by repeat (first | exact Dn.refl _ | apply Dn.step)⟩
 ·rw [if_neg c2] at H
  have c2b0 : decide ((-2147483647) ≤ a0) = false := decide_eq_false c2
  clear c2
  obtain rfl := Option.some.inj H
  go_enter Tryz.func73, Tryz.ntmps73
  go_wp2
  go_ret
  exact ⟨by first | rfl | (simp; done) | (simp [*]; done), by repeat (first | exact Dn.refl _ | apply Dn.step)⟩
def value_ofReal.f (a0_0 : Int) (a0_1 : Int) : Option (Int × Int × Int × Int × Bool) := some (2, 0, a0_0, a0_1, false)
theorem value_ofReal.calls (a0_0 : Int) (a0_1 : Int) (r1 : Int) (r2 : Int) (r3 : Int) (r4 : Int) (r5 : Bool) (w : World) (h : value_ofReal.f a0_0 a0_1 = some (r1, r2, r3, r4, r5)) :
  Calls Tryz.prog 74 #[.agg #[.int .i64 a0_0, .int .i64 a0_1]] w fun e w' => e = .returned (.agg #[.int .i64 r1, .int .i64 r2, .int .i64 r3, .int .i64 r4, .bool r5]) ∧ Below w.heap.size w w' := by
 have hu57 := Tryz.underlying36
 have hu59 := Tryz.underlying38
 have HB := As.mk (Below.refl w.heap.size w)
 have H : (some (2, 0, a0_0, a0_1, false)) = some (r1, r2, r3, r4, r5) := h
 clear h
 simp only [Option.some.injEq, Prod.mk.injEq] at H
 obtain ⟨rfl, rfl, rfl, rfl, rfl⟩ := H
 go_enter Tryz.func74, Tryz.ntmps74
 go_wp2_with (first | ((with_reducible refine gD (N := 1) rfl ?_); refine bx 1 #[.int .i64 a0_0, .int .i64 a0_1] 36 ?_; intro gb458 hg w2 hbox hb; have BK458 := As.mk (hbox); have GW458 := As.mk ((by rw [hg]; exact (bZ zz) : w.heap.size ≤ gb458)); have GE458 := GW458; replace HB := As.mk (bS zz hb); clear hb hbox hg) | ((with_reducible refine gD (N := 2) rfl ?_); refine bx 2 #[.int .i64 0, .int .i64 0, .int .i64 0, .int .i64 0, .bool false] 38 ?_; intro gb459 hg w3 hbox hb; have BK459 := As.mk (hbox); have GW459 := As.mk ((by rw [hg]; exact (bZ (by repeat (first | (with_reducible first | exact HB.out | apply bA | apply bN | apply bD | refine bT ?_ GE458.out) | exact HB.out))) : w.heap.size ≤ gb459)); have GE459 := GW459; replace HB := As.mk (bS (by repeat (first | (with_reducible first | exact HB.out | apply bA | apply bN | apply bD | refine bT ?_ GE458.out) | exact HB.out)) hb); have NB458_459 := As.mk ((by rw [hg]; exact Nat.ne_of_lt (blk_lt (g := gb458) (o := .cells #[.int .i64 a0_0, .int .i64 a0_1] 36 (0, 0)) (by (with_reducible repeat (first | apply kN | apply kD | apply kA)); exact BK458.out)) : gb458 ≠ gb459)); have NB459_458 := As.mk ((by rw [hg]; exact Nat.ne_of_gt (blk_lt (g := gb458) (o := .cells #[.int .i64 a0_0, .int .i64 a0_1] 36 (0, 0)) (by (with_reducible repeat (first | apply kN | apply kD | apply kA)); exact BK458.out)) : gb459 ≠ gb458)); replace BK458 := As.mk (kB (g := gb458) (o := .cells #[.int .i64 a0_0, .int .i64 a0_1] 36 (0, 0)) (by (with_reducible repeat (first | apply kN | apply kD | apply kA)); exact BK458.out) hb); clear hb hbox hg; have hnb4 := NB458_459.out; have hnc4 := NB459_458.out; have hcz5_0 : w3.cell? ⟨gb458, 0, none⟩ = some (.int .i64 a0_0) := (kC BK458.out 0).trans rfl; have hcz5_1 : w3.cell? ⟨gb458, 1, none⟩ = some (.int .i64 a0_1) := (kC BK458.out 1).trans rfl; have hfz5_0 := kF BK458.out 0; have hfz5_1 := kF BK458.out 1; have hcz6_0 : w3.cell? ⟨gb459, 0, none⟩ = some (.int .i64 0) := (kC BK459.out 0).trans rfl; have hcz6_1 : w3.cell? ⟨gb459, 1, none⟩ = some (.int .i64 0) := (kC BK459.out 1).trans rfl; have hcz6_2 : w3.cell? ⟨gb459, 2, none⟩ = some (.int .i64 0) := (kC BK459.out 2).trans rfl; have hcz6_3 : w3.cell? ⟨gb459, 3, none⟩ = some (.int .i64 0) := (kC BK459.out 3).trans rfl; have hcz6_4 : w3.cell? ⟨gb459, 4, none⟩ = some (.bool false) := (kC BK459.out 4).trans rfl; have hfz6_0 := kF BK459.out 0; have hfz6_1 := kF BK459.out 1; have hfz6_2 := kF BK459.out 2; have hfz6_3 := kF BK459.out 3; have hfz6_4 := kF BK459.out 4))
 refine bodyPost_ret (results_cell_row rfl _ _ gb459 38 #[.int .i64 2, .int .i64 0, .int .i64 a0_0, .int .i64 a0_1, .bool false] (0, 0) _ rfl (by (with_reducible repeat (first | apply kN | apply kD | apply kA)); refine kP (cs := #[.int .i64 2, .int .i64 0, .int .i64 a0_0, .int .i64 a0_1, .bool false]) ?_ 4 _ rfl; (with_reducible repeat (first | apply kN | apply kD | apply kA)); refine kP (cs := #[.int .i64 2, .int .i64 0, .int .i64 a0_0, .int .i64 0, .bool false]) ?_ 3 _ rfl; (with_reducible repeat (first | apply kN | apply kD | apply kA)); refine kP (cs := #[.int .i64 2, .int .i64 0, .int .i64 0, .int .i64 0, .bool false]) ?_ 2 _ rfl; (with_reducible repeat (first | apply kN | apply kD | apply kA)); refine kP (cs := #[.int .i64 2, .int .i64 0, .int .i64 0, .int .i64 0, .bool false]) ?_ 1 _ rfl; (with_reducible repeat (first | apply kN | apply kD | apply kA)); refine kP (cs := #[.int .i64 0, .int .i64 0, .int .i64 0, .int .i64 0, .bool false]) ?_ 0 _ rfl; (with_reducible repeat (first | apply kN | apply kD | apply kA)); exact BK459.out) Tryz.underlying38 rfl (by kernel_rfl)) rfl ?_
 exact ⟨by first | rfl | (simp [eN, eS] <;> rfl) | (simp [*, eN, eS] <;> rfl), by repeat (first | (with_reducible first | exact HB.out | apply bA | apply bN | apply bD | refine bT ?_ GE458.out | refine bT ?_ GE459.out) | exact HB.out)⟩
def real_Valid.f (a0_0 : Int) (a0_1 : Int) : Option (Bool) := if (a0_0 == 0 && (a0_1 == 0)) = true then (some true) else (if (mx a0_0 (wrap64 (-a0_0))) < 1 then (some false) else (if (mx a0_0 (wrap64 (-a0_0))) ≥ 16777216 then (some false) else (if a0_1 = (-150) then (some true) else (if (mx a0_0 (wrap64 (-a0_0))) ≥ 8388608 then (if a0_1 > (-150) then (some (decide (a0_1 ≤ 150))) else (some false)) else (some false)))))
theorem real_Valid.calls (a0_0 : Int) (a0_1 : Int) (r : Bool) (w : World) (h : real_Valid.f a0_0 a0_1 = some r) :
  Calls Tryz.prog 75 #[.agg #[.int .i64 a0_0, .int .i64 a0_1]] w fun e w' => e = .returned (.bool r) ∧ Below w.heap.size w w' := by
 have hu57 := Tryz.underlying36
 have HB := As.mk (Below.refl w.heap.size w)
 have H : (if (a0_0 == 0 && (a0_1 == 0)) = true then (some true) else (if (mx a0_0 (wrap64 (-a0_0))) < 1 then (some false) else (if (mx a0_0 (wrap64 (-a0_0))) ≥ 16777216 then (some false) else (if a0_1 = (-150) then (some true) else (if (mx a0_0 (wrap64 (-a0_0))) ≥ 8388608 then (if a0_1 > (-150) then (some (decide (a0_1 ≤ 150))) else (some false)) else (some false)))))) = some r := h
 clear h
 by_cases c2 : (a0_0 == 0 && (a0_1 == 0)) = true
 ·rw [if_pos c2] at H
  have c2b0 : (a0_0 == 0 && (a0_1 == 0)) = true := c2
  (try (have c2b1 : decide (a0_0 = 0 && (a0_1 == 0)) = true := by simpa using c2))
  (try (have c2b2 : (a0_0 == 0 && (a0_1 == 0)) = true := by simpa using c2))
  clear c2
  obtain rfl := Option.some.inj H
  go_enter Tryz.func75, Tryz.ntmps75
  go_wp2_with (first | ((with_reducible refine gD (N := 1) rfl ?_); refine bx 1 #[.int .i64 a0_0, .int .i64 a0_1] 36 ?_; intro gb460 hg w3 hbox hb; have BK460 := As.mk (hbox); have GW460 := As.mk ((by rw [hg]; exact (bZ zz) : w.heap.size ≤ gb460)); have GE460 := GW460; replace HB := As.mk (bS zz hb); clear hb hbox hg; have hcz4_0 : w3.cell? ⟨gb460, 0, none⟩ = some (.int .i64 a0_0) := (kC BK460.out 0).trans rfl; have hcz4_1 : w3.cell? ⟨gb460, 1, none⟩ = some (.int .i64 a0_1) := (kC BK460.out 1).trans rfl; have hfz4_0 := kF BK460.out 0; have hfz4_1 := kF BK460.out 1))
  go_ret
  exact ⟨by first | rfl | (simp [eN, eS] <;> rfl) | (simp [*, eN, eS] <;> rfl), by repeat (first | (with_reducible first | exact HB.out | apply bA | apply bN | apply bD | refine bT ?_ GE460.out) | exact HB.out)⟩
 ·rw [if_neg c2] at H
  have c2b0 : (a0_0 == 0 && (a0_1 == 0)) = false := by simpa using c2
  (try (have c2b1 : decide (a0_0 = 0 && (a0_1 == 0)) = false := by simpa using c2))
  (try (have c2b2 : (a0_0 == 0 && (a0_1 == 0)) = false := by simpa using c2))
  (try (have c2b3 : ¬ (a0_0 = 0 && (a0_1 == 0)) := by simpa using c2))
  clear c2
  obtain ⟨ji5, hji5⟩ : ∃ j_ : Int, (mx a0_0 (wrap64 (-a0_0))) = j_ := ⟨_, rfl⟩
  replace H : (if (ji5) < 1 then (some false) else (if (ji5) ≥ 16777216 then (some false) else (if a0_1 = (-150) then (some true) else (if (ji5) ≥ 8388608 then (if a0_1 > (-150) then (some (decide (a0_1 ≤ 150))) else (some false)) else (some false))))) = some r := by first | (rw [hji5] at H; exact H) | (simp only [hji5] at H ⊢; exact H)
  have hji5_ : (if a0_0 < (wrap64 (-a0_0)) then (wrap64 (-a0_0)) else a0_0) = ji5 := hji5
  by_cases c6 : (ji5) < 1
  ·rw [if_pos c6] at H
   have c6b0 : decide ((ji5) < 1) = true := decide_eq_true c6
   clear c6
   obtain rfl := Option.some.inj H
   go_enter Tryz.func75, Tryz.ntmps75
   go_wp2_with (first | ((with_reducible refine gD (N := 1) rfl ?_); refine bx 1 #[.int .i64 a0_0, .int .i64 a0_1] 36 ?_; intro gb460 hg w7 hbox hb; have BK460 := As.mk (hbox); have GW460 := As.mk ((by rw [hg]; exact (bZ zz) : w.heap.size ≤ gb460)); have GE460 := GW460; replace HB := As.mk (bS zz hb); clear hb hbox hg; have hcz8_0 : w7.cell? ⟨gb460, 0, none⟩ = some (.int .i64 a0_0) := (kC BK460.out 0).trans rfl; have hcz8_1 : w7.cell? ⟨gb460, 1, none⟩ = some (.int .i64 a0_1) := (kC BK460.out 1).trans rfl; have hfz8_0 := kF BK460.out 0; have hfz8_1 := kF BK460.out 1))
   go_ret
   exact ⟨by first | rfl | (simp [eN, eS] <;> rfl) | (simp only [← hji5]; first | rfl | (simp [eN, eS] <;> rfl)) | (simp [*, eN, eS] <;> rfl), by repeat (first | (with_reducible first | exact HB.out | apply bA | apply bN | apply bD | refine bT ?_ GE460.out) | exact HB.out)⟩
  ·rw [if_neg c6] at H
   have c6b0 : decide ((ji5) < 1) = false := decide_eq_false c6
   clear c6
   by_cases c9 : (ji5) ≥ 16777216
   ·rw [if_pos c9] at H
    have c9b0 : decide (16777216 ≤ (ji5)) = true := decide_eq_true c9
    clear c9
    obtain rfl := Option.some.inj H
    go_enter Tryz.func75, Tryz.ntmps75
    go_wp2_with (first | ((with_reducible refine gD (N := 1) rfl ?_); refine bx 1 #[.int .i64 a0_0, .int .i64 a0_1] 36 ?_; intro gb460 hg w10 hbox hb; have BK460 := As.mk (hbox); have GW460 := As.mk ((by rw [hg]; exact (bZ zz) : w.heap.size ≤ gb460)); have GE460 := GW460; replace HB := As.mk (bS zz hb); clear hb hbox hg; have hcz11_0 : w10.cell? ⟨gb460, 0, none⟩ = some (.int .i64 a0_0) := (kC BK460.out 0).trans rfl; have hcz11_1 : w10.cell? ⟨gb460, 1, none⟩ = some (.int .i64 a0_1) := (kC BK460.out 1).trans rfl; have hfz11_0 := kF BK460.out 0; have hfz11_1 := kF BK460.out 1))
    go_ret
    exact ⟨by first | rfl | (simp [eN, eS] <;> rfl) | (simp only [← hji5]; first | rfl | (simp [eN, eS] <;> rfl)) | (simp [*, eN, eS] <;> rfl), by repeat (first | (with_reducible first | exact HB.out | apply bA | apply bN | apply bD | refine bT ?_ GE460.out) | exact HB.out)⟩
   ·rw [if_neg c9] at H
    have c9b0 : decide (16777216 ≤ (ji5)) = false := decide_eq_false c9
    clear c9
    by_cases c12 : a0_1 = (-150)
    ·rw [if_pos c12] at H
     have c12b0 : (a0_1 == (-150)) = true := beq_iff_eq.mpr c12
     have c12b1 : (a0_1 != (-150)) = false := bne_eq_false_iff_eq.mpr c12
     clear c12
     obtain rfl := Option.some.inj H
     go_enter Tryz.func75, Tryz.ntmps75
     go_wp2_with (first | ((with_reducible refine gD (N := 1) rfl ?_); refine bx 1 #[.int .i64 a0_0, .int .i64 a0_1] 36 ?_; intro gb460 hg w13 hbox hb; have BK460 := As.mk (hbox); have GW460 := As.mk ((by rw [hg]; exact (bZ zz) : w.heap.size ≤ gb460)); have GE460 := GW460; replace HB := As.mk (bS zz hb); clear hb hbox hg; have hcz14_0 : w13.cell? ⟨gb460, 0, none⟩ = some (.int .i64 a0_0) := (kC BK460.out 0).trans rfl; have hcz14_1 : w13.cell? ⟨gb460, 1, none⟩ = some (.int .i64 a0_1) := (kC BK460.out 1).trans rfl; have hfz14_0 := kF BK460.out 0; have hfz14_1 := kF BK460.out 1))
     go_ret
     exact ⟨by first | rfl | (simp [eN, eS] <;> rfl) | (simp only [← hji5]; first | rfl | (simp [eN, eS] <;> rfl)) | (simp [*, eN, eS] <;> rfl), by repeat (first | (with_reducible first | exact HB.out | apply bA | apply bN | apply bD | refine bT ?_ GE460.out) | exact HB.out)⟩
    ·rw [if_neg c12] at H
     have c12b0 : (a0_1 == (-150)) = false := beq_eq_false_iff_ne.mpr c12
     have c12b1 : (a0_1 != (-150)) = true := bne_iff_ne.mpr c12
     by_cases c15 : (ji5) ≥ 8388608
     ·rw [if_pos c15] at H
      have c15b0 : decide (8388608 ≤ (ji5)) = true := decide_eq_true c15
      clear c15
      by_cases c16 : a0_1 > (-150)
      ·rw [if_pos c16] at H
       have c16b0 : decide ((-150) < a0_1) = true := decide_eq_true c16
       clear c16
       obtain rfl := Option.some.inj H
       go_enter Tryz.func75, Tryz.ntmps75
       go_wp2_with (first | ((with_reducible refine gD (N := 1) rfl ?_); refine bx 1 #[.int .i64 a0_0, .int .i64 a0_1] 36 ?_; intro gb460 hg w17 hbox hb; have BK460 := As.mk (hbox); have GW460 := As.mk ((by rw [hg]; exact (bZ zz) : w.heap.size ≤ gb460)); have GE460 := GW460; replace HB := As.mk (bS zz hb); clear hb hbox hg; have hcz18_0 : w17.cell? ⟨gb460, 0, none⟩ = some (.int .i64 a0_0) := (kC BK460.out 0).trans rfl; have hcz18_1 : w17.cell? ⟨gb460, 1, none⟩ = some (.int .i64 a0_1) := (kC BK460.out 1).trans rfl; have hfz18_0 := kF BK460.out 0; have hfz18_1 := kF BK460.out 1))
       go_ret
       exact ⟨by first | rfl | (simp [eN, eS] <;> rfl) | (simp only [← hji5]; first | rfl | (simp [eN, eS] <;> rfl)) | (simp [*, eN, eS] <;> rfl), by repeat (first | (with_reducible first | exact HB.out | apply bA | apply bN | apply bD | refine bT ?_ GE460.out) | exact HB.out)⟩
      ·rw [if_neg c16] at H
       have c16b0 : decide ((-150) < a0_1) = false := decide_eq_false c16
       clear c16
       obtain rfl := Option.some.inj H
       go_enter Tryz.func75, Tryz.ntmps75
       go_wp2_with (first | ((with_reducible refine gD (N := 1) rfl ?_); refine bx 1 #[.int .i64 a0_0, .int .i64 a0_1] 36 ?_; intro gb460 hg w19 hbox hb; have BK460 := As.mk (hbox); have GW460 := As.mk ((by rw [hg]; exact (bZ zz) : w.heap.size ≤ gb460)); have GE460 := GW460; replace HB := As.mk (bS zz hb); clear hb hbox hg; have hcz20_0 : w19.cell? ⟨gb460, 0, none⟩ = some (.int .i64 a0_0) := (kC BK460.out 0).trans rfl; have hcz20_1 : w19.cell? ⟨gb460, 1, none⟩ = some (.int .i64 a0_1) := (kC BK460.out 1).trans rfl; have hfz20_0 := kF BK460.out 0; have hfz20_1 := kF BK460.out 1))
       go_ret
       exact ⟨by first | rfl | (simp [eN, eS] <;> rfl) | (simp only [← hji5]; first | rfl | (simp [eN, eS] <;> rfl)) | (simp [*, eN, eS] <;> rfl), by repeat (first | (with_reducible first | exact HB.out | apply bA | apply bN | apply bD | refine bT ?_ GE460.out) | exact HB.out)⟩
     ·rw [if_neg c15] at H
      have c15b0 : decide (8388608 ≤ (ji5)) = false := decide_eq_false c15
      clear c15
      obtain rfl := Option.some.inj H
      go_enter Tryz.func75, Tryz.ntmps75
      go_wp2_with (first | ((with_reducible refine gD (N := 1) rfl ?_); refine bx 1 #[.int .i64 a0_0, .int .i64 a0_1] 36 ?_; intro gb460 hg w21 hbox hb; have BK460 := As.mk (hbox); have GW460 := As.mk ((by rw [hg]; exact (bZ zz) : w.heap.size ≤ gb460)); have GE460 := GW460; replace HB := As.mk (bS zz hb); clear hb hbox hg; have hcz22_0 : w21.cell? ⟨gb460, 0, none⟩ = some (.int .i64 a0_0) := (kC BK460.out 0).trans rfl; have hcz22_1 : w21.cell? ⟨gb460, 1, none⟩ = some (.int .i64 a0_1) := (kC BK460.out 1).trans rfl; have hfz22_0 := kF BK460.out 0; have hfz22_1 := kF BK460.out 1))
      go_ret
      exact ⟨by first | rfl | (simp [eN, eS] <;> rfl) | (simp only [← hji5]; first | rfl | (simp [eN, eS] <;> rfl)) | (simp [*, eN, eS] <;> rfl), by repeat (first | (with_reducible first | exact HB.out | apply bA | apply bN | apply bD | refine bT ?_ GE460.out) | exact HB.out)⟩
def value_ofBool.f (a0 : Bool) : Option (Int × Int × Int × Int × Bool) := some (3, 0, 0, 0, a0)
theorem value_ofBool.calls (a0 : Bool) (r1 : Int) (r2 : Int) (r3 : Int) (r4 : Int) (r5 : Bool) (w : World) (h : value_ofBool.f a0 = some (r1, r2, r3, r4, r5)) :
  Calls Tryz.prog 76 #[.bool a0] w fun e w' => e = .returned (.agg #[.int .i64 r1, .int .i64 r2, .int .i64 r3, .int .i64 r4, .bool r5]) ∧ Below w.heap.size w w' := by
 have hu59 := Tryz.underlying38
 have HB := As.mk (Below.refl w.heap.size w)
 have H : (some (3, 0, 0, 0, a0)) = some (r1, r2, r3, r4, r5) := h
 clear h
 simp only [Option.some.injEq, Prod.mk.injEq] at H
 obtain ⟨rfl, rfl, rfl, rfl, rfl⟩ := H
 go_enter Tryz.func76, Tryz.ntmps76
 go_wp2_with (first | ((with_reducible refine gD (N := 2) rfl ?_); refine bx 2 #[.int .i64 0, .int .i64 0, .int .i64 0, .int .i64 0, .bool false] 38 ?_; intro gb461 hg w2 hbox hb; have BK461 := As.mk (hbox); have GW461 := As.mk ((by rw [hg]; exact (bZ zz) : w.heap.size ≤ gb461)); have GE461 := GW461; replace HB := As.mk (bS zz hb); clear hb hbox hg; have hcz3_0 : w2.cell? ⟨gb461, 0, none⟩ = some (.int .i64 0) := (kC BK461.out 0).trans rfl; have hcz3_1 : w2.cell? ⟨gb461, 1, none⟩ = some (.int .i64 0) := (kC BK461.out 1).trans rfl; have hcz3_2 : w2.cell? ⟨gb461, 2, none⟩ = some (.int .i64 0) := (kC BK461.out 2).trans rfl; have hcz3_3 : w2.cell? ⟨gb461, 3, none⟩ = some (.int .i64 0) := (kC BK461.out 3).trans rfl; have hcz3_4 : w2.cell? ⟨gb461, 4, none⟩ = some (.bool false) := (kC BK461.out 4).trans rfl; have hfz3_0 := kF BK461.out 0; have hfz3_1 := kF BK461.out 1; have hfz3_2 := kF BK461.out 2; have hfz3_3 := kF BK461.out 3; have hfz3_4 := kF BK461.out 4))
 refine bodyPost_ret (results_cell_row rfl _ _ gb461 38 #[.int .i64 3, .int .i64 0, .int .i64 0, .int .i64 0, .bool a0] (0, 0) _ rfl (by (with_reducible repeat (first | apply kN | apply kD | apply kA)); refine kP (cs := #[.int .i64 3, .int .i64 0, .int .i64 0, .int .i64 0, .bool false]) ?_ 4 _ rfl; (with_reducible repeat (first | apply kN | apply kD | apply kA)); refine kP (cs := #[.int .i64 3, .int .i64 0, .int .i64 0, .int .i64 0, .bool false]) ?_ 3 _ rfl; (with_reducible repeat (first | apply kN | apply kD | apply kA)); refine kP (cs := #[.int .i64 3, .int .i64 0, .int .i64 0, .int .i64 0, .bool false]) ?_ 2 _ rfl; (with_reducible repeat (first | apply kN | apply kD | apply kA)); refine kP (cs := #[.int .i64 3, .int .i64 0, .int .i64 0, .int .i64 0, .bool false]) ?_ 1 _ rfl; (with_reducible repeat (first | apply kN | apply kD | apply kA)); refine kP (cs := #[.int .i64 0, .int .i64 0, .int .i64 0, .int .i64 0, .bool false]) ?_ 0 _ rfl; (with_reducible repeat (first | apply kN | apply kD | apply kA)); exact BK461.out) Tryz.underlying38 rfl (by kernel_rfl)) rfl ?_
 exact ⟨by first | rfl | (simp [eN, eS] <;> rfl) | (simp [*, eN, eS] <;> rfl), by repeat (first | (with_reducible first | exact HB.out | apply bA | apply bN | apply bD | refine bT ?_ GE461.out) | exact HB.out)⟩
def value_Valid.f (a0_0 : Int) (a0_1 : Int) (a0_2 : Int) (a0_3 : Int) (a0_4 : Bool) : Option (Bool) := if a0_0 = 1 then ((value_ofInt.f a0_1).bind fun bt463 => (if (a0_0 == bt463.1 && (a0_1 == bt463.2.1 && ((a0_2 == bt463.2.2.1 && (a0_3 == bt463.2.2.2.1)) && (a0_4 == bt463.2.2.2.2)))) = true then ((integer_Valid.f a0_1).bind fun t468 => (some t468)) else (some false))) else (if a0_0 = 2 then ((value_ofReal.f a0_2 a0_3).bind fun bt469 => (if (a0_0 == bt469.1 && (a0_1 == bt469.2.1 && ((a0_2 == bt469.2.2.1 && (a0_3 == bt469.2.2.2.1)) && (a0_4 == bt469.2.2.2.2)))) = true then ((real_Valid.f a0_2 a0_3).bind fun t474 => (some t474)) else (some false))) else (if a0_0 = 3 then ((value_ofBool.f a0_4).bind fun bt475 => (some (a0_0 == bt475.1 && (a0_1 == bt475.2.1 && ((a0_2 == bt475.2.2.1 && (a0_3 == bt475.2.2.2.1)) && (a0_4 == bt475.2.2.2.2)))))) else (some false)))
def value_Valid.T3 : Bool × List (List Nat × List Nat) := (true, [([], []), ([], []), ([1], [1]), ([2], [2]), ([0, 3], [0, 3]), ([4, 3], [4]), ([5], [5]), ([6, 5], [5, 6]), ([7, 5, 5], [5, 7]), ([5, 8], [5, 8]), ([9, 8, 0, 1, 2, 3, 4, 5, 6, 7, 8, 9], [9])])
def value_Valid.B3 : List Nat := [0, 0, 2, 6, 15, 31, 63, 127, 255, 511, 1023]
theorem value_Valid.tab3 : rtab .any (opsOf Tryz.f49 3) = value_Valid.T3 := by kernel_rfl
theorem value_Valid.bits3 : waitsOk value_Valid.T3.2 value_Valid.B3 = true := by kernel_rfl
def value_Valid.T5 : Bool × List (List Nat × List Nat) := (true, [([], []), ([], []), ([1], [1]), ([2], [2]), ([0, 3], [0, 3]), ([4, 3], [4]), ([5], [5]), ([6, 5], [5, 6]), ([7, 5, 5], [5, 7]), ([5, 8], [5, 8]), ([9, 8, 0, 1, 2, 3, 4, 5, 6, 7, 8, 9], [9])])
def value_Valid.B5 : List Nat := [0, 0, 2, 6, 15, 31, 63, 127, 255, 511, 1023]
theorem value_Valid.tab5 : rtab .any (opsOf Tryz.f49 5) = value_Valid.T5 := by kernel_rfl
theorem value_Valid.bits5 : waitsOk value_Valid.T5.2 value_Valid.B5 = true := by kernel_rfl
theorem value_Valid.calls (a0_0 : Int) (a0_1 : Int) (a0_2 : Int) (a0_3 : Int) (a0_4 : Bool) (r : Bool) (w : World) (h : value_Valid.f a0_0 a0_1 a0_2 a0_3 a0_4 = some r) :
  Calls Tryz.prog 49 #[.agg #[.int .i64 a0_0, .int .i64 a0_1, .int .i64 a0_2, .int .i64 a0_3, .bool a0_4]] w fun e w' => e = .returned (.bool r) ∧ Below w.heap.size w w' := by
 have hu59 := Tryz.underlying38
 have hu57 := Tryz.underlying36
 have HB := As.mk (Below.refl w.heap.size w)
 have H : (if a0_0 = 1 then ((value_ofInt.f a0_1).bind fun bt463 => (if (a0_0 == bt463.1 && (a0_1 == bt463.2.1 && ((a0_2 == bt463.2.2.1 && (a0_3 == bt463.2.2.2.1)) && (a0_4 == bt463.2.2.2.2)))) = true then ((integer_Valid.f a0_1).bind fun t468 => (some t468)) else (some false))) else (if a0_0 = 2 then ((value_ofReal.f a0_2 a0_3).bind fun bt469 => (if (a0_0 == bt469.1 && (a0_1 == bt469.2.1 && ((a0_2 == bt469.2.2.1 && (a0_3 == bt469.2.2.2.1)) && (a0_4 == bt469.2.2.2.2)))) = true then ((real_Valid.f a0_2 a0_3).bind fun t474 => (some t474)) else (some false))) else (if a0_0 = 3 then ((value_ofBool.f a0_4).bind fun bt475 => (some (a0_0 == bt475.1 && (a0_1 == bt475.2.1 && ((a0_2 == bt475.2.2.1 && (a0_3 == bt475.2.2.2.1)) && (a0_4 == bt475.2.2.2.2)))))) else (some false)))) = some r := h
 clear h
 by_cases c2 : a0_0 = 1
 ·rw [if_pos c2] at H
  have c2b0 : (a0_0 == 1) = true := beq_iff_eq.mpr c2
  have c2b1 : (a0_0 != 1) = false := bne_eq_false_iff_eq.mpr c2
  clear c2
  replace H := Option.bind_eq_some_iff.mp H
  obtain ⟨⟨t463, t464, t465, t466, t467⟩, A30, H⟩ := H
  replace H : (if (a0_0 == t463 && (a0_1 == t464 && ((a0_2 == t465 && (a0_3 == t466)) && (a0_4 == t467)))) = true then ((integer_Valid.f a0_1).bind fun t468 => (some t468)) else (some false)) = some r := H
  have A3 := As.mk A30
  clear A30
  by_cases c4 : (a0_0 == t463 && (a0_1 == t464 && ((a0_2 == t465 && (a0_3 == t466)) && (a0_4 == t467)))) = true
  ·rw [if_pos c4] at H
   have c4b0 : (a0_0 == t463 && (a0_1 == t464 && ((a0_2 == t465 && (a0_3 == t466)) && (a0_4 == t467)))) = true := c4
   (try (have c4b1 : decide (a0_0 = t463 && (a0_1 == t464 && ((a0_2 == t465 && (a0_3 == t466)) && (a0_4 == t467)))) = true := by simpa using c4))
   (try (have c4b2 : (a0_0 == t463 && (a0_1 == t464 && ((a0_2 == t465 && (a0_3 == t466)) && (a0_4 == t467)))) = true := by simpa using c4))
   clear c4
   replace H := Option.bind_eq_some_iff.mp H
   obtain ⟨t468, A50, H⟩ := H
   replace H : (some t468) = some r := H
   have A5 := As.mk A50
   clear A50
   obtain rfl := Option.some.inj H
   go_enter Tryz.func49, Tryz.ntmps49
   try go_wp2_with (first | ((with_reducible refine gD (N := 1) rfl ?_); refine bx 1 #[.int .i64 a0_0, .int .i64 a0_1, .int .i64 a0_2, .int .i64 a0_3, .bool a0_4] 38 ?_; intro gb462 hg w6 hbox hb; have BK462 := As.mk (hbox); have GW462 := As.mk ((by rw [hg]; exact (bZ zz) : w.heap.size ≤ gb462)); have GE462 := GW462; replace HB := As.mk (bS zz hb); clear hb hbox hg; have hcz7_0 : w6.cell? ⟨gb462, 0, none⟩ = some (.int .i64 a0_0) := (kC BK462.out 0).trans rfl; have hcz7_1 : w6.cell? ⟨gb462, 1, none⟩ = some (.int .i64 a0_1) := (kC BK462.out 1).trans rfl; have hcz7_2 : w6.cell? ⟨gb462, 2, none⟩ = some (.int .i64 a0_2) := (kC BK462.out 2).trans rfl; have hcz7_3 : w6.cell? ⟨gb462, 3, none⟩ = some (.int .i64 a0_3) := (kC BK462.out 3).trans rfl; have hcz7_4 : w6.cell? ⟨gb462, 4, none⟩ = some (.bool a0_4) := (kC BK462.out 4).trans rfl; have hfz7_0 := kF BK462.out 0; have hfz7_1 := kF BK462.out 1; have hfz7_2 := kF BK462.out 2; have hfz7_3 := kF BK462.out 3; have hfz7_4 := kF BK462.out 4))
   replace BK462 := As.mk (kD BK462.out)
   replace HB := As.mk (bD HB.out)
   refine start_ (n := 11) (S := fun w' => w'.cell? ⟨gb462, 0, none⟩ = some (.int .i64 a0_0) ∧ w'.cell? ⟨gb462, 1, none⟩ = some (.int .i64 a0_1) ∧ w'.cell? ⟨gb462, 2, none⟩ = some (.int .i64 a0_2) ∧ w'.cell? ⟨gb462, 3, none⟩ = some (.int .i64 a0_3) ∧ w'.cell? ⟨gb462, 4, none⟩ = some (.bool a0_4)) (ds := []) #[false, false, false, false, false, false, false, false, false, false, false] (by kernel_rfl) rfl rfl ⟨(kC BK462.out 0).trans rfl, (kC BK462.out 1).trans rfl, (kC BK462.out 2).trans rfl, (kC BK462.out 3).trans rfl, (kC BK462.out 4).trans rfl⟩ (fun hHeld => ?_); refine with_tabW value_Valid.tab3 value_Valid.bits3 (fun HT_ HW_ => ?_)
   generalize w6.drew = w8 at BK462 HB hHeld ⊢
   refine pw 1 8 11 2 HT_ ?_
   refine tw 0 7 11 3 HT_ HW_ hHeld ?_
   refine tw 2 9 11 7 HT_ HW_ hHeld ?_
   refine one_ (i := 3) (N := some 10) #[true, true, true, true, false, false, false, false, false, false, false] rfl rfl (one_of HT_.out (by kernel_rfl)) (by decide) (fun K hK => ?_)
   refine gs Tryz.func72 #[.int .i64 a0_1] ?_
   with_reducible refine (value_ofInt.calls a0_1 t463 t464 t465 t466 t467 _ A3.out).mono ?_
   rintro e w9 ⟨rfl, hb⟩
   refine ⟨_, rfl, ?_⟩
   replace BK462 := As.mk (kB (g := gb462) (o := .cells #[.int .i64 a0_0, .int .i64 a0_1, .int .i64 a0_2, .int .i64 a0_3, .bool a0_4] 38 (0, 0)) (by (with_reducible repeat (first | apply kN | apply kD | apply kA)); exact BK462.out) hb)
   replace HB := As.mk (bS (by repeat (first | (with_reducible first | exact HB.out | apply bA | apply bN | apply bD | refine bT ?_ GE462.out) | exact HB.out)) hb)
   (try clear hb)
   (try clear hb2)
   (try clear hk)
   (try clear hi)
   refine hK.out _ _ ⟨(kC BK462.out 0).trans rfl, (kC BK462.out 1).trans rfl, (kC BK462.out 2).trans rfl, (kC BK462.out 3).trans rfl, (kC BK462.out 4).trans rfl⟩ (fun hHeld => ?_)
   clear hK K
   refine nm 10 ?_
   refine pw 4 11 11 31 HT_ ?_
   refine pw 5 12 11 63 HT_ ?_
   refine pw 6 13 11 127 HT_ ?_
   refine tw 7 14 11 255 HT_ HW_ hHeld ?_
   refine one_ (i := 8) (N := some 15) #[true, true, true, true, true, true, true, true, true, false, false] rfl rfl (one_of HT_.out (by kernel_rfl)) (by decide) (fun K hK => ?_)
   refine gs Tryz.func73 #[.int .i64 a0_1] ?_
   with_reducible refine (integer_Valid.calls a0_1 t468 _ A5.out).mono ?_
   rintro e w' ⟨rfl, ⟨nd, rfl⟩⟩
   refine ⟨_, rfl, ?_⟩
   refine hK.out _ _ ⟨(kC BK462.out 0).trans rfl, (kC BK462.out 1).trans rfl, (kC BK462.out 2).trans rfl, (kC BK462.out 3).trans rfl, (kC BK462.out 4).trans rfl⟩ (fun hHeld => ?_)
   clear hK K
   refine nm 15 ?_
   refine pw 9 16 11 1023 HT_ ?_
   refine pw 10 2 11 2047 HT_ ?_
   refine done_ (done_of HT_.out (by kernel_rfl)) ?_
   try go_wp2
   go_ret
   exact ⟨by first | rfl | (simp [eN, eS] <;> rfl) | (simp [*, eN, eS] <;> rfl), by repeat (first | (with_reducible first | exact HB.out | apply bA | apply bN | apply bD | refine bT ?_ GE462.out) | exact HB.out)⟩
  ·rw [if_neg c4] at H
   have c4b0 : (a0_0 == t463 && (a0_1 == t464 && ((a0_2 == t465 && (a0_3 == t466)) && (a0_4 == t467)))) = false := by simpa using c4
   (try (have c4b1 : decide (a0_0 = t463 && (a0_1 == t464 && ((a0_2 == t465 && (a0_3 == t466)) && (a0_4 == t467)))) = false := by simpa using c4))
   (try (have c4b2 : (a0_0 == t463 && (a0_1 == t464 && ((a0_2 == t465 && (a0_3 == t466)) && (a0_4 == t467)))) = false := by simpa using c4))
   (try (have c4b3 : ¬ (a0_0 = t463 && (a0_1 == t464 && ((a0_2 == t465 && (a0_3 == t466)) && (a0_4 == t467)))) := by simpa using c4))
   clear c4
   obtain rfl := Option.some.inj H
   go_enter Tryz.func49, Tryz.ntmps49
   try go_wp2_with (first | ((with_reducible refine gD (N := 1) rfl ?_); refine bx 1 #[.int .i64 a0_0, .int .i64 a0_1, .int .i64 a0_2, .int .i64 a0_3, .bool a0_4] 38 ?_; intro gb462 hg w10 hbox hb; have BK462 := As.mk (hbox); have GW462 := As.mk ((by rw [hg]; exact (bZ zz) : w.heap.size ≤ gb462)); have GE462 := GW462; replace HB := As.mk (bS zz hb); clear hb hbox hg; have hcz11_0 : w10.cell? ⟨gb462, 0, none⟩ = some (.int .i64 a0_0) := (kC BK462.out 0).trans rfl; have hcz11_1 : w10.cell? ⟨gb462, 1, none⟩ = some (.int .i64 a0_1) := (kC BK462.out 1).trans rfl; have hcz11_2 : w10.cell? ⟨gb462, 2, none⟩ = some (.int .i64 a0_2) := (kC BK462.out 2).trans rfl; have hcz11_3 : w10.cell? ⟨gb462, 3, none⟩ = some (.int .i64 a0_3) := (kC BK462.out 3).trans rfl; have hcz11_4 : w10.cell? ⟨gb462, 4, none⟩ = some (.bool a0_4) := (kC BK462.out 4).trans rfl; have hfz11_0 := kF BK462.out 0; have hfz11_1 := kF BK462.out 1; have hfz11_2 := kF BK462.out 2; have hfz11_3 := kF BK462.out 3; have hfz11_4 := kF BK462.out 4))
   replace BK462 := As.mk (kD BK462.out)
   replace HB := As.mk (bD HB.out)
   refine start_ (n := 11) (S := fun w' => w'.cell? ⟨gb462, 0, none⟩ = some (.int .i64 a0_0) ∧ w'.cell? ⟨gb462, 1, none⟩ = some (.int .i64 a0_1) ∧ w'.cell? ⟨gb462, 2, none⟩ = some (.int .i64 a0_2) ∧ w'.cell? ⟨gb462, 3, none⟩ = some (.int .i64 a0_3) ∧ w'.cell? ⟨gb462, 4, none⟩ = some (.bool a0_4)) (ds := []) #[false, false, false, false, false, false, false, false, false, false, false] (by kernel_rfl) rfl rfl ⟨(kC BK462.out 0).trans rfl, (kC BK462.out 1).trans rfl, (kC BK462.out 2).trans rfl, (kC BK462.out 3).trans rfl, (kC BK462.out 4).trans rfl⟩ (fun hHeld => ?_); refine with_tabW value_Valid.tab3 value_Valid.bits3 (fun HT_ HW_ => ?_)
   generalize w10.drew = w12 at BK462 HB hHeld ⊢
   refine pw 1 8 11 2 HT_ ?_
   refine tw 0 7 11 3 HT_ HW_ hHeld ?_
   refine tw 2 9 11 7 HT_ HW_ hHeld ?_
   refine one_ (i := 3) (N := some 10) #[true, true, true, true, false, false, false, false, false, false, false] rfl rfl (one_of HT_.out (by kernel_rfl)) (by decide) (fun K hK => ?_)
   refine gs Tryz.func72 #[.int .i64 a0_1] ?_
   with_reducible refine (value_ofInt.calls a0_1 t463 t464 t465 t466 t467 _ A3.out).mono ?_
   rintro e w13 ⟨rfl, hb⟩
   refine ⟨_, rfl, ?_⟩
   replace BK462 := As.mk (kB (g := gb462) (o := .cells #[.int .i64 a0_0, .int .i64 a0_1, .int .i64 a0_2, .int .i64 a0_3, .bool a0_4] 38 (0, 0)) (by (with_reducible repeat (first | apply kN | apply kD | apply kA)); exact BK462.out) hb)
   replace HB := As.mk (bS (by repeat (first | (with_reducible first | exact HB.out | apply bA | apply bN | apply bD | refine bT ?_ GE462.out) | exact HB.out)) hb)
   (try clear hb)
   (try clear hb2)
   (try clear hk)
   (try clear hi)
   refine hK.out _ _ ⟨(kC BK462.out 0).trans rfl, (kC BK462.out 1).trans rfl, (kC BK462.out 2).trans rfl, (kC BK462.out 3).trans rfl, (kC BK462.out 4).trans rfl⟩ (fun hHeld => ?_)
   clear hK K
   refine nm 10 ?_
   refine pw 4 11 11 31 HT_ ?_
   refine pw 5 12 11 63 HT_ ?_
   refine uw 6 13 11 127 HT_ ?_
   refine uw 7 14 11 255 HT_ ?_
   refine uw 8 15 11 511 HT_ ?_
   refine pw 9 16 11 1023 HT_ ?_
   refine pw 10 2 11 2047 HT_ ?_
   refine done_ (done_of HT_.out (by kernel_rfl)) ?_
   try go_wp2
   go_ret
   exact ⟨by first | rfl | (simp [eN, eS] <;> rfl) | (simp [*, eN, eS] <;> rfl), by repeat (first | (with_reducible first | exact HB.out | apply bA | apply bN | apply bD | refine bT ?_ GE462.out) | exact HB.out)⟩
 ·rw [if_neg c2] at H
  have c2b0 : (a0_0 == 1) = false := beq_eq_false_iff_ne.mpr c2
  have c2b1 : (a0_0 != 1) = true := bne_iff_ne.mpr c2
  by_cases c14 : a0_0 = 2
  ·rw [if_pos c14] at H
   have c14b0 : (a0_0 == 2) = true := beq_iff_eq.mpr c14
   have c14b1 : (a0_0 != 2) = false := bne_eq_false_iff_eq.mpr c14
   clear c14
   replace H := Option.bind_eq_some_iff.mp H
   obtain ⟨⟨t469, t470, t471, t472, t473⟩, A150, H⟩ := H
   replace H : (if (a0_0 == t469 && (a0_1 == t470 && ((a0_2 == t471 && (a0_3 == t472)) && (a0_4 == t473)))) = true then ((real_Valid.f a0_2 a0_3).bind fun t474 => (some t474)) else (some false)) = some r := H
   have A15 := As.mk A150
   clear A150
   by_cases c16 : (a0_0 == t469 && (a0_1 == t470 && ((a0_2 == t471 && (a0_3 == t472)) && (a0_4 == t473)))) = true
   ·rw [if_pos c16] at H
    have c16b0 : (a0_0 == t469 && (a0_1 == t470 && ((a0_2 == t471 && (a0_3 == t472)) && (a0_4 == t473)))) = true := c16
    (try (have c16b1 : decide (a0_0 = t469 && (a0_1 == t470 && ((a0_2 == t471 && (a0_3 == t472)) && (a0_4 == t473)))) = true := by simpa using c16))
    (try (have c16b2 : (a0_0 == t469 && (a0_1 == t470 && ((a0_2 == t471 && (a0_3 == t472)) && (a0_4 == t473)))) = true := by simpa using c16))
    clear c16
    replace H := Option.bind_eq_some_iff.mp H
    obtain ⟨t474, A170, H⟩ := H
    replace H : (some t474) = some r := H
    have A17 := As.mk A170
    clear A170
    obtain rfl := Option.some.inj H
    go_enter Tryz.func49, Tryz.ntmps49
    try go_wp2_with (first | ((with_reducible refine gD (N := 1) rfl ?_); refine bx 1 #[.int .i64 a0_0, .int .i64 a0_1, .int .i64 a0_2, .int .i64 a0_3, .bool a0_4] 38 ?_; intro gb462 hg w18 hbox hb; have BK462 := As.mk (hbox); have GW462 := As.mk ((by rw [hg]; exact (bZ zz) : w.heap.size ≤ gb462)); have GE462 := GW462; replace HB := As.mk (bS zz hb); clear hb hbox hg; have hcz19_0 : w18.cell? ⟨gb462, 0, none⟩ = some (.int .i64 a0_0) := (kC BK462.out 0).trans rfl; have hcz19_1 : w18.cell? ⟨gb462, 1, none⟩ = some (.int .i64 a0_1) := (kC BK462.out 1).trans rfl; have hcz19_2 : w18.cell? ⟨gb462, 2, none⟩ = some (.int .i64 a0_2) := (kC BK462.out 2).trans rfl; have hcz19_3 : w18.cell? ⟨gb462, 3, none⟩ = some (.int .i64 a0_3) := (kC BK462.out 3).trans rfl; have hcz19_4 : w18.cell? ⟨gb462, 4, none⟩ = some (.bool a0_4) := (kC BK462.out 4).trans rfl; have hfz19_0 := kF BK462.out 0; have hfz19_1 := kF BK462.out 1; have hfz19_2 := kF BK462.out 2; have hfz19_3 := kF BK462.out 3; have hfz19_4 := kF BK462.out 4))
    replace BK462 := As.mk (kD BK462.out)
    replace HB := As.mk (bD HB.out)
    refine start_ (n := 11) (S := fun w' => w'.cell? ⟨gb462, 0, none⟩ = some (.int .i64 a0_0) ∧ w'.cell? ⟨gb462, 1, none⟩ = some (.int .i64 a0_1) ∧ w'.cell? ⟨gb462, 2, none⟩ = some (.int .i64 a0_2) ∧ w'.cell? ⟨gb462, 3, none⟩ = some (.int .i64 a0_3) ∧ w'.cell? ⟨gb462, 4, none⟩ = some (.bool a0_4)) (ds := []) #[false, false, false, false, false, false, false, false, false, false, false] (by kernel_rfl) rfl rfl ⟨(kC BK462.out 0).trans rfl, (kC BK462.out 1).trans rfl, (kC BK462.out 2).trans rfl, (kC BK462.out 3).trans rfl, (kC BK462.out 4).trans rfl⟩ (fun hHeld => ?_); refine with_tabW value_Valid.tab5 value_Valid.bits5 (fun HT_ HW_ => ?_)
    generalize w18.drew = w20 at BK462 HB hHeld ⊢
    refine pw 1 20 11 2 HT_ ?_
    refine tw 0 19 11 3 HT_ HW_ hHeld ?_
    refine tw 2 21 11 7 HT_ HW_ hHeld ?_
    refine one_ (i := 3) (N := some 22) #[true, true, true, true, false, false, false, false, false, false, false] rfl rfl (one_of HT_.out (by kernel_rfl)) (by decide) (fun K hK => ?_)
    refine gs Tryz.func74 #[.agg #[.int .i64 a0_2, .int .i64 a0_3]] ?_
    with_reducible refine (value_ofReal.calls a0_2 a0_3 t469 t470 t471 t472 t473 _ A15.out).mono ?_
    rintro e w21 ⟨rfl, hb⟩
    refine ⟨_, rfl, ?_⟩
    replace BK462 := As.mk (kB (g := gb462) (o := .cells #[.int .i64 a0_0, .int .i64 a0_1, .int .i64 a0_2, .int .i64 a0_3, .bool a0_4] 38 (0, 0)) (by (with_reducible repeat (first | apply kN | apply kD | apply kA)); exact BK462.out) hb)
    replace HB := As.mk (bS (by repeat (first | (with_reducible first | exact HB.out | apply bA | apply bN | apply bD | refine bT ?_ GE462.out) | exact HB.out)) hb)
    (try clear hb)
    (try clear hb2)
    (try clear hk)
    (try clear hi)
    refine hK.out _ _ ⟨(kC BK462.out 0).trans rfl, (kC BK462.out 1).trans rfl, (kC BK462.out 2).trans rfl, (kC BK462.out 3).trans rfl, (kC BK462.out 4).trans rfl⟩ (fun hHeld => ?_)
    clear hK K
    refine nm 22 ?_
    refine pw 4 23 11 31 HT_ ?_
    refine pw 5 24 11 63 HT_ ?_
    refine pw 6 25 11 127 HT_ ?_
    refine tw 7 26 11 255 HT_ HW_ hHeld ?_
    refine one_ (i := 8) (N := some 27) #[true, true, true, true, true, true, true, true, true, false, false] rfl rfl (one_of HT_.out (by kernel_rfl)) (by decide) (fun K hK => ?_)
    refine gs Tryz.func75 #[.agg #[.int .i64 a0_2, .int .i64 a0_3]] ?_
    with_reducible refine (real_Valid.calls a0_2 a0_3 t474 _ A17.out).mono ?_
    rintro e w22 ⟨rfl, hb⟩
    refine ⟨_, rfl, ?_⟩
    replace BK462 := As.mk (kB (g := gb462) (o := .cells #[.int .i64 a0_0, .int .i64 a0_1, .int .i64 a0_2, .int .i64 a0_3, .bool a0_4] 38 (0, 0)) (by (with_reducible repeat (first | apply kN | apply kD | apply kA)); exact BK462.out) hb)
    replace HB := As.mk (bS (by repeat (first | (with_reducible first | exact HB.out | apply bA | apply bN | apply bD | refine bT ?_ GE462.out) | exact HB.out)) hb)
    (try clear hb)
    (try clear hb2)
    (try clear hk)
    (try clear hi)
    refine hK.out _ _ ⟨(kC BK462.out 0).trans rfl, (kC BK462.out 1).trans rfl, (kC BK462.out 2).trans rfl, (kC BK462.out 3).trans rfl, (kC BK462.out 4).trans rfl⟩ (fun hHeld => ?_)
    clear hK K
    refine nm 27 ?_
    refine pw 9 28 11 1023 HT_ ?_
    refine pw 10 2 11 2047 HT_ ?_
    refine done_ (done_of HT_.out (by kernel_rfl)) ?_
    try go_wp2
    go_ret
    exact ⟨by first | rfl | (simp [eN, eS] <;> rfl) | (simp [*, eN, eS] <;> rfl), by repeat (first | (with_reducible first | exact HB.out | apply bA | apply bN | apply bD | refine bT ?_ GE462.out) | exact HB.out)⟩
   ·rw [if_neg c16] at H
    have c16b0 : (a0_0 == t469 && (a0_1 == t470 && ((a0_2 == t471 && (a0_3 == t472)) && (a0_4 == t473)))) = false := by simpa using c16
    (try (have c16b1 : decide (a0_0 = t469 && (a0_1 == t470 && ((a0_2 == t471 && (a0_3 == t472)) && (a0_4 == t473)))) = false := by simpa using c16))
    (try (have c16b2 : (a0_0 == t469 && (a0_1 == t470 && ((a0_2 == t471 && (a0_3 == t472)) && (a0_4 == t473)))) = false := by simpa using c16))
    (try (have c16b3 : ¬ (a0_0 = t469 && (a0_1 == t470 && ((a0_2 == t471 && (a0_3 == t472)) && (a0_4 == t473)))) := by simpa using c16))
    clear c16
    obtain rfl := Option.some.inj H
    go_enter Tryz.func49, Tryz.ntmps49
    try go_wp2_with (first | ((with_reducible refine gD (N := 1) rfl ?_); refine bx 1 #[.int .i64 a0_0, .int .i64 a0_1, .int .i64 a0_2, .int .i64 a0_3, .bool a0_4] 38 ?_; intro gb462 hg w23 hbox hb; have BK462 := As.mk (hbox); have GW462 := As.mk ((by rw [hg]; exact (bZ zz) : w.heap.size ≤ gb462)); have GE462 := GW462; replace HB := As.mk (bS zz hb); clear hb hbox hg; have hcz24_0 : w23.cell? ⟨gb462, 0, none⟩ = some (.int .i64 a0_0) := (kC BK462.out 0).trans rfl; have hcz24_1 : w23.cell? ⟨gb462, 1, none⟩ = some (.int .i64 a0_1) := (kC BK462.out 1).trans rfl; have hcz24_2 : w23.cell? ⟨gb462, 2, none⟩ = some (.int .i64 a0_2) := (kC BK462.out 2).trans rfl; have hcz24_3 : w23.cell? ⟨gb462, 3, none⟩ = some (.int .i64 a0_3) := (kC BK462.out 3).trans rfl; have hcz24_4 : w23.cell? ⟨gb462, 4, none⟩ = some (.bool a0_4) := (kC BK462.out 4).trans rfl; have hfz24_0 := kF BK462.out 0; have hfz24_1 := kF BK462.out 1; have hfz24_2 := kF BK462.out 2; have hfz24_3 := kF BK462.out 3; have hfz24_4 := kF BK462.out 4))
    replace BK462 := As.mk (kD BK462.out)
    replace HB := As.mk (bD HB.out)
    refine start_ (n := 11) (S := fun w' => w'.cell? ⟨gb462, 0, none⟩ = some (.int .i64 a0_0) ∧ w'.cell? ⟨gb462, 1, none⟩ = some (.int .i64 a0_1) ∧ w'.cell? ⟨gb462, 2, none⟩ = some (.int .i64 a0_2) ∧ w'.cell? ⟨gb462, 3, none⟩ = some (.int .i64 a0_3) ∧ w'.cell? ⟨gb462, 4, none⟩ = some (.bool a0_4)) (ds := []) #[false, false, false, false, false, false, false, false, false, false, false] (by kernel_rfl) rfl rfl ⟨(kC BK462.out 0).trans rfl, (kC BK462.out 1).trans rfl, (kC BK462.out 2).trans rfl, (kC BK462.out 3).trans rfl, (kC BK462.out 4).trans rfl⟩ (fun hHeld => ?_); refine with_tabW value_Valid.tab5 value_Valid.bits5 (fun HT_ HW_ => ?_)
    generalize w23.drew = w25 at BK462 HB hHeld ⊢
    refine pw 1 20 11 2 HT_ ?_
    refine tw 0 19 11 3 HT_ HW_ hHeld ?_
    refine tw 2 21 11 7 HT_ HW_ hHeld ?_
    refine one_ (i := 3) (N := some 22) #[true, true, true, true, false, false, false, false, false, false, false] rfl rfl (one_of HT_.out (by kernel_rfl)) (by decide) (fun K hK => ?_)
    refine gs Tryz.func74 #[.agg #[.int .i64 a0_2, .int .i64 a0_3]] ?_
    with_reducible refine (value_ofReal.calls a0_2 a0_3 t469 t470 t471 t472 t473 _ A15.out).mono ?_
    rintro e w26 ⟨rfl, hb⟩
    refine ⟨_, rfl, ?_⟩
    replace BK462 := As.mk (kB (g := gb462) (o := .cells #[.int .i64 a0_0, .int .i64 a0_1, .int .i64 a0_2, .int .i64 a0_3, .bool a0_4] 38 (0, 0)) (by (with_reducible repeat (first | apply kN | apply kD | apply kA)); exact BK462.out) hb)
    replace HB := As.mk (bS (by repeat (first | (with_reducible first | exact HB.out | apply bA | apply bN | apply bD | refine bT ?_ GE462.out) | exact HB.out)) hb)
    (try clear hb)
    (try clear hb2)
    (try clear hk)
    (try clear hi)
    refine hK.out _ _ ⟨(kC BK462.out 0).trans rfl, (kC BK462.out 1).trans rfl, (kC BK462.out 2).trans rfl, (kC BK462.out 3).trans rfl, (kC BK462.out 4).trans rfl⟩ (fun hHeld => ?_)
    clear hK K
    refine nm 22 ?_
    refine pw 4 23 11 31 HT_ ?_
    refine pw 5 24 11 63 HT_ ?_
    refine uw 6 25 11 127 HT_ ?_
    refine uw 7 26 11 255 HT_ ?_
    refine uw 8 27 11 511 HT_ ?_
    refine pw 9 28 11 1023 HT_ ?_
    refine pw 10 2 11 2047 HT_ ?_
    refine done_ (done_of HT_.out (by kernel_rfl)) ?_
    try go_wp2
    go_ret
    exact ⟨by first | rfl | (simp [eN, eS] <;> rfl) | (simp [*, eN, eS] <;> rfl), by repeat (first | (with_reducible first | exact HB.out | apply bA | apply bN | apply bD | refine bT ?_ GE462.out) | exact HB.out)⟩
  ·rw [if_neg c14] at H
   have c14b0 : (a0_0 == 2) = false := beq_eq_false_iff_ne.mpr c14
   have c14b1 : (a0_0 != 2) = true := bne_iff_ne.mpr c14
   by_cases c27 : a0_0 = 3
   ·rw [if_pos c27] at H
    have c27b0 : (a0_0 == 3) = true := beq_iff_eq.mpr c27
    have c27b1 : (a0_0 != 3) = false := bne_eq_false_iff_eq.mpr c27
    clear c27
    replace H := Option.bind_eq_some_iff.mp H
    obtain ⟨⟨t475, t476, t477, t478, t479⟩, A280, H⟩ := H
    replace H : (some (a0_0 == t475 && (a0_1 == t476 && ((a0_2 == t477 && (a0_3 == t478)) && (a0_4 == t479))))) = some r := H
    have A28 := As.mk A280
    clear A280
    obtain rfl := Option.some.inj H
    go_enter Tryz.func49, Tryz.ntmps49
    try go_wp2_with (first | ((with_reducible refine gD (N := 1) rfl ?_); refine bx 1 #[.int .i64 a0_0, .int .i64 a0_1, .int .i64 a0_2, .int .i64 a0_3, .bool a0_4] 38 ?_; intro gb462 hg w29 hbox hb; have BK462 := As.mk (hbox); have GW462 := As.mk ((by rw [hg]; exact (bZ zz) : w.heap.size ≤ gb462)); have GE462 := GW462; replace HB := As.mk (bS zz hb); clear hb hbox hg; have hcz30_0 : w29.cell? ⟨gb462, 0, none⟩ = some (.int .i64 a0_0) := (kC BK462.out 0).trans rfl; have hcz30_1 : w29.cell? ⟨gb462, 1, none⟩ = some (.int .i64 a0_1) := (kC BK462.out 1).trans rfl; have hcz30_2 : w29.cell? ⟨gb462, 2, none⟩ = some (.int .i64 a0_2) := (kC BK462.out 2).trans rfl; have hcz30_3 : w29.cell? ⟨gb462, 3, none⟩ = some (.int .i64 a0_3) := (kC BK462.out 3).trans rfl; have hcz30_4 : w29.cell? ⟨gb462, 4, none⟩ = some (.bool a0_4) := (kC BK462.out 4).trans rfl; have hfz30_0 := kF BK462.out 0; have hfz30_1 := kF BK462.out 1; have hfz30_2 := kF BK462.out 2; have hfz30_3 := kF BK462.out 3; have hfz30_4 := kF BK462.out 4))
    replace BK462 := As.mk (kD BK462.out)
    replace HB := As.mk (bD HB.out)
    refine start_ (n := 6) (S := fun w' => w'.cell? ⟨gb462, 0, none⟩ = some (.int .i64 a0_0) ∧ w'.cell? ⟨gb462, 1, none⟩ = some (.int .i64 a0_1) ∧ w'.cell? ⟨gb462, 2, none⟩ = some (.int .i64 a0_2) ∧ w'.cell? ⟨gb462, 3, none⟩ = some (.int .i64 a0_3) ∧ w'.cell? ⟨gb462, 4, none⟩ = some (.bool a0_4)) (ds := []) #[false, false, false, false, false, false] (by kernel_rfl) rfl rfl ⟨(kC BK462.out 0).trans rfl, (kC BK462.out 1).trans rfl, (kC BK462.out 2).trans rfl, (kC BK462.out 3).trans rfl, (kC BK462.out 4).trans rfl⟩ (fun hHeld => ?_)
    generalize w29.drew = w31 at BK462 HB hHeld ⊢
    refine pk 1 32 6 2 ?_
    refine tk 0 31 6 3 hHeld ?_
    refine tk 2 33 6 7 hHeld ?_
    refine one_ (i := 3) (N := some 34) #[true, true, true, true, false, false] rfl rfl (by kernel_rfl) (by decide) (fun K hK => ?_)
    refine gs Tryz.func76 #[.bool a0_4] ?_
    with_reducible refine (value_ofBool.calls a0_4 t475 t476 t477 t478 t479 _ A28.out).mono ?_
    rintro e w32 ⟨rfl, hb⟩
    refine ⟨_, rfl, ?_⟩
    replace BK462 := As.mk (kB (g := gb462) (o := .cells #[.int .i64 a0_0, .int .i64 a0_1, .int .i64 a0_2, .int .i64 a0_3, .bool a0_4] 38 (0, 0)) (by (with_reducible repeat (first | apply kN | apply kD | apply kA)); exact BK462.out) hb)
    replace HB := As.mk (bS (by repeat (first | (with_reducible first | exact HB.out | apply bA | apply bN | apply bD | refine bT ?_ GE462.out) | exact HB.out)) hb)
    (try clear hb)
    (try clear hb2)
    (try clear hk)
    (try clear hi)
    refine hK.out _ _ ⟨(kC BK462.out 0).trans rfl, (kC BK462.out 1).trans rfl, (kC BK462.out 2).trans rfl, (kC BK462.out 3).trans rfl, (kC BK462.out 4).trans rfl⟩ (fun hHeld => ?_)
    clear hK K
    refine nm 34 ?_
    refine pk 4 35 6 31 ?_
    refine pk 5 2 6 63 ?_
    refine done_ (by kernel_rfl) ?_
    try go_wp2
    go_ret
    exact ⟨by first | rfl | (simp [eN, eS] <;> rfl) | (simp [*, eN, eS] <;> rfl), by repeat (first | (with_reducible first | exact HB.out | apply bA | apply bN | apply bD | refine bT ?_ GE462.out) | exact HB.out)⟩
   ·rw [if_neg c27] at H
    have c27b0 : (a0_0 == 3) = false := beq_eq_false_iff_ne.mpr c27
    have c27b1 : (a0_0 != 3) = true := bne_iff_ne.mpr c27
    obtain rfl := Option.some.inj H
    go_enter Tryz.func49, Tryz.ntmps49
    go_wp2_with (first | ((with_reducible refine gD (N := 1) rfl ?_); refine bx 1 #[.int .i64 a0_0, .int .i64 a0_1, .int .i64 a0_2, .int .i64 a0_3, .bool a0_4] 38 ?_; intro gb462 hg w33 hbox hb; have BK462 := As.mk (hbox); have GW462 := As.mk ((by rw [hg]; exact (bZ zz) : w.heap.size ≤ gb462)); have GE462 := GW462; replace HB := As.mk (bS zz hb); clear hb hbox hg; have hcz34_0 : w33.cell? ⟨gb462, 0, none⟩ = some (.int .i64 a0_0) := (kC BK462.out 0).trans rfl; have hcz34_1 : w33.cell? ⟨gb462, 1, none⟩ = some (.int .i64 a0_1) := (kC BK462.out 1).trans rfl; have hcz34_2 : w33.cell? ⟨gb462, 2, none⟩ = some (.int .i64 a0_2) := (kC BK462.out 2).trans rfl; have hcz34_3 : w33.cell? ⟨gb462, 3, none⟩ = some (.int .i64 a0_3) := (kC BK462.out 3).trans rfl; have hcz34_4 : w33.cell? ⟨gb462, 4, none⟩ = some (.bool a0_4) := (kC BK462.out 4).trans rfl; have hfz34_0 := kF BK462.out 0; have hfz34_1 := kF BK462.out 1; have hfz34_2 := kF BK462.out 2; have hfz34_3 := kF BK462.out 3; have hfz34_4 := kF BK462.out 4))
    go_ret
    exact ⟨by first | rfl | (simp [eN, eS] <;> rfl) | (simp [*, eN, eS] <;> rfl), by repeat (first | (with_reducible first | exact HB.out | apply bA | apply bN | apply bD | refine bT ?_ GE462.out) | exact HB.out)⟩
def real_signed.f (a0 : Bool) (a1_0 : Int) (a1_1 : Int) : Option (Int × Int) := if a0 = true then (some (wrap64 (-a1_0), a1_1)) else (some (a1_0, a1_1))
theorem real_signed.calls (a0 : Bool) (a1_0 : Int) (a1_1 : Int) (r1 : Int) (r2 : Int) (w : World) (h : real_signed.f a0 a1_0 a1_1 = some (r1, r2)) :
  Calls Tryz.prog 103 #[.bool a0, .agg #[.int .i64 a1_0, .int .i64 a1_1]] w fun e w' => e = .returned (.agg #[.int .i64 r1, .int .i64 r2]) ∧ Below w.heap.size w w' := by
 have hu57 := Tryz.underlying36
 have HB := As.mk (Below.refl w.heap.size w)
 have H : (if a0 = true then (some (wrap64 (-a1_0), a1_1)) else (some (a1_0, a1_1))) = some (r1, r2) := h
 clear h
 by_cases c3 : a0 = true
 ·subst c3
  have H1 : (some (wrap64 (-a1_0), a1_1)) = some (r1, r2) := by rw [if_pos rfl] at H; exact H
  clear H
  have H := H1
  clear H1
  simp only [Option.some.injEq, Prod.mk.injEq] at H
  obtain ⟨rfl, rfl⟩ := H
  go_enter Tryz.func103, Tryz.ntmps103
  go_wp2_with (first | ((with_reducible refine gD (N := 3) rfl ?_); refine bx 3 #[.int .i64 a1_0, .int .i64 a1_1] 36 ?_; intro gb483 hg w4 hbox hb; have BK483 := As.mk (hbox); have GW483 := As.mk ((by rw [hg]; exact (bZ zz) : w.heap.size ≤ gb483)); have GE483 := GW483; replace HB := As.mk (bS zz hb); clear hb hbox hg) | ((with_reducible refine gD (N := 4) rfl ?_); refine bx 4 #[.int .i64 0, .int .i64 0] 36 ?_; intro gb484 hg w5 hbox hb; have BK484 := As.mk (hbox); have GW484 := As.mk ((by rw [hg]; exact (bZ (by repeat (first | (with_reducible first | exact HB.out | apply bA | apply bN | apply bD | refine bT ?_ GE483.out) | exact HB.out))) : w.heap.size ≤ gb484)); have GE484 := GW484; replace HB := As.mk (bS (by repeat (first | (with_reducible first | exact HB.out | apply bA | apply bN | apply bD | refine bT ?_ GE483.out) | exact HB.out)) hb); have NB483_484 := As.mk ((by rw [hg]; exact Nat.ne_of_lt (blk_lt (g := gb483) (o := .cells #[.int .i64 a1_0, .int .i64 a1_1] 36 (0, 0)) (by (with_reducible repeat (first | apply kN | apply kD | apply kA)); exact BK483.out)) : gb483 ≠ gb484)); have NB484_483 := As.mk ((by rw [hg]; exact Nat.ne_of_gt (blk_lt (g := gb483) (o := .cells #[.int .i64 a1_0, .int .i64 a1_1] 36 (0, 0)) (by (with_reducible repeat (first | apply kN | apply kD | apply kA)); exact BK483.out)) : gb484 ≠ gb483)); replace BK483 := As.mk (kB (g := gb483) (o := .cells #[.int .i64 a1_0, .int .i64 a1_1] 36 (0, 0)) (by (with_reducible repeat (first | apply kN | apply kD | apply kA)); exact BK483.out) hb); clear hb hbox hg; have hnb6 := NB483_484.out; have hnc6 := NB484_483.out; have hcz7_0 : w5.cell? ⟨gb483, 0, none⟩ = some (.int .i64 a1_0) := (kC BK483.out 0).trans rfl; have hcz7_1 : w5.cell? ⟨gb483, 1, none⟩ = some (.int .i64 a1_1) := (kC BK483.out 1).trans rfl; have hfz7_0 := kF BK483.out 0; have hfz7_1 := kF BK483.out 1; have hcz8_0 : w5.cell? ⟨gb484, 0, none⟩ = some (.int .i64 0) := (kC BK484.out 0).trans rfl; have hcz8_1 : w5.cell? ⟨gb484, 1, none⟩ = some (.int .i64 0) := (kC BK484.out 1).trans rfl; have hfz8_0 := kF BK484.out 0; have hfz8_1 := kF BK484.out 1))
  refine bodyPost_ret (results_cell_row rfl _ _ gb484 36 #[.int .i64 (wrap64 (-a1_0)), .int .i64 a1_1] (0, 0) _ rfl (by (with_reducible repeat (first | apply kN | apply kD | apply kA)); refine kP (cs := #[.int .i64 (wrap64 (-a1_0)), .int .i64 0]) ?_ 1 _ rfl; (with_reducible repeat (first | apply kN | apply kD | apply kA)); refine kP (cs := #[.int .i64 0, .int .i64 0]) ?_ 0 _ rfl; (with_reducible repeat (first | apply kN | apply kD | apply kA)); refine blk_far ?_ NB484_483.out _; (with_reducible repeat (first | apply kN | apply kD | apply kA)); exact BK484.out) Tryz.underlying36 rfl (by kernel_rfl)) rfl ?_
  exact ⟨by first | rfl | (simp [eN, eS] <;> rfl) | (simp [*, eN, eS] <;> rfl), by repeat (first | (with_reducible first | exact HB.out | apply bA | apply bN | apply bD | refine bT ?_ GE483.out | refine bT ?_ GE484.out) | exact HB.out)⟩
 ·replace c3 := Bool.eq_false_iff.mpr c3
  subst c3
  have H1 : (some (a1_0, a1_1)) = some (r1, r2) := by rw [if_neg (show ¬ (false = true) by decide)] at H; exact H
  clear H
  have H := H1
  clear H1
  simp only [Option.some.injEq, Prod.mk.injEq] at H
  obtain ⟨rfl, rfl⟩ := H
  go_enter Tryz.func103, Tryz.ntmps103
  go_wp2_with (first | ((with_reducible refine gD (N := 3) rfl ?_); refine bx 3 #[.int .i64 a1_0, .int .i64 a1_1] 36 ?_; intro gb483 hg w9 hbox hb; have BK483 := As.mk (hbox); have GW483 := As.mk ((by rw [hg]; exact (bZ zz) : w.heap.size ≤ gb483)); have GE483 := GW483; replace HB := As.mk (bS zz hb); clear hb hbox hg) | ((with_reducible refine gD (N := 4) rfl ?_); refine bx 4 #[.int .i64 0, .int .i64 0] 36 ?_; intro gb484 hg w10 hbox hb; have BK484 := As.mk (hbox); have GW484 := As.mk ((by rw [hg]; exact (bZ (by repeat (first | (with_reducible first | exact HB.out | apply bA | apply bN | apply bD | refine bT ?_ GE483.out) | exact HB.out))) : w.heap.size ≤ gb484)); have GE484 := GW484; replace HB := As.mk (bS (by repeat (first | (with_reducible first | exact HB.out | apply bA | apply bN | apply bD | refine bT ?_ GE483.out) | exact HB.out)) hb); have NB483_484 := As.mk ((by rw [hg]; exact Nat.ne_of_lt (blk_lt (g := gb483) (o := .cells #[.int .i64 a1_0, .int .i64 a1_1] 36 (0, 0)) (by (with_reducible repeat (first | apply kN | apply kD | apply kA)); exact BK483.out)) : gb483 ≠ gb484)); have NB484_483 := As.mk ((by rw [hg]; exact Nat.ne_of_gt (blk_lt (g := gb483) (o := .cells #[.int .i64 a1_0, .int .i64 a1_1] 36 (0, 0)) (by (with_reducible repeat (first | apply kN | apply kD | apply kA)); exact BK483.out)) : gb484 ≠ gb483)); replace BK483 := As.mk (kB (g := gb483) (o := .cells #[.int .i64 a1_0, .int .i64 a1_1] 36 (0, 0)) (by (with_reducible repeat (first | apply kN | apply kD | apply kA)); exact BK483.out) hb); clear hb hbox hg; have hnb11 := NB483_484.out; have hnc11 := NB484_483.out; have hcz12_0 : w10.cell? ⟨gb483, 0, none⟩ = some (.int .i64 a1_0) := (kC BK483.out 0).trans rfl; have hcz12_1 : w10.cell? ⟨gb483, 1, none⟩ = some (.int .i64 a1_1) := (kC BK483.out 1).trans rfl; have hfz12_0 := kF BK483.out 0; have hfz12_1 := kF BK483.out 1; have hcz13_0 : w10.cell? ⟨gb484, 0, none⟩ = some (.int .i64 0) := (kC BK484.out 0).trans rfl; have hcz13_1 : w10.cell? ⟨gb484, 1, none⟩ = some (.int .i64 0) := (kC BK484.out 1).trans rfl; have hfz13_0 := kF BK484.out 0; have hfz13_1 := kF BK484.out 1))
  refine bodyPost_ret (results_cell_row rfl _ _ gb484 36 #[.int .i64 a1_0, .int .i64 a1_1] (0, 0) _ rfl (by (with_reducible repeat (first | apply kN | apply kD | apply kA)); refine kP (cs := #[.int .i64 a1_0, .int .i64 0]) ?_ 1 _ rfl; (with_reducible repeat (first | apply kN | apply kD | apply kA)); refine kP (cs := #[.int .i64 0, .int .i64 0]) ?_ 0 _ rfl; (with_reducible repeat (first | apply kN | apply kD | apply kA)); exact BK484.out) Tryz.underlying36 rfl (by kernel_rfl)) rfl ?_
  exact ⟨by first | rfl | (simp [eN, eS] <;> rfl) | (simp [*, eN, eS] <;> rfl), by repeat (first | (with_reducible first | exact HB.out | apply bA | apply bN | apply bD | refine bT ?_ GE483.out | refine bT ?_ GE484.out) | exact HB.out)⟩
end Go.Proofs.Q
end
section
namespace Go.Proofs.Q
open RowKit Pw Pl Pm
attribute [local go_sem] max2_int min2_int max_two min_two max_three min_three max_four min_four   -- for this text's walks alone
def manorboylaw08_sameInts.l0 : Nat → List Int → List Int → Int → Option (Bool)
 | 0, _, _, _ => none
 | k + 1, x0, x1, x5 => if x5 < (x0.length : Int) then (if 0 ≤ x5 then (if x5 < (x1.length : Int) then (if (rd x0 x5) = (rd x1 x5) then (manorboylaw08_sameInts.l0 k x0 x1 (wrap64 (x5 + 1))) else (some false)) else (none)) else (none)) else (some true)
def manorboylaw08_sameInts.f (k : Nat) (l0 : List Int) (l1 : List Int) : Option (Bool) := if (l0.length : Int) = (l1.length : Int) then (manorboylaw08_sameInts.l0 k l0 l1 0) else (some false)
theorem manorboylaw08_sameInts.calls (k : Nat) (A0 : Option Addr) (c0 : Nat) (l0 : List Int) (A1 : Option Addr) (c1 : Nat) (l1 : List Int) (r : Bool) (w : World) (hr0 : Kd.C (Kd.int .i64) w A0 l0.length l0) (hc0 : l0.length ≤ c0) (hr1 : Kd.C (Kd.int .i64) w A1 l1.length l1) (hc1 : l1.length ≤ c1) (h : manorboylaw08_sameInts.f k l0 l1 = some r) :
  Calls Tryz.prog 25 #[.slice A0 l0.length c0, .slice A1 l1.length c1] w fun e w' => e = .returned (.bool r) ∧ Dn w w' := by
 have HR0 := As.mk hr0
 have HC0 := As.mk hc0
 clear hr0 hc0
 have HR1 := As.mk hr1
 have HC1 := As.mk hc1
 clear hr1 hc1
 have H : (if (l0.length : Int) = (l1.length : Int) then (manorboylaw08_sameInts.l0 k l0 l1 0) else (some false)) = some r := h
 clear h
 by_cases c3 : (l0.length : Int) = (l1.length : Int)
 ·rw [if_pos c3] at H
  have c3b0 : ((l0.length : Int) == (l1.length : Int)) = true := beq_iff_eq.mpr c3
  have c3b1 : ((l0.length : Int) != (l1.length : Int)) = false := bne_eq_false_iff_eq.mpr c3
  have c3b2 : (l0.length == l1.length) = true := by first | simpa using c3 | (simp at c3 ⊢; omega)
  clear c3
  have H' := As.mk H
  clear H
  go_enter Tryz.func25, Tryz.ntmps25
  go_wp2
  repeat (go_quiet (fail); try go_wp2)
  go_loopg [5] k (fun kq v5 w' => ∃ (x5_1 : Int), v5 = .int .i64 x5_1 ∧ As (manorboylaw08_sameInts.l0 kq l0 l1 x5_1 = some r) ∧ As (kq ≤ k) ∧ Dn w w')
  case atStart => exact ⟨(0), (by first | rfl | (simp; done) | (simp [*]; done)), H', ⟨Nat.le_refl _⟩, by repeat (first | exact Dn.refl _ | apply Dn.step)⟩
  case round =>
   clear H'
   try clear c1
   try clear p2
   try clear c3
   try clear c3b0
   try clear c3b1
   try clear c3b2
   obtain ⟨x5_1, rfl, HA, HK1, ⟨m1, rfl⟩⟩ := hrel
   cases gk with
   | zero => exact absurd HA.out (by simp [manorboylaw08_sameInts.l0])
   | succ k1 =>
    have H := HA.out
    clear HA
    simp only [manorboylaw08_sameInts.l0] at H
    by_cases c4 : x5_1 < (l0.length : Int)
    ·rw [if_pos c4] at H
     have c4b0 : decide (x5_1 < (l0.length : Int)) = true := decide_eq_true c4
     clear c4
     by_cases c5 : 0 ≤ x5_1
     ·rw [if_pos c5] at H
      have c5b0 : decide (0 ≤ x5_1) = true := decide_eq_true c5
      clear c5
      by_cases c6 : x5_1 < (l1.length : Int)
      ·rw [if_pos c6] at H
       have c6b0 : decide (x5_1 < (l1.length : Int)) = true := decide_eq_true c6
       clear c6
       by_cases c7 : (rd l0 x5_1) = (rd l1 x5_1)
       ·rw [if_pos c7] at H
        have c7b0 : ((rd l0 x5_1) == (rd l1 x5_1)) = true := beq_iff_eq.mpr c7
        have c7b1 : ((rd l0 x5_1) != (rd l1 x5_1)) = false := bne_eq_false_iff_eq.mpr c7
        clear c7
        have H' := As.mk H
        clear H
        have p131 : 0 ≤ (x5_1 : Int) := od
        have q131 : x5_1 < (l0.length : Int) := od
        obtain ⟨ad131, e131, hx131_0⟩ := Kd.at_int HR0.out x5_1 p131 q131
        cases e131
        replace p131 := eq_true p131
        replace q131 := eq_true q131
        have p132 : 0 ≤ (x5_1 : Int) := od
        have q132 : x5_1 < (l1.length : Int) := od
        obtain ⟨ad132, e132, hx132_0⟩ := Kd.at_int HR1.out x5_1 p132 q132
        cases e132
        replace p132 := eq_true p132
        replace q132 := eq_true q132
        go_wp2
        repeat (go_quiet (fail); try go_wp2)
        go_roundg k1
        case measure => have := HK1.out; omega
        case rel => exact ⟨(wrap64 (x5_1 + 1)), (by first | rfl | (simp; done) | (simp [*]; done)), H', ⟨by have := HK1.out; omega⟩, by repeat (first | exact Dn.refl _ | apply Dn.step)⟩
       ·rw [if_neg c7] at H
        have c7b0 : ((rd l0 x5_1) == (rd l1 x5_1)) = false := beq_eq_false_iff_ne.mpr c7
        have c7b1 : ((rd l0 x5_1) != (rd l1 x5_1)) = true := bne_iff_ne.mpr c7
        obtain rfl := Option.some.inj H
        have p131 : 0 ≤ (x5_1 : Int) := od
        have q131 : x5_1 < (l0.length : Int) := od
        obtain ⟨ad131, e131, hx131_0⟩ := Kd.at_int HR0.out x5_1 p131 q131
        cases e131
        replace p131 := eq_true p131
        replace q131 := eq_true q131
        have p132 : 0 ≤ (x5_1 : Int) := od
        have q132 : x5_1 < (l1.length : Int) := od
        obtain ⟨ad132, e132, hx132_0⟩ := Kd.at_int HR1.out x5_1 p132 q132
        cases e132
        replace p132 := eq_true p132
        replace q132 := eq_true q132
        go_wp2
        repeat (go_quiet (fail); try go_wp2)
        go_ret
        exact ⟨by first | rfl | (simp; done) | (simp [*]; done), by repeat (first | exact Dn.refl _ | apply Dn.step)⟩
      ·rw [if_neg c6] at H
       exact absurd H (by simp)
     ·rw [if_neg c5] at H
      exact absurd H (by simp)
    ·rw [if_neg c4] at H
     have c4b0 : decide (x5_1 < (l0.length : Int)) = false := decide_eq_false c4
     clear c4
     obtain rfl := Option.some.inj H
     go_wp2
     repeat (go_quiet (fail); try go_wp2)
     go_ret
     exact ⟨by first | rfl | (simp; done) | (simp [*]; done), by repeat (first | exact Dn.refl _ | apply Dn.step)⟩
 ·rw [if_neg c3] at H
  have c3b0 : ((l0.length : Int) == (l1.length : Int)) = false := beq_eq_false_iff_ne.mpr c3
  have c3b1 : ((l0.length : Int) != (l1.length : Int)) = true := bne_iff_ne.mpr c3
  have c3b2 : (l0.length == l1.length) = false := by first | simpa using c3 | (simp at c3 ⊢; omega)
  obtain rfl := Option.some.inj H
  go_enter Tryz.func25, Tryz.ntmps25
  go_wp2
  repeat (go_quiet (fail); try go_wp2)
  go_ret
  exact ⟨by first | rfl | (simp; done) | (simp [*]; done), by repeat (first | exact Dn.refl _ | apply Dn.step)⟩
def array_isType.f (a0 : Int) : Option (Bool) := if a0 = 1 then (some true) else (if a0 = 2 then (some true) else (some (a0 == 3)))
theorem array_isType.calls (a0 : Int) (r : Bool) (w : World) (h : array_isType.f a0 = some r) :
  Calls Tryz.prog 34 #[.int .i64 a0] w fun e w' => e = .returned (.bool r) ∧ Dn w w' := by
 have H : (if a0 = 1 then (some true) else (if a0 = 2 then (some true) else (some (a0 == 3)))) = some r := h
 clear h
 by_cases c2 : a0 = 1
 ·rw [if_pos c2] at H
  have c2b0 : (a0 == 1) = true := beq_iff_eq.mpr c2
  have c2b1 : (a0 != 1) = false := bne_eq_false_iff_eq.mpr c2
  clear c2
  obtain rfl := Option.some.inj H
  go_enter Tryz.func34, Tryz.ntmps34
  go_wp2
  go_ret
  exact ⟨by first | rfl | (simp; done) | (simp [*]; done), by repeat (first | exact Dn.refl _ | apply Dn.step)⟩
 ·rw [if_neg c2] at H
  have c2b0 : (a0 == 1) = false := beq_eq_false_iff_ne.mpr c2
  have c2b1 : (a0 != 1) = true := bne_iff_ne.mpr c2
  by_cases c3 : a0 = 2
  ·rw [if_pos c3] at H
   have c3b0 : (a0 == 2) = true := beq_iff_eq.mpr c3
   have c3b1 : (a0 != 2) = false := bne_eq_false_iff_eq.mpr c3
   clear c3
   obtain rfl := Option.some.inj H
   go_enter Tryz.func34, Tryz.ntmps34
   go_wp2
   go_ret
   exact ⟨by first | rfl | (simp; done) | (simp [*]; done), by repeat (first | exact Dn.refl _ | apply Dn.step)⟩
  ·rw [if_neg c3] at H
   have c3b0 : (a0 == 2) = false := beq_eq_false_iff_ne.mpr c3
   have c3b1 : (a0 != 2) = true := bne_iff_ne.mpr c3
   obtain rfl := Option.some.inj H
   go_enter Tryz.func34, Tryz.ntmps34
   go_wp2
   go_ret
   exact ⟨by first | rfl | (simp; done) | (simp [*]; done), by repeat (first | exact Dn.refl _ | apply Dn.step)⟩
end Go.Proofs.Q
end
section
namespace Go.Proofs.Q
open RowKit Pw Pl Pm
attribute [local go_sem] max2_int min2_int max_two min_two max_three min_three max_four min_four   -- for this text's walks alone
def bits_Mul64.f (a0 : Int) (a1 : Int) : Option (Int × Int) := some (IntKind.u64.wrap ((IntKind.u64.wrap ((IntKind.u64.wrap ((a0 / 4294967296) * (a1 / 4294967296))) + ((IntKind.u64.wrap ((IntKind.u64.wrap ((a0 / 4294967296) * (Go.bits .and .u64 a1 4294967295))) + ((IntKind.u64.wrap ((Go.bits .and .u64 a0 4294967295) * (Go.bits .and .u64 a1 4294967295))) / 4294967296))) / 4294967296))) + ((IntKind.u64.wrap ((Go.bits .and .u64 (IntKind.u64.wrap ((IntKind.u64.wrap ((a0 / 4294967296) * (Go.bits .and .u64 a1 4294967295))) + ((IntKind.u64.wrap ((Go.bits .and .u64 a0 4294967295) * (Go.bits .and .u64 a1 4294967295))) / 4294967296))) 4294967295) + (IntKind.u64.wrap ((Go.bits .and .u64 a0 4294967295) * (a1 / 4294967296))))) / 4294967296)), IntKind.u64.wrap (a0 * a1))
theorem bits_Mul64.calls (a0 : Int) (a1 : Int) (r1 : Int) (r2 : Int) (w : World) (h : bits_Mul64.f a0 a1 = some (r1, r2)) :
  Calls Tryz.prog 96 #[.int .u64 a0, .int .u64 a1] w fun e w' => e = .returned (.tuple #[.int .u64 r1, .int .u64 r2]) ∧ Dn w w' := by
 have H : (some (IntKind.u64.wrap ((IntKind.u64.wrap ((IntKind.u64.wrap ((a0 / 4294967296) * (a1 / 4294967296))) + ((IntKind.u64.wrap ((IntKind.u64.wrap ((a0 / 4294967296) * (Go.bits .and .u64 a1 4294967295))) + ((IntKind.u64.wrap ((Go.bits .and .u64 a0 4294967295) * (Go.bits .and .u64 a1 4294967295))) / 4294967296))) / 4294967296))) + ((IntKind.u64.wrap ((Go.bits .and .u64 (IntKind.u64.wrap ((IntKind.u64.wrap ((a0 / 4294967296) * (Go.bits .and .u64 a1 4294967295))) + ((IntKind.u64.wrap ((Go.bits .and .u64 a0 4294967295) * (Go.bits .and .u64 a1 4294967295))) / 4294967296))) 4294967295) + (IntKind.u64.wrap ((Go.bits .and .u64 a0 4294967295) * (a1 / 4294967296))))) / 4294967296)), IntKind.u64.wrap (a0 * a1))) = some (r1, r2) := h
 clear h
 simp only [Option.some.injEq, Prod.mk.injEq] at H
 obtain ⟨rfl, rfl⟩ := H
 go_enter Tryz.func96, Tryz.ntmps96
 go_wp2
 go_ret2
 exact ⟨by first | rfl | (simp; done) | (simp [*]; done), by repeat (first | exact Dn.refl _ | apply Dn.step)⟩
def bits_Mul.f (a0 : Int) (a1 : Int) : Option (Int × Int) := (bits_Mul64.f a0 a1).bind fun bt138 => (some (bt138.1, bt138.2))
theorem bits_Mul.calls (a0 : Int) (a1 : Int) (r1 : Int) (r2 : Int) (w : World) (h : bits_Mul.f a0 a1 = some (r1, r2)) :
  Calls Tryz.prog 85 #[.int .u64 a0, .int .u64 a1] w fun e w' => e = .returned (.tuple #[.int .u64 r1, .int .u64 r2]) ∧ Dn w w' := by
 have H : ((bits_Mul64.f a0 a1).bind fun bt138 => (some (bt138.1, bt138.2))) = some (r1, r2) := h
 clear h
 replace H := Option.bind_eq_some_iff.mp H
 obtain ⟨⟨t138, t139⟩, A30, H⟩ := H
 replace H : (some (t138, t139)) = some (r1, r2) := H
 have A3 := As.mk A30
 clear A30
 simp only [Option.some.injEq, Prod.mk.injEq] at H
 obtain ⟨rfl, rfl⟩ := H
 go_enter Tryz.func85, Tryz.ntmps85
 go_wp2_with (first | ((with_reducible refine gC (f := 96) rfl ?_); refine gl 25 Tryz.func96 #[.int .u64 a0, .int .u64 a1] ?_; (with_reducible refine (bits_Mul64.calls a0 a1 t138 t139 _ A3.out).mono ?_); rintro e w' ⟨rfl, ⟨nd, rfl⟩⟩; refine ⟨_, rfl, ?_⟩))
 go_ret2
 exact ⟨by first | rfl | (simp; done) | (simp [*]; done), by repeat (first | exact Dn.refl _ | apply Dn.step)⟩
end Go.Proofs.Q
end
