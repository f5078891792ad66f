/-
 Texts of the proof, in build order: words that the walks use, contracts of functions, plain facts.
-/
import Derived.Test.YtcjjmhgboibbgaaGreatEa4
import Derived.Test.YtcjjmhgboibbgaaGreatEa9
import Derived.Test.YtcjjmhgboibbgaaGreatEa14
import Derived.Test.YtcjjmhgboibbgaaGreatEa17
import Derived.Test.YtcjjmhgboibbgaaGreatEa22
import Derived.Test.YtcjjmhgboibbgaaGreatEa24
set_option maxHeartbeats 40000000
set_option maxRecDepth 100000
set_option linter.unusedVariables false
set_option linter.unusedSimpArgs false
section
namespace Go.Proofs.Q
open RowKit Pw Pl Pm
attribute [local go_sem] max2_int min2_int max_two min_two max_three min_three max_four min_four
attribute [local go_sem high] eqA54
def manorboyref08_IsType.f (a0 : Int) : Option (Bool) := if a0 ≥ 1 then (some (decide (a0 ≤ 3))) else (some false)
theorem manorboyref08_IsType.calls (a0 : Int) (r : Bool) (w : World) (h : manorboyref08_IsType.f a0 = some r) :
  Calls Tryz.prog 42 #[.int .i64 a0] w fun e w' => e = .returned (.bool r) ∧ Dn w w' := by
 have H : (if a0 ≥ 1 then (some (decide (a0 ≤ 3))) else (some false)) = some r := h
 clear h
 by_cases c2 : a0 ≥ 1
 ·rw [if_pos c2] at H
  have c2b0 : decide (1 ≤ a0) = true := decide_eq_true c2
  clear c2
  obtain rfl := Option.some.inj H
  go_enter Tryz.func42, Tryz.ntmps42
  go_wp2
  go_ret
  exact ⟨by first | rfl | (simp; done) | (simp [*]; done), by repeat (first | exact Dn.refl _ | apply Dn.step)⟩
 ·rw [if_neg c2] at H
  have c2b0 : decide (1 ≤ a0) = false := decide_eq_false c2
  clear c2
  obtain rfl := Option.some.inj H
  go_enter Tryz.func42, Tryz.ntmps42
  go_wp2
  go_ret
  exact ⟨by first | rfl | (simp; done) | (simp [*]; done), by repeat (first | exact Dn.refl _ | apply Dn.step)⟩
def manorboyref08_size.l0 : Nat → List (S54) → Int → Int → Option (Int)
 | 0, _, _, _ => none
 | k + 1, x0, x3, x4 => if x4 < (x0.length : Int) then (if 0 ≤ x4 then (manorboyref08_size.l0 k x0 (wrap64 (x3 * (wrap64 ((wrap64 (((rd_T54 x0 x4).f1) - ((rd_T54 x0 x4).f0))) + 1)))) (wrap64 (x4 + 1))) else (none)) else (some x3)
def manorboyref08_size.f (k : Nat) (l0 : List (S54)) : Option (Int) := manorboyref08_size.l0 k l0 1 0
theorem manorboyref08_size.calls (k : Nat) (A0 : Option Addr) (c0 : Nat) (l0 : List (S54)) (r : Int) (w : World) (hr0 : Kd.C k54 w A0 l0.length l0) (hc0 : l0.length ≤ c0) (h : manorboyref08_size.f k l0 = some r) :
  Calls Tryz.prog 46 #[.slice A0 l0.length c0] w fun e w' => e = .returned (.int .i64 r) ∧ Dn w w' := by
 have HR0 := As.mk hr0
 have HC0 := As.mk hc0
 clear hr0 hc0
 have H : (manorboyref08_size.l0 k l0 1 0) = some r := h
 clear h
 have H' := As.mk H
 clear H
 go_enter Tryz.func46, Tryz.ntmps46
 go_wp2
 repeat (go_quiet (fail); try go_wp2)
 go_loopg [3, 4] k (fun kq v3 v4 w' => ∃ (x3_1 : Int) (x4_1 : Int), v3 = .int .i64 x3_1 ∧ v4 = .int .i64 x4_1 ∧ As (manorboyref08_size.l0 kq l0 x3_1 x4_1 = some r) ∧ As (kq ≤ k) ∧ Dn w w')
 case atStart => exact ⟨(1), (0), (by first | rfl | (simp; done) | (simp [*]; done)), (by first | rfl | (simp; done) | (simp [*]; done)), H', ⟨Nat.le_refl _⟩, by repeat (first | exact Dn.refl _ | apply Dn.step)⟩
 case round =>
  clear H'
  obtain ⟨x3_1, x4_1, rfl, rfl, HA, HK1, ⟨m1, rfl⟩⟩ := hrel
  cases gk with
  | zero => exact absurd HA.out (by simp [manorboyref08_size.l0])
  | succ k1 =>
   have H := HA.out
   clear HA
   simp only [manorboyref08_size.l0] at H
   by_cases c2 : x4_1 < (l0.length : Int)
   ·rw [if_pos c2] at H
    have c2b0 : decide (x4_1 < (l0.length : Int)) = true := decide_eq_true c2
    clear c2
    by_cases c3 : 0 ≤ x4_1
    ·rw [if_pos c3] at H
     have c3b0 : decide (0 ≤ x4_1) = true := decide_eq_true c3
     clear c3
     have H' := As.mk H
     clear H
     have p129 : 0 ≤ (x4_1 : Int) := od
     have q129 : x4_1 < (l0.length : Int) := od
     obtain ⟨ad129, e129, hx129_0, hx129_1⟩ := at_T54 HR0.out x4_1 p129 q129
     cases e129
     replace p129 := eq_true p129
     replace q129 := eq_true q129
     have p130 : 0 ≤ (x4_1 : Int) := od
     have q130 : x4_1 < (l0.length : Int) := od
     obtain ⟨ad130, e130, hx130_0, hx130_1⟩ := at_T54 HR0.out x4_1 p130 q130
     obtain rfl : ad129 = ad130 := (by injection e130)
     replace p130 := eq_true p130
     replace q130 := eq_true q130
     go_wp2
     repeat (go_quiet (fail); try go_wp2)
     go_roundg k1
     case measure => have := HK1.out; omega
     case rel => exact ⟨(wrap64 (x3_1 * (wrap64 ((wrap64 (((rd_T54 l0 x4_1).f1) - ((rd_T54 l0 x4_1).f0))) + 1)))), (wrap64 (x4_1 + 1)), (by first | rfl | (simp; done) | (simp [*]; done)), (by first | rfl | (simp; done) | (simp [*]; done)), H', ⟨by have := HK1.out; omega⟩, by repeat (first | exact Dn.refl _ | apply Dn.step)⟩
    ·rw [if_neg c3] at H
     exact absurd H (by simp)
   ·rw [if_neg c2] at H
    have c2b0 : decide (x4_1 < (l0.length : Int)) = false := decide_eq_false c2
    clear c2
    obtain rfl := Option.some.inj H
    go_wp2
    repeat (go_quiet (fail); try go_wp2)
    go_ret
    exact ⟨by first | rfl | (simp; done) | (simp [*]; done), by repeat (first | exact Dn.refl _ | apply Dn.step)⟩
def manorboyref08_zero.f (a0 : Int) : Option (Int × Int × Int × Int × Bool) := some (a0, 0, 0, 0, false)
theorem manorboyref08_zero.calls (a0 : Int) (r1 : Int) (r2 : Int) (r3 : Int) (r4 : Int) (r5 : Bool) (w : World) (h : manorboyref08_zero.f a0 = some (r1, r2, r3, r4, r5)) :
  Calls Tryz.prog 47 #[.int .i64 a0] w fun e w' => e = .returned (.agg #[.int .i64 r1, .int .i64 r2, .int .i64 r3, .int .i64 r4, .bool r5]) ∧ Below w.heap.size w w' := by
 have hu38 := Tryz.underlying38
 have HB := As.mk (Below.refl w.heap.size w)
 have H : (some (a0, 0, 0, 0, false)) = some (r1, r2, r3, r4, r5) := h
 clear h
 simp only [Option.some.injEq, Prod.mk.injEq] at H
 obtain ⟨rfl, rfl, rfl, rfl, rfl⟩ := H
 go_enter Tryz.func47, Tryz.ntmps47
 go_wp2_with (first | ((with_reducible refine gD (N := 2) rfl ?_); refine bx 2 #[.int .i64 0, .int .i64 0, .int .i64 0, .int .i64 0, .bool false] 38 ?_; intro gb131 hg w2 hbox hb; have BK131 := As.mk (hbox); have GW131 := As.mk ((by rw [hg]; exact (bZ zz) : w.heap.size ≤ gb131)); have GE131 := GW131; replace HB := As.mk (bS zz hb); clear hb hbox hg; have hcz3_0 : w2.cell? ⟨gb131, 0, none⟩ = some (.int .i64 0) := (kC BK131.out 0).trans rfl; have hcz3_1 : w2.cell? ⟨gb131, 1, none⟩ = some (.int .i64 0) := (kC BK131.out 1).trans rfl; have hcz3_2 : w2.cell? ⟨gb131, 2, none⟩ = some (.int .i64 0) := (kC BK131.out 2).trans rfl; have hcz3_3 : w2.cell? ⟨gb131, 3, none⟩ = some (.int .i64 0) := (kC BK131.out 3).trans rfl; have hcz3_4 : w2.cell? ⟨gb131, 4, none⟩ = some (.bool false) := (kC BK131.out 4).trans rfl; have hfz3_0 := kF BK131.out 0; have hfz3_1 := kF BK131.out 1; have hfz3_2 := kF BK131.out 2; have hfz3_3 := kF BK131.out 3; have hfz3_4 := kF BK131.out 4))
 refine bodyPost_ret (results_cell_row rfl _ _ gb131 38 #[.int .i64 a0, .int .i64 0, .int .i64 0, .int .i64 0, .bool false] (0, 0) _ rfl (by (with_reducible repeat (first | apply kN | apply kD | apply kA)); refine kP (cs := #[.int .i64 a0, .int .i64 0, .int .i64 0, .int .i64 0, .bool false]) ?_ 4 _ rfl; (with_reducible repeat (first | apply kN | apply kD | apply kA)); refine kP (cs := #[.int .i64 a0, .int .i64 0, .int .i64 0, .int .i64 0, .bool false]) ?_ 3 _ rfl; (with_reducible repeat (first | apply kN | apply kD | apply kA)); refine kP (cs := #[.int .i64 a0, .int .i64 0, .int .i64 0, .int .i64 0, .bool false]) ?_ 2 _ rfl; (with_reducible repeat (first | apply kN | apply kD | apply kA)); refine kP (cs := #[.int .i64 a0, .int .i64 0, .int .i64 0, .int .i64 0, .bool false]) ?_ 1 _ rfl; (with_reducible repeat (first | apply kN | apply kD | apply kA)); refine kP (cs := #[.int .i64 0, .int .i64 0, .int .i64 0, .int .i64 0, .bool false]) ?_ 0 _ rfl; (with_reducible repeat (first | apply kN | apply kD | apply kA)); exact BK131.out) Tryz.underlying38 rfl (by kernel_rfl)) rfl ?_
 exact ⟨by first | rfl | (simp [eN, eS] <;> rfl) | (simp [*, eN, eS] <;> rfl), by repeat (first | (with_reducible first | exact HB.out | apply bA | apply bN | apply bD | refine bT ?_ GE131.out) | exact HB.out)⟩
def manorboyref08_In.l0 : Nat → List (S54) → List Int → Int → Option (Bool)
 | 0, _, _, _ => none
 | k + 1, x0, x1, x5 => if x5 < (x0.length : Int) then (if 0 ≤ x5 then (if x5 < (x1.length : Int) then (if (rd x1 x5) < ((rd_T54 x0 x5).f0) then (some false) else (if (rd x1 x5) > ((rd_T54 x0 x5).f1) then (some false) else (manorboyref08_In.l0 k x0 x1 (wrap64 (x5 + 1))))) else (none)) else (none)) else (some true)
def manorboyref08_In.f (k : Nat) (l0 : List (S54)) (l1 : List Int) : Option (Bool) := manorboyref08_In.l0 k l0 l1 0
theorem manorboyref08_In.calls (k : Nat) (A0 : Option Addr) (c0 : Nat) (l0 : List (S54)) (A1 : Option Addr) (c1 : Nat) (l1 : List Int) (r : Bool) (w : World) (hr0 : Kd.C k54 w A0 l0.length l0) (hc0 : l0.length ≤ c0) (hr1 : Kd.C (Kd.int .i64) w A1 l1.length l1) (hc1 : l1.length ≤ c1) (h : manorboyref08_In.f k l0 l1 = some r) :
  Calls Tryz.prog 40 #[.slice A0 l0.length c0, .slice A1 l1.length c1] w fun e w' => e = .returned (.bool r) ∧ Dn w w' := by
 have HR0 := As.mk hr0
 have HC0 := As.mk hc0
 clear hr0 hc0
 have HR1 := As.mk hr1
 have HC1 := As.mk hc1
 clear hr1 hc1
 have H : (manorboyref08_In.l0 k l0 l1 0) = some r := h
 clear h
 have H' := As.mk H
 clear H
 go_enter Tryz.func40, Tryz.ntmps40
 go_wp2
 repeat (go_quiet (fail); try go_wp2)
 go_loopg [5] k (fun kq v5 w' => ∃ (x5_1 : Int), v5 = .int .i64 x5_1 ∧ As (manorboyref08_In.l0 kq l0 l1 x5_1 = some r) ∧ As (kq ≤ k) ∧ Dn w w')
 case atStart => exact ⟨(0), (by first | rfl | (simp; done) | (simp [*]; done)), H', ⟨Nat.le_refl _⟩, by repeat (first | exact Dn.refl _ | apply Dn.step)⟩
 case round =>
  clear H'
  try clear c1
  try clear p2
  obtain ⟨x5_1, rfl, HA, HK1, ⟨m1, rfl⟩⟩ := hrel
  cases gk with
  | zero => exact absurd HA.out (by simp [manorboyref08_In.l0])
  | succ k1 =>
   have H := HA.out
   clear HA
   simp only [manorboyref08_In.l0] at H
   by_cases c3 : x5_1 < (l0.length : Int)
   ·rw [if_pos c3] at H
    have c3b0 : decide (x5_1 < (l0.length : Int)) = true := decide_eq_true c3
    clear c3
    by_cases c4 : 0 ≤ x5_1
    ·rw [if_pos c4] at H
     have c4b0 : decide (0 ≤ x5_1) = true := decide_eq_true c4
     clear c4
     by_cases c5 : x5_1 < (l1.length : Int)
     ·rw [if_pos c5] at H
      have c5b0 : decide (x5_1 < (l1.length : Int)) = true := decide_eq_true c5
      clear c5
      by_cases c6 : (rd l1 x5_1) < ((rd_T54 l0 x5_1).f0)
      ·rw [if_pos c6] at H
       have c6b0 : decide ((rd l1 x5_1) < ((rd_T54 l0 x5_1).f0)) = true := decide_eq_true c6
       clear c6
       obtain rfl := Option.some.inj H
       have p202 : 0 ≤ (x5_1 : Int) := od
       have q202 : x5_1 < (l1.length : Int) := od
       obtain ⟨ad202, e202, hx202_0⟩ := Kd.at_int HR1.out x5_1 p202 q202
       cases e202
       replace p202 := eq_true p202
       replace q202 := eq_true q202
       have p203 : 0 ≤ (x5_1 : Int) := od
       have q203 : x5_1 < (l0.length : Int) := od
       obtain ⟨ad203, e203, hx203_0, hx203_1⟩ := at_T54 HR0.out x5_1 p203 q203
       cases e203
       replace p203 := eq_true p203
       replace q203 := eq_true q203
       go_wp2
       repeat (go_quiet (fail); try go_wp2)
       go_ret
       exact ⟨by first | rfl | (simp; done) | (simp [*]; done), by repeat (first | exact Dn.refl _ | apply Dn.step)⟩
      ·rw [if_neg c6] at H
       have c6b0 : decide ((rd l1 x5_1) < ((rd_T54 l0 x5_1).f0)) = false := decide_eq_false c6
       clear c6
       by_cases c7 : (rd l1 x5_1) > ((rd_T54 l0 x5_1).f1)
       ·rw [if_pos c7] at H
        have c7b0 : decide (((rd_T54 l0 x5_1).f1) < (rd l1 x5_1)) = true := decide_eq_true c7
        clear c7
        obtain rfl := Option.some.inj H
        have p202 : 0 ≤ (x5_1 : Int) := od
        have q202 : x5_1 < (l1.length : Int) := od
        obtain ⟨ad202, e202, hx202_0⟩ := Kd.at_int HR1.out x5_1 p202 q202
        cases e202
        replace p202 := eq_true p202
        replace q202 := eq_true q202
        have p203 : 0 ≤ (x5_1 : Int) := od
        have q203 : x5_1 < (l0.length : Int) := od
        obtain ⟨ad203, e203, hx203_0, hx203_1⟩ := at_T54 HR0.out x5_1 p203 q203
        cases e203
        replace p203 := eq_true p203
        replace q203 := eq_true q203
        have p204 : 0 ≤ (x5_1 : Int) := od
        have q204 : x5_1 < (l1.length : Int) := od
        obtain ⟨ad204, e204, hx204_0⟩ := Kd.at_int HR1.out x5_1 p204 q204
        obtain rfl : ad202 = ad204 := (by injection e204)
        replace p204 := eq_true p204
        replace q204 := eq_true q204
        have p205 : 0 ≤ (x5_1 : Int) := od
        have q205 : x5_1 < (l0.length : Int) := od
        obtain ⟨ad205, e205, hx205_0, hx205_1⟩ := at_T54 HR0.out x5_1 p205 q205
        obtain rfl : ad203 = ad205 := (by injection e205)
        replace p205 := eq_true p205
        replace q205 := eq_true q205
        go_wp2
        repeat (go_quiet (fail); try go_wp2)
        go_ret
        exact ⟨by first | rfl | (simp; done) | (simp [*]; done), by repeat (first | exact Dn.refl _ | apply Dn.step)⟩
       ·rw [if_neg c7] at H
        have c7b0 : decide (((rd_T54 l0 x5_1).f1) < (rd l1 x5_1)) = false := decide_eq_false c7
        clear c7
        have H' := As.mk H
        clear H
        have p202 : 0 ≤ (x5_1 : Int) := od
        have q202 : x5_1 < (l1.length : Int) := od
        obtain ⟨ad202, e202, hx202_0⟩ := Kd.at_int HR1.out x5_1 p202 q202
        cases e202
        replace p202 := eq_true p202
        replace q202 := eq_true q202
        have p203 : 0 ≤ (x5_1 : Int) := od
        have q203 : x5_1 < (l0.length : Int) := od
        obtain ⟨ad203, e203, hx203_0, hx203_1⟩ := at_T54 HR0.out x5_1 p203 q203
        cases e203
        replace p203 := eq_true p203
        replace q203 := eq_true q203
        have p204 : 0 ≤ (x5_1 : Int) := od
        have q204 : x5_1 < (l1.length : Int) := od
        obtain ⟨ad204, e204, hx204_0⟩ := Kd.at_int HR1.out x5_1 p204 q204
        obtain rfl : ad202 = ad204 := (by injection e204)
        replace p204 := eq_true p204
        replace q204 := eq_true q204
        have p205 : 0 ≤ (x5_1 : Int) := od
        have q205 : x5_1 < (l0.length : Int) := od
        obtain ⟨ad205, e205, hx205_0, hx205_1⟩ := at_T54 HR0.out x5_1 p205 q205
        obtain rfl : ad203 = ad205 := (by injection e205)
        replace p205 := eq_true p205
        replace q205 := eq_true q205
        go_wp2
        repeat (go_quiet (fail); try go_wp2)
        go_roundg k1
        case measure => have := HK1.out; omega
        case rel => exact ⟨(wrap64 (x5_1 + 1)), (by first | rfl | (simp; done) | (simp [*]; done)), H', ⟨by have := HK1.out; omega⟩, by repeat (first | exact Dn.refl _ | apply Dn.step)⟩
     ·rw [if_neg c5] at H
      exact absurd H (by simp)
    ·rw [if_neg c4] at H
     exact absurd H (by simp)
   ·rw [if_neg c3] at H
    have c3b0 : decide (x5_1 < (l0.length : Int)) = false := decide_eq_false c3
    clear c3
    obtain rfl := Option.some.inj H
    go_wp2
    repeat (go_quiet (fail); try go_wp2)
    go_ret
    exact ⟨by first | rfl | (simp; done) | (simp [*]; done), by repeat (first | exact Dn.refl _ | apply Dn.step)⟩
def manorboyref08_place.l0 : Nat → List (S54) → List Int → Int → Int → Option (Int)
 | 0, _, _, _, _ => none
 | k + 1, x0, x1, x5, x6 => if x6 < (x0.length : Int) then (if 0 ≤ x6 then (if x6 < (x1.length : Int) then (manorboyref08_place.l0 k x0 x1 (wrap64 ((wrap64 ((wrap64 (x5 * (wrap64 ((wrap64 (((rd_T54 x0 x6).f1) - ((rd_T54 x0 x6).f0))) + 1)))) + (rd x1 x6))) - ((rd_T54 x0 x6).f0))) (wrap64 (x6 + 1))) else (none)) else (none)) else (some x5)
def manorboyref08_place.f (k : Nat) (l0 : List (S54)) (l1 : List Int) : Option (Int) := manorboyref08_place.l0 k l0 l1 0 0
theorem manorboyref08_place.calls (k : Nat) (A0 : Option Addr) (c0 : Nat) (l0 : List (S54)) (A1 : Option Addr) (c1 : Nat) (l1 : List Int) (r : Int) (w : World) (hr0 : Kd.C k54 w A0 l0.length l0) (hc0 : l0.length ≤ c0) (hr1 : Kd.C (Kd.int .i64) w A1 l1.length l1) (hc1 : l1.length ≤ c1) (h : manorboyref08_place.f k l0 l1 = some r) :
  Calls Tryz.prog 41 #[.slice A0 l0.length c0, .slice A1 l1.length c1] w fun e w' => e = .returned (.int .i64 r) ∧ Dn w w' := by
 have HR0 := As.mk hr0
 have HC0 := As.mk hc0
 clear hr0 hc0
 have HR1 := As.mk hr1
 have HC1 := As.mk hc1
 clear hr1 hc1
 have H : (manorboyref08_place.l0 k l0 l1 0 0) = some r := h
 clear h
 have H' := As.mk H
 clear H
 go_enter Tryz.func41, Tryz.ntmps41
 go_wp2
 repeat (go_quiet (fail); try go_wp2)
 go_loopg [5, 6] k (fun kq v5 v6 w' => ∃ (x5_1 : Int) (x6_1 : Int), v5 = .int .i64 x5_1 ∧ v6 = .int .i64 x6_1 ∧ As (manorboyref08_place.l0 kq l0 l1 x5_1 x6_1 = some r) ∧ As (kq ≤ k) ∧ Dn w w')
 case atStart => exact ⟨(0), (0), (by first | rfl | (simp; done) | (simp [*]; done)), (by first | rfl | (simp; done) | (simp [*]; done)), H', ⟨Nat.le_refl _⟩, by repeat (first | exact Dn.refl _ | apply Dn.step)⟩
 case round =>
  clear H'
  try clear c1
  try clear p2
  obtain ⟨x5_1, x6_1, rfl, rfl, HA, HK1, ⟨m1, rfl⟩⟩ := hrel
  cases gk with
  | zero => exact absurd HA.out (by simp [manorboyref08_place.l0])
  | succ k1 =>
   have H := HA.out
   clear HA
   simp only [manorboyref08_place.l0] at H
   by_cases c3 : x6_1 < (l0.length : Int)
   ·rw [if_pos c3] at H
    have c3b0 : decide (x6_1 < (l0.length : Int)) = true := decide_eq_true c3
    clear c3
    by_cases c4 : 0 ≤ x6_1
    ·rw [if_pos c4] at H
     have c4b0 : decide (0 ≤ x6_1) = true := decide_eq_true c4
     clear c4
     by_cases c5 : x6_1 < (l1.length : Int)
     ·rw [if_pos c5] at H
      have c5b0 : decide (x6_1 < (l1.length : Int)) = true := decide_eq_true c5
      clear c5
      have H' := As.mk H
      clear H
      have p206 : 0 ≤ (x6_1 : Int) := od
      have q206 : x6_1 < (l0.length : Int) := od
      obtain ⟨ad206, e206, hx206_0, hx206_1⟩ := at_T54 HR0.out x6_1 p206 q206
      cases e206
      replace p206 := eq_true p206
      replace q206 := eq_true q206
      have p207 : 0 ≤ (x6_1 : Int) := od
      have q207 : x6_1 < (l0.length : Int) := od
      obtain ⟨ad207, e207, hx207_0, hx207_1⟩ := at_T54 HR0.out x6_1 p207 q207
      obtain rfl : ad206 = ad207 := (by injection e207)
      replace p207 := eq_true p207
      replace q207 := eq_true q207
      have p208 : 0 ≤ (x6_1 : Int) := od
      have q208 : x6_1 < (l1.length : Int) := od
      obtain ⟨ad208, e208, hx208_0⟩ := Kd.at_int HR1.out x6_1 p208 q208
      cases e208
      replace p208 := eq_true p208
      replace q208 := eq_true q208
      have p209 : 0 ≤ (x6_1 : Int) := od
      have q209 : x6_1 < (l0.length : Int) := od
      obtain ⟨ad209, e209, hx209_0, hx209_1⟩ := at_T54 HR0.out x6_1 p209 q209
      obtain rfl : ad206 = ad209 := (by injection e209)
      replace p209 := eq_true p209
      replace q209 := eq_true q209
      go_wp2
      repeat (go_quiet (fail); try go_wp2)
      go_roundg k1
      case measure => have := HK1.out; omega
      case rel => exact ⟨(wrap64 ((wrap64 ((wrap64 (x5_1 * (wrap64 ((wrap64 (((rd_T54 l0 x6_1).f1) - ((rd_T54 l0 x6_1).f0))) + 1)))) + (rd l1 x6_1))) - ((rd_T54 l0 x6_1).f0))), (wrap64 (x6_1 + 1)), (by first | rfl | (simp; done) | (simp [*]; done)), (by first | rfl | (simp; done) | (simp [*]; done)), H', ⟨by have := HK1.out; omega⟩, by repeat (first | exact Dn.refl _ | apply Dn.step)⟩
     ·rw [if_neg c5] at H
      exact absurd H (by simp)
    ·rw [if_neg c4] at H
     exact absurd H (by simp)
   ·rw [if_neg c3] at H
    have c3b0 : decide (x6_1 < (l0.length : Int)) = false := decide_eq_false c3
    clear c3
    obtain rfl := Option.some.inj H
    go_wp2
    repeat (go_quiet (fail); try go_wp2)
    go_ret
    exact ⟨by first | rfl | (simp; done) | (simp [*]; done), by repeat (first | exact Dn.refl _ | apply Dn.step)⟩
def manorboyref08_SameDims.l0 : Nat → List (S54) → List (S54) → Int → Option (Bool)
 | 0, _, _, _ => none
 | k + 1, x0, x1, x5 => if x5 < (x0.length : Int) then (if 0 ≤ x5 then (if x5 < (x1.length : Int) then (if (!(((rd_T54 x0 x5).f0) == ((rd_T54 x1 x5).f0)) || (!(((rd_T54 x0 x5).f1) == ((rd_T54 x1 x5).f1)))) = true then (some false) else (manorboyref08_SameDims.l0 k x0 x1 (wrap64 (x5 + 1)))) else (none)) else (none)) else (some true)
def manorboyref08_SameDims.f (k : Nat) (l0 : List (S54)) (l1 : List (S54)) : Option (Bool) := if (l0.length : Int) = (l1.length : Int) then (manorboyref08_SameDims.l0 k l0 l1 0) else (some false)
theorem manorboyref08_SameDims.calls (k : Nat) (A0 : Option Addr) (c0 : Nat) (l0 : List (S54)) (A1 : Option Addr) (c1 : Nat) (l1 : List (S54)) (r : Bool) (w : World) (hr0 : Kd.C k54 w A0 l0.length l0) (hc0 : l0.length ≤ c0) (hr1 : Kd.C k54 w A1 l1.length l1) (hc1 : l1.length ≤ c1) (h : manorboyref08_SameDims.f k l0 l1 = some r) :
  Calls Tryz.prog 44 #[.slice A0 l0.length c0, .slice A1 l1.length c1] w fun e w' => e = .returned (.bool r) ∧ Dn w w' := by
 have hu54 := Tryz.underlying54
 have HR0 := As.mk hr0
 have HC0 := As.mk hc0
 clear hr0 hc0
 have HR1 := As.mk hr1
 have HC1 := As.mk hc1
 clear hr1 hc1
 have H : (if (l0.length : Int) = (l1.length : Int) then (manorboyref08_SameDims.l0 k l0 l1 0) else (some false)) = some r := h
 clear h
 by_cases c3 : (l0.length : Int) = (l1.length : Int)
 ·rw [if_pos c3] at H
  have c3b0 : ((l0.length : Int) == (l1.length : Int)) = true := beq_iff_eq.mpr c3
  have c3b1 : ((l0.length : Int) != (l1.length : Int)) = false := bne_eq_false_iff_eq.mpr c3
  have c3b2 : (l0.length == l1.length) = true := by first | simpa using c3 | (simp at c3 ⊢; omega)
  clear c3
  have H' := As.mk H
  clear H
  go_enter Tryz.func44, Tryz.ntmps44
  go_wp2
  repeat (go_quiet (fail); try go_wp2)
  go_loopg [5] k (fun kq v5 w' => ∃ (x5_1 : Int), v5 = .int .i64 x5_1 ∧ As (manorboyref08_SameDims.l0 kq l0 l1 x5_1 = some r) ∧ As (kq ≤ k) ∧ Dn w w')
  case atStart => exact ⟨(0), (by first | rfl | (simp; done) | (simp [*]; done)), H', ⟨Nat.le_refl _⟩, by repeat (first | exact Dn.refl _ | apply Dn.step)⟩
  case round =>
   clear H'
   try clear c1
   try clear p2
   try clear c3
   try clear c3b0
   try clear c3b1
   try clear c3b2
   obtain ⟨x5_1, rfl, HA, HK1, ⟨m1, rfl⟩⟩ := hrel
   cases gk with
   | zero => exact absurd HA.out (by simp [manorboyref08_SameDims.l0])
   | succ k1 =>
    have H := HA.out
    clear HA
    simp only [manorboyref08_SameDims.l0] at H
    by_cases c4 : x5_1 < (l0.length : Int)
    ·rw [if_pos c4] at H
     have c4b0 : decide (x5_1 < (l0.length : Int)) = true := decide_eq_true c4
     clear c4
     by_cases c5 : 0 ≤ x5_1
     ·rw [if_pos c5] at H
      have c5b0 : decide (0 ≤ x5_1) = true := decide_eq_true c5
      clear c5
      by_cases c6 : x5_1 < (l1.length : Int)
      ·rw [if_pos c6] at H
       have c6b0 : decide (x5_1 < (l1.length : Int)) = true := decide_eq_true c6
       clear c6
       by_cases c7 : (!(((rd_T54 l0 x5_1).f0) == ((rd_T54 l1 x5_1).f0)) || (!(((rd_T54 l0 x5_1).f1) == ((rd_T54 l1 x5_1).f1)))) = true
       ·rw [if_pos c7] at H
        have c7b0 : (!(((rd_T54 l0 x5_1).f0) == ((rd_T54 l1 x5_1).f0)) || (!(((rd_T54 l0 x5_1).f1) == ((rd_T54 l1 x5_1).f1)))) = true := c7
        clear c7
        obtain rfl := Option.some.inj H
        have p426 : 0 ≤ (x5_1 : Int) := od
        have q426 : x5_1 < (l0.length : Int) := od
        obtain ⟨ad426, e426, hx426_0, hx426_1⟩ := at_T54 HR0.out x5_1 p426 q426
        cases e426
        replace p426 := eq_true p426
        replace q426 := eq_true q426
        have p427 : 0 ≤ (x5_1 : Int) := od
        have q427 : x5_1 < (l1.length : Int) := od
        obtain ⟨ad427, e427, hx427_0, hx427_1⟩ := at_T54 HR1.out x5_1 p427 q427
        cases e427
        replace p427 := eq_true p427
        replace q427 := eq_true q427
        go_wp2
        repeat (go_quiet (fail); try go_wp2)
        go_ret
        exact ⟨by first | rfl | (simp; done) | (simp [*]; done), by repeat (first | exact Dn.refl _ | apply Dn.step)⟩
       ·rw [if_neg c7] at H
        have c7b0 : (!(((rd_T54 l0 x5_1).f0) == ((rd_T54 l1 x5_1).f0)) || (!(((rd_T54 l0 x5_1).f1) == ((rd_T54 l1 x5_1).f1)))) = false := by simpa using c7
        clear c7
        have H' := As.mk H
        clear H
        have p426 : 0 ≤ (x5_1 : Int) := od
        have q426 : x5_1 < (l0.length : Int) := od
        obtain ⟨ad426, e426, hx426_0, hx426_1⟩ := at_T54 HR0.out x5_1 p426 q426
        cases e426
        replace p426 := eq_true p426
        replace q426 := eq_true q426
        have p427 : 0 ≤ (x5_1 : Int) := od
        have q427 : x5_1 < (l1.length : Int) := od
        obtain ⟨ad427, e427, hx427_0, hx427_1⟩ := at_T54 HR1.out x5_1 p427 q427
        cases e427
        replace p427 := eq_true p427
        replace q427 := eq_true q427
        go_wp2
        repeat (go_quiet (fail); try go_wp2)
        go_roundg k1
        case measure => have := HK1.out; omega
        case rel => exact ⟨(wrap64 (x5_1 + 1)), (by first | rfl | (simp; done) | (simp [*]; done)), H', ⟨by have := HK1.out; omega⟩, by repeat (first | exact Dn.refl _ | apply Dn.step)⟩
      ·rw [if_neg c6] at H
       exact absurd H (by simp)
     ·rw [if_neg c5] at H
      exact absurd H (by simp)
    ·rw [if_neg c4] at H
     have c4b0 : decide (x5_1 < (l0.length : Int)) = false := decide_eq_false c4
     clear c4
     obtain rfl := Option.some.inj H
     go_wp2
     repeat (go_quiet (fail); try go_wp2)
     go_ret
     exact ⟨by first | rfl | (simp; done) | (simp [*]; done), by repeat (first | exact Dn.refl _ | apply Dn.step)⟩
 ·rw [if_neg c3] at H
  have c3b0 : ((l0.length : Int) == (l1.length : Int)) = false := beq_eq_false_iff_ne.mpr c3
  have c3b1 : ((l0.length : Int) != (l1.length : Int)) = true := bne_iff_ne.mpr c3
  have c3b2 : (l0.length == l1.length) = false := by first | simpa using c3 | (simp at c3 ⊢; omega)
  obtain rfl := Option.some.inj H
  go_enter Tryz.func44, Tryz.ntmps44
  go_wp2
  repeat (go_quiet (fail); try go_wp2)
  go_ret
  exact ⟨by first | rfl | (simp; done) | (simp [*]; done), by repeat (first | exact Dn.refl _ | apply Dn.step)⟩
def manorboyref08_Checked.f (k : Nat) (l0 : List (S54)) (l1 : List Int) : Option (Int) := if (l1.length : Int) = (l0.length : Int) then ((manorboyref08_In.f k l0 l1).bind fun t475 => (if t475 = true then (some 0) else (some 3))) else (some 10)
theorem manorboyref08_Checked.calls (k : Nat) (A0 : Option Addr) (c0 : Nat) (l0 : List (S54)) (A1 : Option Addr) (c1 : Nat) (l1 : List Int) (r : Int) (w : World) (hr0 : Kd.C k54 w A0 l0.length l0) (hc0 : l0.length ≤ c0) (hr1 : Kd.C (Kd.int .i64) w A1 l1.length l1) (hc1 : l1.length ≤ c1) (h : manorboyref08_Checked.f k l0 l1 = some r) :
  Calls Tryz.prog 56 #[.slice A0 l0.length c0, .slice A1 l1.length c1] w fun e w' => e = .returned (.int .i64 r) ∧ Dn w w' := by
 have HR0 := As.mk hr0
 have HC0 := As.mk hc0
 clear hr0 hc0
 have HR1 := As.mk hr1
 have HC1 := As.mk hc1
 clear hr1 hc1
 have H : (if (l1.length : Int) = (l0.length : Int) then ((manorboyref08_In.f k l0 l1).bind fun t475 => (if t475 = true then (some 0) else (some 3))) else (some 10)) = some r := h
 clear h
 by_cases c3 : (l1.length : Int) = (l0.length : Int)
 ·rw [if_pos c3] at H
  have c3b0 : ((l1.length : Int) == (l0.length : Int)) = true := beq_iff_eq.mpr c3
  have c3b1 : ((l1.length : Int) != (l0.length : Int)) = false := bne_eq_false_iff_eq.mpr c3
  have c3b2 : (l1.length == l0.length) = true := by first | simpa using c3 | (simp at c3 ⊢; omega)
  clear c3
  replace H := Option.bind_eq_some_iff.mp H
  obtain ⟨t475, A40, H⟩ := H
  replace H : (if t475 = true then (some 0) else (some 3)) = some r := H
  have A4 := As.mk A40
  clear A40
  by_cases c5 : t475 = true
  ·subst c5
   have H1 : (some 0) = some r := by rw [if_pos rfl] at H; exact H
   clear H
   have H := H1
   clear H1
   obtain rfl := Option.some.inj H
   go_enter Tryz.func56, Tryz.ntmps56
   go_wp2_with (first | ((with_reducible refine gC (f := 40) rfl ?_); refine gl 12 Tryz.func40 #[.slice A0 l0.length c0, .slice A1 l1.length c1] ?_; (with_reducible refine (manorboyref08_In.calls k _ _ l0 _ _ l1 true _ ?side1 ?side2 ?side3 ?side4 A4.out).mono ?_); (case side1 => repeat (first | exact HR0.out | (with_reducible first | apply Kd.C_alloc | apply Kd.C_drewN | apply Kd.C_drew))); (case side2 => exact HC0.out); (case side3 => repeat (first | exact HR1.out | (with_reducible first | apply Kd.C_alloc | apply Kd.C_drewN | apply Kd.C_drew))); (case side4 => exact HC1.out); rintro e w' ⟨rfl, ⟨nd, rfl⟩⟩; refine ⟨_, rfl, ?_⟩))
   go_ret
   exact ⟨by first | rfl | (simp; done) | (simp [*]; done), by repeat (first | exact Dn.refl _ | apply Dn.step)⟩
  ·replace c5 := Bool.eq_false_iff.mpr c5
   subst c5
   have H1 : (some 3) = some r := by rw [if_neg (show ¬ (false = true) by decide)] at H; exact H
   clear H
   have H := H1
   clear H1
   obtain rfl := Option.some.inj H
   go_enter Tryz.func56, Tryz.ntmps56
   go_wp2_with (first | ((with_reducible refine gC (f := 40) rfl ?_); refine gl 12 Tryz.func40 #[.slice A0 l0.length c0, .slice A1 l1.length c1] ?_; (with_reducible refine (manorboyref08_In.calls k _ _ l0 _ _ l1 false _ ?side1 ?side2 ?side3 ?side4 A4.out).mono ?_); (case side1 => repeat (first | exact HR0.out | (with_reducible first | apply Kd.C_alloc | apply Kd.C_drewN | apply Kd.C_drew))); (case side2 => exact HC0.out); (case side3 => repeat (first | exact HR1.out | (with_reducible first | apply Kd.C_alloc | apply Kd.C_drewN | apply Kd.C_drew))); (case side4 => exact HC1.out); rintro e w' ⟨rfl, ⟨nd, rfl⟩⟩; refine ⟨_, rfl, ?_⟩))
   go_ret
   exact ⟨by first | rfl | (simp; done) | (simp [*]; done), by repeat (first | exact Dn.refl _ | apply Dn.step)⟩
 ·rw [if_neg c3] at H
  have c3b0 : ((l1.length : Int) == (l0.length : Int)) = false := beq_eq_false_iff_ne.mpr c3
  have c3b1 : ((l1.length : Int) != (l0.length : Int)) = true := bne_iff_ne.mpr c3
  have c3b2 : (l1.length == l0.length) = false := by first | simpa using c3 | (simp at c3 ⊢; omega)
  obtain rfl := Option.some.inj H
  go_enter Tryz.func56, Tryz.ntmps56
  go_wp2
  go_ret
  exact ⟨by first | rfl | (simp; done) | (simp [*]; done), by repeat (first | exact Dn.refl _ | apply Dn.step)⟩
end Go.Proofs.Q
end
section
namespace Go.Proofs.Q
open RowKit Pw Pl Pm
attribute [local go_sem] max2_int min2_int max_two min_two max_three min_three max_four min_four
end Go.Proofs.Q
end
section
namespace Go.Proofs.Q
open RowKit Rf Pw Pl Pm
theorem ref_in_l (l : List S54) (ks : List Int) (h4 : l.length ≤ 4) : ∀ (r : List S54) (s : List Int) (j : Nat), l.drop j = r → ks.drop j = s → s.length = r.length → Ev (fun k => manorboyref08_In.l0 k l ks (j : Int)) (inB r s) := by
 intro r
 induction r with
 | nil =>
  intro s j h hs hl
  cases s with
  | cons x s => simp at hl
  | nil =>
   refine Ev.one fun k => ?_
   simp only [manorboyref08_In.l0, if_neg (not_lt_nil h), inB]
 | cons d r ih =>
  intro s j h hs hl
  cases s with
  | nil => simp at hl
  | cons x s =>
   have hj := lt_drop h
   have hj2 := lt_drop hs
   have c1 : (j : Int) < (l.length : Int) := by omega
   have c2 : (0 : Int) ≤ (j : Int) := by omega
   have c3 : (j : Int) < (ks.length : Int) := by omega
   have e3 := wrap_next (j := j) (by omega)
   by_cases b1 : x < d.f0
   ·have : decide (d.f0 ≤ x ∧ x ≤ d.f1) = false := decide_eq_false (by omega)
    refine Ev.one fun k => ?_
    simp only [manorboyref08_In.l0, if_pos c1, if_pos c2, if_pos c3, rdT_drop h, rd_drop hs, if_pos b1, inB, this, Bool.false_and]
   ·by_cases b2 : x > d.f1
    ·have : decide (d.f0 ≤ x ∧ x ≤ d.f1) = false := decide_eq_false (by omega)
     refine Ev.one fun k => ?_
     simp only [manorboyref08_In.l0, if_pos c1, if_pos c2, if_pos c3, rdT_drop h, rd_drop hs, if_neg b1, if_pos b2, inB, this, Bool.false_and]
    ·have : decide (d.f0 ≤ x ∧ x ≤ d.f1) = true := decide_eq_true (by omega)
     have e : inB (d :: r) (x :: s) = inB r s := by simp only [inB, this, Bool.true_and]
     rw [e]
     refine Ev.succ (ih s (j + 1) (drop_next h) (drop_next hs) (by simpa using hl)) fun k => ?_
     simp only [manorboyref08_In.l0, if_pos c1, if_pos c2, if_pos c3, rdT_drop h, rd_drop hs, if_neg b1, if_neg b2, e3]
theorem ref_checked (l : List S54) (ks : List Int) (h4 : l.length ≤ 4) : Ev (fun k => manorboyref08_Checked.f k l ks) (if ks.length = l.length then (if inB l ks = true then 0 else 3) else 10) := by
 by_cases hl : ks.length = l.length
 ·obtain ⟨K, hK⟩ := ref_in_l l ks h4 l ks 0 rfl rfl hl
  refine ⟨K, fun k hk => ?_⟩
  have h1 := hK k hk
  show manorboyref08_Checked.f k l ks = _
  unfold manorboyref08_Checked.f manorboyref08_In.f
  rw [if_pos (by omega), if_pos hl, show manorboyref08_In.l0 k l ks 0 = some (inB l ks) from h1]
  simp only [Option.bind_some]
  split <;> rfl
 ·refine ⟨0, fun k _ => ?_⟩
  show manorboyref08_Checked.f k l ks = _
  unfold manorboyref08_Checked.f
  rw [if_neg (by omega), if_neg hl]
theorem ref_place_l (l : List S54) (ks : List Int) (hp : Proper l) (h4 : l.length ≤ 4) : ∀ (r : List S54) (s : List Int) (j : Nat) (acc : Int), l.drop j = r → ks.drop j = s → inB r s = true → 0 ≤ acc → (acc + 1) * prodL r ≤ 1000 → Ev (fun k => manorboyref08_place.l0 k l ks acc (j : Int)) (acc * prodL r + plc r s) := by
 intro r
 induction r with
 | nil =>
  intro s j acc h hs hb h0 h1
  cases s with
  | cons x s => simp [inB] at hb
  | nil =>
   refine Ev.one fun k => ?_
   simp only [manorboyref08_place.l0, if_neg (not_lt_nil h), plc, prodL]
   simp
 | cons d r ih =>
  intro s j acc h hs hb h0 h1
  cases s with
  | nil => simp [inB] at hb
  | cons x s =>
   have hj := lt_drop h
   have hj2 := lt_drop hs
   have c1 : (j : Int) < (l.length : Int) := by omega
   have c2 : (0 : Int) ≤ (j : Int) := by omega
   have c3 : (j : Int) < (ks.length : Int) := by omega
   have e3 := wrap_next (j := j) (by omega)
   have hpd : Proper (d :: r) := by rw [← h]; exact hp.drop _
   have hpr : Proper r := by rw [← drop_next h]; exact hp.drop _
   have hP := hpr.pos
   have hx := hpd.2.1 d (by simp)
   have hn := hpd.1 d (by simp)
   unfold near at hn
   simp only [inB, Bool.and_eq_true, decide_eq_true_eq] at hb
   have he : ext d = d.f1 - d.f0 + 1 := rfl
   simp only [prodL] at h1
   have m1 : acc * ext d ≤ 1000 * 1000 := by
    have a1 : acc + 1 ≤ 1000 := by
     have : 1 ≤ ext d * prodL r := by
      have := Int.mul_le_mul hx.1 hP (by omega) (by omega)
      simpa using this
     have := Int.mul_le_mul_of_nonneg_left this (show 0 ≤ acc + 1 by omega)
     omega
    exact Int.mul_le_mul (by omega) hx.2 (by omega) (by omega)
   have m0 : 0 ≤ acc * ext d := Int.mul_nonneg h0 (by omega)
   have m2 : (acc * ext d + x - d.f0 + 1) * prodL r ≤ 1000 := by
    have a1 : acc * ext d + x - d.f0 + 1 ≤ (acc + 1) * ext d := by rw [Int.add_mul]; omega
    have := Int.mul_le_mul_of_nonneg_right a1 (show 0 ≤ prodL r by omega)
    rw [Int.mul_assoc] at this
    omega
   have w1 : wrap64 (d.f1 - d.f0) = d.f1 - d.f0 := wrap64_id (by omega) (by omega)
   have w2 : wrap64 (d.f1 - d.f0 + 1) = ext d := wrap64_id (by omega) (by omega)
   have w3 : wrap64 (acc * ext d) = acc * ext d := wrap64_id (by omega) (by omega)
   have w4 : wrap64 (acc * ext d + x) = acc * ext d + x := wrap64_id (by omega) (by omega)
   have w5 : wrap64 (acc * ext d + x - d.f0) = acc * ext d + x - d.f0 := wrap64_id (by omega) (by omega)
   have := ih s (j + 1) (acc * ext d + x - d.f0) (drop_next h) (drop_next hs) hb.2 (by omega) m2
   have e : acc * prodL (d :: r) + plc (d :: r) (x :: s) = (acc * ext d + x - d.f0) * prodL r + plc r s := by
    simp only [prodL, plc]
    rw [show acc * ext d + x - d.f0 = acc * ext d + (x - d.f0) by omega, Int.add_mul, Int.mul_assoc, Int.mul_comm (x - d.f0)]
    omega
   rw [e]
   refine Ev.succ this fun k => ?_
   simp only [manorboyref08_place.l0, if_pos c1, if_pos c2, if_pos c3, rdT_drop h, rd_drop hs, w1, w2, w3, w4, w5, e3]
end Go.Proofs.Q
end
section
namespace Go.Proofs.Q
open RowKit Rf Pw Pl Pm
def AI (n : Int) (w : World) (e : Ending) (w' : World) : Prop := e = .returned (.int .i64 n) ∧ Below w.heap.size w w'
theorem ref_size_l (l : List S54) (hp : Proper l) (h4 : l.length ≤ 4) : ∀ (r : List S54) (j : Nat) (acc : Int), l.drop j = r → 1 ≤ acc → acc * prodL r ≤ 1000 → Ev (fun k => manorboyref08_size.l0 k l acc (j : Int)) (acc * prodL r) := by
 intro r
 induction r with
 | nil =>
  intro j acc h h0 h1
  refine Ev.one fun k => ?_
  simp only [manorboyref08_size.l0, if_neg (not_lt_nil h), prodL]
  simp
 | cons d r ih =>
  intro j acc h h0 h1
  have hj := lt_drop h
  have c1 : (j : Int) < (l.length : Int) := by omega
  have c2 : (0 : Int) ≤ (j : Int) := by omega
  have e3 := wrap_next (j := j) (by omega)
  have hpd : Proper (d :: r) := by rw [← h]; exact hp.drop _
  have hpr : Proper r := by rw [← drop_next h]; exact hp.drop _
  have hP := hpr.pos
  have hx := hpd.2.1 d (by simp)
  have hn := hpd.1 d (by simp)
  unfold near at hn
  have he : ext d = d.f1 - d.f0 + 1 := rfl
  simp only [prodL] at h1
  rw [← Int.mul_assoc] at h1
  have m0 : 1 ≤ acc * ext d := by
   have := Int.mul_le_mul h0 hx.1 (by omega) (by omega)
   simpa using this
  have m1 : acc * ext d ≤ 1000 := by
   have := Int.mul_le_mul_of_nonneg_left hP (show 0 ≤ acc * ext d by omega)
   omega
  have w1 : wrap64 (d.f1 - d.f0) = d.f1 - d.f0 := wrap64_id (by omega) (by omega)
  have w2 : wrap64 (d.f1 - d.f0 + 1) = ext d := wrap64_id (by omega) (by omega)
  have w3 : wrap64 (acc * ext d) = acc * ext d := wrap64_id (by omega) (by omega)
  have := ih (j + 1) (acc * ext d) (drop_next h) m0 h1
  have e : acc * prodL (d :: r) = (acc * ext d) * prodL r := by simp only [prodL]; rw [Int.mul_assoc]
  rw [e]
  refine Ev.succ this fun k => ?_
  rw [manorboyref08_size.l0, if_pos c1, if_pos c2, rdT_drop h, w1, w2, w3, e3]
theorem ref_size {l : List S54} (he : errOf l = 0) : Ev (fun k => manorboyref08_size.f k l) (prodL l) := by
 obtain ⟨_, hp, _, _, h4⟩ := errOf_zero he
 have := ref_size_l l hp h4 l 0 1 rfl (by decide) (by rw [Int.one_mul]; exact hp.2.2)
 rw [Int.one_mul] at this
 exact this
theorem rsize_w {l : List S54} (he : errOf l = 0) (A : Option Addr) (c : Nat) (w : World) (hr : Kd.C k54 w A l.length l) (hc : l.length ≤ c) : Calls Tryz.prog 46 #[.slice A l.length c] w (AI (prodL l) w) := by
 obtain ⟨k, hk⟩ := (ref_size he).at
 refine (manorboyref08_size.calls k A c l _ w hr hc hk).mono ?_
 rintro e w1 ⟨rfl, hb⟩
 exact ⟨rfl, hb.below⟩
theorem rerr_w (l : List S54) (A : Option Addr) (c : Nat) (w : World) (hr : Kd.C k54 w A l.length l) (hc : l.length ≤ c) : Calls Tryz.prog 45 #[.slice A l.length c] w (AI (errOf l) w) := by
 obtain ⟨k, hk⟩ := (ref_err l).at
 refine (manorboyref08_Error.calls k A c l _ w hr hc hk).mono ?_
 rintro e w1 ⟨rfl, hb⟩
 exact ⟨rfl, hb⟩
theorem rtype_w (t : Int) (w : World) : Calls Tryz.prog 42 #[.int .i64 t] w (Bq (isTy t) w) := by
 refine (manorboyref08_IsType.calls t (isTy t) w ?_).mono ?_
 ·unfold manorboyref08_IsType.f isTy
  by_cases h : t ≥ 1
  ·rw [if_pos h]; refine congrArg some ?_; rw [Bool.eq_iff_iff]; simp; omega
  ·rw [if_neg h]; refine congrArg some ?_; rw [Bool.eq_iff_iff]; simp; omega
 ·rintro e w1 ⟨rfl, hb⟩
  exact ⟨rfl, hb.below⟩
theorem rplace_w {l : List S54} (he : errOf l = 0) (ks : List Int) (hi : inB l ks = true) (A A1 : Option Addr) (c c1 : Nat) (w : World) (hr : Kd.C k54 w A l.length l) (hc : l.length ≤ c) (hr1 : Kd.C (Kd.int .i64) w A1 ks.length ks) (hc1 : ks.length ≤ c1) :
  Calls Tryz.prog 41 #[.slice A l.length c, .slice A1 ks.length c1] w (AI (plc l ks) w) := by
 obtain ⟨_, hp, _, _, h4⟩ := errOf_zero he
 obtain ⟨k, hk⟩ := (ref_place_l l ks hp h4 l ks 0 0 rfl rfl hi (by decide) (by have := hp.2.2; omega)).at
 rw [Int.zero_mul, Int.zero_add] at hk
 refine (manorboyref08_place.calls k A c l A1 c1 ks _ w hr hc hr1 hc1 hk).mono ?_
 rintro e w1 ⟨rfl, hb⟩
 exact ⟨rfl, hb.below⟩
theorem rchecked_w {l : List S54} (h4 : l.length ≤ 4) (ks : List Int) (A A1 : Option Addr) (c c1 : Nat) (w : World) (hr : Kd.C k54 w A l.length l) (hc : l.length ≤ c) (hr1 : Kd.C (Kd.int .i64) w A1 ks.length ks) (hc1 : ks.length ≤ c1) :
  Calls Tryz.prog 56 #[.slice A l.length c, .slice A1 ks.length c1] w (AI (getE l ks) w) := by
 obtain ⟨k, hk⟩ := (ref_checked l ks h4).at
 refine (manorboyref08_Checked.calls k A c l A1 c1 ks _ w hr hc hr1 hc1 hk).mono ?_
 rintro e w1 ⟨rfl, hb⟩
 exact ⟨rfl, hb.below⟩
theorem ref_dims_l (a : List S54) (h4 : a.length ≤ 1000) : ∀ (r : List S54) (j : Nat), a.drop j = r → Ev (fun k => manorboyref08_SameDims.l0 k a a (j : Int)) true := by
 intro r
 induction r with
 | nil =>
  intro j h
  refine Ev.one fun k => ?_
  simp only [manorboyref08_SameDims.l0, if_neg (not_lt_nil h)]
 | cons d r ih =>
  intro j h
  have hj := lt_drop h
  have c1 : (j : Int) < (a.length : Int) := by omega
  have c2 : (0 : Int) ≤ (j : Int) := by omega
  have e3 := wrap_next (j := j) (by omega)
  refine Ev.succ (ih (j + 1) (drop_next h)) fun k => ?_
  rw [manorboyref08_SameDims.l0, if_pos c1, if_pos c2, if_pos c1, if_neg (by simp), e3]
theorem rdims_w (l : List S54) (h4 : l.length ≤ 1000) (A A1 : Option Addr) (c c1 : Nat) (w : World) (hr : Kd.C k54 w A l.length l) (hc : l.length ≤ c) (hr1 : Kd.C k54 w A1 l.length l) (hc1 : l.length ≤ c1) :
  Calls Tryz.prog 44 #[.slice A l.length c, .slice A1 l.length c1] w (Bq true w) := by
 obtain ⟨k, hk⟩ := (ref_dims_l l h4 l 0 rfl).at
 refine (manorboyref08_SameDims.calls k A c l A1 c1 l true w hr hc hr1 hc1 (by unfold manorboyref08_SameDims.f; rw [if_pos rfl]; exact hk)).mono ?_
 rintro e w1 ⟨rfl, hb⟩
 exact ⟨rfl, hb.below⟩
end Go.Proofs.Q
end
section
namespace Go.Proofs.Q
open RowKit Shelf Rf Pw Pl Pm
theorem c3_of {W : World} {g ty : Nat} {a b c : Value} (h : W.heap[g]? = some (.cells #[a, b, c] ty)) : (W.cell? ⟨g, 0, none⟩ = some a ∧ W.cell? ⟨g, 1, none⟩ = some b ∧ W.cell? ⟨g, 2, none⟩ = some c) ∧ g < W.heap.size ∧ W.frozen? ⟨g, 0, none⟩ = false ∧ W.frozen? ⟨g, 1, none⟩ = false ∧ W.frozen? ⟨g, 2, none⟩ = false :=
 ⟨⟨by rw [kC h 0]; rfl, by rw [kC h 1]; rfl, by rw [kC h 2]; rfl⟩, blk_lt h, kF h 0, kF h 1, kF h 2⟩
theorem below_set3 {b : Nat} {w W : World} {x0 x1 x2 : Value} (h : Below w.heap.size w W) (hg : w.heap.size ≤ b) : Below w.heap.size w (((W.setCell ⟨b, 0, none⟩ x0).setCell ⟨b, 1, none⟩ x1).setCell ⟨b, 2, none⟩ x2) :=
 bT (bT (bT h hg) hg) hg
theorem rnew_no1 (t : Int) (ht : isTy t = false) (A : Option Addr) (n c : Nat) (w : World) : Calls Tryz.prog 13 #[.int .i64 t, .slice A n c] w (ResizeNo 1 w) := by
 have HT := Lib.hid (fun W => ht ▸ rtype_w t W : ∀ W, Calls Tryz.prog 42 #[.int .i64 t] W (Bq false W))
 have hZ : (w.alloc (.cells #[.int .i64 0, .slice none 0 0, .slice none 0 0] 25)).heap[w.heap.size]? = some (.cells #[.int .i64 0, .slice none 0 0, .slice none 0 0] 25) := heap_alloc_new w _
 have hB : Below w.heap.size w (w.alloc (.cells #[.int .i64 0, .slice none 0 0, .slice none 0 0] 25)) := bA (Below.refl _ _) _
 go_enter Tryz.func13, Tryz.ntmps13
 go_wp2_with (first
  | (go_at_call 42; refine (HT.out _).mono ?_; rintro e w1 ⟨rfl, hb⟩; (replace hZ := kB hZ hb); (replace hB := bS hB hb); (obtain ⟨⟨z0, z1, z2⟩, zl, zf0, zf1, zf2⟩ := c3_of hZ); clear hb))
 refine bodyPost_ret (v := .tuple #[.agg #[.int .i64 0, .slice none 0 0, .slice none 0 0], .int .i64 1]) (by clear hZ; simp [results, Tryz.results13, go_sem, z0, z1, z2, zl]) rfl ⟨rfl, below_set3 hB (Nat.le_refl _)⟩
theorem rnew_no2 (t : Int) (ht : isTy t = true) (l : List S54) (he : errOf l ≠ 0) (A : Option Addr) (c : Nat) (w : World) (hr : Kd.C k54 w A l.length l) (hc : l.length ≤ c) : Calls Tryz.prog 13 #[.int .i64 t, .slice A l.length c] w (ResizeNo (errOf l) w) := by
 have HT := Lib.hid (fun W => ht ▸ rtype_w t W : ∀ W, Calls Tryz.prog 42 #[.int .i64 t] W (Bq true W))
 have HR := Lib.hid hr
 have HC := Lib.hid hc
 have HE := Lib.hid (fun W h => rerr_w l A c W h hc)
 have eb : (errOf l != 0) = true := by simpa using he
 clear hr hc he
 generalize errOf l = x at HE eb ⊢
 have hZ : (w.alloc (.cells #[.int .i64 0, .slice none 0 0, .slice none 0 0] 25)).heap[w.heap.size]? = some (.cells #[.int .i64 0, .slice none 0 0, .slice none 0 0] 25) := heap_alloc_new w _
 have hB : Below w.heap.size w (w.alloc (.cells #[.int .i64 0, .slice none 0 0, .slice none 0 0] 25)) := bA (Below.refl _ _) _
 go_enter Tryz.func13, Tryz.ntmps13
 go_wp2_with (first
  | (go_at_call 42; refine (HT.out _).mono ?_; rintro e w1 ⟨rfl, hb⟩; (replace hZ := kB hZ hb); (replace hB := bS hB hb); clear hb)
  | (go_at_call 45; refine (HE.out _ (Kd.C_below HR.out hB)).mono ?_; rintro e w2 ⟨rfl, hb⟩; (replace hZ := kB hZ hb); (replace hB := bS hB hb); (obtain ⟨⟨z0, z1, z2⟩, zl, zf0, zf1, zf2⟩ := c3_of hZ); clear hb))
 refine bodyPost_ret (v := .tuple #[.agg #[.int .i64 0, .slice none 0 0, .slice none 0 0], .int .i64 x]) (by clear hZ; simp [results, Tryz.results13, go_sem, z0, z1, z2, zl]) rfl ⟨rfl, below_set3 hB (Nat.le_refl _)⟩
end Go.Proofs.Q
end
section
namespace Go.Proofs.Q
open RowKit Shelf Pw Pl Pm
attribute [local go_sem high] eqA38
def vd_T3 : Bool × List (List Nat × List Nat) := (true, [([], []), ([], []), ([1], [1]), ([2], [2]), ([0, 3], [0, 3]), ([4, 3], [4]), ([5], [5]), ([6, 5], [5, 6]), ([7, 5, 5], [5, 7]), ([5, 8], [5, 8]), ([9, 8, 0, 1, 2, 3, 4, 5, 6, 7, 8, 9], [9])])
def vd_B3 : List Nat := [0, 0, 2, 6, 15, 31, 63, 127, 255, 511, 1023]
theorem vd_tab3 : rtab .any (opsOf Tryz.f50 3) = vd_T3 := by kernel_rfl
theorem vd_bits3 : waitsOk vd_T3.2 vd_B3 = true := by kernel_rfl
def vd_T5 : Bool × List (List Nat × List Nat) := (true, [([], []), ([], []), ([1], [1]), ([2], [2]), ([0, 3], [0, 3]), ([4, 3], [4]), ([5], [5]), ([6, 5], [5, 6]), ([7, 5, 5], [5, 7]), ([5, 8], [5, 8]), ([9, 8, 0, 1, 2, 3, 4, 5, 6, 7, 8, 9], [9])])
def vd_B5 : List Nat := [0, 0, 2, 6, 15, 31, 63, 127, 255, 511, 1023]
theorem vd_tab5 : rtab .any (opsOf Tryz.f50 5) = vd_T5 := by kernel_rfl
theorem vd_bits5 : waitsOk vd_T5.2 vd_B5 = true := by kernel_rfl
theorem c5_al (W : World) (a b c d e : Value) (ty : Nat) : (W.alloc (.cells #[a, b, c, d, e] ty)).cell? ⟨W.heap.size, 0, none⟩ = some a ∧ (W.alloc (.cells #[a, b, c, d, e] ty)).cell? ⟨W.heap.size, 1, none⟩ = some b ∧ (W.alloc (.cells #[a, b, c, d, e] ty)).cell? ⟨W.heap.size, 2, none⟩ = some c ∧ (W.alloc (.cells #[a, b, c, d, e] ty)).cell? ⟨W.heap.size, 3, none⟩ = some d ∧ (W.alloc (.cells #[a, b, c, d, e] ty)).cell? ⟨W.heap.size, 4, none⟩ = some e := by
 have h := heap_alloc_new W (.cells #[a, b, c, d, e] ty)
 exact ⟨by rw [kC h 0]; rfl, by rw [kC h 1]; rfl, by rw [kC h 2]; rfl, by rw [kC h 3]; rfl, by rw [kC h 4]; rfl⟩
/-- a value is one -/
def vdB (a b c d : Int) (f : Bool) : Bool := if a = 1 then decide (c = 0 ∧ d = 0 ∧ f = false) && ivB b else if a = 2 then decide (b = 0 ∧ f = false) && rvB c d else if a = 3 then decide (b = 0 ∧ c = 0 ∧ d = 0) else false
theorem vd1 (b c d : Int) (f : Bool) (w : World) : Calls Tryz.prog 50 #[.agg #[.int .i64 1, .int .i64 b, .int .i64 c, .int .i64 d, .bool f]] w (Bq (decide (c = 0 ∧ d = 0 ∧ f = false) && ivB b) w) := by
 by_cases h1 : c = 0
 ·by_cases h2 : d = 0
  ·subst h1 h2
   cases f with
   | false =>
    rw [show (decide ((0 : Int) = 0 ∧ (0 : Int) = 0 ∧ false = false) && ivB b) = ivB b by simp]
    go_enter Tryz.func50, Tryz.ntmps50
    go_wp2
    have hs := c5_al w (.int .i64 1) (.int .i64 b) (.int .i64 0) (.int .i64 0) (.bool false) 38
    have hB0 : Below w.heap.size w (w.alloc (.cells #[.int .i64 1, .int .i64 b, .int .i64 0, .int .i64 0, .bool false] 38)).drew := below_drew (bA (Below.refl _ _) _)
    generalize hg : w.heap.size = g at hs ⊢
    replace hs : ((w.alloc (.cells #[.int .i64 1, .int .i64 b, .int .i64 0, .int .i64 0, .bool false] 38)).drew.cell? ⟨g, 0, none⟩ = some (.int .i64 1) ∧ (w.alloc (.cells #[.int .i64 1, .int .i64 b, .int .i64 0, .int .i64 0, .bool false] 38)).drew.cell? ⟨g, 1, none⟩ = some (.int .i64 b) ∧ (w.alloc (.cells #[.int .i64 1, .int .i64 b, .int .i64 0, .int .i64 0, .bool false] 38)).drew.cell? ⟨g, 2, none⟩ = some (.int .i64 0) ∧ (w.alloc (.cells #[.int .i64 1, .int .i64 b, .int .i64 0, .int .i64 0, .bool false] 38)).drew.cell? ⟨g, 3, none⟩ = some (.int .i64 0) ∧ (w.alloc (.cells #[.int .i64 1, .int .i64 b, .int .i64 0, .int .i64 0, .bool false] 38)).drew.cell? ⟨g, 4, none⟩ = some (.bool false)) := hs
    refine start_ (n := 11) (S := fun w' => w'.cell? ⟨g, 0, none⟩ = some (.int .i64 1) ∧ w'.cell? ⟨g, 1, none⟩ = some (.int .i64 b) ∧ w'.cell? ⟨g, 2, none⟩ = some (.int .i64 0) ∧ w'.cell? ⟨g, 3, none⟩ = some (.int .i64 0) ∧ w'.cell? ⟨g, 4, none⟩ = some (.bool false)) (ds := []) (lq 11 0) (by kernel_rfl) rfl (by kernel_rfl) ⟨hs.1, hs.2.1, hs.2.2.1, hs.2.2.2.1, hs.2.2.2.2⟩ (fun hHeld => ?_); refine with_tabW vd_tab3 vd_bits3 (fun HT_ HW_ => ?_)
    refine pv 1 8 11 2 HT_ ?_
    refine tv 2 9 11 6 HT_ HW_ hHeld ?_
    refine tv 0 7 11 7 HT_ HW_ hHeld ?_
    refine one_ (i := 3) (N := some 10) (lq 11 15) rfl rfl (one_of HT_.out (by kernel_rfl)) (by decide) (fun K hK => ?_)
    refine gs Tryz.func77 #[.int .i64 b] ?_
    refine (rint _ _).mono ?_
    rintro e w1 ⟨rfl, hb⟩
    have hB1 := bS hB0 hb
    have hs1 : _ ∧ _ ∧ _ ∧ _ ∧ _ := ⟨cB hb hs.1, cB hb hs.2.1, cB hb hs.2.2.1, cB hb hs.2.2.2.1, cB hb hs.2.2.2.2⟩
    refine ⟨_, rfl, hK.out _ _ ⟨hs1.1, hs1.2.1, hs1.2.2.1, hs1.2.2.2.1, hs1.2.2.2.2⟩ (fun hHeld => ?_)⟩; clear hK K
    refine ng 10 ?_
    refine pv 4 11 11 31 HT_ ?_
    refine pv 5 12 11 63 HT_ ?_
    refine pv 6 13 11 127 HT_ ?_
    refine tv 7 14 11 255 HT_ HW_ hHeld ?_
    refine one_ (i := 8) (N := some 15) (lq 11 511) rfl rfl (one_of HT_.out (by kernel_rfl)) (by decide) (fun K hK => ?_)
    refine gs Tryz.func78 #[.int .i64 b] ?_
    refine (rvalid1 _ _).mono ?_
    rintro e w2 ⟨rfl, hb2⟩
    have hB2 := bS hB1 hb2
    have hs2 : _ ∧ _ ∧ _ ∧ _ ∧ _ := ⟨cB hb2 hs1.1, cB hb2 hs1.2.1, cB hb2 hs1.2.2.1, cB hb2 hs1.2.2.2.1, cB hb2 hs1.2.2.2.2⟩
    refine ⟨_, rfl, hK.out _ _ ⟨hs2.1, hs2.2.1, hs2.2.2.1, hs2.2.2.2.1, hs2.2.2.2.2⟩ (fun hHeld => ?_)⟩; clear hK K
    refine ng 15 ?_
    refine pv 9 16 11 1023 HT_ ?_
    refine pv 10 2 11 2047 HT_ ?_
    refine done_ (done_of HT_.out (by kernel_rfl)) ?_
    go_wp2
    go_ret
    exact ⟨rfl, hB2⟩
   | true =>
    rw [show (decide ((0 : Int) = 0 ∧ (0 : Int) = 0 ∧ true = false) && ivB b) = false by simp]
    go_enter Tryz.func50, Tryz.ntmps50
    go_wp2
    have hs := c5_al w (.int .i64 1) (.int .i64 b) (.int .i64 0) (.int .i64 0) (.bool true) 38
    have hB0 : Below w.heap.size w (w.alloc (.cells #[.int .i64 1, .int .i64 b, .int .i64 0, .int .i64 0, .bool true] 38)).drew := below_drew (bA (Below.refl _ _) _)
    generalize hg : w.heap.size = g at hs ⊢
    replace hs : ((w.alloc (.cells #[.int .i64 1, .int .i64 b, .int .i64 0, .int .i64 0, .bool true] 38)).drew.cell? ⟨g, 0, none⟩ = some (.int .i64 1) ∧ (w.alloc (.cells #[.int .i64 1, .int .i64 b, .int .i64 0, .int .i64 0, .bool true] 38)).drew.cell? ⟨g, 1, none⟩ = some (.int .i64 b) ∧ (w.alloc (.cells #[.int .i64 1, .int .i64 b, .int .i64 0, .int .i64 0, .bool true] 38)).drew.cell? ⟨g, 2, none⟩ = some (.int .i64 0) ∧ (w.alloc (.cells #[.int .i64 1, .int .i64 b, .int .i64 0, .int .i64 0, .bool true] 38)).drew.cell? ⟨g, 3, none⟩ = some (.int .i64 0) ∧ (w.alloc (.cells #[.int .i64 1, .int .i64 b, .int .i64 0, .int .i64 0, .bool true] 38)).drew.cell? ⟨g, 4, none⟩ = some (.bool true)) := hs
    refine start_ (n := 11) (S := fun w' => w'.cell? ⟨g, 0, none⟩ = some (.int .i64 1) ∧ w'.cell? ⟨g, 1, none⟩ = some (.int .i64 b) ∧ w'.cell? ⟨g, 2, none⟩ = some (.int .i64 0) ∧ w'.cell? ⟨g, 3, none⟩ = some (.int .i64 0) ∧ w'.cell? ⟨g, 4, none⟩ = some (.bool true)) (ds := []) (lq 11 0) (by kernel_rfl) rfl (by kernel_rfl) ⟨hs.1, hs.2.1, hs.2.2.1, hs.2.2.2.1, hs.2.2.2.2⟩ (fun hHeld => ?_); refine with_tabW vd_tab3 vd_bits3 (fun HT_ HW_ => ?_)
    refine pv 1 8 11 2 HT_ ?_
    refine tv 2 9 11 6 HT_ HW_ hHeld ?_
    refine tv 0 7 11 7 HT_ HW_ hHeld ?_
    refine one_ (i := 3) (N := some 10) (lq 11 15) rfl rfl (one_of HT_.out (by kernel_rfl)) (by decide) (fun K hK => ?_)
    refine gs Tryz.func77 #[.int .i64 b] ?_
    refine (rint _ _).mono ?_
    rintro e w1 ⟨rfl, hb⟩
    have hB1 := bS hB0 hb
    have hs1 : _ ∧ _ ∧ _ ∧ _ ∧ _ := ⟨cB hb hs.1, cB hb hs.2.1, cB hb hs.2.2.1, cB hb hs.2.2.2.1, cB hb hs.2.2.2.2⟩
    refine ⟨_, rfl, hK.out _ _ ⟨hs1.1, hs1.2.1, hs1.2.2.1, hs1.2.2.2.1, hs1.2.2.2.2⟩ (fun hHeld => ?_)⟩; clear hK K
    refine ng 10 ?_
    refine pv 4 11 11 31 HT_ ?_
    refine pv 5 12 11 63 HT_ ?_
    refine uv 6 13 11 127 HT_ ?_
    refine uv 7 14 11 255 HT_ ?_
    refine uv 8 15 11 511 HT_ ?_
    refine pv 9 16 11 1023 HT_ ?_
    refine pv 10 2 11 2047 HT_ ?_
    refine done_ (done_of HT_.out (by kernel_rfl)) ?_
    go_wp2
    go_ret
    exact ⟨rfl, hB1⟩
  ·rw [show (decide (c = 0 ∧ d = 0 ∧ f = false) && ivB b) = false by simp [h2]]
   have b1 : (d == 0) = false := beq_eq_false_iff_ne.mpr h2
   subst h1
   clear h2
   go_enter Tryz.func50, Tryz.ntmps50
   go_wp2
   have hs := c5_al w (.int .i64 1) (.int .i64 b) (.int .i64 0) (.int .i64 d) (.bool f) 38
   have hB0 : Below w.heap.size w (w.alloc (.cells #[.int .i64 1, .int .i64 b, .int .i64 0, .int .i64 d, .bool f] 38)).drew := below_drew (bA (Below.refl _ _) _)
   generalize hg : w.heap.size = g at hs ⊢
   replace hs : ((w.alloc (.cells #[.int .i64 1, .int .i64 b, .int .i64 0, .int .i64 d, .bool f] 38)).drew.cell? ⟨g, 0, none⟩ = some (.int .i64 1) ∧ (w.alloc (.cells #[.int .i64 1, .int .i64 b, .int .i64 0, .int .i64 d, .bool f] 38)).drew.cell? ⟨g, 1, none⟩ = some (.int .i64 b) ∧ (w.alloc (.cells #[.int .i64 1, .int .i64 b, .int .i64 0, .int .i64 d, .bool f] 38)).drew.cell? ⟨g, 2, none⟩ = some (.int .i64 0) ∧ (w.alloc (.cells #[.int .i64 1, .int .i64 b, .int .i64 0, .int .i64 d, .bool f] 38)).drew.cell? ⟨g, 3, none⟩ = some (.int .i64 d) ∧ (w.alloc (.cells #[.int .i64 1, .int .i64 b, .int .i64 0, .int .i64 d, .bool f] 38)).drew.cell? ⟨g, 4, none⟩ = some (.bool f)) := hs
   refine start_ (n := 11) (S := fun w' => w'.cell? ⟨g, 0, none⟩ = some (.int .i64 1) ∧ w'.cell? ⟨g, 1, none⟩ = some (.int .i64 b) ∧ w'.cell? ⟨g, 2, none⟩ = some (.int .i64 0) ∧ w'.cell? ⟨g, 3, none⟩ = some (.int .i64 d) ∧ w'.cell? ⟨g, 4, none⟩ = some (.bool f)) (ds := []) (lq 11 0) (by kernel_rfl) rfl (by kernel_rfl) ⟨hs.1, hs.2.1, hs.2.2.1, hs.2.2.2.1, hs.2.2.2.2⟩ (fun hHeld => ?_); refine with_tabW vd_tab3 vd_bits3 (fun HT_ HW_ => ?_)
   refine pv 1 8 11 2 HT_ ?_
   refine tv 2 9 11 6 HT_ HW_ hHeld ?_
   refine tv 0 7 11 7 HT_ HW_ hHeld ?_
   refine one_ (i := 3) (N := some 10) (lq 11 15) rfl rfl (one_of HT_.out (by kernel_rfl)) (by decide) (fun K hK => ?_)
   refine gs Tryz.func77 #[.int .i64 b] ?_
   refine (rint _ _).mono ?_
   rintro e w1 ⟨rfl, hb⟩
   have hB1 := bS hB0 hb
   have hs1 : _ ∧ _ ∧ _ ∧ _ ∧ _ := ⟨cB hb hs.1, cB hb hs.2.1, cB hb hs.2.2.1, cB hb hs.2.2.2.1, cB hb hs.2.2.2.2⟩
   refine ⟨_, rfl, hK.out _ _ ⟨hs1.1, hs1.2.1, hs1.2.2.1, hs1.2.2.2.1, hs1.2.2.2.2⟩ (fun hHeld => ?_)⟩; clear hK K
   refine ng 10 ?_
   refine pv 4 11 11 31 HT_ ?_
   refine pv 5 12 11 63 HT_ ?_
   refine uv 6 13 11 127 HT_ ?_
   refine uv 7 14 11 255 HT_ ?_
   refine uv 8 15 11 511 HT_ ?_
   refine pv 9 16 11 1023 HT_ ?_
   refine pv 10 2 11 2047 HT_ ?_
   refine done_ (done_of HT_.out (by kernel_rfl)) ?_
   go_wp2
   go_ret
   exact ⟨rfl, hB1⟩
 ·rw [show (decide (c = 0 ∧ d = 0 ∧ f = false) && ivB b) = false by simp [h1]]
  have b1 : (c == 0) = false := beq_eq_false_iff_ne.mpr h1
  clear h1
  go_enter Tryz.func50, Tryz.ntmps50
  go_wp2
  have hs := c5_al w (.int .i64 1) (.int .i64 b) (.int .i64 c) (.int .i64 d) (.bool f) 38
  have hB0 : Below w.heap.size w (w.alloc (.cells #[.int .i64 1, .int .i64 b, .int .i64 c, .int .i64 d, .bool f] 38)).drew := below_drew (bA (Below.refl _ _) _)
  generalize hg : w.heap.size = g at hs ⊢
  replace hs : ((w.alloc (.cells #[.int .i64 1, .int .i64 b, .int .i64 c, .int .i64 d, .bool f] 38)).drew.cell? ⟨g, 0, none⟩ = some (.int .i64 1) ∧ (w.alloc (.cells #[.int .i64 1, .int .i64 b, .int .i64 c, .int .i64 d, .bool f] 38)).drew.cell? ⟨g, 1, none⟩ = some (.int .i64 b) ∧ (w.alloc (.cells #[.int .i64 1, .int .i64 b, .int .i64 c, .int .i64 d, .bool f] 38)).drew.cell? ⟨g, 2, none⟩ = some (.int .i64 c) ∧ (w.alloc (.cells #[.int .i64 1, .int .i64 b, .int .i64 c, .int .i64 d, .bool f] 38)).drew.cell? ⟨g, 3, none⟩ = some (.int .i64 d) ∧ (w.alloc (.cells #[.int .i64 1, .int .i64 b, .int .i64 c, .int .i64 d, .bool f] 38)).drew.cell? ⟨g, 4, none⟩ = some (.bool f)) := hs
  refine start_ (n := 11) (S := fun w' => w'.cell? ⟨g, 0, none⟩ = some (.int .i64 1) ∧ w'.cell? ⟨g, 1, none⟩ = some (.int .i64 b) ∧ w'.cell? ⟨g, 2, none⟩ = some (.int .i64 c) ∧ w'.cell? ⟨g, 3, none⟩ = some (.int .i64 d) ∧ w'.cell? ⟨g, 4, none⟩ = some (.bool f)) (ds := []) (lq 11 0) (by kernel_rfl) rfl (by kernel_rfl) ⟨hs.1, hs.2.1, hs.2.2.1, hs.2.2.2.1, hs.2.2.2.2⟩ (fun hHeld => ?_); refine with_tabW vd_tab3 vd_bits3 (fun HT_ HW_ => ?_)
  refine pv 1 8 11 2 HT_ ?_
  refine tv 2 9 11 6 HT_ HW_ hHeld ?_
  refine tv 0 7 11 7 HT_ HW_ hHeld ?_
  refine one_ (i := 3) (N := some 10) (lq 11 15) rfl rfl (one_of HT_.out (by kernel_rfl)) (by decide) (fun K hK => ?_)
  refine gs Tryz.func77 #[.int .i64 b] ?_
  refine (rint _ _).mono ?_
  rintro e w1 ⟨rfl, hb⟩
  have hB1 := bS hB0 hb
  have hs1 : _ ∧ _ ∧ _ ∧ _ ∧ _ := ⟨cB hb hs.1, cB hb hs.2.1, cB hb hs.2.2.1, cB hb hs.2.2.2.1, cB hb hs.2.2.2.2⟩
  refine ⟨_, rfl, hK.out _ _ ⟨hs1.1, hs1.2.1, hs1.2.2.1, hs1.2.2.2.1, hs1.2.2.2.2⟩ (fun hHeld => ?_)⟩; clear hK K
  refine ng 10 ?_
  refine pv 4 11 11 31 HT_ ?_
  refine pv 5 12 11 63 HT_ ?_
  refine uv 6 13 11 127 HT_ ?_
  refine uv 7 14 11 255 HT_ ?_
  refine uv 8 15 11 511 HT_ ?_
  refine pv 9 16 11 1023 HT_ ?_
  refine pv 10 2 11 2047 HT_ ?_
  refine done_ (done_of HT_.out (by kernel_rfl)) ?_
  go_wp2
  go_ret
  exact ⟨rfl, hB1⟩
end Go.Proofs.Q
end
section
namespace Go.Proofs.Q
open RowKit Shelf Pw Pl Pm
attribute [local go_sem high] eqA38
theorem vd2 (b c d : Int) (f : Bool) (hc0 : -9223372036854775808 ≤ c) (hc1 : c ≤ 9223372036854775807) (w : World) : Calls Tryz.prog 50 #[.agg #[.int .i64 2, .int .i64 b, .int .i64 c, .int .i64 d, .bool f]] w (Bq (decide (b = 0 ∧ f = false) && rvB c d) w) := by
 by_cases h1 : b = 0
 ·subst h1
  cases f with
  | false =>
   rw [show (decide ((0 : Int) = 0 ∧ false = false) && rvB c d) = rvB c d by simp]
   go_enter Tryz.func50, Tryz.ntmps50
   go_wp2
   have hs := c5_al w (.int .i64 2) (.int .i64 0) (.int .i64 c) (.int .i64 d) (.bool false) 38
   have hB0 : Below w.heap.size w (w.alloc (.cells #[.int .i64 2, .int .i64 0, .int .i64 c, .int .i64 d, .bool false] 38)).drew := below_drew (bA (Below.refl _ _) _)
   generalize hg : w.heap.size = g at hs ⊢
   replace hs : ((w.alloc (.cells #[.int .i64 2, .int .i64 0, .int .i64 c, .int .i64 d, .bool false] 38)).drew.cell? ⟨g, 0, none⟩ = some (.int .i64 2) ∧ (w.alloc (.cells #[.int .i64 2, .int .i64 0, .int .i64 c, .int .i64 d, .bool false] 38)).drew.cell? ⟨g, 1, none⟩ = some (.int .i64 0) ∧ (w.alloc (.cells #[.int .i64 2, .int .i64 0, .int .i64 c, .int .i64 d, .bool false] 38)).drew.cell? ⟨g, 2, none⟩ = some (.int .i64 c) ∧ (w.alloc (.cells #[.int .i64 2, .int .i64 0, .int .i64 c, .int .i64 d, .bool false] 38)).drew.cell? ⟨g, 3, none⟩ = some (.int .i64 d) ∧ (w.alloc (.cells #[.int .i64 2, .int .i64 0, .int .i64 c, .int .i64 d, .bool false] 38)).drew.cell? ⟨g, 4, none⟩ = some (.bool false)) := hs
   refine start_ (n := 11) (S := fun w' => w'.cell? ⟨g, 0, none⟩ = some (.int .i64 2) ∧ w'.cell? ⟨g, 1, none⟩ = some (.int .i64 0) ∧ w'.cell? ⟨g, 2, none⟩ = some (.int .i64 c) ∧ w'.cell? ⟨g, 3, none⟩ = some (.int .i64 d) ∧ w'.cell? ⟨g, 4, none⟩ = some (.bool false)) (ds := []) (lq 11 0) (by kernel_rfl) rfl (by kernel_rfl) ⟨hs.1, hs.2.1, hs.2.2.1, hs.2.2.2.1, hs.2.2.2.2⟩ (fun hHeld => ?_); refine with_tabW vd_tab5 vd_bits5 (fun HT_ HW_ => ?_)
   refine pv 1 20 11 2 HT_ ?_
   refine tv 2 21 11 6 HT_ HW_ hHeld ?_
   refine tv 0 19 11 7 HT_ HW_ hHeld ?_
   refine one_ (i := 3) (N := some 22) (lq 11 15) rfl rfl (one_of HT_.out (by kernel_rfl)) (by decide) (fun K hK => ?_)
   refine gs Tryz.func68 #[.agg #[.int .i64 c, .int .i64 d]] ?_
   refine (rreal _ _ _).mono ?_
   rintro e w1 ⟨rfl, hb⟩
   have hB1 := bS hB0 hb
   have hs1 : _ ∧ _ ∧ _ ∧ _ ∧ _ := ⟨cB hb hs.1, cB hb hs.2.1, cB hb hs.2.2.1, cB hb hs.2.2.2.1, cB hb hs.2.2.2.2⟩
   refine ⟨_, rfl, hK.out _ _ ⟨hs1.1, hs1.2.1, hs1.2.2.1, hs1.2.2.2.1, hs1.2.2.2.2⟩ (fun hHeld => ?_)⟩; clear hK K
   refine ng 22 ?_
   refine pv 4 23 11 31 HT_ ?_
   refine pv 5 24 11 63 HT_ ?_
   refine pv 6 25 11 127 HT_ ?_
   refine tv 7 26 11 255 HT_ HW_ hHeld ?_
   refine one_ (i := 8) (N := some 27) (lq 11 511) rfl rfl (one_of HT_.out (by kernel_rfl)) (by decide) (fun K hK => ?_)
   refine gs Tryz.func79 #[.agg #[.int .i64 c, .int .i64 d]] ?_
   refine (rvalid2 _ _ hc0 hc1 _).mono ?_
   rintro e w2 ⟨rfl, hb2⟩
   have hB2 := bS hB1 hb2
   have hs2 : _ ∧ _ ∧ _ ∧ _ ∧ _ := ⟨cB hb2 hs1.1, cB hb2 hs1.2.1, cB hb2 hs1.2.2.1, cB hb2 hs1.2.2.2.1, cB hb2 hs1.2.2.2.2⟩
   refine ⟨_, rfl, hK.out _ _ ⟨hs2.1, hs2.2.1, hs2.2.2.1, hs2.2.2.2.1, hs2.2.2.2.2⟩ (fun hHeld => ?_)⟩; clear hK K
   refine ng 27 ?_
   refine pv 9 28 11 1023 HT_ ?_
   refine pv 10 2 11 2047 HT_ ?_
   refine done_ (done_of HT_.out (by kernel_rfl)) ?_
   go_wp2
   go_ret
   exact ⟨rfl, hB2⟩
  | true =>
   rw [show (decide ((0 : Int) = 0 ∧ true = false) && rvB c d) = false by simp]
   go_enter Tryz.func50, Tryz.ntmps50
   go_wp2
   have hs := c5_al w (.int .i64 2) (.int .i64 0) (.int .i64 c) (.int .i64 d) (.bool true) 38
   have hB0 : Below w.heap.size w (w.alloc (.cells #[.int .i64 2, .int .i64 0, .int .i64 c, .int .i64 d, .bool true] 38)).drew := below_drew (bA (Below.refl _ _) _)
   generalize hg : w.heap.size = g at hs ⊢
   replace hs : ((w.alloc (.cells #[.int .i64 2, .int .i64 0, .int .i64 c, .int .i64 d, .bool true] 38)).drew.cell? ⟨g, 0, none⟩ = some (.int .i64 2) ∧ (w.alloc (.cells #[.int .i64 2, .int .i64 0, .int .i64 c, .int .i64 d, .bool true] 38)).drew.cell? ⟨g, 1, none⟩ = some (.int .i64 0) ∧ (w.alloc (.cells #[.int .i64 2, .int .i64 0, .int .i64 c, .int .i64 d, .bool true] 38)).drew.cell? ⟨g, 2, none⟩ = some (.int .i64 c) ∧ (w.alloc (.cells #[.int .i64 2, .int .i64 0, .int .i64 c, .int .i64 d, .bool true] 38)).drew.cell? ⟨g, 3, none⟩ = some (.int .i64 d) ∧ (w.alloc (.cells #[.int .i64 2, .int .i64 0, .int .i64 c, .int .i64 d, .bool true] 38)).drew.cell? ⟨g, 4, none⟩ = some (.bool true)) := hs
   refine start_ (n := 11) (S := fun w' => w'.cell? ⟨g, 0, none⟩ = some (.int .i64 2) ∧ w'.cell? ⟨g, 1, none⟩ = some (.int .i64 0) ∧ w'.cell? ⟨g, 2, none⟩ = some (.int .i64 c) ∧ w'.cell? ⟨g, 3, none⟩ = some (.int .i64 d) ∧ w'.cell? ⟨g, 4, none⟩ = some (.bool true)) (ds := []) (lq 11 0) (by kernel_rfl) rfl (by kernel_rfl) ⟨hs.1, hs.2.1, hs.2.2.1, hs.2.2.2.1, hs.2.2.2.2⟩ (fun hHeld => ?_); refine with_tabW vd_tab5 vd_bits5 (fun HT_ HW_ => ?_)
   refine pv 1 20 11 2 HT_ ?_
   refine tv 2 21 11 6 HT_ HW_ hHeld ?_
   refine tv 0 19 11 7 HT_ HW_ hHeld ?_
   refine one_ (i := 3) (N := some 22) (lq 11 15) rfl rfl (one_of HT_.out (by kernel_rfl)) (by decide) (fun K hK => ?_)
   refine gs Tryz.func68 #[.agg #[.int .i64 c, .int .i64 d]] ?_
   refine (rreal _ _ _).mono ?_
   rintro e w1 ⟨rfl, hb⟩
   have hB1 := bS hB0 hb
   have hs1 : _ ∧ _ ∧ _ ∧ _ ∧ _ := ⟨cB hb hs.1, cB hb hs.2.1, cB hb hs.2.2.1, cB hb hs.2.2.2.1, cB hb hs.2.2.2.2⟩
   refine ⟨_, rfl, hK.out _ _ ⟨hs1.1, hs1.2.1, hs1.2.2.1, hs1.2.2.2.1, hs1.2.2.2.2⟩ (fun hHeld => ?_)⟩; clear hK K
   refine ng 22 ?_
   refine pv 4 23 11 31 HT_ ?_
   refine pv 5 24 11 63 HT_ ?_
   refine uv 6 25 11 127 HT_ ?_
   refine uv 7 26 11 255 HT_ ?_
   refine uv 8 27 11 511 HT_ ?_
   refine pv 9 28 11 1023 HT_ ?_
   refine pv 10 2 11 2047 HT_ ?_
   refine done_ (done_of HT_.out (by kernel_rfl)) ?_
   go_wp2
   go_ret
   exact ⟨rfl, hB1⟩
 ·rw [show (decide (b = 0 ∧ f = false) && rvB c d) = false by simp [h1]]
  have b1 : (b == 0) = false := beq_eq_false_iff_ne.mpr h1
  clear h1
  go_enter Tryz.func50, Tryz.ntmps50
  go_wp2
  have hs := c5_al w (.int .i64 2) (.int .i64 b) (.int .i64 c) (.int .i64 d) (.bool f) 38
  have hB0 : Below w.heap.size w (w.alloc (.cells #[.int .i64 2, .int .i64 b, .int .i64 c, .int .i64 d, .bool f] 38)).drew := below_drew (bA (Below.refl _ _) _)
  generalize hg : w.heap.size = g at hs ⊢
  replace hs : ((w.alloc (.cells #[.int .i64 2, .int .i64 b, .int .i64 c, .int .i64 d, .bool f] 38)).drew.cell? ⟨g, 0, none⟩ = some (.int .i64 2) ∧ (w.alloc (.cells #[.int .i64 2, .int .i64 b, .int .i64 c, .int .i64 d, .bool f] 38)).drew.cell? ⟨g, 1, none⟩ = some (.int .i64 b) ∧ (w.alloc (.cells #[.int .i64 2, .int .i64 b, .int .i64 c, .int .i64 d, .bool f] 38)).drew.cell? ⟨g, 2, none⟩ = some (.int .i64 c) ∧ (w.alloc (.cells #[.int .i64 2, .int .i64 b, .int .i64 c, .int .i64 d, .bool f] 38)).drew.cell? ⟨g, 3, none⟩ = some (.int .i64 d) ∧ (w.alloc (.cells #[.int .i64 2, .int .i64 b, .int .i64 c, .int .i64 d, .bool f] 38)).drew.cell? ⟨g, 4, none⟩ = some (.bool f)) := hs
  refine start_ (n := 11) (S := fun w' => w'.cell? ⟨g, 0, none⟩ = some (.int .i64 2) ∧ w'.cell? ⟨g, 1, none⟩ = some (.int .i64 b) ∧ w'.cell? ⟨g, 2, none⟩ = some (.int .i64 c) ∧ w'.cell? ⟨g, 3, none⟩ = some (.int .i64 d) ∧ w'.cell? ⟨g, 4, none⟩ = some (.bool f)) (ds := []) (lq 11 0) (by kernel_rfl) rfl (by kernel_rfl) ⟨hs.1, hs.2.1, hs.2.2.1, hs.2.2.2.1, hs.2.2.2.2⟩ (fun hHeld => ?_); refine with_tabW vd_tab5 vd_bits5 (fun HT_ HW_ => ?_)
  refine pv 1 20 11 2 HT_ ?_
  refine tv 2 21 11 6 HT_ HW_ hHeld ?_
  refine tv 0 19 11 7 HT_ HW_ hHeld ?_
  refine one_ (i := 3) (N := some 22) (lq 11 15) rfl rfl (one_of HT_.out (by kernel_rfl)) (by decide) (fun K hK => ?_)
  refine gs Tryz.func68 #[.agg #[.int .i64 c, .int .i64 d]] ?_
  refine (rreal _ _ _).mono ?_
  rintro e w1 ⟨rfl, hb⟩
  have hB1 := bS hB0 hb
  have hs1 : _ ∧ _ ∧ _ ∧ _ ∧ _ := ⟨cB hb hs.1, cB hb hs.2.1, cB hb hs.2.2.1, cB hb hs.2.2.2.1, cB hb hs.2.2.2.2⟩
  refine ⟨_, rfl, hK.out _ _ ⟨hs1.1, hs1.2.1, hs1.2.2.1, hs1.2.2.2.1, hs1.2.2.2.2⟩ (fun hHeld => ?_)⟩; clear hK K
  refine ng 22 ?_
  refine pv 4 23 11 31 HT_ ?_
  refine pv 5 24 11 63 HT_ ?_
  refine uv 6 25 11 127 HT_ ?_
  refine uv 7 26 11 255 HT_ ?_
  refine uv 8 27 11 511 HT_ ?_
  refine pv 9 28 11 1023 HT_ ?_
  refine pv 10 2 11 2047 HT_ ?_
  refine done_ (done_of HT_.out (by kernel_rfl)) ?_
  go_wp2
  go_ret
  exact ⟨rfl, hB1⟩
end Go.Proofs.Q
end
section
namespace Go.Proofs.Q
open RowKit Shelf Pw Pl Pm
attribute [local go_sem high] eqA38
def vd_T7 : Bool × List (List Nat × List Nat) := (true, [([], []), ([], []), ([1], [1]), ([2], [2]), ([0, 3], [0, 3]), ([4, 3, 0, 1, 2, 3, 4], [4])])
def vd_B7 : List Nat := [0, 0, 2, 6, 15, 31]
theorem vd_tab7 : rtab .any (opsOf Tryz.f50 7) = vd_T7 := by kernel_rfl
theorem vd_bits7 : waitsOk vd_T7.2 vd_B7 = true := by kernel_rfl
theorem vd3 (b c d : Int) (f : Bool) (w : World) : Calls Tryz.prog 50 #[.agg #[.int .i64 3, .int .i64 b, .int .i64 c, .int .i64 d, .bool f]] w (Bq (decide (b = 0 ∧ c = 0 ∧ d = 0)) w) := by
 by_cases h1 : b = 0
 ·by_cases h2 : c = 0
  ·by_cases h3 : d = 0
   ·subst h1 h2 h3
    rw [show decide ((0 : Int) = 0 ∧ (0 : Int) = 0 ∧ (0 : Int) = 0) = true by simp]
    go_enter Tryz.func50, Tryz.ntmps50
    go_wp2
    have hs := c5_al w (.int .i64 3) (.int .i64 0) (.int .i64 0) (.int .i64 0) (.bool f) 38
    have hB0 : Below w.heap.size w (w.alloc (.cells #[.int .i64 3, .int .i64 0, .int .i64 0, .int .i64 0, .bool f] 38)).drew := below_drew (bA (Below.refl _ _) _)
    generalize hg : w.heap.size = g at hs ⊢
    replace hs : ((w.alloc (.cells #[.int .i64 3, .int .i64 0, .int .i64 0, .int .i64 0, .bool f] 38)).drew.cell? ⟨g, 0, none⟩ = some (.int .i64 3) ∧ (w.alloc (.cells #[.int .i64 3, .int .i64 0, .int .i64 0, .int .i64 0, .bool f] 38)).drew.cell? ⟨g, 1, none⟩ = some (.int .i64 0) ∧ (w.alloc (.cells #[.int .i64 3, .int .i64 0, .int .i64 0, .int .i64 0, .bool f] 38)).drew.cell? ⟨g, 2, none⟩ = some (.int .i64 0) ∧ (w.alloc (.cells #[.int .i64 3, .int .i64 0, .int .i64 0, .int .i64 0, .bool f] 38)).drew.cell? ⟨g, 3, none⟩ = some (.int .i64 0) ∧ (w.alloc (.cells #[.int .i64 3, .int .i64 0, .int .i64 0, .int .i64 0, .bool f] 38)).drew.cell? ⟨g, 4, none⟩ = some (.bool f)) := hs
    refine start_ (n := 6) (S := fun w' => w'.cell? ⟨g, 0, none⟩ = some (.int .i64 3) ∧ w'.cell? ⟨g, 1, none⟩ = some (.int .i64 0) ∧ w'.cell? ⟨g, 2, none⟩ = some (.int .i64 0) ∧ w'.cell? ⟨g, 3, none⟩ = some (.int .i64 0) ∧ w'.cell? ⟨g, 4, none⟩ = some (.bool f)) (ds := []) (lq 6 0) (by kernel_rfl) rfl (by kernel_rfl) ⟨hs.1, hs.2.1, hs.2.2.1, hs.2.2.2.1, hs.2.2.2.2⟩ (fun hHeld => ?_); refine with_tabW vd_tab7 vd_bits7 (fun HT_ HW_ => ?_)
    refine pv 1 32 6 2 HT_ ?_
    refine tv 2 33 6 6 HT_ HW_ hHeld ?_
    refine tv 0 31 6 7 HT_ HW_ hHeld ?_
    refine one_ (i := 3) (N := some 34) (lq 6 15) rfl rfl (one_of HT_.out (by kernel_rfl)) (by decide) (fun K hK => ?_)
    refine gs Tryz.func80 #[.bool f] ?_
    refine (rbool _ _).mono ?_
    rintro e w1 ⟨rfl, hb⟩
    have hB1 := bS hB0 hb
    have hs1 : _ ∧ _ ∧ _ ∧ _ ∧ _ := ⟨cB hb hs.1, cB hb hs.2.1, cB hb hs.2.2.1, cB hb hs.2.2.2.1, cB hb hs.2.2.2.2⟩
    refine ⟨_, rfl, hK.out _ _ ⟨hs1.1, hs1.2.1, hs1.2.2.1, hs1.2.2.2.1, hs1.2.2.2.2⟩ (fun hHeld => ?_)⟩; clear hK K
    refine ng 34 ?_
    refine pv 4 35 6 31 HT_ ?_
    refine pv 5 2 6 63 HT_ ?_
    refine done_ (done_of HT_.out (by kernel_rfl)) ?_
    go_wp2
    go_ret
    exact ⟨rfl, hB1⟩
   ·rw [show decide (b = 0 ∧ c = 0 ∧ d = 0) = false by simp [h3]]
    have b1 : (d == 0) = false := beq_eq_false_iff_ne.mpr h3
    subst h1 h2
    clear h3
    go_enter Tryz.func50, Tryz.ntmps50
    go_wp2
    have hs := c5_al w (.int .i64 3) (.int .i64 0) (.int .i64 0) (.int .i64 d) (.bool f) 38
    have hB0 : Below w.heap.size w (w.alloc (.cells #[.int .i64 3, .int .i64 0, .int .i64 0, .int .i64 d, .bool f] 38)).drew := below_drew (bA (Below.refl _ _) _)
    generalize hg : w.heap.size = g at hs ⊢
    replace hs : ((w.alloc (.cells #[.int .i64 3, .int .i64 0, .int .i64 0, .int .i64 d, .bool f] 38)).drew.cell? ⟨g, 0, none⟩ = some (.int .i64 3) ∧ (w.alloc (.cells #[.int .i64 3, .int .i64 0, .int .i64 0, .int .i64 d, .bool f] 38)).drew.cell? ⟨g, 1, none⟩ = some (.int .i64 0) ∧ (w.alloc (.cells #[.int .i64 3, .int .i64 0, .int .i64 0, .int .i64 d, .bool f] 38)).drew.cell? ⟨g, 2, none⟩ = some (.int .i64 0) ∧ (w.alloc (.cells #[.int .i64 3, .int .i64 0, .int .i64 0, .int .i64 d, .bool f] 38)).drew.cell? ⟨g, 3, none⟩ = some (.int .i64 d) ∧ (w.alloc (.cells #[.int .i64 3, .int .i64 0, .int .i64 0, .int .i64 d, .bool f] 38)).drew.cell? ⟨g, 4, none⟩ = some (.bool f)) := hs
    refine start_ (n := 6) (S := fun w' => w'.cell? ⟨g, 0, none⟩ = some (.int .i64 3) ∧ w'.cell? ⟨g, 1, none⟩ = some (.int .i64 0) ∧ w'.cell? ⟨g, 2, none⟩ = some (.int .i64 0) ∧ w'.cell? ⟨g, 3, none⟩ = some (.int .i64 d) ∧ w'.cell? ⟨g, 4, none⟩ = some (.bool f)) (ds := []) (lq 6 0) (by kernel_rfl) rfl (by kernel_rfl) ⟨hs.1, hs.2.1, hs.2.2.1, hs.2.2.2.1, hs.2.2.2.2⟩ (fun hHeld => ?_); refine with_tabW vd_tab7 vd_bits7 (fun HT_ HW_ => ?_)
    refine pv 1 32 6 2 HT_ ?_
    refine tv 2 33 6 6 HT_ HW_ hHeld ?_
    refine tv 0 31 6 7 HT_ HW_ hHeld ?_
    refine one_ (i := 3) (N := some 34) (lq 6 15) rfl rfl (one_of HT_.out (by kernel_rfl)) (by decide) (fun K hK => ?_)
    refine gs Tryz.func80 #[.bool f] ?_
    refine (rbool _ _).mono ?_
    rintro e w1 ⟨rfl, hb⟩
    have hB1 := bS hB0 hb
    have hs1 : _ ∧ _ ∧ _ ∧ _ ∧ _ := ⟨cB hb hs.1, cB hb hs.2.1, cB hb hs.2.2.1, cB hb hs.2.2.2.1, cB hb hs.2.2.2.2⟩
    refine ⟨_, rfl, hK.out _ _ ⟨hs1.1, hs1.2.1, hs1.2.2.1, hs1.2.2.2.1, hs1.2.2.2.2⟩ (fun hHeld => ?_)⟩; clear hK K
    refine ng 34 ?_
    refine pv 4 35 6 31 HT_ ?_
    refine pv 5 2 6 63 HT_ ?_
    refine done_ (done_of HT_.out (by kernel_rfl)) ?_
    go_wp2
    go_ret
    exact ⟨rfl, hB1⟩
  ·rw [show decide (b = 0 ∧ c = 0 ∧ d = 0) = false by simp [h2]]
   have b1 : (c == 0) = false := beq_eq_false_iff_ne.mpr h2
   subst h1
   clear h2
   go_enter Tryz.func50, Tryz.ntmps50
   go_wp2
   have hs := c5_al w (.int .i64 3) (.int .i64 0) (.int .i64 c) (.int .i64 d) (.bool f) 38
   have hB0 : Below w.heap.size w (w.alloc (.cells #[.int .i64 3, .int .i64 0, .int .i64 c, .int .i64 d, .bool f] 38)).drew := below_drew (bA (Below.refl _ _) _)
   generalize hg : w.heap.size = g at hs ⊢
   replace hs : ((w.alloc (.cells #[.int .i64 3, .int .i64 0, .int .i64 c, .int .i64 d, .bool f] 38)).drew.cell? ⟨g, 0, none⟩ = some (.int .i64 3) ∧ (w.alloc (.cells #[.int .i64 3, .int .i64 0, .int .i64 c, .int .i64 d, .bool f] 38)).drew.cell? ⟨g, 1, none⟩ = some (.int .i64 0) ∧ (w.alloc (.cells #[.int .i64 3, .int .i64 0, .int .i64 c, .int .i64 d, .bool f] 38)).drew.cell? ⟨g, 2, none⟩ = some (.int .i64 c) ∧ (w.alloc (.cells #[.int .i64 3, .int .i64 0, .int .i64 c, .int .i64 d, .bool f] 38)).drew.cell? ⟨g, 3, none⟩ = some (.int .i64 d) ∧ (w.alloc (.cells #[.int .i64 3, .int .i64 0, .int .i64 c, .int .i64 d, .bool f] 38)).drew.cell? ⟨g, 4, none⟩ = some (.bool f)) := hs
   refine start_ (n := 6) (S := fun w' => w'.cell? ⟨g, 0, none⟩ = some (.int .i64 3) ∧ w'.cell? ⟨g, 1, none⟩ = some (.int .i64 0) ∧ w'.cell? ⟨g, 2, none⟩ = some (.int .i64 c) ∧ w'.cell? ⟨g, 3, none⟩ = some (.int .i64 d) ∧ w'.cell? ⟨g, 4, none⟩ = some (.bool f)) (ds := []) (lq 6 0) (by kernel_rfl) rfl (by kernel_rfl) ⟨hs.1, hs.2.1, hs.2.2.1, hs.2.2.2.1, hs.2.2.2.2⟩ (fun hHeld => ?_); refine with_tabW vd_tab7 vd_bits7 (fun HT_ HW_ => ?_)
   refine pv 1 32 6 2 HT_ ?_
   refine tv 2 33 6 6 HT_ HW_ hHeld ?_
   refine tv 0 31 6 7 HT_ HW_ hHeld ?_
   refine one_ (i := 3) (N := some 34) (lq 6 15) rfl rfl (one_of HT_.out (by kernel_rfl)) (by decide) (fun K hK => ?_)
   refine gs Tryz.func80 #[.bool f] ?_
   refine (rbool _ _).mono ?_
   rintro e w1 ⟨rfl, hb⟩
   have hB1 := bS hB0 hb
   have hs1 : _ ∧ _ ∧ _ ∧ _ ∧ _ := ⟨cB hb hs.1, cB hb hs.2.1, cB hb hs.2.2.1, cB hb hs.2.2.2.1, cB hb hs.2.2.2.2⟩
   refine ⟨_, rfl, hK.out _ _ ⟨hs1.1, hs1.2.1, hs1.2.2.1, hs1.2.2.2.1, hs1.2.2.2.2⟩ (fun hHeld => ?_)⟩; clear hK K
   refine ng 34 ?_
   refine pv 4 35 6 31 HT_ ?_
   refine pv 5 2 6 63 HT_ ?_
   refine done_ (done_of HT_.out (by kernel_rfl)) ?_
   go_wp2
   go_ret
   exact ⟨rfl, hB1⟩
 ·rw [show decide (b = 0 ∧ c = 0 ∧ d = 0) = false by simp [h1]]
  have b1 : (b == 0) = false := beq_eq_false_iff_ne.mpr h1
  clear h1
  go_enter Tryz.func50, Tryz.ntmps50
  go_wp2
  have hs := c5_al w (.int .i64 3) (.int .i64 b) (.int .i64 c) (.int .i64 d) (.bool f) 38
  have hB0 : Below w.heap.size w (w.alloc (.cells #[.int .i64 3, .int .i64 b, .int .i64 c, .int .i64 d, .bool f] 38)).drew := below_drew (bA (Below.refl _ _) _)
  generalize hg : w.heap.size = g at hs ⊢
  replace hs : ((w.alloc (.cells #[.int .i64 3, .int .i64 b, .int .i64 c, .int .i64 d, .bool f] 38)).drew.cell? ⟨g, 0, none⟩ = some (.int .i64 3) ∧ (w.alloc (.cells #[.int .i64 3, .int .i64 b, .int .i64 c, .int .i64 d, .bool f] 38)).drew.cell? ⟨g, 1, none⟩ = some (.int .i64 b) ∧ (w.alloc (.cells #[.int .i64 3, .int .i64 b, .int .i64 c, .int .i64 d, .bool f] 38)).drew.cell? ⟨g, 2, none⟩ = some (.int .i64 c) ∧ (w.alloc (.cells #[.int .i64 3, .int .i64 b, .int .i64 c, .int .i64 d, .bool f] 38)).drew.cell? ⟨g, 3, none⟩ = some (.int .i64 d) ∧ (w.alloc (.cells #[.int .i64 3, .int .i64 b, .int .i64 c, .int .i64 d, .bool f] 38)).drew.cell? ⟨g, 4, none⟩ = some (.bool f)) := hs
  refine start_ (n := 6) (S := fun w' => w'.cell? ⟨g, 0, none⟩ = some (.int .i64 3) ∧ w'.cell? ⟨g, 1, none⟩ = some (.int .i64 b) ∧ w'.cell? ⟨g, 2, none⟩ = some (.int .i64 c) ∧ w'.cell? ⟨g, 3, none⟩ = some (.int .i64 d) ∧ w'.cell? ⟨g, 4, none⟩ = some (.bool f)) (ds := []) (lq 6 0) (by kernel_rfl) rfl (by kernel_rfl) ⟨hs.1, hs.2.1, hs.2.2.1, hs.2.2.2.1, hs.2.2.2.2⟩ (fun hHeld => ?_); refine with_tabW vd_tab7 vd_bits7 (fun HT_ HW_ => ?_)
  refine pv 1 32 6 2 HT_ ?_
  refine tv 2 33 6 6 HT_ HW_ hHeld ?_
  refine tv 0 31 6 7 HT_ HW_ hHeld ?_
  refine one_ (i := 3) (N := some 34) (lq 6 15) rfl rfl (one_of HT_.out (by kernel_rfl)) (by decide) (fun K hK => ?_)
  refine gs Tryz.func80 #[.bool f] ?_
  refine (rbool _ _).mono ?_
  rintro e w1 ⟨rfl, hb⟩
  have hB1 := bS hB0 hb
  have hs1 : _ ∧ _ ∧ _ ∧ _ ∧ _ := ⟨cB hb hs.1, cB hb hs.2.1, cB hb hs.2.2.1, cB hb hs.2.2.2.1, cB hb hs.2.2.2.2⟩
  refine ⟨_, rfl, hK.out _ _ ⟨hs1.1, hs1.2.1, hs1.2.2.1, hs1.2.2.2.1, hs1.2.2.2.2⟩ (fun hHeld => ?_)⟩; clear hK K
  refine ng 34 ?_
  refine pv 4 35 6 31 HT_ ?_
  refine pv 5 2 6 63 HT_ ?_
  refine done_ (done_of HT_.out (by kernel_rfl)) ?_
  go_wp2
  go_ret
  exact ⟨rfl, hB1⟩
theorem vd4 (a b c d : Int) (f : Bool) (w : World) (h1 : ¬ a = 1) (h2 : ¬ a = 2) (h3 : ¬ a = 3) : Calls Tryz.prog 50 #[.agg #[.int .i64 a, .int .i64 b, .int .i64 c, .int .i64 d, .bool f]] w (Bq false w) := by
 have e1 : (a == 1) = false := beq_eq_false_iff_ne.mpr h1
 have e2 : (a == 2) = false := beq_eq_false_iff_ne.mpr h2
 have e3 : (a == 3) = false := beq_eq_false_iff_ne.mpr h3
 clear h1 h2 h3
 go_enter Tryz.func50, Tryz.ntmps50
 go_wp2
 go_ret
 refine ⟨rfl, ?_⟩
 repeat (first | exact Below.refl _ _ | refine below_drew ?_ | refine bA ?_ _)
theorem vd_w (a b c d : Int) (f : Bool) (hc0 : -9223372036854775808 ≤ c) (hc1 : c ≤ 9223372036854775807) (w : World) : Calls Tryz.prog 50 #[.agg #[.int .i64 a, .int .i64 b, .int .i64 c, .int .i64 d, .bool f]] w (Bq (vdB a b c d f) w) := by
 unfold vdB
 by_cases h1 : a = 1
 ·subst h1
  rw [if_pos rfl]
  exact vd1 b c d f w
 ·rw [if_neg h1]
  by_cases h2 : a = 2
  ·subst h2
   rw [if_pos rfl]
   exact vd2 b c d f hc0 hc1 w
  ·rw [if_neg h2]
   by_cases h3 : a = 3
   ·subst h3
    rw [if_pos rfl]
    exact vd3 b c d f w
   ·rw [if_neg h3]
    exact vd4 a b c d f w h1 h2 h3
end Go.Proofs.Q
end
