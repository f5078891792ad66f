/-
 Texts of the proof, in build order: words that the walks use, contracts of functions, plain facts.
-/
import Derived.Test.YtcjjmhgboibbgaaGreatEa3
import Derived.Test.YtcjjmhgboibbgaaGreatEa4
import Derived.Test.YtcjjmhgboibbgaaGreatEa5
set_option maxHeartbeats 40000000
set_option maxRecDepth 100000
set_option linter.unusedVariables false
set_option linter.unusedSimpArgs false
section
namespace Go.Proofs.Q
open RowKit Pw Pl Pm
attribute [local go_sem] max2_int min2_int max_two min_two max_three min_three max_four min_four   -- for this text's walks alone
mutual
def manorboyref08_Error.j0 : Nat → List (S54) → Bool → Option (Int)
 | 0, _, _ => none
 | k + 1, x0, x15 => if x15 = true then (some 1) else (manorboyref08_Error.l0 k x0 0)
def manorboyref08_Error.l0 : Nat → List (S54) → Int → Option (Int)
 | 0, _, _ => none
 | k + 1, x0, x3 => if x3 < (x0.length : Int) then (if 0 ≤ x3 then (if ((rd_T54 x0 x3).f0) < (-2147483647) then (some 1) else (if ((rd_T54 x0 x3).f0) > 2147483647 then (some 1) else (if ((rd_T54 x0 x3).f1) < (-2147483647) then (some 1) else (if ((rd_T54 x0 x3).f1) > 2147483647 then (some 1) else (manorboyref08_Error.l0 k x0 (wrap64 (x3 + 1))))))) else (none)) else (manorboyref08_Error.l1 k x0 1 0)
def manorboyref08_Error.l1 : Nat → List (S54) → Int → Int → Option (Int)
 | 0, _, _, _ => none
 | k + 1, x0, x5, x6 => if x6 < (x0.length : Int) then (if 0 ≤ x6 then (if ((rd_T54 x0 x6).f0) > ((rd_T54 x0 x6).f1) then (some 3) else (manorboyref08_Error.l1 k x0 x5 (wrap64 (x6 + 1)))) else (none)) else (manorboyref08_Error.l2 k x0 x5 0)
def manorboyref08_Error.l2 : Nat → List (S54) → Int → Int → Option (Int)
 | 0, _, _, _ => none
 | k + 1, x0, x5, x7 => if x7 < (x0.length : Int) then (if 0 ≤ x7 then (if (wrap64 (x5 * (mn (wrap64 ((wrap64 (((rd_T54 x0 x7).f1) - ((rd_T54 x0 x7).f0))) + 1)) 1001))) > 1000 then (some 3) else (manorboyref08_Error.l2 k x0 (wrap64 (x5 * (mn (wrap64 ((wrap64 (((rd_T54 x0 x7).f1) - ((rd_T54 x0 x7).f0))) + 1)) 1001))) (wrap64 (x7 + 1)))) else (none)) else (some 0)
end
def manorboyref08_Error.f (k : Nat) (l0 : List (S54)) : Option (Int) := if (l0.length : Int) < 1 then (manorboyref08_Error.j0 k l0 true) else (manorboyref08_Error.j0 k l0 (decide ((l0.length : Int) > 4)))
theorem manorboyref08_Error.calls (k : Nat) (A0 : Option Addr) (c0 : Nat) (l0 : List (S54)) (r : Int) (w : World) (hr0 : Kd.C k54 w A0 l0.length l0) (hc0 : l0.length ≤ c0) (h : manorboyref08_Error.f k l0 = some r) :
  Calls Tryz.prog 45 #[.slice A0 l0.length c0] w fun e w' => e = .returned (.int .i64 r) ∧ Below w.heap.size w w' := by
 have hu40 := Tryz.underlying54
 have HR0 := As.mk hr0
 have HC0 := As.mk hc0
 clear hr0 hc0
 have HB := As.mk (Below.refl w.heap.size w)
 have H : (if (l0.length : Int) < 1 then (manorboyref08_Error.j0 k l0 true) else (manorboyref08_Error.j0 k l0 (decide ((l0.length : Int) > 4)))) = some r := h
 clear h
 have HC2 := As.mk H
 clear H
 go_enter Tryz.func45, Tryz.ntmps45
 go_upto_region 1 with (fail)
 repeat (go_quiet (fail); go_upto_region 1 with (fail))
 go_cut [15] (fun v15 wc => ∃ (kq : Nat) (x15_1 : Bool), v15 = .bool x15_1 ∧ As (manorboyref08_Error.j0 kq l0 x15_1 = some r) ∧ As (kq ≤ k) ∧ As (Below w.heap.size w wc))
 case first =>
  have H := HC2.out
  clear HC2
  by_cases c3 : (l0.length : Int) < 1
  ·rw [if_pos c3] at H
   have c3b0 : decide ((l0.length : Int) < 1) = true := decide_eq_true c3
   have c3b1 : decide (l0.length < 1) = true := decide_eq_true (by omega)
   clear c3
   (first | rw [c3b0] | (simp only [i64_w, i32_w]; rw [c3b0]) | skip)
   have H' := As.mk H
   clear H
   go_wp2
   repeat (go_quiet (fail); try go_wp2)
   go_meet
   case rel => exact ⟨_, (true), (by first | rfl | (simp; done) | (simp [*]; done)), H', ⟨by first | omega | exact Nat.le_refl _⟩, ⟨zz⟩⟩
  ·rw [if_neg c3] at H
   have c3b0 : decide ((l0.length : Int) < 1) = false := decide_eq_false c3
   have c3b1 : decide (l0.length < 1) = false := decide_eq_false (by omega)
   clear c3
   (first | rw [c3b0] | (simp only [i64_w, i32_w]; rw [c3b0]) | skip)
   have H' := As.mk H
   clear H
   go_wp2
   repeat (go_quiet (fail); try go_wp2)
   go_meet
   case rel => exact ⟨_, (decide ((l0.length : Int) > 4)), (by first | rfl | (simp; done) | (simp [*]; done)), H', ⟨by first | omega | exact Nat.le_refl _⟩, ⟨zz⟩⟩
 case rest =>
  clear HC2
  try clear c1
  try clear p2
  try clear c3
  try clear c3b0
  try clear c3b1
  obtain ⟨kq, x15_1, rfl, HA, HJ1, HB⟩ := hcut
  cases kq with
  | zero => exact absurd HA.out (by simp [manorboyref08_Error.j0])
  | succ kj1 =>
   have H := HA.out
   clear HA
   simp only [manorboyref08_Error.j0] at H
   by_cases c4 : x15_1 = true
   ·subst c4
    have H1 : (some 1) = some r := by rw [if_pos rfl] at H; exact H
    clear H
    have H := H1
    clear H1
    obtain rfl := Option.some.inj H
    go_wp2
    repeat (go_quiet (fail); try go_wp2)
    go_ret
    exact ⟨by first | rfl | (simp [eN, eS] <;> rfl) | (simp [*, eN, eS] <;> rfl), zz⟩
   ·replace c4 := Bool.eq_false_iff.mpr c4
    subst c4
    have H1 : (manorboyref08_Error.l0 kj1 l0 0) = some r := by rw [if_neg (show ¬ (false = true) by decide)] at H; exact H
    clear H
    have H := H1
    clear H1
    have H' := As.mk H
    clear H
    go_wp2
    repeat (go_quiet (fail); try go_wp2)
    go_loopg [3] kj1 (fun kq v3 w' => ∃ (x3_2 : Int), v3 = .int .i64 x3_2 ∧ As (manorboyref08_Error.l0 kq l0 x3_2 = some r) ∧ As (kq ≤ kj1) ∧ As (Below w.heap.size w w'))
    case atStart => exact ⟨(0), (by first | rfl | (simp; done) | (simp [*]; done)), H', ⟨Nat.le_refl _⟩, ⟨zz⟩⟩
    case round =>
     clear H'
     try clear c1
     try clear p2
     try clear c3
     try clear c3b0
     try clear c3b1
     try clear c4
     try clear p2
     obtain ⟨x3_2, rfl, HA, HK2, HB⟩ := hrel
     cases gk with
     | zero => exact absurd HA.out (by simp [manorboyref08_Error.l0])
     | succ k2 =>
      have H := HA.out
      clear HA
      simp only [manorboyref08_Error.l0] at H
      by_cases c5 : x3_2 < (l0.length : Int)
      ·rw [if_pos c5] at H
       have c5b0 : decide (x3_2 < (l0.length : Int)) = true := decide_eq_true c5
       clear c5
       by_cases c6 : 0 ≤ x3_2
       ·rw [if_pos c6] at H
        have c6b0 : decide (0 ≤ x3_2) = true := decide_eq_true c6
        clear c6
        by_cases c7 : ((rd_T54 l0 x3_2).f0) < (-2147483647)
        ·rw [if_pos c7] at H
         have c7b0 : decide (((rd_T54 l0 x3_2).f0) < (-2147483647)) = true := decide_eq_true c7
         clear c7
         obtain rfl := Option.some.inj H
         have p152 : 0 ≤ (x3_2 : Int) := od
         have q152 : x3_2 < (l0.length : Int) := od
         obtain ⟨ad152, e152, hx152_0, hx152_1⟩ := at_T54 HR0.out x3_2 p152 q152
         cases e152
         replace hx152_0 := (HB.out.cell (World.block_lt_of_cell? w _ hx152_0)).trans hx152_0
         replace hx152_1 := (HB.out.cell (World.block_lt_of_cell? w _ hx152_1)).trans hx152_1
         replace p152 := eq_true p152
         replace q152 := eq_true q152
         go_wp2_with (first | ((with_reducible refine gD (N := 4) rfl ?_); (try (refine gate_guard (by rfl) ?_; dsimp only)); refine bx 4 #[.int .i64 0, .int .i64 0] 54 ?_; intro gb153 hg w8 hbox hb; have BK153 := As.mk (hbox); have GW153 := As.mk ((by rw [hg]; exact (bZ zz) : w.heap.size ≤ gb153)); have GE153 := GW153; replace HB := As.mk (bS zz hb); clear hb hbox hg; have hcz9_0 : w8.cell? ⟨gb153, 0, none⟩ = some (.int .i64 0) := (kC BK153.out 0).trans rfl; have hcz9_1 : w8.cell? ⟨gb153, 1, none⟩ = some (.int .i64 0) := (kC BK153.out 1).trans rfl; have hfz9_0 := kF BK153.out 0; have hfz9_1 := kF BK153.out 1))
         repeat (go_quiet (first | ((with_reducible refine gD (N := 4) rfl ?_); (try (refine gate_guard (by rfl) ?_; dsimp only)); refine bx 4 #[.int .i64 0, .int .i64 0] 54 ?_; intro gb153 hg w8 hbox hb; have BK153 := As.mk (hbox); have GW153 := As.mk ((by rw [hg]; exact (bZ zz) : w.heap.size ≤ gb153)); have GE153 := GW153; replace HB := As.mk (bS zz hb); clear hb hbox hg; have hcz9_0 : w8.cell? ⟨gb153, 0, none⟩ = some (.int .i64 0) := (kC BK153.out 0).trans rfl; have hcz9_1 : w8.cell? ⟨gb153, 1, none⟩ = some (.int .i64 0) := (kC BK153.out 1).trans rfl; have hfz9_0 := kF BK153.out 0; have hfz9_1 := kF BK153.out 1)); try go_wp2_with (first | ((with_reducible refine gD (N := 4) rfl ?_); (try (refine gate_guard (by rfl) ?_; dsimp only)); refine bx 4 #[.int .i64 0, .int .i64 0] 54 ?_; intro gb153 hg w8 hbox hb; have BK153 := As.mk (hbox); have GW153 := As.mk ((by rw [hg]; exact (bZ zz) : w.heap.size ≤ gb153)); have GE153 := GW153; replace HB := As.mk (bS zz hb); clear hb hbox hg; have hcz9_0 : w8.cell? ⟨gb153, 0, none⟩ = some (.int .i64 0) := (kC BK153.out 0).trans rfl; have hcz9_1 : w8.cell? ⟨gb153, 1, none⟩ = some (.int .i64 0) := (kC BK153.out 1).trans rfl; have hfz9_0 := kF BK153.out 0; have hfz9_1 := kF BK153.out 1)))
         go_ret
         exact ⟨by first | rfl | (simp [eN, eS] <;> rfl) | (simp [*, eN, eS] <;> rfl), by repeat (first | (with_reducible first | exact HB.out | apply bA | apply bN | apply bD | refine bT ?_ GE153.out) | exact HB.out)⟩
        ·rw [if_neg c7] at H
         have c7b0 : decide (((rd_T54 l0 x3_2).f0) < (-2147483647)) = false := decide_eq_false c7
         clear c7
         by_cases c10 : ((rd_T54 l0 x3_2).f0) > 2147483647
         ·rw [if_pos c10] at H
          have c10b0 : decide (2147483647 < ((rd_T54 l0 x3_2).f0)) = true := decide_eq_true c10
          clear c10
          obtain rfl := Option.some.inj H
          have p152 : 0 ≤ (x3_2 : Int) := od
          have q152 : x3_2 < (l0.length : Int) := od
          obtain ⟨ad152, e152, hx152_0, hx152_1⟩ := at_T54 HR0.out x3_2 p152 q152
          cases e152
          replace hx152_0 := (HB.out.cell (World.block_lt_of_cell? w _ hx152_0)).trans hx152_0
          replace hx152_1 := (HB.out.cell (World.block_lt_of_cell? w _ hx152_1)).trans hx152_1
          replace p152 := eq_true p152
          replace q152 := eq_true q152
          go_wp2_with (first | ((with_reducible refine gD (N := 4) rfl ?_); (try (refine gate_guard (by rfl) ?_; dsimp only)); refine bx 4 #[.int .i64 0, .int .i64 0] 54 ?_; intro gb153 hg w11 hbox hb; have BK153 := As.mk (hbox); have GW153 := As.mk ((by rw [hg]; exact (bZ zz) : w.heap.size ≤ gb153)); have GE153 := GW153; replace HB := As.mk (bS zz hb); clear hb hbox hg; have hcz12_0 : w11.cell? ⟨gb153, 0, none⟩ = some (.int .i64 0) := (kC BK153.out 0).trans rfl; have hcz12_1 : w11.cell? ⟨gb153, 1, none⟩ = some (.int .i64 0) := (kC BK153.out 1).trans rfl; have hfz12_0 := kF BK153.out 0; have hfz12_1 := kF BK153.out 1))
          repeat (go_quiet (first | ((with_reducible refine gD (N := 4) rfl ?_); (try (refine gate_guard (by rfl) ?_; dsimp only)); refine bx 4 #[.int .i64 0, .int .i64 0] 54 ?_; intro gb153 hg w11 hbox hb; have BK153 := As.mk (hbox); have GW153 := As.mk ((by rw [hg]; exact (bZ zz) : w.heap.size ≤ gb153)); have GE153 := GW153; replace HB := As.mk (bS zz hb); clear hb hbox hg; have hcz12_0 : w11.cell? ⟨gb153, 0, none⟩ = some (.int .i64 0) := (kC BK153.out 0).trans rfl; have hcz12_1 : w11.cell? ⟨gb153, 1, none⟩ = some (.int .i64 0) := (kC BK153.out 1).trans rfl; have hfz12_0 := kF BK153.out 0; have hfz12_1 := kF BK153.out 1)); try go_wp2_with (first | ((with_reducible refine gD (N := 4) rfl ?_); (try (refine gate_guard (by rfl) ?_; dsimp only)); refine bx 4 #[.int .i64 0, .int .i64 0] 54 ?_; intro gb153 hg w11 hbox hb; have BK153 := As.mk (hbox); have GW153 := As.mk ((by rw [hg]; exact (bZ zz) : w.heap.size ≤ gb153)); have GE153 := GW153; replace HB := As.mk (bS zz hb); clear hb hbox hg; have hcz12_0 : w11.cell? ⟨gb153, 0, none⟩ = some (.int .i64 0) := (kC BK153.out 0).trans rfl; have hcz12_1 : w11.cell? ⟨gb153, 1, none⟩ = some (.int .i64 0) := (kC BK153.out 1).trans rfl; have hfz12_0 := kF BK153.out 0; have hfz12_1 := kF BK153.out 1)))
          go_ret
          exact ⟨by first | rfl | (simp [eN, eS] <;> rfl) | (simp [*, eN, eS] <;> rfl), by repeat (first | (with_reducible first | exact HB.out | apply bA | apply bN | apply bD | refine bT ?_ GE153.out) | exact HB.out)⟩
         ·rw [if_neg c10] at H
          have c10b0 : decide (2147483647 < ((rd_T54 l0 x3_2).f0)) = false := decide_eq_false c10
          clear c10
          by_cases c13 : ((rd_T54 l0 x3_2).f1) < (-2147483647)
          ·rw [if_pos c13] at H
           have c13b0 : decide (((rd_T54 l0 x3_2).f1) < (-2147483647)) = true := decide_eq_true c13
           clear c13
           obtain rfl := Option.some.inj H
           have p152 : 0 ≤ (x3_2 : Int) := od
           have q152 : x3_2 < (l0.length : Int) := od
           obtain ⟨ad152, e152, hx152_0, hx152_1⟩ := at_T54 HR0.out x3_2 p152 q152
           cases e152
           replace hx152_0 := (HB.out.cell (World.block_lt_of_cell? w _ hx152_0)).trans hx152_0
           replace hx152_1 := (HB.out.cell (World.block_lt_of_cell? w _ hx152_1)).trans hx152_1
           replace p152 := eq_true p152
           replace q152 := eq_true q152
           go_wp2_with (first | ((with_reducible refine gD (N := 4) rfl ?_); (try (refine gate_guard (by rfl) ?_; dsimp only)); refine bx 4 #[.int .i64 0, .int .i64 0] 54 ?_; intro gb153 hg w14 hbox hb; have BK153 := As.mk (hbox); have GW153 := As.mk ((by rw [hg]; exact (bZ zz) : w.heap.size ≤ gb153)); have GE153 := GW153; replace HB := As.mk (bS zz hb); clear hb hbox hg; have hcz15_0 : w14.cell? ⟨gb153, 0, none⟩ = some (.int .i64 0) := (kC BK153.out 0).trans rfl; have hcz15_1 : w14.cell? ⟨gb153, 1, none⟩ = some (.int .i64 0) := (kC BK153.out 1).trans rfl; have hfz15_0 := kF BK153.out 0; have hfz15_1 := kF BK153.out 1))
           repeat (go_quiet (first | ((with_reducible refine gD (N := 4) rfl ?_); (try (refine gate_guard (by rfl) ?_; dsimp only)); refine bx 4 #[.int .i64 0, .int .i64 0] 54 ?_; intro gb153 hg w14 hbox hb; have BK153 := As.mk (hbox); have GW153 := As.mk ((by rw [hg]; exact (bZ zz) : w.heap.size ≤ gb153)); have GE153 := GW153; replace HB := As.mk (bS zz hb); clear hb hbox hg; have hcz15_0 : w14.cell? ⟨gb153, 0, none⟩ = some (.int .i64 0) := (kC BK153.out 0).trans rfl; have hcz15_1 : w14.cell? ⟨gb153, 1, none⟩ = some (.int .i64 0) := (kC BK153.out 1).trans rfl; have hfz15_0 := kF BK153.out 0; have hfz15_1 := kF BK153.out 1)); try go_wp2_with (first | ((with_reducible refine gD (N := 4) rfl ?_); (try (refine gate_guard (by rfl) ?_; dsimp only)); refine bx 4 #[.int .i64 0, .int .i64 0] 54 ?_; intro gb153 hg w14 hbox hb; have BK153 := As.mk (hbox); have GW153 := As.mk ((by rw [hg]; exact (bZ zz) : w.heap.size ≤ gb153)); have GE153 := GW153; replace HB := As.mk (bS zz hb); clear hb hbox hg; have hcz15_0 : w14.cell? ⟨gb153, 0, none⟩ = some (.int .i64 0) := (kC BK153.out 0).trans rfl; have hcz15_1 : w14.cell? ⟨gb153, 1, none⟩ = some (.int .i64 0) := (kC BK153.out 1).trans rfl; have hfz15_0 := kF BK153.out 0; have hfz15_1 := kF BK153.out 1)))
           go_ret
           exact ⟨by first | rfl | (simp [eN, eS] <;> rfl) | (simp [*, eN, eS] <;> rfl), by repeat (first | (with_reducible first | exact HB.out | apply bA | apply bN | apply bD | refine bT ?_ GE153.out) | exact HB.out)⟩
          ·rw [if_neg c13] at H
           have c13b0 : decide (((rd_T54 l0 x3_2).f1) < (-2147483647)) = false := decide_eq_false c13
           clear c13
           by_cases c16 : ((rd_T54 l0 x3_2).f1) > 2147483647
           ·rw [if_pos c16] at H
            have c16b0 : decide (2147483647 < ((rd_T54 l0 x3_2).f1)) = true := decide_eq_true c16
            clear c16
            obtain rfl := Option.some.inj H
            have p152 : 0 ≤ (x3_2 : Int) := od
            have q152 : x3_2 < (l0.length : Int) := od
            obtain ⟨ad152, e152, hx152_0, hx152_1⟩ := at_T54 HR0.out x3_2 p152 q152
            cases e152
            replace hx152_0 := (HB.out.cell (World.block_lt_of_cell? w _ hx152_0)).trans hx152_0
            replace hx152_1 := (HB.out.cell (World.block_lt_of_cell? w _ hx152_1)).trans hx152_1
            replace p152 := eq_true p152
            replace q152 := eq_true q152
            go_wp2_with (first | ((with_reducible refine gD (N := 4) rfl ?_); (try (refine gate_guard (by rfl) ?_; dsimp only)); refine bx 4 #[.int .i64 0, .int .i64 0] 54 ?_; intro gb153 hg w17 hbox hb; have BK153 := As.mk (hbox); have GW153 := As.mk ((by rw [hg]; exact (bZ zz) : w.heap.size ≤ gb153)); have GE153 := GW153; replace HB := As.mk (bS zz hb); clear hb hbox hg; have hcz18_0 : w17.cell? ⟨gb153, 0, none⟩ = some (.int .i64 0) := (kC BK153.out 0).trans rfl; have hcz18_1 : w17.cell? ⟨gb153, 1, none⟩ = some (.int .i64 0) := (kC BK153.out 1).trans rfl; have hfz18_0 := kF BK153.out 0; have hfz18_1 := kF BK153.out 1))
            repeat (go_quiet (first | ((with_reducible refine gD (N := 4) rfl ?_); (try (refine gate_guard (by rfl) ?_; dsimp only)); refine bx 4 #[.int .i64 0, .int .i64 0] 54 ?_; intro gb153 hg w17 hbox hb; have BK153 := As.mk (hbox); have GW153 := As.mk ((by rw [hg]; exact (bZ zz) : w.heap.size ≤ gb153)); have GE153 := GW153; replace HB := As.mk (bS zz hb); clear hb hbox hg; have hcz18_0 : w17.cell? ⟨gb153, 0, none⟩ = some (.int .i64 0) := (kC BK153.out 0).trans rfl; have hcz18_1 : w17.cell? ⟨gb153, 1, none⟩ = some (.int .i64 0) := (kC BK153.out 1).trans rfl; have hfz18_0 := kF BK153.out 0; have hfz18_1 := kF BK153.out 1)); try go_wp2_with (first | ((with_reducible refine gD (N := 4) rfl ?_); (try (refine gate_guard (by rfl) ?_; dsimp only)); refine bx 4 #[.int .i64 0, .int .i64 0] 54 ?_; intro gb153 hg w17 hbox hb; have BK153 := As.mk (hbox); have GW153 := As.mk ((by rw [hg]; exact (bZ zz) : w.heap.size ≤ gb153)); have GE153 := GW153; replace HB := As.mk (bS zz hb); clear hb hbox hg; have hcz18_0 : w17.cell? ⟨gb153, 0, none⟩ = some (.int .i64 0) := (kC BK153.out 0).trans rfl; have hcz18_1 : w17.cell? ⟨gb153, 1, none⟩ = some (.int .i64 0) := (kC BK153.out 1).trans rfl; have hfz18_0 := kF BK153.out 0; have hfz18_1 := kF BK153.out 1)))
            go_ret
            exact ⟨by first | rfl | (simp [eN, eS] <;> rfl) | (simp [*, eN, eS] <;> rfl), by repeat (first | (with_reducible first | exact HB.out | apply bA | apply bN | apply bD | refine bT ?_ GE153.out) | exact HB.out)⟩
           ·rw [if_neg c16] at H
            have c16b0 : decide (2147483647 < ((rd_T54 l0 x3_2).f1)) = false := decide_eq_false c16
            clear c16
            have H' := As.mk H
            clear H
            have p152 : 0 ≤ (x3_2 : Int) := od
            have q152 : x3_2 < (l0.length : Int) := od
            obtain ⟨ad152, e152, hx152_0, hx152_1⟩ := at_T54 HR0.out x3_2 p152 q152
            cases e152
            replace hx152_0 := (HB.out.cell (World.block_lt_of_cell? w _ hx152_0)).trans hx152_0
            replace hx152_1 := (HB.out.cell (World.block_lt_of_cell? w _ hx152_1)).trans hx152_1
            replace p152 := eq_true p152
            replace q152 := eq_true q152
            go_wp2_with (first | ((with_reducible refine gD (N := 4) rfl ?_); (try (refine gate_guard (by rfl) ?_; dsimp only)); refine bx 4 #[.int .i64 0, .int .i64 0] 54 ?_; intro gb153 hg w19 hbox hb; have BK153 := As.mk (hbox); have GW153 := As.mk ((by rw [hg]; exact (bZ zz) : w.heap.size ≤ gb153)); have GE153 := GW153; replace HB := As.mk (bS zz hb); clear hb hbox hg; have hcz20_0 : w19.cell? ⟨gb153, 0, none⟩ = some (.int .i64 0) := (kC BK153.out 0).trans rfl; have hcz20_1 : w19.cell? ⟨gb153, 1, none⟩ = some (.int .i64 0) := (kC BK153.out 1).trans rfl; have hfz20_0 := kF BK153.out 0; have hfz20_1 := kF BK153.out 1))
            repeat (go_quiet (first | ((with_reducible refine gD (N := 4) rfl ?_); (try (refine gate_guard (by rfl) ?_; dsimp only)); refine bx 4 #[.int .i64 0, .int .i64 0] 54 ?_; intro gb153 hg w19 hbox hb; have BK153 := As.mk (hbox); have GW153 := As.mk ((by rw [hg]; exact (bZ zz) : w.heap.size ≤ gb153)); have GE153 := GW153; replace HB := As.mk (bS zz hb); clear hb hbox hg; have hcz20_0 : w19.cell? ⟨gb153, 0, none⟩ = some (.int .i64 0) := (kC BK153.out 0).trans rfl; have hcz20_1 : w19.cell? ⟨gb153, 1, none⟩ = some (.int .i64 0) := (kC BK153.out 1).trans rfl; have hfz20_0 := kF BK153.out 0; have hfz20_1 := kF BK153.out 1)); try go_wp2_with (first | ((with_reducible refine gD (N := 4) rfl ?_); (try (refine gate_guard (by rfl) ?_; dsimp only)); refine bx 4 #[.int .i64 0, .int .i64 0] 54 ?_; intro gb153 hg w19 hbox hb; have BK153 := As.mk (hbox); have GW153 := As.mk ((by rw [hg]; exact (bZ zz) : w.heap.size ≤ gb153)); have GE153 := GW153; replace HB := As.mk (bS zz hb); clear hb hbox hg; have hcz20_0 : w19.cell? ⟨gb153, 0, none⟩ = some (.int .i64 0) := (kC BK153.out 0).trans rfl; have hcz20_1 : w19.cell? ⟨gb153, 1, none⟩ = some (.int .i64 0) := (kC BK153.out 1).trans rfl; have hfz20_0 := kF BK153.out 0; have hfz20_1 := kF BK153.out 1)))
            go_roundg k2
            case measure => have := HJ1.out; have := HK2.out; omega
            case rel => exact ⟨(wrap64 (x3_2 + 1)), (by first | rfl | (simp; done) | (simp [*]; done)), H', ⟨by have := HJ1.out; have := HK2.out; omega⟩, ⟨by repeat (first | (with_reducible first | exact HB.out | apply bA | apply bN | apply bD | refine bT ?_ GE153.out) | exact HB.out)⟩⟩
       ·rw [if_neg c6] at H
        exact absurd H (by simp)
      ·rw [if_neg c5] at H
       have c5b0 : decide (x3_2 < (l0.length : Int)) = false := decide_eq_false c5
       clear c5
       have H' := As.mk H
       clear H
       go_wp2
       repeat (go_quiet (fail); try go_wp2)
       go_loopg [6] k2 (fun kq v6 w' => ∃ (x6_3 : Int), v6 = .int .i64 x6_3 ∧ As (manorboyref08_Error.l1 kq l0 1 x6_3 = some r) ∧ As (kq ≤ k2) ∧ As (Below w.heap.size w w'))
       case atStart => exact ⟨(0), (by first | rfl | (simp; done) | (simp [*]; done)), H', ⟨Nat.le_refl _⟩, ⟨zz⟩⟩
       case round =>
        clear H'
        try clear c1
        try clear p1
        try clear q1
        try clear hx1
        try clear p2
        try clear c3
        try clear c3b0
        try clear c3b1
        try clear c4
        try clear c5
        try clear c5b0
        try clear c6
        try clear c6b0
        try clear p6
        try clear c7
        try clear c7b0
        try clear c10
        try clear c10b0
        try clear c13
        try clear c13b0
        try clear p15
        try clear q15
        try clear hx15
        try clear c16
        try clear c16b0
        try clear hcz12_0
        try clear hcz12_1
        try clear hcz15_0
        try clear hcz15_1
        try clear hcz18_0
        try clear hcz18_1
        try clear hcz20_0
        try clear hcz20_1
        try clear hcz9_0
        try clear hcz9_1
        try clear hfz12_0
        try clear hfz12_1
        try clear hfz15_0
        try clear hfz15_1
        try clear hfz18_0
        try clear hfz18_1
        try clear hfz20_0
        try clear hfz20_1
        try clear hfz9_0
        try clear hfz9_1
        try clear hx152_0
        try clear hx152_1
        try clear p152
        try clear p2
        try clear q152
        obtain ⟨x6_3, rfl, HA, HK3, HB⟩ := hrel
        cases gk with
        | zero => exact absurd HA.out (by simp [manorboyref08_Error.l1])
        | succ k3 =>
         have H := HA.out
         clear HA
         simp only [manorboyref08_Error.l1] at H
         by_cases c21 : x6_3 < (l0.length : Int)
         ·rw [if_pos c21] at H
          have c21b0 : decide (x6_3 < (l0.length : Int)) = true := decide_eq_true c21
          clear c21
          by_cases c22 : 0 ≤ x6_3
          ·rw [if_pos c22] at H
           have c22b0 : decide (0 ≤ x6_3) = true := decide_eq_true c22
           clear c22
           by_cases c23 : ((rd_T54 l0 x6_3).f0) > ((rd_T54 l0 x6_3).f1)
           ·rw [if_pos c23] at H
            have c23b0 : decide (((rd_T54 l0 x6_3).f1) < ((rd_T54 l0 x6_3).f0)) = true := decide_eq_true c23
            clear c23
            obtain rfl := Option.some.inj H
            have p154 : 0 ≤ (x6_3 : Int) := od
            have q154 : x6_3 < (l0.length : Int) := od
            obtain ⟨ad154, e154, hx154_0, hx154_1⟩ := at_T54 HR0.out x6_3 p154 q154
            cases e154
            replace hx154_0 := (HB.out.cell (World.block_lt_of_cell? w _ hx154_0)).trans hx154_0
            replace hx154_1 := (HB.out.cell (World.block_lt_of_cell? w _ hx154_1)).trans hx154_1
            replace p154 := eq_true p154
            replace q154 := eq_true q154
            have p155 : 0 ≤ (x6_3 : Int) := od
            have q155 : x6_3 < (l0.length : Int) := od
            obtain ⟨ad155, e155, hx155_0, hx155_1⟩ := at_T54 HR0.out x6_3 p155 q155
            obtain rfl : ad154 = ad155 := (by injection e155)
            replace hx155_0 := (HB.out.cell (World.block_lt_of_cell? w _ hx155_0)).trans hx155_0
            replace hx155_1 := (HB.out.cell (World.block_lt_of_cell? w _ hx155_1)).trans hx155_1
            replace p155 := eq_true p155
            replace q155 := eq_true q155
            go_wp2
            repeat (go_quiet (fail); try go_wp2)
            go_ret
            exact ⟨by first | rfl | (simp [eN, eS] <;> rfl) | (simp [*, eN, eS] <;> rfl), zz⟩
           ·rw [if_neg c23] at H
            have c23b0 : decide (((rd_T54 l0 x6_3).f1) < ((rd_T54 l0 x6_3).f0)) = false := decide_eq_false c23
            clear c23
            have H' := As.mk H
            clear H
            have p154 : 0 ≤ (x6_3 : Int) := od
            have q154 : x6_3 < (l0.length : Int) := od
            obtain ⟨ad154, e154, hx154_0, hx154_1⟩ := at_T54 HR0.out x6_3 p154 q154
            cases e154
            replace hx154_0 := (HB.out.cell (World.block_lt_of_cell? w _ hx154_0)).trans hx154_0
            replace hx154_1 := (HB.out.cell (World.block_lt_of_cell? w _ hx154_1)).trans hx154_1
            replace p154 := eq_true p154
            replace q154 := eq_true q154
            have p155 : 0 ≤ (x6_3 : Int) := od
            have q155 : x6_3 < (l0.length : Int) := od
            obtain ⟨ad155, e155, hx155_0, hx155_1⟩ := at_T54 HR0.out x6_3 p155 q155
            obtain rfl : ad154 = ad155 := (by injection e155)
            replace hx155_0 := (HB.out.cell (World.block_lt_of_cell? w _ hx155_0)).trans hx155_0
            replace hx155_1 := (HB.out.cell (World.block_lt_of_cell? w _ hx155_1)).trans hx155_1
            replace p155 := eq_true p155
            replace q155 := eq_true q155
            go_wp2
            repeat (go_quiet (fail); try go_wp2)
            go_roundg k3
            case measure => have := HJ1.out; have := HK2.out; have := HK3.out; omega
            case rel => exact ⟨(wrap64 (x6_3 + 1)), (by first | rfl | (simp; done) | (simp [*]; done)), H', ⟨by have := HJ1.out; have := HK2.out; have := HK3.out; omega⟩, ⟨zz⟩⟩
          ·rw [if_neg c22] at H
           exact absurd H (by simp)
         ·rw [if_neg c21] at H
          have c21b0 : decide (x6_3 < (l0.length : Int)) = false := decide_eq_false c21
          clear c21
          have H' := As.mk H
          clear H
          go_wp2
          repeat (go_quiet (fail); try go_wp2)
          go_loopg [5, 7] k3 (fun kq v5 v7 w' => ∃ (x5_4 : Int) (x7_4 : Int), v5 = .int .i64 x5_4 ∧ v7 = .int .i64 x7_4 ∧ As (manorboyref08_Error.l2 kq l0 x5_4 x7_4 = some r) ∧ As (kq ≤ k3) ∧ As (Below w.heap.size w w'))
          case atStart => exact ⟨(1), (0), (by first | rfl | (simp; done) | (simp [*]; done)), (by first | rfl | (simp; done) | (simp [*]; done)), H', ⟨Nat.le_refl _⟩, ⟨zz⟩⟩
          case round =>
           clear H'
           try clear c1
           try clear p1
           try clear q1
           try clear hx1
           try clear c2
           try clear p2
           try clear c3
           try clear c3b0
           try clear c3b1
           try clear c4
           try clear c5
           try clear c5b0
           try clear c6
           try clear c6b0
           try clear p6
           try clear c7
           try clear c7b0
           try clear c10
           try clear c10b0
           try clear c13
           try clear c13b0
           try clear p15
           try clear q15
           try clear hx15
           try clear c16
           try clear c16b0
           try clear c21
           try clear c21b0
           try clear c22
           try clear c22b0
           try clear c23
           try clear c23b0
           try clear hcz12_0
           try clear hcz12_1
           try clear hcz15_0
           try clear hcz15_1
           try clear hcz18_0
           try clear hcz18_1
           try clear hcz20_0
           try clear hcz20_1
           try clear hcz9_0
           try clear hcz9_1
           try clear hfz12_0
           try clear hfz12_1
           try clear hfz15_0
           try clear hfz15_1
           try clear hfz18_0
           try clear hfz18_1
           try clear hfz20_0
           try clear hfz20_1
           try clear hfz9_0
           try clear hfz9_1
           try clear hx152_0
           try clear hx152_1
           try clear hx154_0
           try clear hx154_1
           try clear hx155_0
           try clear hx155_1
           try clear p1
           try clear p15
           try clear p152
           try clear p154
           try clear p155
           try clear p2
           try clear p6
           try clear q1
           try clear q15
           try clear q152
           try clear q154
           try clear q155
           obtain ⟨x5_4, x7_4, rfl, rfl, HA, HK4, HB⟩ := hrel
           cases gk with
           | zero => exact absurd HA.out (by simp [manorboyref08_Error.l2])
           | succ k4 =>
            have H := HA.out
            clear HA
            simp only [manorboyref08_Error.l2] at H
            by_cases c24 : x7_4 < (l0.length : Int)
            ·rw [if_pos c24] at H
             have c24b0 : decide (x7_4 < (l0.length : Int)) = true := decide_eq_true c24
             clear c24
             by_cases c25 : 0 ≤ x7_4
             ·rw [if_pos c25] at H
              have c25b0 : decide (0 ≤ x7_4) = true := decide_eq_true c25
              clear c25
              obtain ⟨ji26, hji26⟩ : ∃ j_ : Int, (mn (wrap64 ((wrap64 (((rd_T54 l0 x7_4).f1) - ((rd_T54 l0 x7_4).f0))) + 1)) 1001) = j_ := ⟨_, rfl⟩
              replace H : (if (wrap64 (x5_4 * (ji26))) > 1000 then (some 3) else (manorboyref08_Error.l2 k4 l0 (wrap64 (x5_4 * (ji26))) (wrap64 (x7_4 + 1)))) = some r := by first | (rw [hji26] at H; exact H) | (simp only [hji26] at H ⊢; exact H)
              have hji26_ : (if 1001 < (wrap64 ((wrap64 (((rd_T54 l0 x7_4).f1) - ((rd_T54 l0 x7_4).f0))) + 1)) then 1001 else (wrap64 ((wrap64 (((rd_T54 l0 x7_4).f1) - ((rd_T54 l0 x7_4).f0))) + 1))) = ji26 := hji26
              by_cases c27 : (wrap64 (x5_4 * (ji26))) > 1000
              ·rw [if_pos c27] at H
               have c27b0 : decide (1000 < (wrap64 (x5_4 * (ji26)))) = true := decide_eq_true c27
               clear c27
               obtain rfl := Option.some.inj H
               have p156 : 0 ≤ (x7_4 : Int) := od
               have q156 : x7_4 < (l0.length : Int) := od
               obtain ⟨ad156, e156, hx156_0, hx156_1⟩ := at_T54 HR0.out x7_4 p156 q156
               cases e156
               replace hx156_0 := (HB.out.cell (World.block_lt_of_cell? w _ hx156_0)).trans hx156_0
               replace hx156_1 := (HB.out.cell (World.block_lt_of_cell? w _ hx156_1)).trans hx156_1
               replace p156 := eq_true p156
               replace q156 := eq_true q156
               have p157 : 0 ≤ (x7_4 : Int) := od
               have q157 : x7_4 < (l0.length : Int) := od
               obtain ⟨ad157, e157, hx157_0, hx157_1⟩ := at_T54 HR0.out x7_4 p157 q157
               obtain rfl : ad156 = ad157 := (by injection e157)
               replace hx157_0 := (HB.out.cell (World.block_lt_of_cell? w _ hx157_0)).trans hx157_0
               replace hx157_1 := (HB.out.cell (World.block_lt_of_cell? w _ hx157_1)).trans hx157_1
               replace p157 := eq_true p157
               replace q157 := eq_true q157
               go_wp2
               repeat (go_quiet (fail); try go_wp2)
               go_ret
               exact ⟨by first | rfl | (simp [eN, eS] <;> rfl) | (simp only [← hji26]; first | rfl | (simp [eN, eS] <;> rfl)) | (simp [*, eN, eS] <;> rfl), zz⟩
              ·rw [if_neg c27] at H
               have c27b0 : decide (1000 < (wrap64 (x5_4 * (ji26)))) = false := decide_eq_false c27
               clear c27
               have H' := As.mk H
               clear H
               have p156 : 0 ≤ (x7_4 : Int) := od
               have q156 : x7_4 < (l0.length : Int) := od
               obtain ⟨ad156, e156, hx156_0, hx156_1⟩ := at_T54 HR0.out x7_4 p156 q156
               cases e156
               replace hx156_0 := (HB.out.cell (World.block_lt_of_cell? w _ hx156_0)).trans hx156_0
               replace hx156_1 := (HB.out.cell (World.block_lt_of_cell? w _ hx156_1)).trans hx156_1
               replace p156 := eq_true p156
               replace q156 := eq_true q156
               have p157 : 0 ≤ (x7_4 : Int) := od
               have q157 : x7_4 < (l0.length : Int) := od
               obtain ⟨ad157, e157, hx157_0, hx157_1⟩ := at_T54 HR0.out x7_4 p157 q157
               obtain rfl : ad156 = ad157 := (by injection e157)
               replace hx157_0 := (HB.out.cell (World.block_lt_of_cell? w _ hx157_0)).trans hx157_0
               replace hx157_1 := (HB.out.cell (World.block_lt_of_cell? w _ hx157_1)).trans hx157_1
               replace p157 := eq_true p157
               replace q157 := eq_true q157
               go_wp2
               repeat (go_quiet (fail); try go_wp2)
               go_roundg k4
               case measure => have := HJ1.out; have := HK2.out; have := HK3.out; have := HK4.out; omega
               case rel => exact ⟨(wrap64 (x5_4 * (ji26))), (wrap64 (x7_4 + 1)), (by first | rfl | (simp; done) | (simp only [← hji26] <;> (first | rfl | simp)) | (simp [*]; done)), (by first | rfl | (simp; done) | (simp [*]; done)), H', ⟨by have := HJ1.out; have := HK2.out; have := HK3.out; have := HK4.out; omega⟩, ⟨zz⟩⟩
             ·rw [if_neg c25] at H
              exact absurd H (by simp)
            ·rw [if_neg c24] at H
             have c24b0 : decide (x7_4 < (l0.length : Int)) = false := decide_eq_false c24
             clear c24
             obtain rfl := Option.some.inj H
             go_wp2
             repeat (go_quiet (fail); try go_wp2)
             go_ret
             exact ⟨by first | rfl | (simp [eN, eS] <;> rfl) | (simp [*, eN, eS] <;> rfl), zz⟩
end Go.Proofs.Q
end
section
namespace Go.Proofs.Q
open RowKit Pw Pl Pm
/-- with rounds enough, the answer is r -/
def Ev {α : Type} (F : Nat → Option α) (r : α) : Prop := ∃ K, ∀ k, K ≤ k → F k = some r
theorem Ev.succ {α : Type} {F G : Nat → Option α} {r : α} (h : Ev G r) (e : ∀ k, F (k + 1) = G k) : Ev F r := by
 obtain ⟨K, h⟩ := h
 refine ⟨K + 1, fun k hk => ?_⟩
 obtain ⟨k, rfl⟩ : ∃ m, k = m + 1 := ⟨k - 1, by omega⟩
 rw [e]; exact h k (by omega)
theorem Ev.const {α : Type} {F : Nat → Option α} {r : α} (e : ∀ k, F k = some r) : Ev F r := ⟨0, fun k _ => e k⟩
theorem Ev.one {α : Type} {F : Nat → Option α} {r : α} (e : ∀ k, F (k + 1) = some r) : Ev F r := Ev.succ (Ev.const (F := fun _ => some r) fun _ => rfl) e
theorem Ev.congr {α : Type} {F G : Nat → Option α} {r : α} (h : Ev G r) (e : ∀ k, F k = G k) : Ev F r := by
 obtain ⟨K, h⟩ := h
 exact ⟨K, fun k hk => (e k).trans (h k hk)⟩
theorem Ev.bind {α β : Type} {A : Nat → Option α} {B : Nat → α → Option β} {t : α} {r : β} (ht : Ev A t) (h : Ev (fun k => B k t) r) : Ev (fun k => (A k).bind (B k)) r := by
 obtain ⟨K, ht⟩ := ht
 obtain ⟨L, h⟩ := h
 refine ⟨max K L, fun k hk => ?_⟩
 show (A k).bind (B k) = some r
 rw [ht k (by omega)]
 exact h k (by omega)
theorem Ev.at {α : Type} {F : Nat → Option α} {r : α} (h : Ev F r) : ∃ k, F k = some r := by
 obtain ⟨K, h⟩ := h
 exact ⟨K, h K (Nat.le_refl _)⟩
theorem wrap64_id {n : Int} (h0 : -9223372036854775808 ≤ n) (h1 : n ≤ 9223372036854775807) : wrap64 n = n := by
 unfold wrap64; omega
theorem rdT_drop {l r : List S54} {d : S54} {j : Nat} (h : l.drop j = d :: r) : rd_T54 l (j : Int) = d := by
 have : l[j]? = some d := by
  have := congrArg (fun x => x[0]?) h
  simpa using this
 simp [rd_T54, List.getD, this]
theorem lt_drop {α : Type} {l r : List α} {d : α} {j : Nat} (h : l.drop j = d :: r) : j < l.length := by
 rcases Nat.lt_or_ge j l.length with h1 | h1
 ·exact h1
 ·rw [List.drop_eq_nil_of_le h1] at h; cases h
theorem drop_next {α : Type} {l r : List α} {d : α} {j : Nat} (h : l.drop j = d :: r) : l.drop (j + 1) = r := by
 have := congrArg List.tail h
 simpa [List.tail_drop] using this
theorem mem_drop {α : Type} {l r : List α} {d : α} {j : Nat} (h : l.drop j = d :: r) : d ∈ l := List.mem_of_mem_drop (i := j) (by rw [h]; simp)
theorem not_lt_nil {α : Type} {l : List α} {j : Nat} (h : l.drop j = []) : ¬ ((j : Int) < (l.length : Int)) := by
 have := List.drop_eq_nil_iff.1 h
 omega
end Go.Proofs.Q
end
