/-
 Texts of the proof, in build order: words that the walks use, contracts of functions, plain facts.
-/
import Derived.Test.YtcjjmhgboibbgaaGreatEa3
import Derived.Test.YtcjjmhgboibbgaaGreatEa4
import Derived.Test.YtcjjmhgboibbgaaGreatEa10
import Derived.Test.YtcjjmhgboibbgaaGreatEa17
import Derived.Test.YtcjjmhgboibbgaaGreatEa18
import Derived.Test.YtcjjmhgboibbgaaGreatEa20
set_option maxHeartbeats 40000000
set_option maxRecDepth 100000
set_option linter.unusedVariables false
set_option linter.unusedSimpArgs false
section
namespace Go.Proofs.Q
open RowKit Pw Pl Pm
attribute [local go_sem] max2_int min2_int max_two min_two max_three min_three max_four min_four   -- for this text's walks alone
def real_whole.f (a0 : Int) (a1 : Bool) : Option (Int × Int) := if a1 = true then (some (a0, 0)) else (some (0, 3))
theorem real_whole.calls (a0 : Int) (a1 : Bool) (r1 : Int) (r2 : Int) (w : World) (h : real_whole.f a0 a1 = some (r1, r2)) :
  Calls Tryz.prog 98 #[.int .i64 a0, .bool a1] w fun e w' => e = .returned (.tuple #[.int .i64 r1, .int .i64 r2]) ∧ Dn w w' := by
 have H : (if a1 = true then (some (a0, 0)) else (some (0, 3))) = some (r1, r2) := h
 clear h
 by_cases c3 : a1 = true
 ·subst c3
  have H1 : (some (a0, 0)) = some (r1, r2) := by rw [if_pos rfl] at H; exact H
  clear H
  have H := H1
  clear H1
  simp only [Option.some.injEq, Prod.mk.injEq] at H
  obtain ⟨rfl, rfl⟩ := H
  go_enter Tryz.func98, Tryz.ntmps98
  go_wp2
  go_ret2
  exact ⟨by first | rfl | (simp; done) | (simp [*]; done), by repeat (first | exact Dn.refl _ | apply Dn.step)⟩
 ·replace c3 := Bool.eq_false_iff.mpr c3
  subst c3
  have H1 : (some (0, 3)) = some (r1, r2) := by rw [if_neg (show ¬ (false = true) by decide)] at H; exact H
  clear H
  have H := H1
  clear H1
  simp only [Option.some.injEq, Prod.mk.injEq] at H
  obtain ⟨rfl, rfl⟩ := H
  go_enter Tryz.func98, Tryz.ntmps98
  go_wp2
  go_ret2
  exact ⟨by first | rfl | (simp; done) | (simp [*]; done), by repeat (first | exact Dn.refl _ | apply Dn.step)⟩
def real_floor.f (a0 : Int) (a1 : Int) : Option (Int × Bool) := if a0 = 0 then (some (0, true)) else (if a1 > 31 then (some (0, false)) else (if a1 ≥ 0 then (if 0 ≤ a1 then (if (shl .i64 a0 a1) ≥ (-2147483647) then (some (shl .i64 a0 a1, decide ((shl .i64 a0 a1) ≤ 2147483647))) else (some (shl .i64 a0 a1, false))) else (none)) else (if a1 > (-60) then (if 0 ≤ (wrap64 (-a1)) then (if (shr .i64 a0 (wrap64 (-a1))) ≥ (-2147483647) then (some (shr .i64 a0 (wrap64 (-a1)), decide ((shr .i64 a0 (wrap64 (-a1))) ≤ 2147483647))) else (some (shr .i64 a0 (wrap64 (-a1)), false))) else (none)) else (if a0 < 0 then (if (-1) ≥ (-2147483647) then (some ((-1), decide ((-1) ≤ 2147483647))) else (some ((-1), false))) else (if 0 ≥ (-2147483647) then (some (0, decide (0 ≤ 2147483647))) else (some (0, false)))))))
theorem real_floor.calls (a0 : Int) (a1 : Int) (r1 : Int) (r2 : Bool) (w : World) (h : real_floor.f a0 a1 = some (r1, r2)) :
  Calls Tryz.prog 99 #[.int .i64 a0, .int .i64 a1] w fun e w' => e = .returned (.tuple #[.int .i64 r1, .bool r2]) ∧ Dn w w' := by
 have H : (if a0 = 0 then (some (0, true)) else (if a1 > 31 then (some (0, false)) else (if a1 ≥ 0 then (if 0 ≤ a1 then (if (shl .i64 a0 a1) ≥ (-2147483647) then (some (shl .i64 a0 a1, decide ((shl .i64 a0 a1) ≤ 2147483647))) else (some (shl .i64 a0 a1, false))) else (none)) else (if a1 > (-60) then (if 0 ≤ (wrap64 (-a1)) then (if (shr .i64 a0 (wrap64 (-a1))) ≥ (-2147483647) then (some (shr .i64 a0 (wrap64 (-a1)), decide ((shr .i64 a0 (wrap64 (-a1))) ≤ 2147483647))) else (some (shr .i64 a0 (wrap64 (-a1)), false))) else (none)) else (if a0 < 0 then (if (-1) ≥ (-2147483647) then (some ((-1), decide ((-1) ≤ 2147483647))) else (some ((-1), false))) else (if 0 ≥ (-2147483647) then (some (0, decide (0 ≤ 2147483647))) else (some (0, false)))))))) = some (r1, r2) := h
 clear h
 by_cases c3 : a0 = 0
 ·rw [if_pos c3] at H
  have c3b0 : (a0 == 0) = true := beq_iff_eq.mpr c3
  have c3b1 : (a0 != 0) = false := bne_eq_false_iff_eq.mpr c3
  clear c3
  simp only [Option.some.injEq, Prod.mk.injEq] at H
  obtain ⟨rfl, rfl⟩ := H
  go_enter Tryz.func99, Tryz.ntmps99
  go_wp2
  go_ret2
  exact ⟨by first | rfl | (simp; done) | (simp [*]; done), by repeat (first | exact Dn.refl _ | apply Dn.step)⟩
 ·rw [if_neg c3] at H
  have c3b0 : (a0 == 0) = false := beq_eq_false_iff_ne.mpr c3
  have c3b1 : (a0 != 0) = true := bne_iff_ne.mpr c3
  by_cases c4 : a1 > 31
  ·rw [if_pos c4] at H
   have c4b0 : decide (31 < a1) = true := decide_eq_true c4
   clear c4
   simp only [Option.some.injEq, Prod.mk.injEq] at H
   obtain ⟨rfl, rfl⟩ := H
   go_enter Tryz.func99, Tryz.ntmps99
   go_wp2
   go_ret2
   exact ⟨by first | rfl | (simp; done) | (simp [*]; done), by repeat (first | exact Dn.refl _ | apply Dn.step)⟩
  ·rw [if_neg c4] at H
   have c4b0 : decide (31 < a1) = false := decide_eq_false c4
   clear c4
   by_cases c5 : a1 ≥ 0
   ·rw [if_pos c5] at H
    have c5b0 : decide (0 ≤ a1) = true := decide_eq_true c5
    clear c5
    by_cases c6 : 0 ≤ a1
    ·rw [if_pos c6] at H
     have c6b0 := eq_true c6
     have c6b1 : decide (0 ≤ a1) = true := decide_eq_true c6
     clear c6
     obtain ⟨ji7, hji7⟩ : ∃ j_ : Int, (shl .i64 a0 a1) = j_ := ⟨_, rfl⟩
     replace H : (if (ji7) ≥ (-2147483647) then (some (ji7, decide ((ji7) ≤ 2147483647))) else (some (ji7, false))) = some (r1, r2) := by first | (rw [hji7] at H; exact H) | (simp only [hji7] at H ⊢; exact H)
     have hji7_ : (IntKind.i64.wrap (a0 * 2 ^ min a1.toNat 64)) = ji7 := hji7
     have hji7z : a1 ≤ 64 → (IntKind.i64.wrap (a0 * 2 ^ a1.toNat)) = ji7 := shl_small hji7
     have hji7y : (wrap64 (a0 * 2 ^ min a1.toNat 64)) = ji7 := (i64_w _).symm.trans hji7_
     have hji7x : a1 ≤ 64 → (wrap64 (a0 * 2 ^ a1.toNat)) = ji7 := fun h_ => (i64_w _).symm.trans (hji7z h_)
     by_cases c8 : (ji7) ≥ (-2147483647)
     ·rw [if_pos c8] at H
      have c8b0 : decide ((-2147483647) ≤ (ji7)) = true := decide_eq_true c8
      clear c8
      simp only [Option.some.injEq, Prod.mk.injEq] at H
      obtain ⟨rfl, rfl⟩ := H
      go_enter Tryz.func99, Tryz.ntmps99
      go_wp2
      go_ret2
      exact ⟨by first | rfl | (simp; done) | (simp only [← hji7] <;> (first | rfl | simp)) | (simp [*]; done), by repeat (first | exact Dn.refl _ | apply Dn.step)⟩
     ·rw [if_neg c8] at H
      have c8b0 : decide ((-2147483647) ≤ (ji7)) = false := decide_eq_false c8
      clear c8
      simp only [Option.some.injEq, Prod.mk.injEq] at H
      obtain ⟨rfl, rfl⟩ := H
      go_enter Tryz.func99, Tryz.ntmps99
      go_wp2
      go_ret2
      exact ⟨by first | rfl | (simp; done) | (simp only [← hji7] <;> (first | rfl | simp)) | (simp [*]; done), by repeat (first | exact Dn.refl _ | apply Dn.step)⟩
    ·rw [if_neg c6] at H
     exact absurd H (by simp)
   ·rw [if_neg c5] at H
    have c5b0 : decide (0 ≤ a1) = false := decide_eq_false c5
    clear c5
    by_cases c9 : a1 > (-60)
    ·rw [if_pos c9] at H
     have c9b0 : decide ((-60) < a1) = true := decide_eq_true c9
     clear c9
     obtain ⟨ji10, hji10⟩ : ∃ j_ : Int, (wrap64 (-a1)) = j_ := ⟨_, rfl⟩
     replace H : (if 0 ≤ (ji10) then (if (shr .i64 a0 (ji10)) ≥ (-2147483647) then (some (shr .i64 a0 (ji10), decide ((shr .i64 a0 (ji10)) ≤ 2147483647))) else (some (shr .i64 a0 (ji10), false))) else (none)) = some (r1, r2) := by first | (rw [hji10] at H; exact H) | (simp only [hji10] at H ⊢; exact H)
     have hji10w : (IntKind.i64.wrap (-a1)) = ji10 := (i64_w _).trans hji10
     by_cases c11 : 0 ≤ (ji10)
     ·rw [if_pos c11] at H
      have c11b0 := eq_true c11
      have c11b1 : decide (0 ≤ (ji10)) = true := decide_eq_true c11
      clear c11
      obtain ⟨ji12, hji12⟩ : ∃ j_ : Int, (shr .i64 a0 (ji10)) = j_ := ⟨_, rfl⟩
      replace H : (if (ji12) ≥ (-2147483647) then (some (ji12, decide ((ji12) ≤ 2147483647))) else (some (ji12, false))) = some (r1, r2) := by first | (rw [hji12] at H; exact H) | (simp only [hji12] at H ⊢; exact H)
      have hji12_ : (a0 / 2 ^ min (ji10).toNat 64) = ji12 := hji12
      have hji12z : (ji10) ≤ 64 → (a0 / 2 ^ (ji10).toNat) = ji12 := shr_small hji12
      by_cases c13 : (ji12) ≥ (-2147483647)
      ·rw [if_pos c13] at H
       have c13b0 : decide ((-2147483647) ≤ (ji12)) = true := decide_eq_true c13
       clear c13
       simp only [Option.some.injEq, Prod.mk.injEq] at H
       obtain ⟨rfl, rfl⟩ := H
       go_enter Tryz.func99, Tryz.ntmps99
       go_wp2
       go_ret2
       exact ⟨by first | rfl | (simp; done) | (simp only [← hji10, ← hji12] <;> (first | rfl | simp)) | (simp [*]; done), by repeat (first | exact Dn.refl _ | apply Dn.step)⟩
      ·rw [if_neg c13] at H
       have c13b0 : decide ((-2147483647) ≤ (ji12)) = false := decide_eq_false c13
       clear c13
       simp only [Option.some.injEq, Prod.mk.injEq] at H
       obtain ⟨rfl, rfl⟩ := H
       go_enter Tryz.func99, Tryz.ntmps99
       go_wp2
       go_ret2
       exact ⟨by first | rfl | (simp; done) | (simp only [← hji10, ← hji12] <;> (first | rfl | simp)) | (simp [*]; done), by repeat (first | exact Dn.refl _ | apply Dn.step)⟩
     ·rw [if_neg c11] at H
      exact absurd H (by simp)
    ·rw [if_neg c9] at H
     have c9b0 : decide ((-60) < a1) = false := decide_eq_false c9
     clear c9
     by_cases c14 : a0 < 0
     ·rw [if_pos c14] at H
      have c14b0 : decide (a0 < 0) = true := decide_eq_true c14
      clear c14
      by_cases c15 : (-1) ≥ (-2147483647)
      ·rw [if_pos c15] at H
       have c15b0 : decide ((-2147483647) ≤ (-1)) = true := decide_eq_true c15
       clear c15
       simp only [Option.some.injEq, Prod.mk.injEq] at H
       obtain ⟨rfl, rfl⟩ := H
       go_enter Tryz.func99, Tryz.ntmps99
       go_wp2
       go_ret2
       exact ⟨by first | rfl | (simp; done) | (simp [*]; done), by repeat (first | exact Dn.refl _ | apply Dn.step)⟩
      ·exact absurd (by decide) c15
     ·rw [if_neg c14] at H
      have c14b0 : decide (a0 < 0) = false := decide_eq_false c14
      clear c14
      by_cases c16 : 0 ≥ (-2147483647)
      ·rw [if_pos c16] at H
       have c16b0 : decide ((-2147483647) ≤ 0) = true := decide_eq_true c16
       clear c16
       simp only [Option.some.injEq, Prod.mk.injEq] at H
       obtain ⟨rfl, rfl⟩ := H
       go_enter Tryz.func99, Tryz.ntmps99
       go_wp2
       go_ret2
       exact ⟨by first | rfl | (simp; done) | (simp [*]; done), by repeat (first | exact Dn.refl _ | apply Dn.step)⟩
      ·exact absurd (by decide) c16
def real_Round.f (a0_0 : Int) (a0_1 : Int) : Option (Int × Int) := (real_Valid.f a0_0 a0_1).bind fun t316 => (if t316 = true then (if a0_1 ≥ 0 then ((real_floor.f a0_0 a0_1).bind fun bt317 => ((real_whole.f bt317.1 bt317.2).bind fun bt319 => (some (bt319.1, bt319.2)))) else (if a0_1 < (-40) then (some (0, 0)) else (if 0 ≤ (wrap64 ((wrap64 (-a0_1)) - 1)) then ((real_floor.f (wrap64 (a0_0 + (shl .i64 1 (wrap64 ((wrap64 (-a0_1)) - 1))))) a0_1).bind fun bt321 => ((real_whole.f bt321.1 bt321.2).bind fun bt323 => (some (bt323.1, bt323.2)))) else (none)))) else (some (0, 1)))
theorem real_Round.calls (a0_0 : Int) (a0_1 : Int) (r1 : Int) (r2 : Int) (w : World) (h : real_Round.f a0_0 a0_1 = some (r1, r2)) :
  Calls Tryz.prog 89 #[.agg #[.int .i64 a0_0, .int .i64 a0_1]] w fun e w' => e = .returned (.tuple #[.int .i64 r1, .int .i64 r2]) ∧ Below w.heap.size w w' := by
 have hu57 := Tryz.underlying36
 have HB := As.mk (Below.refl w.heap.size w)
 have H : ((real_Valid.f a0_0 a0_1).bind fun t316 => (if t316 = true then (if a0_1 ≥ 0 then ((real_floor.f a0_0 a0_1).bind fun bt317 => ((real_whole.f bt317.1 bt317.2).bind fun bt319 => (some (bt319.1, bt319.2)))) else (if a0_1 < (-40) then (some (0, 0)) else (if 0 ≤ (wrap64 ((wrap64 (-a0_1)) - 1)) then ((real_floor.f (wrap64 (a0_0 + (shl .i64 1 (wrap64 ((wrap64 (-a0_1)) - 1))))) a0_1).bind fun bt321 => ((real_whole.f bt321.1 bt321.2).bind fun bt323 => (some (bt323.1, bt323.2)))) else (none)))) else (some (0, 1)))) = some (r1, r2) := h
 clear h
 replace H := Option.bind_eq_some_iff.mp H
 obtain ⟨t316, A20, H⟩ := H
 replace H : (if t316 = true then (if a0_1 ≥ 0 then ((real_floor.f a0_0 a0_1).bind fun bt317 => ((real_whole.f bt317.1 bt317.2).bind fun bt319 => (some (bt319.1, bt319.2)))) else (if a0_1 < (-40) then (some (0, 0)) else (if 0 ≤ (wrap64 ((wrap64 (-a0_1)) - 1)) then ((real_floor.f (wrap64 (a0_0 + (shl .i64 1 (wrap64 ((wrap64 (-a0_1)) - 1))))) a0_1).bind fun bt321 => ((real_whole.f bt321.1 bt321.2).bind fun bt323 => (some (bt323.1, bt323.2)))) else (none)))) else (some (0, 1))) = some (r1, r2) := H
 have A2 := As.mk A20
 clear A20
 by_cases c3 : t316 = true
 ·subst c3
  have H1 : (if a0_1 ≥ 0 then ((real_floor.f a0_0 a0_1).bind fun bt317 => ((real_whole.f bt317.1 bt317.2).bind fun bt319 => (some (bt319.1, bt319.2)))) else (if a0_1 < (-40) then (some (0, 0)) else (if 0 ≤ (wrap64 ((wrap64 (-a0_1)) - 1)) then ((real_floor.f (wrap64 (a0_0 + (shl .i64 1 (wrap64 ((wrap64 (-a0_1)) - 1))))) a0_1).bind fun bt321 => ((real_whole.f bt321.1 bt321.2).bind fun bt323 => (some (bt323.1, bt323.2)))) else (none)))) = some (r1, r2) := by rw [if_pos rfl] at H; exact H
  clear H
  have H := H1
  clear H1
  by_cases c4 : a0_1 ≥ 0
  ·rw [if_pos c4] at H
   have c4b0 : decide (0 ≤ a0_1) = true := decide_eq_true c4
   clear c4
   replace H := Option.bind_eq_some_iff.mp H
   obtain ⟨⟨t317, t318⟩, A50, H⟩ := H
   replace H : ((real_whole.f t317 t318).bind fun bt319 => (some (bt319.1, bt319.2))) = some (r1, r2) := H
   have A5 := As.mk A50
   clear A50
   replace H := Option.bind_eq_some_iff.mp H
   obtain ⟨⟨t319, t320⟩, A60, H⟩ := H
   replace H : (some (t319, t320)) = some (r1, r2) := H
   have A6 := As.mk A60
   clear A60
   simp only [Option.some.injEq, Prod.mk.injEq] at H
   obtain ⟨rfl, rfl⟩ := H
   go_enter Tryz.func89, Tryz.ntmps89
   go_wp2_with (first | ((with_reducible refine gD (N := 1) rfl ?_); refine bx 1 #[.int .i64 a0_0, .int .i64 a0_1] 36 ?_; intro gb315 hg w7 hbox hb; have BK315 := As.mk (hbox); have GW315 := As.mk ((by rw [hg]; exact (bZ zz) : w.heap.size ≤ gb315)); have GE315 := GW315; replace HB := As.mk (bS zz hb); clear hb hbox hg; have hcz8_0 : w7.cell? ⟨gb315, 0, none⟩ = some (.int .i64 a0_0) := (kC BK315.out 0).trans rfl; have hcz8_1 : w7.cell? ⟨gb315, 1, none⟩ = some (.int .i64 a0_1) := (kC BK315.out 1).trans rfl; have hfz8_0 := kF BK315.out 0; have hfz8_1 := kF BK315.out 1) | (go_at_call 75; (with_reducible refine (real_Valid.calls a0_0 a0_1 true _ A2.out).mono ?_); rintro e w9 ⟨rfl, hb⟩; replace BK315 := As.mk (kB (g := gb315) (o := .cells #[.int .i64 a0_0, .int .i64 a0_1] 36 (0, 0)) (by (with_reducible repeat (first | apply kN | apply kD | apply kA)); exact BK315.out) hb); replace HB := As.mk (bS (by repeat (first | (with_reducible first | exact HB.out | apply bA | apply bN | apply bD | refine bT ?_ GE315.out) | exact HB.out)) hb); (try clear hb); have hcz10_0 : w9.cell? ⟨gb315, 0, none⟩ = some (.int .i64 a0_0) := (kC BK315.out 0).trans rfl; have hcz10_1 : w9.cell? ⟨gb315, 1, none⟩ = some (.int .i64 a0_1) := (kC BK315.out 1).trans rfl; have hfz10_0 := kF BK315.out 0; have hfz10_1 := kF BK315.out 1) | (go_at_call 99; (with_reducible refine (real_floor.calls a0_0 a0_1 t317 t318 _ A5.out).mono ?_); rintro e w' ⟨rfl, ⟨nd, rfl⟩⟩; (try first | exact ⟨rfl, _, World.drewN_drewN _ _ _⟩ | exact ⟨rfl, _, Eq.trans (World.drewN_drewN _ _ _) (congrArg (World.drewN _) (Nat.add_assoc _ _ _))⟩)) | (go_at_call 98; (with_reducible refine (real_whole.calls t317 t318 t319 t320 _ A6.out).mono ?_); rintro e w' ⟨rfl, ⟨nd, rfl⟩⟩; (try first | exact ⟨rfl, _, World.drewN_drewN _ _ _⟩ | exact ⟨rfl, _, Eq.trans (World.drewN_drewN _ _ _) (congrArg (World.drewN _) (Nat.add_assoc _ _ _))⟩)))
   repeat (go_quiet (first | ((with_reducible refine gD (N := 1) rfl ?_); refine bx 1 #[.int .i64 a0_0, .int .i64 a0_1] 36 ?_; intro gb315 hg w7 hbox hb; have BK315 := As.mk (hbox); have GW315 := As.mk ((by rw [hg]; exact (bZ zz) : w.heap.size ≤ gb315)); have GE315 := GW315; replace HB := As.mk (bS zz hb); clear hb hbox hg; have hcz8_0 : w7.cell? ⟨gb315, 0, none⟩ = some (.int .i64 a0_0) := (kC BK315.out 0).trans rfl; have hcz8_1 : w7.cell? ⟨gb315, 1, none⟩ = some (.int .i64 a0_1) := (kC BK315.out 1).trans rfl; have hfz8_0 := kF BK315.out 0; have hfz8_1 := kF BK315.out 1) | (go_at_call 75; (with_reducible refine (real_Valid.calls a0_0 a0_1 true _ A2.out).mono ?_); rintro e w9 ⟨rfl, hb⟩; replace BK315 := As.mk (kB (g := gb315) (o := .cells #[.int .i64 a0_0, .int .i64 a0_1] 36 (0, 0)) (by (with_reducible repeat (first | apply kN | apply kD | apply kA)); exact BK315.out) hb); replace HB := As.mk (bS (by repeat (first | (with_reducible first | exact HB.out | apply bA | apply bN | apply bD | refine bT ?_ GE315.out) | exact HB.out)) hb); (try clear hb); have hcz10_0 : w9.cell? ⟨gb315, 0, none⟩ = some (.int .i64 a0_0) := (kC BK315.out 0).trans rfl; have hcz10_1 : w9.cell? ⟨gb315, 1, none⟩ = some (.int .i64 a0_1) := (kC BK315.out 1).trans rfl; have hfz10_0 := kF BK315.out 0; have hfz10_1 := kF BK315.out 1) | (go_at_call 99; (with_reducible refine (real_floor.calls a0_0 a0_1 t317 t318 _ A5.out).mono ?_); rintro e w' ⟨rfl, ⟨nd, rfl⟩⟩; (try first | exact ⟨rfl, _, World.drewN_drewN _ _ _⟩ | exact ⟨rfl, _, Eq.trans (World.drewN_drewN _ _ _) (congrArg (World.drewN _) (Nat.add_assoc _ _ _))⟩)) | (go_at_call 98; (with_reducible refine (real_whole.calls t317 t318 t319 t320 _ A6.out).mono ?_); rintro e w' ⟨rfl, ⟨nd, rfl⟩⟩; (try first | exact ⟨rfl, _, World.drewN_drewN _ _ _⟩ | exact ⟨rfl, _, Eq.trans (World.drewN_drewN _ _ _) (congrArg (World.drewN _) (Nat.add_assoc _ _ _))⟩))); try go_wp2_with (first | ((with_reducible refine gD (N := 1) rfl ?_); refine bx 1 #[.int .i64 a0_0, .int .i64 a0_1] 36 ?_; intro gb315 hg w7 hbox hb; have BK315 := As.mk (hbox); have GW315 := As.mk ((by rw [hg]; exact (bZ zz) : w.heap.size ≤ gb315)); have GE315 := GW315; replace HB := As.mk (bS zz hb); clear hb hbox hg; have hcz8_0 : w7.cell? ⟨gb315, 0, none⟩ = some (.int .i64 a0_0) := (kC BK315.out 0).trans rfl; have hcz8_1 : w7.cell? ⟨gb315, 1, none⟩ = some (.int .i64 a0_1) := (kC BK315.out 1).trans rfl; have hfz8_0 := kF BK315.out 0; have hfz8_1 := kF BK315.out 1) | (go_at_call 75; (with_reducible refine (real_Valid.calls a0_0 a0_1 true _ A2.out).mono ?_); rintro e w9 ⟨rfl, hb⟩; replace BK315 := As.mk (kB (g := gb315) (o := .cells #[.int .i64 a0_0, .int .i64 a0_1] 36 (0, 0)) (by (with_reducible repeat (first | apply kN | apply kD | apply kA)); exact BK315.out) hb); replace HB := As.mk (bS (by repeat (first | (with_reducible first | exact HB.out | apply bA | apply bN | apply bD | refine bT ?_ GE315.out) | exact HB.out)) hb); (try clear hb); have hcz10_0 : w9.cell? ⟨gb315, 0, none⟩ = some (.int .i64 a0_0) := (kC BK315.out 0).trans rfl; have hcz10_1 : w9.cell? ⟨gb315, 1, none⟩ = some (.int .i64 a0_1) := (kC BK315.out 1).trans rfl; have hfz10_0 := kF BK315.out 0; have hfz10_1 := kF BK315.out 1) | (go_at_call 99; (with_reducible refine (real_floor.calls a0_0 a0_1 t317 t318 _ A5.out).mono ?_); rintro e w' ⟨rfl, ⟨nd, rfl⟩⟩; (try first | exact ⟨rfl, _, World.drewN_drewN _ _ _⟩ | exact ⟨rfl, _, Eq.trans (World.drewN_drewN _ _ _) (congrArg (World.drewN _) (Nat.add_assoc _ _ _))⟩)) | (go_at_call 98; (with_reducible refine (real_whole.calls t317 t318 t319 t320 _ A6.out).mono ?_); rintro e w' ⟨rfl, ⟨nd, rfl⟩⟩; (try first | exact ⟨rfl, _, World.drewN_drewN _ _ _⟩ | exact ⟨rfl, _, Eq.trans (World.drewN_drewN _ _ _) (congrArg (World.drewN _) (Nat.add_assoc _ _ _))⟩))))
   go_ret2
   exact ⟨by first | rfl | (simp [eN, eS] <;> rfl) | (simp [*, eN, eS] <;> rfl), by repeat (first | (with_reducible first | exact HB.out | apply bA | apply bN | apply bD | refine bT ?_ GE315.out) | exact HB.out)⟩
  ·rw [if_neg c4] at H
   have c4b0 : decide (0 ≤ a0_1) = false := decide_eq_false c4
   clear c4
   by_cases c11 : a0_1 < (-40)
   ·rw [if_pos c11] at H
    have c11b0 : decide (a0_1 < (-40)) = true := decide_eq_true c11
    clear c11
    simp only [Option.some.injEq, Prod.mk.injEq] at H
    obtain ⟨rfl, rfl⟩ := H
    go_enter Tryz.func89, Tryz.ntmps89
    go_wp2_with (first | ((with_reducible refine gD (N := 1) rfl ?_); refine bx 1 #[.int .i64 a0_0, .int .i64 a0_1] 36 ?_; intro gb315 hg w12 hbox hb; have BK315 := As.mk (hbox); have GW315 := As.mk ((by rw [hg]; exact (bZ zz) : w.heap.size ≤ gb315)); have GE315 := GW315; replace HB := As.mk (bS zz hb); clear hb hbox hg; have hcz13_0 : w12.cell? ⟨gb315, 0, none⟩ = some (.int .i64 a0_0) := (kC BK315.out 0).trans rfl; have hcz13_1 : w12.cell? ⟨gb315, 1, none⟩ = some (.int .i64 a0_1) := (kC BK315.out 1).trans rfl; have hfz13_0 := kF BK315.out 0; have hfz13_1 := kF BK315.out 1) | (go_at_call 75; (with_reducible refine (real_Valid.calls a0_0 a0_1 true _ A2.out).mono ?_); rintro e w14 ⟨rfl, hb⟩; replace BK315 := As.mk (kB (g := gb315) (o := .cells #[.int .i64 a0_0, .int .i64 a0_1] 36 (0, 0)) (by (with_reducible repeat (first | apply kN | apply kD | apply kA)); exact BK315.out) hb); replace HB := As.mk (bS (by repeat (first | (with_reducible first | exact HB.out | apply bA | apply bN | apply bD | refine bT ?_ GE315.out) | exact HB.out)) hb); (try clear hb); have hcz15_0 : w14.cell? ⟨gb315, 0, none⟩ = some (.int .i64 a0_0) := (kC BK315.out 0).trans rfl; have hcz15_1 : w14.cell? ⟨gb315, 1, none⟩ = some (.int .i64 a0_1) := (kC BK315.out 1).trans rfl; have hfz15_0 := kF BK315.out 0; have hfz15_1 := kF BK315.out 1))
    repeat (go_quiet (first | ((with_reducible refine gD (N := 1) rfl ?_); refine bx 1 #[.int .i64 a0_0, .int .i64 a0_1] 36 ?_; intro gb315 hg w12 hbox hb; have BK315 := As.mk (hbox); have GW315 := As.mk ((by rw [hg]; exact (bZ zz) : w.heap.size ≤ gb315)); have GE315 := GW315; replace HB := As.mk (bS zz hb); clear hb hbox hg; have hcz13_0 : w12.cell? ⟨gb315, 0, none⟩ = some (.int .i64 a0_0) := (kC BK315.out 0).trans rfl; have hcz13_1 : w12.cell? ⟨gb315, 1, none⟩ = some (.int .i64 a0_1) := (kC BK315.out 1).trans rfl; have hfz13_0 := kF BK315.out 0; have hfz13_1 := kF BK315.out 1) | (go_at_call 75; (with_reducible refine (real_Valid.calls a0_0 a0_1 true _ A2.out).mono ?_); rintro e w14 ⟨rfl, hb⟩; replace BK315 := As.mk (kB (g := gb315) (o := .cells #[.int .i64 a0_0, .int .i64 a0_1] 36 (0, 0)) (by (with_reducible repeat (first | apply kN | apply kD | apply kA)); exact BK315.out) hb); replace HB := As.mk (bS (by repeat (first | (with_reducible first | exact HB.out | apply bA | apply bN | apply bD | refine bT ?_ GE315.out) | exact HB.out)) hb); (try clear hb); have hcz15_0 : w14.cell? ⟨gb315, 0, none⟩ = some (.int .i64 a0_0) := (kC BK315.out 0).trans rfl; have hcz15_1 : w14.cell? ⟨gb315, 1, none⟩ = some (.int .i64 a0_1) := (kC BK315.out 1).trans rfl; have hfz15_0 := kF BK315.out 0; have hfz15_1 := kF BK315.out 1)); try go_wp2_with (first | ((with_reducible refine gD (N := 1) rfl ?_); refine bx 1 #[.int .i64 a0_0, .int .i64 a0_1] 36 ?_; intro gb315 hg w12 hbox hb; have BK315 := As.mk (hbox); have GW315 := As.mk ((by rw [hg]; exact (bZ zz) : w.heap.size ≤ gb315)); have GE315 := GW315; replace HB := As.mk (bS zz hb); clear hb hbox hg; have hcz13_0 : w12.cell? ⟨gb315, 0, none⟩ = some (.int .i64 a0_0) := (kC BK315.out 0).trans rfl; have hcz13_1 : w12.cell? ⟨gb315, 1, none⟩ = some (.int .i64 a0_1) := (kC BK315.out 1).trans rfl; have hfz13_0 := kF BK315.out 0; have hfz13_1 := kF BK315.out 1) | (go_at_call 75; (with_reducible refine (real_Valid.calls a0_0 a0_1 true _ A2.out).mono ?_); rintro e w14 ⟨rfl, hb⟩; replace BK315 := As.mk (kB (g := gb315) (o := .cells #[.int .i64 a0_0, .int .i64 a0_1] 36 (0, 0)) (by (with_reducible repeat (first | apply kN | apply kD | apply kA)); exact BK315.out) hb); replace HB := As.mk (bS (by repeat (first | (with_reducible first | exact HB.out | apply bA | apply bN | apply bD | refine bT ?_ GE315.out) | exact HB.out)) hb); (try clear hb); have hcz15_0 : w14.cell? ⟨gb315, 0, none⟩ = some (.int .i64 a0_0) := (kC BK315.out 0).trans rfl; have hcz15_1 : w14.cell? ⟨gb315, 1, none⟩ = some (.int .i64 a0_1) := (kC BK315.out 1).trans rfl; have hfz15_0 := kF BK315.out 0; have hfz15_1 := kF BK315.out 1)))
    go_ret2
    exact ⟨by first | rfl | (simp [eN, eS] <;> rfl) | (simp [*, eN, eS] <;> rfl), by repeat (first | (with_reducible first | exact HB.out | apply bA | apply bN | apply bD | refine bT ?_ GE315.out) | exact HB.out)⟩
   ·rw [if_neg c11] at H
    have c11b0 : decide (a0_1 < (-40)) = false := decide_eq_false c11
    clear c11
    obtain ⟨ji16, hji16⟩ : ∃ j_ : Int, (wrap64 ((wrap64 (-a0_1)) - 1)) = j_ := ⟨_, rfl⟩
    replace H : (if 0 ≤ (ji16) then ((real_floor.f (wrap64 (a0_0 + (shl .i64 1 (ji16)))) a0_1).bind fun bt321 => ((real_whole.f bt321.1 bt321.2).bind fun bt323 => (some (bt323.1, bt323.2)))) else (none)) = some (r1, r2) := by first | (rw [hji16] at H; exact H) | (simp only [hji16] at H ⊢; exact H)
    (try rw [hji16] at A2)
    have hji16w : (IntKind.i64.wrap ((wrap64 (-a0_1)) - 1)) = ji16 := (i64_w _).trans hji16
    by_cases c17 : 0 ≤ (ji16)
    ·rw [if_pos c17] at H
     have c17b0 := eq_true c17
     have c17b1 : decide (0 ≤ (ji16)) = true := decide_eq_true c17
     clear c17
     obtain ⟨ji18, hji18⟩ : ∃ j_ : Int, (shl .i64 1 (ji16)) = j_ := ⟨_, rfl⟩
     replace H : ((real_floor.f (wrap64 (a0_0 + (ji18))) a0_1).bind fun bt321 => ((real_whole.f bt321.1 bt321.2).bind fun bt323 => (some (bt323.1, bt323.2)))) = some (r1, r2) := by first | (rw [hji18] at H; exact H) | (simp only [hji18] at H ⊢; exact H)
     (try rw [hji18] at A2)
     have hji18_ : (IntKind.i64.wrap (1 * 2 ^ min (ji16).toNat 64)) = ji18 := hji18
     have hji18z : (ji16) ≤ 64 → (IntKind.i64.wrap (1 * 2 ^ (ji16).toNat)) = ji18 := shl_small hji18
     have hji18u : (IntKind.i64.wrap (2 ^ min (ji16).toNat 64)) = ji18 := by have h_ := hji18_; rw [Int.one_mul] at h_; exact h_
     have hji18v : (ji16) ≤ 64 → (IntKind.i64.wrap (2 ^ (ji16).toNat)) = ji18 := fun hle_ => by have h_ := hji18z hle_; rw [Int.one_mul] at h_; exact h_
     have hji18y : (wrap64 (1 * 2 ^ min (ji16).toNat 64)) = ji18 := (i64_w _).symm.trans hji18_
     have hji18x : (ji16) ≤ 64 → (wrap64 (1 * 2 ^ (ji16).toNat)) = ji18 := fun h_ => (i64_w _).symm.trans (hji18z h_)
     replace H := Option.bind_eq_some_iff.mp H
     obtain ⟨⟨t321, t322⟩, A190, H⟩ := H
     replace H : ((real_whole.f t321 t322).bind fun bt323 => (some (bt323.1, bt323.2))) = some (r1, r2) := H
     have A19 := As.mk A190
     clear A190
     replace H := Option.bind_eq_some_iff.mp H
     obtain ⟨⟨t323, t324⟩, A200, H⟩ := H
     replace H : (some (t323, t324)) = some (r1, r2) := H
     have A20 := As.mk A200
     clear A200
     simp only [Option.some.injEq, Prod.mk.injEq] at H
     obtain ⟨rfl, rfl⟩ := H
     go_enter Tryz.func89, Tryz.ntmps89
     go_wp2_with (first | ((with_reducible refine gD (N := 1) rfl ?_); refine bx 1 #[.int .i64 a0_0, .int .i64 a0_1] 36 ?_; intro gb315 hg w21 hbox hb; have BK315 := As.mk (hbox); have GW315 := As.mk ((by rw [hg]; exact (bZ zz) : w.heap.size ≤ gb315)); have GE315 := GW315; replace HB := As.mk (bS zz hb); clear hb hbox hg; have hcz22_0 : w21.cell? ⟨gb315, 0, none⟩ = some (.int .i64 a0_0) := (kC BK315.out 0).trans rfl; have hcz22_1 : w21.cell? ⟨gb315, 1, none⟩ = some (.int .i64 a0_1) := (kC BK315.out 1).trans rfl; have hfz22_0 := kF BK315.out 0; have hfz22_1 := kF BK315.out 1) | (go_at_call 75; (with_reducible refine (real_Valid.calls a0_0 a0_1 true _ A2.out).mono ?_); rintro e w23 ⟨rfl, hb⟩; replace BK315 := As.mk (kB (g := gb315) (o := .cells #[.int .i64 a0_0, .int .i64 a0_1] 36 (0, 0)) (by (with_reducible repeat (first | apply kN | apply kD | apply kA)); exact BK315.out) hb); replace HB := As.mk (bS (by repeat (first | (with_reducible first | exact HB.out | apply bA | apply bN | apply bD | refine bT ?_ GE315.out) | exact HB.out)) hb); (try clear hb); have hcz24_0 : w23.cell? ⟨gb315, 0, none⟩ = some (.int .i64 a0_0) := (kC BK315.out 0).trans rfl; have hcz24_1 : w23.cell? ⟨gb315, 1, none⟩ = some (.int .i64 a0_1) := (kC BK315.out 1).trans rfl; have hfz24_0 := kF BK315.out 0; have hfz24_1 := kF BK315.out 1) | (go_at_call 99; (with_reducible refine (real_floor.calls (wrap64 (a0_0 + (ji18))) a0_1 t321 t322 _ A19.out).mono ?_); rintro e w' ⟨rfl, ⟨nd, rfl⟩⟩; (try first | exact ⟨rfl, _, World.drewN_drewN _ _ _⟩ | exact ⟨rfl, _, Eq.trans (World.drewN_drewN _ _ _) (congrArg (World.drewN _) (Nat.add_assoc _ _ _))⟩)) | (go_at_call 98; (with_reducible refine (real_whole.calls t321 t322 t323 t324 _ A20.out).mono ?_); rintro e w' ⟨rfl, ⟨nd, rfl⟩⟩; (try first | exact ⟨rfl, _, World.drewN_drewN _ _ _⟩ | exact ⟨rfl, _, Eq.trans (World.drewN_drewN _ _ _) (congrArg (World.drewN _) (Nat.add_assoc _ _ _))⟩)))
     repeat (go_quiet (first | ((with_reducible refine gD (N := 1) rfl ?_); refine bx 1 #[.int .i64 a0_0, .int .i64 a0_1] 36 ?_; intro gb315 hg w21 hbox hb; have BK315 := As.mk (hbox); have GW315 := As.mk ((by rw [hg]; exact (bZ zz) : w.heap.size ≤ gb315)); have GE315 := GW315; replace HB := As.mk (bS zz hb); clear hb hbox hg; have hcz22_0 : w21.cell? ⟨gb315, 0, none⟩ = some (.int .i64 a0_0) := (kC BK315.out 0).trans rfl; have hcz22_1 : w21.cell? ⟨gb315, 1, none⟩ = some (.int .i64 a0_1) := (kC BK315.out 1).trans rfl; have hfz22_0 := kF BK315.out 0; have hfz22_1 := kF BK315.out 1) | (go_at_call 75; (with_reducible refine (real_Valid.calls a0_0 a0_1 true _ A2.out).mono ?_); rintro e w23 ⟨rfl, hb⟩; replace BK315 := As.mk (kB (g := gb315) (o := .cells #[.int .i64 a0_0, .int .i64 a0_1] 36 (0, 0)) (by (with_reducible repeat (first | apply kN | apply kD | apply kA)); exact BK315.out) hb); replace HB := As.mk (bS (by repeat (first | (with_reducible first | exact HB.out | apply bA | apply bN | apply bD | refine bT ?_ GE315.out) | exact HB.out)) hb); (try clear hb); have hcz24_0 : w23.cell? ⟨gb315, 0, none⟩ = some (.int .i64 a0_0) := (kC BK315.out 0).trans rfl; have hcz24_1 : w23.cell? ⟨gb315, 1, none⟩ = some (.int .i64 a0_1) := (kC BK315.out 1).trans rfl; have hfz24_0 := kF BK315.out 0; have hfz24_1 := kF BK315.out 1) | (go_at_call 99; (with_reducible refine (real_floor.calls (wrap64 (a0_0 + (ji18))) a0_1 t321 t322 _ A19.out).mono ?_); rintro e w' ⟨rfl, ⟨nd, rfl⟩⟩; (try first | exact ⟨rfl, _, World.drewN_drewN _ _ _⟩ | exact ⟨rfl, _, Eq.trans (World.drewN_drewN _ _ _) (congrArg (World.drewN _) (Nat.add_assoc _ _ _))⟩)) | (go_at_call 98; (with_reducible refine (real_whole.calls t321 t322 t323 t324 _ A20.out).mono ?_); rintro e w' ⟨rfl, ⟨nd, rfl⟩⟩; (try first | exact ⟨rfl, _, World.drewN_drewN _ _ _⟩ | exact ⟨rfl, _, Eq.trans (World.drewN_drewN _ _ _) (congrArg (World.drewN _) (Nat.add_assoc _ _ _))⟩))); try go_wp2_with (first | ((with_reducible refine gD (N := 1) rfl ?_); refine bx 1 #[.int .i64 a0_0, .int .i64 a0_1] 36 ?_; intro gb315 hg w21 hbox hb; have BK315 := As.mk (hbox); have GW315 := As.mk ((by rw [hg]; exact (bZ zz) : w.heap.size ≤ gb315)); have GE315 := GW315; replace HB := As.mk (bS zz hb); clear hb hbox hg; have hcz22_0 : w21.cell? ⟨gb315, 0, none⟩ = some (.int .i64 a0_0) := (kC BK315.out 0).trans rfl; have hcz22_1 : w21.cell? ⟨gb315, 1, none⟩ = some (.int .i64 a0_1) := (kC BK315.out 1).trans rfl; have hfz22_0 := kF BK315.out 0; have hfz22_1 := kF BK315.out 1) | (go_at_call 75; (with_reducible refine (real_Valid.calls a0_0 a0_1 true _ A2.out).mono ?_); rintro e w23 ⟨rfl, hb⟩; replace BK315 := As.mk (kB (g := gb315) (o := .cells #[.int .i64 a0_0, .int .i64 a0_1] 36 (0, 0)) (by (with_reducible repeat (first | apply kN | apply kD | apply kA)); exact BK315.out) hb); replace HB := As.mk (bS (by repeat (first | (with_reducible first | exact HB.out | apply bA | apply bN | apply bD | refine bT ?_ GE315.out) | exact HB.out)) hb); (try clear hb); have hcz24_0 : w23.cell? ⟨gb315, 0, none⟩ = some (.int .i64 a0_0) := (kC BK315.out 0).trans rfl; have hcz24_1 : w23.cell? ⟨gb315, 1, none⟩ = some (.int .i64 a0_1) := (kC BK315.out 1).trans rfl; have hfz24_0 := kF BK315.out 0; have hfz24_1 := kF BK315.out 1) | (go_at_call 99; (with_reducible refine (real_floor.calls (wrap64 (a0_0 + (ji18))) a0_1 t321 t322 _ A19.out).mono ?_); rintro e w' ⟨rfl, ⟨nd, rfl⟩⟩; (try first | exact ⟨rfl, _, World.drewN_drewN _ _ _⟩ | exact ⟨rfl, _, Eq.trans (World.drewN_drewN _ _ _) (congrArg (World.drewN _) (Nat.add_assoc _ _ _))⟩)) | (go_at_call 98; (with_reducible refine (real_whole.calls t321 t322 t323 t324 _ A20.out).mono ?_); rintro e w' ⟨rfl, ⟨nd, rfl⟩⟩; (try first | exact ⟨rfl, _, World.drewN_drewN _ _ _⟩ | exact ⟨rfl, _, Eq.trans (World.drewN_drewN _ _ _) (congrArg (World.drewN _) (Nat.add_assoc _ _ _))⟩))))
     go_ret2
     exact ⟨by first | rfl | (simp [eN, eS] <;> rfl) | (simp only [← hji16, ← hji18]; first | rfl | (simp [eN, eS] <;> rfl)) | (simp [*, eN, eS] <;> rfl), by repeat (first | (with_reducible first | exact HB.out | apply bA | apply bN | apply bD | refine bT ?_ GE315.out) | exact HB.out)⟩
    ·rw [if_neg c17] at H
     exact absurd H (by simp)
 ·replace c3 := Bool.eq_false_iff.mpr c3
  subst c3
  have H1 : (some (0, 1)) = some (r1, r2) := by rw [if_neg (show ¬ (false = true) by decide)] at H; exact H
  clear H
  have H := H1
  clear H1
  simp only [Option.some.injEq, Prod.mk.injEq] at H
  obtain ⟨rfl, rfl⟩ := H
  go_enter Tryz.func89, Tryz.ntmps89
  go_wp2_with (first | ((with_reducible refine gD (N := 1) rfl ?_); refine bx 1 #[.int .i64 a0_0, .int .i64 a0_1] 36 ?_; intro gb315 hg w25 hbox hb; have BK315 := As.mk (hbox); have GW315 := As.mk ((by rw [hg]; exact (bZ zz) : w.heap.size ≤ gb315)); have GE315 := GW315; replace HB := As.mk (bS zz hb); clear hb hbox hg; have hcz26_0 : w25.cell? ⟨gb315, 0, none⟩ = some (.int .i64 a0_0) := (kC BK315.out 0).trans rfl; have hcz26_1 : w25.cell? ⟨gb315, 1, none⟩ = some (.int .i64 a0_1) := (kC BK315.out 1).trans rfl; have hfz26_0 := kF BK315.out 0; have hfz26_1 := kF BK315.out 1) | (go_at_call 75; (with_reducible refine (real_Valid.calls a0_0 a0_1 false _ A2.out).mono ?_); rintro e w27 ⟨rfl, hb⟩; replace BK315 := As.mk (kB (g := gb315) (o := .cells #[.int .i64 a0_0, .int .i64 a0_1] 36 (0, 0)) (by (with_reducible repeat (first | apply kN | apply kD | apply kA)); exact BK315.out) hb); replace HB := As.mk (bS (by repeat (first | (with_reducible first | exact HB.out | apply bA | apply bN | apply bD | refine bT ?_ GE315.out) | exact HB.out)) hb); (try clear hb)))
  repeat (go_quiet (first | ((with_reducible refine gD (N := 1) rfl ?_); refine bx 1 #[.int .i64 a0_0, .int .i64 a0_1] 36 ?_; intro gb315 hg w25 hbox hb; have BK315 := As.mk (hbox); have GW315 := As.mk ((by rw [hg]; exact (bZ zz) : w.heap.size ≤ gb315)); have GE315 := GW315; replace HB := As.mk (bS zz hb); clear hb hbox hg; have hcz26_0 : w25.cell? ⟨gb315, 0, none⟩ = some (.int .i64 a0_0) := (kC BK315.out 0).trans rfl; have hcz26_1 : w25.cell? ⟨gb315, 1, none⟩ = some (.int .i64 a0_1) := (kC BK315.out 1).trans rfl; have hfz26_0 := kF BK315.out 0; have hfz26_1 := kF BK315.out 1) | (go_at_call 75; (with_reducible refine (real_Valid.calls a0_0 a0_1 false _ A2.out).mono ?_); rintro e w27 ⟨rfl, hb⟩; replace BK315 := As.mk (kB (g := gb315) (o := .cells #[.int .i64 a0_0, .int .i64 a0_1] 36 (0, 0)) (by (with_reducible repeat (first | apply kN | apply kD | apply kA)); exact BK315.out) hb); replace HB := As.mk (bS (by repeat (first | (with_reducible first | exact HB.out | apply bA | apply bN | apply bD | refine bT ?_ GE315.out) | exact HB.out)) hb); (try clear hb))); try go_wp2_with (first | ((with_reducible refine gD (N := 1) rfl ?_); refine bx 1 #[.int .i64 a0_0, .int .i64 a0_1] 36 ?_; intro gb315 hg w25 hbox hb; have BK315 := As.mk (hbox); have GW315 := As.mk ((by rw [hg]; exact (bZ zz) : w.heap.size ≤ gb315)); have GE315 := GW315; replace HB := As.mk (bS zz hb); clear hb hbox hg; have hcz26_0 : w25.cell? ⟨gb315, 0, none⟩ = some (.int .i64 a0_0) := (kC BK315.out 0).trans rfl; have hcz26_1 : w25.cell? ⟨gb315, 1, none⟩ = some (.int .i64 a0_1) := (kC BK315.out 1).trans rfl; have hfz26_0 := kF BK315.out 0; have hfz26_1 := kF BK315.out 1) | (go_at_call 75; (with_reducible refine (real_Valid.calls a0_0 a0_1 false _ A2.out).mono ?_); rintro e w27 ⟨rfl, hb⟩; replace BK315 := As.mk (kB (g := gb315) (o := .cells #[.int .i64 a0_0, .int .i64 a0_1] 36 (0, 0)) (by (with_reducible repeat (first | apply kN | apply kD | apply kA)); exact BK315.out) hb); replace HB := As.mk (bS (by repeat (first | (with_reducible first | exact HB.out | apply bA | apply bN | apply bD | refine bT ?_ GE315.out) | exact HB.out)) hb); (try clear hb))))
  go_ret2
  exact ⟨by first | rfl | (simp [eN, eS] <;> rfl) | (simp [*, eN, eS] <;> rfl), by repeat (first | (with_reducible first | exact HB.out | apply bA | apply bN | apply bD | refine bT ?_ GE315.out) | exact HB.out)⟩
end Go.Proofs.Q
end
section
namespace Go.Proofs.Q
open RowKit Shelf Rf Pw Pl Pm
/-- a failure that is raised -/
def Fails (x : Int) (w : World) (e : Ending) (w' : World) : Prop := e = .panicked [{ v := .iface 118 (.agg #[.int .i64 x]), recovered := false }] ∧ Below w.heap.size w w'
def Gives (x : S38) (w : World) (e : Ending) (w' : World) : Prop := e = .returned (v59 x) ∧ Below w.heap.size w w'
theorem need_ok (n : Int) (w : World) : Calls Tryz.prog 88 #[.int .i64 n, .int .i64 0] w fun e w' => e = .returned (.int .i64 n) ∧ w' = w := by
 go_enter Tryz.func88, Tryz.ntmps88
 go_wp2
 go_ret
 exact ⟨rfl, rfl⟩
theorem need_bad (n v : Int) (hv : (v != 0) = true) (w : World) : Calls Tryz.prog 88 #[.int .i64 n, .int .i64 v] w fun e w' => e = .panicked [{ v := .iface 118 (.agg #[.int .i64 v]), recovered := false }] ∧ w' = w := by
 go_enter Tryz.func88, Tryz.ntmps88
 go_wp2
 exact ⟨rfl, rfl, rfl⟩
theorem newB (W : World) (a b : Obj) : ((W.alloc a).alloc b).heap[W.heap.size + 1]? = some b := by
 have := heap_alloc_new (W.alloc a) b
 rwa [World.size_alloc] at this
theorem conv_type (k a b c d : Int) (f : Bool) (h : k = 3 ∧ (a = 1 ∨ a = 2) ∨ (k = 1 ∨ k = 2) ∧ a = 3) (w : World) : Calls Tryz.prog 66 #[.int .i64 k, .agg #[.int .i64 a, .int .i64 b, .int .i64 c, .int .i64 d, .bool f]] w (Fails 11 w) := by
 rcases h with ⟨rfl, rfl | rfl⟩ | ⟨rfl | rfl, rfl⟩
 all_goals
  go_enter Tryz.func66, Tryz.ntmps66
  go_wp2_with (go_at_call 86; refine (fail_yes _ _).mono ?_; rintro e w' ⟨rfl, rfl⟩)
  exact ⟨rfl, rfl, bA (bA (Below.refl _ _) _) _⟩
theorem conv_same (a b c d : Int) (f : Bool) (w : World) : Calls Tryz.prog 66 #[.int .i64 a, .agg #[.int .i64 a, .int .i64 b, .int .i64 c, .int .i64 d, .bool f]] w (Gives ⟨a, b, ⟨c, d⟩, f⟩ w) := by
 have h : ((a == 3) != (a == 3)) = false := by simp
 go_enter Tryz.func66, Tryz.ntmps66
 go_wp2_with (go_at_call 86; refine (fail_no _ _).mono ?_; rintro e w' ⟨rfl, rfl⟩)
 refine bodyPost_ret (v := .agg #[.int .i64 a, .int .i64 b, .int .i64 c, .int .i64 d, .bool f]) ?_ rfl ⟨rfl, ?_⟩
 ·simp [results, Tryz.results66, go_sem]
 ·exact bA (bA (Below.refl _ _) _) _
theorem conv_real (b c d : Int) (f : Bool) (K : Nat) (r1 r2 : Int) (h : real_FromInt.f K b = some (r1, r2)) (w : World) : Calls Tryz.prog 66 #[.int .i64 2, .agg #[.int .i64 1, .int .i64 b, .int .i64 c, .int .i64 d, .bool f]] w (Gives ⟨2, 0, ⟨r1, r2⟩, false⟩ w) := by
 have hr : value_realOf.f K 1 b c d f = some (r1, r2) := by simp [value_realOf.f, h]
 have HR := Lib.hid hr
 clear hr h
 go_enter Tryz.func66, Tryz.ntmps66
 go_wp2_with (first
  | (go_at_call 86; refine (fail_no _ _).mono ?_; rintro e w' ⟨rfl, rfl⟩)
  | (go_at_call 87; refine (value_realOf.calls K 1 b c d f r1 r2 _ HR.out).mono ?_; rintro e w2 ⟨rfl, hb⟩; (have r0 := kB (newB _ _ _) hb); (have HB := Lib.hid (bS (bA (bA (Below.refl w.heap.size w) _) _) hb)); clear hb)
  | (go_at_call 74; refine (value_ofReal.calls r1 r2 2 0 r1 r2 false _ rfl).mono ?_; rintro e w3 ⟨rfl, hb⟩; (replace r0 := kB r0 hb); (replace HB := Lib.hid (bS HB.out hb)); (have k0 := kC r0 0); (have k1 := kC r0 1); (have k2 := kC r0 2); (have k3 := kC r0 3); (have k4 := kC r0 4); (have f0 := kF r0 0); (have f1 := kF r0 1); (have f2 := kF r0 2); (have f3 := kF r0 3); (have f4 := kF r0 4); clear hb r0))
 have hz : w.heap.size ≤ w.heap.size + 1 := Nat.le_succ _
 refine bodyPost_ret (v := .agg #[.int .i64 2, .int .i64 0, .int .i64 r1, .int .i64 r2, .bool false]) ?_ rfl ⟨rfl, bT (bT (bT (bT (bT HB.out hz) hz) hz) hz) hz⟩
 simp [results, Tryz.results66, go_sem, k0, k1, k2, k3, k4]
theorem conv_int_ok (b c d : Int) (f : Bool) (n : Int) (h : real_Round.f c d = some (n, 0)) (w : World) : Calls Tryz.prog 66 #[.int .i64 1, .agg #[.int .i64 2, .int .i64 b, .int .i64 c, .int .i64 d, .bool f]] w (Gives ⟨1, n, z36, false⟩ w) := by
 have HR := Lib.hid h
 clear h
 go_enter Tryz.func66, Tryz.ntmps66
 go_wp2_with (first
  | (go_at_call 86; refine (fail_no _ _).mono ?_; rintro e w' ⟨rfl, rfl⟩)
  | (go_at_call 89; refine (real_Round.calls c d n 0 _ HR.out).mono ?_; rintro e w2 ⟨rfl, hb⟩; (have r0 := kB (newB _ _ _) hb); (have HB := Lib.hid (bS (bA (bA (Below.refl w.heap.size w) _) _) hb)); clear hb)
  | (go_at_call 88; refine (need_ok n _).mono ?_; rintro e w' ⟨rfl, rfl⟩)
  | (go_at_call 72; refine (value_ofInt.calls n 1 n 0 0 false _ rfl).mono ?_; rintro e w3 ⟨rfl, hb⟩; (replace r0 := kB r0 hb); (replace HB := Lib.hid (bS HB.out hb)); (have k0 := kC r0 0); (have k1 := kC r0 1); (have k2 := kC r0 2); (have k3 := kC r0 3); (have k4 := kC r0 4); (have f0 := kF r0 0); (have f1 := kF r0 1); (have f2 := kF r0 2); (have f3 := kF r0 3); (have f4 := kF r0 4); clear hb r0))
 have hz : w.heap.size ≤ w.heap.size + 1 := Nat.le_succ _
 refine bodyPost_ret (v := .agg #[.int .i64 1, .int .i64 n, .int .i64 0, .int .i64 0, .bool false]) ?_ rfl ⟨rfl, bT (bT (bT (bT (bT HB.out hz) hz) hz) hz) hz⟩
 simp [results, Tryz.results66, go_sem, k0, k1, k2, k3, k4]
theorem conv_int_bad (b c d : Int) (f : Bool) (n v : Int) (hv : (v != 0) = true) (h : real_Round.f c d = some (n, v)) (w : World) : Calls Tryz.prog 66 #[.int .i64 1, .agg #[.int .i64 2, .int .i64 b, .int .i64 c, .int .i64 d, .bool f]] w (Fails v w) := by
 have HR := Lib.hid h
 have HV := Lib.hid hv
 clear h hv
 go_enter Tryz.func66, Tryz.ntmps66
 go_wp2_with (first
  | (go_at_call 86; refine (fail_no _ _).mono ?_; rintro e w' ⟨rfl, rfl⟩)
  | (go_at_call 89; refine (real_Round.calls c d n v _ HR.out).mono ?_; rintro e w2 ⟨rfl, hb⟩; (have HB := Lib.hid (bS (bA (bA (Below.refl w.heap.size w) _) _) hb)); clear hb)
  | (go_at_call 88; refine (need_bad n v HV.out _).mono ?_; rintro e w' ⟨rfl, rfl⟩))
 exact ⟨rfl, rfl, HB.out⟩
end Go.Proofs.Q
end
section
namespace Go.Proofs.Q
open RowKit Shelf Rf Pw Pl Pm
theorem valid_ok (a b c d : Int) (f : Bool) (g : Nat) (w : World) (hg : w.heap[g]? = some (.cells #[.int .i64 a, .int .i64 b, .int .i64 c, .int .i64 d, .bool f] 38)) (hv : value_Valid.f a b c d f = some true) :
  Calls Tryz.prog 65 #[.slice (some ⟨g, 0, none⟩) 1 1] w fun e w' => e = .returned (.tuple #[]) ∧ Below w.heap.size w w' := by
 have HG := Lib.hid hg
 have HV := Lib.hid hv
 clear hg hv
 go_enter Tryz.func65, Tryz.ntmps65
 go_wp2
 go_loopw [3, 6] (fun v3 v6 wr => ∃ j : Nat, j ≤ 1 ∧ v6 = .int .i64 j ∧ Hid (Below w.heap.size w wr)) (fun _ v6 _ => 1 - (intOf v6).toNat)
 case atStart => exact ⟨0, by omega, rfl, Lib.hid (Below.refl _ _)⟩
 case round =>
  obtain ⟨j, hj, rfl, HB⟩ := hrel
  by_cases h0 : j = 0
  ·subst h0
   have hg := kB HG.out HB.out
   have x0 : wr.cell? ⟨g, 0, none⟩ = some (.int .i64 a) := by rw [kC hg 0]; rfl
   have x1 : wr.cell? ⟨g, 1, none⟩ = some (.int .i64 b) := by rw [kC hg 1]; rfl
   have x2 : wr.cell? ⟨g, 2, none⟩ = some (.int .i64 c) := by rw [kC hg 2]; rfl
   have x3 : wr.cell? ⟨g, 3, none⟩ = some (.int .i64 d) := by rw [kC hg 3]; rfl
   have x4 : wr.cell? ⟨g, 4, none⟩ = some (.bool f) := by rw [kC hg 4]; rfl
   have xl := blk_lt hg
   clear hg
   go_wp2_with (first
    | (go_at_call 49; refine (value_Valid.calls a b c d f true _ HV.out).mono ?_; rintro e w2 ⟨rfl, hb⟩; (have HB2 := Lib.hid (bS (bA HB.out _) hb)); clear hb)
    | (go_at_call 86; refine (fail_no _ _).mono ?_; rintro e w' ⟨rfl, rfl⟩))
   go_roundw
   case rel => exact ⟨1, by omega, by first | rfl | go_num, HB2⟩
   case measure => simp [intOf]
  ·have h1 : j = 1 := by omega
   subst h1
   go_wp2
   exact ⟨rfl, _, results_none rfl _ _ _, rfl, HB.out⟩
end Go.Proofs.Q
end
section
namespace Go.Proofs.Q
open RowKit Shelf Rf Pw Pl Pm
def Conv (y : S38) (v : Int) (w : World) (e : Ending) (w' : World) : Prop := e = .returned (.tuple #[v59 y, .int .i64 v]) ∧ Below w.heap.size w w'
theorem newC (W : World) (a b c : Obj) : (((W.alloc a).alloc b).alloc c).heap[W.heap.size + 1]? = some b := kA (newB W a b) c
theorem newD (W : World) (a b c : Obj) : (((W.alloc a).alloc b).alloc c).heap[W.heap.size + 1 + 1]? = some c := by
 have := heap_alloc_new ((W.alloc a).alloc b) c
 rwa [World.size_alloc, World.size_alloc] at this
theorem newE (W : World) (a b c d : Obj) : ((((W.alloc a).alloc b).alloc c).alloc d).heap[W.heap.size + 1 + 1 + 1]? = some d := by
 have := heap_alloc_new (((W.alloc a).alloc b).alloc c) d
 rwa [World.size_alloc, World.size_alloc, World.size_alloc] at this
theorem below_step2 {w w1 w2 : World} (h : Below w.heap.size w w1) (k : Kb (fun i => i = w.heap.size + 1 ∨ i = w.heap.size + 1 + 1) w1 w2) : Below w.heap.size w w2 :=
 ⟨k.os.trans h.os, k.tape.trans h.tape, k.output.trans h.output, Nat.le_trans h.size k.size, fun i hi => (k.block i (Nat.lt_of_lt_of_le hi h.size) (by omega)).trans (h.block i hi)⟩
theorem convert_ok (k a b c d : Int) (f : Bool) (y : S38) (hk : k = 1 ∨ k = 2 ∨ k = 3) (hv : value_Valid.f a b c d f = some true) (hc : ∀ W, Calls Tryz.prog 66 #[.int .i64 k, .agg #[.int .i64 a, .int .i64 b, .int .i64 c, .int .i64 d, .bool f]] W (Gives y W)) (w : World) :
  Calls Tryz.prog 37 #[.int .i64 k, .agg #[.int .i64 a, .int .i64 b, .int .i64 c, .int .i64 d, .bool f]] w (Conv y 0 w) := by
 have HC := Lib.hid hc
 have HV := Lib.hid hv
 have HK := Lib.hid hk
 clear hc hv hk
 go_enter_defers Tryz.func37, Tryz.ntmps37
 go_wp2_with (first
  | (go_at_call 64; refine (aType_calls _ HK.out _).mono ?_; rintro e w' ⟨rfl, rfl⟩)
  | (go_at_call 65; refine (valid_ok a b c d f (w.heap.size + 1 + 1 + 1) _ (newE w _ _ _ _) HV.out).mono ?_; rintro e w2 ⟨rfl, hb⟩; (have hb0 := bS (bA (Below.refl _ _) _) hb); (have b0 := kB (kA (kA (heap_alloc_new w _) _) _) hb0); (have b1 := kB (newC w _ _ _) hb0); (have b2 := kB (newD w _ _ _) hb0); (have HB := Lib.hid (bS (bA (bA (bA (Below.refl w.heap.size w) _) _) _) hb0)); (have x0 := kC b0 0); (have x1 := kC b0 1); (have x2 := kC b0 2); (have x3 := kC b0 3); (have x4 := kC b0 4); (have xl := blk_lt b0); clear hb hb0)
  | (go_at_call 66; refine (HC.out _).mono ?_; rintro e w3 ⟨rfl, hb⟩; dsimp only [v59]; (replace b1 := kB b1 hb); (replace b2 := kB b2 hb); (replace HB := Lib.hid (bS HB.out hb)); (have k0 := kC b1 0); (have k1 := kC b1 1); (have k2 := kC b1 2); (have k3 := kC b1 3); (have k4 := kC b1 4); (have m0 := kC b2 0); (have f0 := kF b1 0); (have f1 := kF b1 1); (have f2 := kF b1 2); (have f3 := kF b1 3); (have f4 := kF b1 4); (have g0 := kF b2 0); clear hb x0 x1 x2 x3 x4 xl b0))
 have hz : w.heap.size ≤ w.heap.size + 1 := by omega
 have hz2 : w.heap.size ≤ w.heap.size + 1 + 1 := by omega
 refine leaves_cons (f := 63) (args := #[.pointer (some ⟨w.heap.size + 1, 0, none⟩), .pointer (some ⟨w.heap.size + 1 + 1, 0, none⟩)]) (by simp) (by simp [go_sem]) ?_
 refine (guard_idle _ _ _).mono ?_
 rintro e u' w'' ⟨rfl, rfl, rfl⟩
 simp [Leaves, settle, results, Tryz.results37, go_sem, k0, k1, k2, k3, k4, m0, Conv, v59]
 exact bT (bT (bT (bT (bT (bT HB.out hz) hz) hz) hz) hz) hz2
theorem convert_bad (k a b c d : Int) (f : Bool) (v : Int) (hk : k = 1 ∨ k = 2 ∨ k = 3) (hv : value_Valid.f a b c d f = some true) (hc : ∀ W, Calls Tryz.prog 66 #[.int .i64 k, .agg #[.int .i64 a, .int .i64 b, .int .i64 c, .int .i64 d, .bool f]] W (Fails v W)) (w : World) :
  Calls Tryz.prog 37 #[.int .i64 k, .agg #[.int .i64 a, .int .i64 b, .int .i64 c, .int .i64 d, .bool f]] w (Conv ⟨0, 0, z36, false⟩ v w) := by
 have HC := Lib.hid hc
 have HV := Lib.hid hv
 have HK := Lib.hid hk
 clear hc hv hk
 go_enter_defers Tryz.func37, Tryz.ntmps37
 go_wp2_with (first
  | (go_at_call 64; refine (aType_calls _ HK.out _).mono ?_; rintro e w' ⟨rfl, rfl⟩)
  | (go_at_call 65; refine (valid_ok a b c d f (w.heap.size + 1 + 1 + 1) _ (newE w _ _ _ _) HV.out).mono ?_; rintro e w2 ⟨rfl, hb⟩; (have hb0 := bS (bA (Below.refl _ _) _) hb); (have b0 := kB (kA (kA (heap_alloc_new w _) _) _) hb0); (have b1 := kB (newC w _ _ _) hb0); (have b2 := kB (newD w _ _ _) hb0); (have HB := Lib.hid (bS (bA (bA (bA (Below.refl w.heap.size w) _) _) _) hb0)); (have x0 := kC b0 0); (have x1 := kC b0 1); (have x2 := kC b0 2); (have x3 := kC b0 3); (have x4 := kC b0 4); (have xl := blk_lt b0); clear hb hb0)
  | (go_at_call 66; refine (HC.out _).mono ?_; rintro e w3 ⟨rfl, hb⟩; (replace b1 := kB b1 hb); (replace b2 := kB b2 hb); (replace HB := Lib.hid (bS HB.out hb)); clear hb x0 x1 x2 x3 x4 xl b0))
 refine leaves_cons (f := 63) (args := #[.pointer (some ⟨w.heap.size + 1, 0, none⟩), .pointer (some ⟨w.heap.size + 1 + 1, 0, none⟩)]) (by simp) (by simp [go_sem]) ?_
 refine (guard_hit (w.heap.size + 1) (w.heap.size + 1 + 1) v _ _ _ _ _ _ _ (by omega) b1 b2).mono ?_
 rintro e u' w'' ⟨rfl, rfl, h1, h2, h3⟩
 have k0 := kC h1 0
 have k1 := kC h1 1
 have k2 := kC h1 2
 have k3 := kC h1 3
 have k4 := kC h1 4
 have m0 := kC h2 0
 have hBf : Below w.heap.size w w'' := below_step2 HB.out h3
 simp [Leaves, settle, results, Tryz.results37, go_sem, k0, k1, k2, k3, k4, m0, Conv, v59, z36]
 exact hBf
end Go.Proofs.Q
end
section
namespace Go.Proofs.Q
open RowKit Shelf Rf Pw Pl Pm
theorem offs_c {l : List S54} (h0 : errOf l = 0) (ks : List Int) (A1 A2 : Option Addr) (c1 c2 n n3 : Nat) (w : World) (hr : Kd.C k54 w A1 n l) (hc1 : n ≤ c1) (hs : Kd.C (Kd.int .i64) w A2 n3 ks) (hc2 : n3 ≤ c2) :
  Calls Tryz.prog 48 #[.slice A1 n c1, .slice A2 n3 c2] w fun e w' => e = .returned (.tuple #[.int .i64 (if getE l ks = 0 then plc l ks else 0), .int .i64 (getE l ks)]) ∧ Below w.heap.size w w' := by
 have e1 := hr.1
 have e2 := hs.1
 subst e1 e2
 obtain ⟨g1, g2, g3, g4, g5⟩ := errOf_zero h0
 have h := offset_calls A1 c1 l A2 c2 ks w hr hc1 hs hc2 g5 g2 g3
 have e : offF l ks = (if getE l ks = 0 then plc l ks else 0, getE l ks) := by
  rw [offF_eq]; unfold getE
  by_cases hl : ks.length = l.length
  ·rw [if_pos hl, if_pos hl]
   cases inB l ks <;> simp
  ·rw [if_neg hl, if_neg hl]; simp
 rw [e] at h
 exact h
theorem R_addr {α : Type} {d : Kd α} {e : Nat} {w : World} {base : Nat} {ok : Nat → Prop} {v : Value} {xs : List α} (h : d.R e w base ok v xs) (h0 : 0 < xs.length) : ∃ g c, v = .slice (some ⟨g, 0, none⟩) xs.length c ∧ base ≤ g ∧ ∃ cells, w.heap[g]? = some (.cells cells e (0, 0)) := by
 obtain ⟨inner, ho⟩ := Kd.R_own h
 obtain ⟨A, c, rfl⟩ := Kd.R_slice h
 rcases ho.2 with ⟨e1, e2⟩ | ⟨g, cap, cur, e1, hg, hh, r⟩
 ·have := (Kd.R_reads' h).2.2.2.2 h0
  injection e1 with q1 q2 q3
  subst q1
  obtain ⟨ad, e, _⟩ := this
  cases e
 ·cases e1
  exact ⟨g, _, rfl, hg, cur, hh⟩
theorem elem59 {w : World} {base : Nat} {ok : Nat → Prop} {g n cap : Nat} {xs : List S38} (h : k38.R 38 w base ok (.slice (some ⟨g, 0, none⟩) n cap) xs) (i : Int) (h0 : 0 ≤ i) (h1 : i < n) :
  w.cell? ⟨g, i.toNat * 5, none⟩ = some (.int .i64 (rd_T38 xs i).f0) ∧ w.cell? ⟨g, i.toNat * 5 + 1, none⟩ = some (.int .i64 (rd_T38 xs i).f1) ∧ w.cell? ⟨g, i.toNat * 5 + 2, none⟩ = some (.int .i64 (rd_T38 xs i).f2.f0) ∧ w.cell? ⟨g, i.toNat * 5 + 3, none⟩ = some (.int .i64 (rd_T38 xs i).f2.f1) ∧ w.cell? ⟨g, i.toNat * 5 + 4, none⟩ = some (.bool (rd_T38 xs i).f3) ∧ (∀ j, w.frozen? ⟨g, j, none⟩ = false) ∧ g < w.heap.size := by
 obtain ⟨hn, hc, hC⟩ := Kd.R_reads' h
 obtain ⟨cur, hh⟩ := own_typed (Kd.R_own h).choose_spec g (by simp [Value.ownBlock])
 obtain ⟨ad, e, a0, a1, a2, a3, a4⟩ := at_T38 hC i h0 (by omega)
 cases e
 rw [add_plain] at a0 a1 a2 a3 a4
 simp only [Nat.zero_add] at a0 a1 a2 a3 a4
 exact ⟨a0, a1, a2, a3, a4, fun j => kF hh j, blk_lt hh⟩
theorem set_row {W : World} {base : Nat} {ok : Nat → Prop} {g n cap : Nat} {xs : List S38} (h : k38.R 38 W base ok (.slice (some ⟨g, 0, none⟩) n cap) xs) (i : Int) (h0 : 0 ≤ i) (hi : i < n) (y : S38) :
  k38.R 38 (((((W.setCell ⟨g, i.toNat * 5, none⟩ (.int .i64 y.f0)).setCell ⟨g, i.toNat * 5 + 1, none⟩ (.int .i64 y.f1)).setCell ⟨g, i.toNat * 5 + 2, none⟩ (.int .i64 y.f2.f0)).setCell ⟨g, i.toNat * 5 + 3, none⟩ (.int .i64 y.f2.f1)).setCell ⟨g, i.toNat * 5 + 4, none⟩ (.bool y.f3)) base ok (.slice (some ⟨g, 0, none⟩) n cap) (xs.set i.toNat y) := by
 obtain ⟨a0, a1, a2, a3, a4, _, _⟩ := elem59 h i h0 hi
 have := (Kd.R_seg (d := k38) (W := W) (okp := fun _ => False) h i h0 hi (c := [.int .i64 (rd_T38 xs i).f0, .int .i64 (rd_T38 xs i).f1, .int .i64 (rd_T38 xs i).f2.f0, .int .i64 (rd_T38 xs i).f2.f1, .bool (rd_T38 xs i).f3]) (seg := [.int .i64 y.f0, .int .i64 y.f1, .int .i64 y.f2.f0, .int .i64 y.f2.f1, .bool y.f3]) (j := 0) rfl
  (fun j u hu => by
   match j, hu with
   | 0, hu => cases hu; exact a0
   | 1, hu => cases hu; exact a1
   | 2, hu => cases hu; exact a2
   | 3, hu => cases hu; exact a3
   | 4, hu => cases hu; exact a4) (by simp; decide) (x' := y) (by
   show k38.M W base (fun _ => False) y [.int .i64 y.f0, .int .i64 y.f1, .int .i64 y.f2.f0, .int .i64 y.f2.f1, .bool y.f3]
   exact ⟨[.int .i64 y.f0], _, rfl, rfl, [.int .i64 y.f1], _, rfl, rfl, [.int .i64 y.f2.f0, .int .i64 y.f2.f1], [.bool y.f3], rfl, ⟨[.int .i64 y.f2.f0], [.int .i64 y.f2.f1], rfl, rfl, rfl⟩, rfl⟩) (fun k hk => hk.elim)).1
 exact this
theorem R_far {α : Type} {d : Kd α} {e base : Nat} {ok : Nat → Prop} {w w1 : Go.World} {v : Value} {xs : List α} (h : d.R e w base ok v xs) (hm : ∀ k : Nat, (∃ q, q ∈ e :: d.E ∧ ∃ cells : Array Value, w.heap[k]? = some (Obj.cells cells q (0, 0))) → w1.heap[k]? = w.heap[k]?) : d.R e w1 base (fun _ => True) v xs :=
 Kd.R_mono (Kd.R_step (Kd.R_bound h) (fun k hk _ => hm k hk.2.2.2)) (fun _ _ => trivial)
theorem heap_sc {w : World} {g o k : Nat} {v : Value} (h : k ≠ g) : (w.setCell ⟨g, o, none⟩ v).heap[k]? = w.heap[k]? := Below.heap_setCell w ⟨g, o, none⟩ v k h
theorem E40 : k54.E = [] := rfl
theorem E59 : k38.E = [] := rfl
def SetPost (t : Int) (n m : Nat) (ds : List S54) (es : List S38) (w : World) (e : Ending) (w' : World) : Prop := ∃ B1 q1 B2 q2, e = .returned (.tuple #[.agg #[.int .i64 t, .slice B1 n q1, .slice B2 m q2], .int .i64 0]) ∧ Arr w' B1 n q1 ds B2 m q2 es ∧ Below w.heap.size w w'
theorem set_ok {t : Int} {ds : List S54} {es : List S38} (F : Fine t ds es) (ks : List Int) (a b c d : Int) (f : Bool) (y : S38) (hk : inB ds ks = true) (hv : value_Valid.f a b c d f = some true)
  (hc : ∀ W, Calls Tryz.prog 37 #[.int .i64 t, .agg #[.int .i64 a, .int .i64 b, .int .i64 c, .int .i64 d, .bool f]] W (Conv y 0 W))
  (A1 A2 A3 : Option Addr) (c1 c2 c3 n m n3 : Nat) (w : World) (hr : Arr w A1 n c1 ds A2 m c2 es) (hr3 : Kd.C (Kd.int .i64) w A3 n3 ks) (hc3 : n3 ≤ c3) :
  Calls Tryz.prog 15 #[.agg #[.int .i64 t, .slice A1 n c1, .slice A2 m c2], .slice A3 n3 c3, .agg #[.int .i64 a, .int .i64 b, .int .i64 c, .int .i64 d, .bool f]] w (SetPost t n m ds (es.set (plc ds ks).toNat y) w) := by
 have hl := hr.len
 obtain ⟨_, _, _, g4, _⟩ := errOf_zero F.2.1
 obtain ⟨_, _, hmem, _, hp0, hp1⟩ := vAt_some (ext_pos (errOf_zero F.2.1).2.1) F.2.2.1 hk
 rw [hl.2] at hp1
 have hm1000 : m ≤ 1000 := by have := (errOf_zero F.2.1).2.1.2.2; have := F.2.2.1; omega
 have hn4 : n ≤ 4 := by have := (errOf_zero F.2.1).2.2.2.2; omega
 obtain ⟨ad1, rfl⟩ := C_some hr.1 (by omega)
 obtain ⟨ad2, rfl⟩ := C_some hr.2.2.1 (by omega)
 have HL := Lib.hid hl
 obtain ⟨p, hp⟩ : ∃ p, p = plc ds ks := ⟨_, rfl⟩
 rw [← hp] at hp0 hp1 ⊢
 have HPE := Lib.hid hp
 clear hp g4 hmem hl
 have HR := Lib.hid hr
 have H3 := Lib.hid hr3
 have HF := Lib.hid F
 have HC := Lib.hid hc
 have HV := Lib.hid hv
 have hge : getE ds ks = 0 := by unfold getE; rw [if_pos (inB_len _ _ hk), if_pos hk]
 have HGE := Lib.hid hge
 have HK := Lib.hid hk
 clear hr hr3 F hc hv hge hk
 have hA : (((w.alloc (.cells #[.int .i64 t, .slice (some ad1) n c1, .slice (some ad2) m c2] 25)).alloc (.cells #[.int .i64 a, .int .i64 b, .int .i64 c, .int .i64 d, .bool f] 38)).alloc (.cells #[.int .i64 0, .slice none 0 0, .slice none 0 0] 25)).heap[w.heap.size]? = some (.cells #[.int .i64 t, .slice (some ad1) n c1, .slice (some ad2) m c2] 25) := kA (kA (heap_alloc_new w _) _) _
 have hX : (((w.alloc (.cells #[.int .i64 t, .slice (some ad1) n c1, .slice (some ad2) m c2] 25)).alloc (.cells #[.int .i64 a, .int .i64 b, .int .i64 c, .int .i64 d, .bool f] 38)).alloc (.cells #[.int .i64 0, .slice none 0 0, .slice none 0 0] 25)).heap[w.heap.size + 1]? = some (.cells #[.int .i64 a, .int .i64 b, .int .i64 c, .int .i64 d, .bool f] 38) := newC w _ _ _
 have hZ : (((w.alloc (.cells #[.int .i64 t, .slice (some ad1) n c1, .slice (some ad2) m c2] 25)).alloc (.cells #[.int .i64 a, .int .i64 b, .int .i64 c, .int .i64 d, .bool f] 38)).alloc (.cells #[.int .i64 0, .slice none 0 0, .slice none 0 0] 25)).heap[w.heap.size + 1 + 1]? = some (.cells #[.int .i64 0, .slice none 0 0, .slice none 0 0] 25) := newD w _ _ _
 have hB : Below w.heap.size w (((w.alloc (.cells #[.int .i64 t, .slice (some ad1) n c1, .slice (some ad2) m c2] 25)).alloc (.cells #[.int .i64 a, .int .i64 b, .int .i64 c, .int .i64 d, .bool f] 38)).alloc (.cells #[.int .i64 0, .slice none 0 0, .slice none 0 0] 25)) := bA (bA (bA (Below.refl _ _) _) _) _
 go_enter Tryz.func15, Tryz.ntmps15
 go_wp2_with (first
  | (go_at_call 18; refine (ck_c HF.out _ _ _ _ _ _ _ (HR.out.below hB)).mono ?_; rintro e w1 ⟨rfl, hb⟩; (replace hB := bS hB hb); (replace hA := kB hA hb); (replace hX := kB hX hb); (replace hZ := kB hZ hb); (have a0 := c3_0 hA); (have a1 := c3_1 hA); (have a2 := c3_2 hA); (have al := blk_lt hA); clear hb)
  | (go_at_call 48; refine (offs_c HF.out.2.1 ks _ _ _ _ _ _ _ (Kd.C_below HR.out.1 hB) HR.out.2.1 (Kd.C_below H3.out hB) hc3).mono ?_; rintro e w2 ⟨rfl, hb⟩; rw [if_pos HGE.out, HGE.out, ← HPE.out]; (replace hB := bS hB hb); (replace hA := kB hA hb); (replace hX := kB hX hb); (replace hZ := kB hZ hb); clear a0 a1 a2 al; (obtain ⟨x0, x1, x2, x3, x4, xl⟩ := c5_of hX); clear hb)
  | (go_at_call 49; refine (value_Valid.calls a b c d f true _ HV.out).mono ?_; rintro e w3 ⟨rfl, hb⟩; (replace hB := bS hB hb); (replace hA := kB hA hb); (replace hX := kB hX hb); (replace hZ := kB hZ hb); clear x0 x1 x2 x3 x4 xl; (obtain ⟨x0, x1, x2, x3, x4, xl⟩ := c5_of hX); (have a0 := c3_0 hA); (have al := blk_lt hA); clear hb)
  | (go_at_call 37; refine (HC.out _).mono ?_; rintro e w4 ⟨rfl, hb⟩; (replace hB := bS hB hb); (replace hA := kB hA hb); (replace hX := kB hX hb); (replace hZ := kB hZ hb); clear x0 x1 x2 x3 x4 xl a0 al; dsimp only [v59]; (have a0 := c3_0 hA); (have a1 := c3_1 hA); (have a2 := c3_2 hA); (have al := blk_lt hA); clear hb)
  | (go_at_call 30; refine (clone_calls t ad1 ad2 c1 c2 n m ds es _ (Kd.C_below HR.out.1 (bA hB _)) (Kd.C_below HR.out.2.2.1 (bA hB _)) (by omega) hm1000).mono ?_; rintro e w5 ⟨v1, v2, rfl, hv1, hv2, hb⟩; (obtain ⟨B1, q1, rfl⟩ := Kd.R_slice hv1); (obtain ⟨g, q2, rfl, hg0, hg1⟩ := R_addr hv2 (by rw [HL.out.2]; omega)); rw [HL.out.1, HL.out.2]; rw [HL.out.1] at hv1; rw [HL.out.2] at hv2; (have hY := kB (heap_alloc_new _ _) hb); (have hs4 := hB.size); (replace hB := bS (bA hB _) hb); (replace hZ := kB (kA hZ _) hb); clear a0 a1 a2 al hA hX; (obtain ⟨y0, y1, y2, y3, y4, yl⟩ := c5_of hY); (obtain ⟨g0, g1, g2, g3, g4, gf, gl⟩ := elem59 hv2 p hp0 hp1); (have gf0 := gf (p.toNat * 5)); (have gf1 := gf (p.toNat * 5 + 1)); (have gf2 := gf (p.toNat * 5 + 2)); (have gf3 := gf (p.toNat * 5 + 3)); (have gf4 := gf (p.toNat * 5 + 4)); (have gn : g ≠ _ := Nat.ne_of_lt gl); (have gn2 := gn.symm); (have zl := blk_lt hZ); (have z0 := c3_0 hZ); (have z1 := c3_1 hZ); (have z2 := c3_2 hZ); (have zf0 := kF hZ 0); (have zf1 := kF hZ 1); (have zf2 := kF hZ 2); (have gz : g ≠ w.heap.size + 1 + 1 := (fun e => by (obtain ⟨cs, hcs⟩ := hg1); rw [e, hZ] at hcs; simp at hcs)); (have gz2 := gz.symm); (have HV1 := Lib.hid hv1); (have HV2 := Lib.hid hv2); clear hb hY hv1 hv2 gf))
 have hzw : w.heap.size ≤ w.heap.size + 1 + 1 := by omega
 have hgw : w.heap.size ≤ g := by
  rw [World.size_alloc] at hg0; omega
 have r1 := HV1.out
 have r2 := set_row HV2.out p hp0 hp1 y
 obtain ⟨cg, hcg⟩ := hg1
 have HZ := Lib.hid hZ
 refine bodyPost_ret (v := .tuple #[.agg #[.int .i64 t, .slice B1 n q1, .slice (some ⟨g, 0, none⟩) m q2], .int .i64 0]) ?_ rfl ⟨B1, q1, some ⟨g, 0, none⟩, q2, rfl, ?_, ?_⟩
 ·clear hZ HZ HV1 HV2 r1 r2
  simp [results, Tryz.results15, go_sem, z0, z1, z2, gz, gz2, zl]
 ·have k1 := Kd.R_below (R_far r1 (w1 := (((((((w5.setCell ⟨g, p.toNat * 5, none⟩ (.int .i64 y.f0)).setCell ⟨g, p.toNat * 5 + 1, none⟩ (.int .i64 y.f1)).setCell ⟨g, p.toNat * 5 + 2, none⟩ (.int .i64 y.f2.f0)).setCell ⟨g, p.toNat * 5 + 3, none⟩ (.int .i64 y.f2.f1)).setCell ⟨g, p.toNat * 5 + 4, none⟩ (.bool y.f3)).setCell ⟨w.heap.size + 1 + 1, 0, none⟩ (.int .i64 t)).setCell ⟨w.heap.size + 1 + 1, 1, none⟩ (.slice B1 n q1)).setCell ⟨w.heap.size + 1 + 1, 2, none⟩ (.slice (some ⟨g, 0, none⟩) m q2)) (fun k hk => by
    obtain ⟨q, hq, cs, hcs⟩ := hk
    have n1 : k ≠ g := fun e => by rw [e, hcg] at hcs; cases hcs; simp [E40] at hq
    have n2 : k ≠ w.heap.size + 1 + 1 := fun e => by rw [e, hZ] at hcs; cases hcs; simp [E40] at hq
    simp only [heap_sc n1, heap_sc n2])) (bA (Below.refl _ _) (.cells #[.int .i64 t, .slice B1 n q1, .slice (some ⟨g, 0, none⟩) m q2] 25))
  have k2 := Kd.R_below (R_far r2 (w1 := (((((((w5.setCell ⟨g, p.toNat * 5, none⟩ (.int .i64 y.f0)).setCell ⟨g, p.toNat * 5 + 1, none⟩ (.int .i64 y.f1)).setCell ⟨g, p.toNat * 5 + 2, none⟩ (.int .i64 y.f2.f0)).setCell ⟨g, p.toNat * 5 + 3, none⟩ (.int .i64 y.f2.f1)).setCell ⟨g, p.toNat * 5 + 4, none⟩ (.bool y.f3)).setCell ⟨w.heap.size + 1 + 1, 0, none⟩ (.int .i64 t)).setCell ⟨w.heap.size + 1 + 1, 1, none⟩ (.slice B1 n q1)).setCell ⟨w.heap.size + 1 + 1, 2, none⟩ (.slice (some ⟨g, 0, none⟩) m q2)) (fun k hk => by
    obtain ⟨q, hq, cs, hcs⟩ := hk
    have n2 : k ≠ w.heap.size + 1 + 1 := fun e => by
     rw [e] at hcs
     simp only [heap_sc gz2] at hcs
     rw [hZ] at hcs; cases hcs; simp [E59] at hq
    simp only [heap_sc n2])) (bA (Below.refl _ _) (.cells #[.int .i64 t, .slice B1 n q1, .slice (some ⟨g, 0, none⟩) m q2] 25))
  have f1 := Kd.R_reads' k1
  have f2 := Kd.R_reads' k2
  have g1 := f1.2.2
  have g2 := f2.2.2
  rw [← f1.1] at g1
  rw [← f2.1] at g2
  exact ⟨g1, f1.2.1, g2, f2.2.1⟩
 ·exact bA (bT (bT (bT (bT (bT (bT (bT (bT hB hgw) hgw) hgw) hgw) hgw) hzw) hzw) hzw) _
theorem set_no1 {t : Int} {ds : List S54} {es : List S38} (F : Fine t ds es) (ks : List Int) (a b c d : Int) (f : Bool) (hk : getE ds ks ≠ 0)
  (A1 A2 A3 : Option Addr) (c1 c2 c3 n m n3 : Nat) (w : World) (hr : Arr w A1 n c1 ds A2 m c2 es) (hr3 : Kd.C (Kd.int .i64) w A3 n3 ks) (hc3 : n3 ≤ c3) :
  Calls Tryz.prog 15 #[.agg #[.int .i64 t, .slice A1 n c1, .slice A2 m c2], .slice A3 n3 c3, .agg #[.int .i64 a, .int .i64 b, .int .i64 c, .int .i64 d, .bool f]] w (ResizeNo (getE ds ks) w) := by
 have HR := Lib.hid hr
 have H3 := Lib.hid hr3
 have HF := Lib.hid F
 have HK := Lib.hid hk
 have hkb : (getE ds ks != 0) = true := by simpa using hk
 clear hr hr3 F hk
 have hA : (((w.alloc (.cells #[.int .i64 t, .slice A1 n c1, .slice A2 m c2] 25)).alloc (.cells #[.int .i64 a, .int .i64 b, .int .i64 c, .int .i64 d, .bool f] 38)).alloc (.cells #[.int .i64 0, .slice none 0 0, .slice none 0 0] 25)).heap[w.heap.size]? = some (.cells #[.int .i64 t, .slice A1 n c1, .slice A2 m c2] 25) := kA (kA (heap_alloc_new w _) _) _
 have hX : (((w.alloc (.cells #[.int .i64 t, .slice A1 n c1, .slice A2 m c2] 25)).alloc (.cells #[.int .i64 a, .int .i64 b, .int .i64 c, .int .i64 d, .bool f] 38)).alloc (.cells #[.int .i64 0, .slice none 0 0, .slice none 0 0] 25)).heap[w.heap.size + 1]? = some (.cells #[.int .i64 a, .int .i64 b, .int .i64 c, .int .i64 d, .bool f] 38) := newC w _ _ _
 have hZ : (((w.alloc (.cells #[.int .i64 t, .slice A1 n c1, .slice A2 m c2] 25)).alloc (.cells #[.int .i64 a, .int .i64 b, .int .i64 c, .int .i64 d, .bool f] 38)).alloc (.cells #[.int .i64 0, .slice none 0 0, .slice none 0 0] 25)).heap[w.heap.size + 1 + 1]? = some (.cells #[.int .i64 0, .slice none 0 0, .slice none 0 0] 25) := newD w _ _ _
 have hB : Below w.heap.size w (((w.alloc (.cells #[.int .i64 t, .slice A1 n c1, .slice A2 m c2] 25)).alloc (.cells #[.int .i64 a, .int .i64 b, .int .i64 c, .int .i64 d, .bool f] 38)).alloc (.cells #[.int .i64 0, .slice none 0 0, .slice none 0 0] 25)) := bA (bA (bA (Below.refl _ _) _) _) _
 go_enter Tryz.func15, Tryz.ntmps15
 go_wp2_with (first
  | (go_at_call 18; refine (ck_c HF.out _ _ _ _ _ _ _ (HR.out.below hB)).mono ?_; rintro e w1 ⟨rfl, hb⟩; (replace hB := bS hB hb); (replace hA := kB hA hb); (replace hZ := kB hZ hb); (have a0 := c3_0 hA); (have a1 := c3_1 hA); (have a2 := c3_2 hA); (have al := blk_lt hA); clear hb hX)
  | (go_at_call 48; refine (offs_c HF.out.2.1 ks _ _ _ _ _ _ _ (Kd.C_below HR.out.1 hB) HR.out.2.1 (Kd.C_below H3.out hB) hc3).mono ?_; rintro e w2 ⟨rfl, hb⟩; (replace hB := bS hB hb); (replace hZ := kB hZ hb); clear a0 a1 a2 al hA; (have z0 := c3_0 hZ); (have z1 := c3_1 hZ); (have z2 := c3_2 hZ); (have zl := blk_lt hZ); (have zf0 := kF hZ 0); (have zf1 := kF hZ 1); (have zf2 := kF hZ 2); clear hb))
 have hzw : w.heap.size ≤ w.heap.size + 1 + 1 := by omega
 refine bodyPost_ret (v := .tuple #[.agg #[.int .i64 0, .slice none 0 0, .slice none 0 0], .int .i64 (getE ds ks)]) ?_ rfl ⟨rfl, ?_⟩
 ·clear hZ
  simp [results, Tryz.results15, go_sem, z0, z1, z2, zl]
 ·exact bT (bT (bT hB hzw) hzw) hzw
theorem set_no2 {t : Int} {ds : List S54} {es : List S38} (F : Fine t ds es) (ks : List Int) (a b c d : Int) (f : Bool) (hk : getE ds ks = 0) (hv : value_Valid.f a b c d f = some false)
  (A1 A2 A3 : Option Addr) (c1 c2 c3 n m n3 : Nat) (w : World) (hr : Arr w A1 n c1 ds A2 m c2 es) (hr3 : Kd.C (Kd.int .i64) w A3 n3 ks) (hc3 : n3 ≤ c3) :
  Calls Tryz.prog 15 #[.agg #[.int .i64 t, .slice A1 n c1, .slice A2 m c2], .slice A3 n3 c3, .agg #[.int .i64 a, .int .i64 b, .int .i64 c, .int .i64 d, .bool f]] w (ResizeNo 1 w) := by
 have HR := Lib.hid hr
 have H3 := Lib.hid hr3
 have HF := Lib.hid F
 have HK := Lib.hid hk
 have HV := Lib.hid hv
 clear hr hr3 F hk hv
 have hA : (((w.alloc (.cells #[.int .i64 t, .slice A1 n c1, .slice A2 m c2] 25)).alloc (.cells #[.int .i64 a, .int .i64 b, .int .i64 c, .int .i64 d, .bool f] 38)).alloc (.cells #[.int .i64 0, .slice none 0 0, .slice none 0 0] 25)).heap[w.heap.size]? = some (.cells #[.int .i64 t, .slice A1 n c1, .slice A2 m c2] 25) := kA (kA (heap_alloc_new w _) _) _
 have hX : (((w.alloc (.cells #[.int .i64 t, .slice A1 n c1, .slice A2 m c2] 25)).alloc (.cells #[.int .i64 a, .int .i64 b, .int .i64 c, .int .i64 d, .bool f] 38)).alloc (.cells #[.int .i64 0, .slice none 0 0, .slice none 0 0] 25)).heap[w.heap.size + 1]? = some (.cells #[.int .i64 a, .int .i64 b, .int .i64 c, .int .i64 d, .bool f] 38) := newC w _ _ _
 have hZ : (((w.alloc (.cells #[.int .i64 t, .slice A1 n c1, .slice A2 m c2] 25)).alloc (.cells #[.int .i64 a, .int .i64 b, .int .i64 c, .int .i64 d, .bool f] 38)).alloc (.cells #[.int .i64 0, .slice none 0 0, .slice none 0 0] 25)).heap[w.heap.size + 1 + 1]? = some (.cells #[.int .i64 0, .slice none 0 0, .slice none 0 0] 25) := newD w _ _ _
 have hB : Below w.heap.size w (((w.alloc (.cells #[.int .i64 t, .slice A1 n c1, .slice A2 m c2] 25)).alloc (.cells #[.int .i64 a, .int .i64 b, .int .i64 c, .int .i64 d, .bool f] 38)).alloc (.cells #[.int .i64 0, .slice none 0 0, .slice none 0 0] 25)) := bA (bA (bA (Below.refl _ _) _) _) _
 go_enter Tryz.func15, Tryz.ntmps15
 go_wp2_with (first
  | (go_at_call 18; refine (ck_c HF.out _ _ _ _ _ _ _ (HR.out.below hB)).mono ?_; rintro e w1 ⟨rfl, hb⟩; (replace hB := bS hB hb); (replace hA := kB hA hb); (replace hX := kB hX hb); (replace hZ := kB hZ hb); (have a0 := c3_0 hA); (have a1 := c3_1 hA); (have a2 := c3_2 hA); (have al := blk_lt hA); clear hb)
  | (go_at_call 48; refine (offs_c HF.out.2.1 ks _ _ _ _ _ _ _ (Kd.C_below HR.out.1 hB) HR.out.2.1 (Kd.C_below H3.out hB) hc3).mono ?_; rintro e w2 ⟨rfl, hb⟩; rw [HK.out]; (replace hB := bS hB hb); (replace hX := kB hX hb); (replace hZ := kB hZ hb); clear a0 a1 a2 al hA; (obtain ⟨x0, x1, x2, x3, x4, xl⟩ := c5_of hX); clear hb)
  | (go_at_call 49; refine (value_Valid.calls a b c d f false _ HV.out).mono ?_; rintro e w3 ⟨rfl, hb⟩; (replace hB := bS hB hb); (replace hZ := kB hZ hb); clear x0 x1 x2 x3 x4 xl hX; (have z0 := c3_0 hZ); (have z1 := c3_1 hZ); (have z2 := c3_2 hZ); (have zl := blk_lt hZ); (have zf0 := kF hZ 0); (have zf1 := kF hZ 1); (have zf2 := kF hZ 2); clear hb))
 have hzw : w.heap.size ≤ w.heap.size + 1 + 1 := by omega
 refine bodyPost_ret (v := .tuple #[.agg #[.int .i64 0, .slice none 0 0, .slice none 0 0], .int .i64 1]) ?_ rfl ⟨rfl, ?_⟩
 ·clear hZ
  simp [results, Tryz.results15, go_sem, z0, z1, z2, zl]
 ·exact bT (bT (bT hB hzw) hzw) hzw
theorem set_no3 {t : Int} {ds : List S54} {es : List S38} (F : Fine t ds es) (ks : List Int) (a b c d : Int) (f : Bool) (hk : getE ds ks = 0) (hv : value_Valid.f a b c d f = some true) (v : Int) (hv0 : v ≠ 0)
  (hc : ∀ W, Calls Tryz.prog 37 #[.int .i64 t, .agg #[.int .i64 a, .int .i64 b, .int .i64 c, .int .i64 d, .bool f]] W (Conv ⟨0, 0, z36, false⟩ v W))
  (A1 A2 A3 : Option Addr) (c1 c2 c3 n m n3 : Nat) (w : World) (hr : Arr w A1 n c1 ds A2 m c2 es) (hr3 : Kd.C (Kd.int .i64) w A3 n3 ks) (hc3 : n3 ≤ c3) :
  Calls Tryz.prog 15 #[.agg #[.int .i64 t, .slice A1 n c1, .slice A2 m c2], .slice A3 n3 c3, .agg #[.int .i64 a, .int .i64 b, .int .i64 c, .int .i64 d, .bool f]] w (ResizeNo v w) := by
 have HR := Lib.hid hr
 have H3 := Lib.hid hr3
 have HF := Lib.hid F
 have HK := Lib.hid hk
 have HV := Lib.hid hv
 have HC := Lib.hid hc
 have hvb : (v != 0) = true := by simpa using hv0
 clear hr hr3 F hk hv hc hv0
 have hA : (((w.alloc (.cells #[.int .i64 t, .slice A1 n c1, .slice A2 m c2] 25)).alloc (.cells #[.int .i64 a, .int .i64 b, .int .i64 c, .int .i64 d, .bool f] 38)).alloc (.cells #[.int .i64 0, .slice none 0 0, .slice none 0 0] 25)).heap[w.heap.size]? = some (.cells #[.int .i64 t, .slice A1 n c1, .slice A2 m c2] 25) := kA (kA (heap_alloc_new w _) _) _
 have hX : (((w.alloc (.cells #[.int .i64 t, .slice A1 n c1, .slice A2 m c2] 25)).alloc (.cells #[.int .i64 a, .int .i64 b, .int .i64 c, .int .i64 d, .bool f] 38)).alloc (.cells #[.int .i64 0, .slice none 0 0, .slice none 0 0] 25)).heap[w.heap.size + 1]? = some (.cells #[.int .i64 a, .int .i64 b, .int .i64 c, .int .i64 d, .bool f] 38) := newC w _ _ _
 have hZ : (((w.alloc (.cells #[.int .i64 t, .slice A1 n c1, .slice A2 m c2] 25)).alloc (.cells #[.int .i64 a, .int .i64 b, .int .i64 c, .int .i64 d, .bool f] 38)).alloc (.cells #[.int .i64 0, .slice none 0 0, .slice none 0 0] 25)).heap[w.heap.size + 1 + 1]? = some (.cells #[.int .i64 0, .slice none 0 0, .slice none 0 0] 25) := newD w _ _ _
 have hB : Below w.heap.size w (((w.alloc (.cells #[.int .i64 t, .slice A1 n c1, .slice A2 m c2] 25)).alloc (.cells #[.int .i64 a, .int .i64 b, .int .i64 c, .int .i64 d, .bool f] 38)).alloc (.cells #[.int .i64 0, .slice none 0 0, .slice none 0 0] 25)) := bA (bA (bA (Below.refl _ _) _) _) _
 go_enter Tryz.func15, Tryz.ntmps15
 go_wp2_with (first
  | (go_at_call 18; refine (ck_c HF.out _ _ _ _ _ _ _ (HR.out.below hB)).mono ?_; rintro e w1 ⟨rfl, hb⟩; (replace hB := bS hB hb); (replace hA := kB hA hb); (replace hX := kB hX hb); (replace hZ := kB hZ hb); (have a0 := c3_0 hA); (have a1 := c3_1 hA); (have a2 := c3_2 hA); (have al := blk_lt hA); clear hb)
  | (go_at_call 48; refine (offs_c HF.out.2.1 ks _ _ _ _ _ _ _ (Kd.C_below HR.out.1 hB) HR.out.2.1 (Kd.C_below H3.out hB) hc3).mono ?_; rintro e w2 ⟨rfl, hb⟩; rw [HK.out]; (replace hB := bS hB hb); (replace hX := kB hX hb); (replace hZ := kB hZ hb); (replace hA := kB hA hb); clear a0 a1 a2 al; (obtain ⟨x0, x1, x2, x3, x4, xl⟩ := c5_of hX); clear hb)
  | (go_at_call 49; refine (value_Valid.calls a b c d f true _ HV.out).mono ?_; rintro e w3 ⟨rfl, hb⟩; (replace hB := bS hB hb); (replace hA := kB hA hb); (replace hX := kB hX hb); (replace hZ := kB hZ hb); clear x0 x1 x2 x3 x4 xl; (obtain ⟨x0, x1, x2, x3, x4, xl⟩ := c5_of hX); (have a0 := c3_0 hA); (have al := blk_lt hA); clear hb)
  | (go_at_call 37; refine (HC.out _).mono ?_; rintro e w4 ⟨rfl, hb⟩; (replace hB := bS hB hb); (replace hZ := kB hZ hb); clear x0 x1 x2 x3 x4 xl a0 al hA hX; dsimp only [v59]; (have z0 := c3_0 hZ); (have z1 := c3_1 hZ); (have z2 := c3_2 hZ); (have zl := blk_lt hZ); (have zf0 := kF hZ 0); (have zf1 := kF hZ 1); (have zf2 := kF hZ 2); clear hb))
 have hzw : w.heap.size ≤ w.heap.size + 1 + 1 := by omega
 refine bodyPost_ret (v := .tuple #[.agg #[.int .i64 0, .slice none 0 0, .slice none 0 0], .int .i64 v]) ?_ rfl ⟨rfl, ?_⟩
 ·clear hZ
  simp [results, Tryz.results15, go_sem, z0, z1, z2, zl]
 ·exact bA (bT (bT (bT hB hzw) hzw) hzw) _
end Go.Proofs.Q
end
