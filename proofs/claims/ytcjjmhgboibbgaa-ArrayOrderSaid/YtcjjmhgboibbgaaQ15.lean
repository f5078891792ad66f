-- PRINTED by print.py (a twelfth state) out of the translation. Not trusted: Lean checks it.
import Derived.Test.YtcjjmhgboibbgaaQ0
import Derived.Test.YtcjjmhgboibbgaaHArr5
import Derived.Test.YtcjjmhgboibbgaaHArrB
import Derived.Test.YtcjjmhgboibbgaaHArrS
import Derived.Test.YtcjjmhgboibbgaaQ14
namespace Go.Proofs.Ytcjjmhgboibbgaa.Q
open Go.RowKit Go.Proofs.YtcjjmhgboibbgaaW.PrintWords Go.Proofs.YtcjjmhgboibbgaaW.PrintLast Go.Proofs.YtcjjmhgboibbgaaW.PrintMore
attribute [local go_sem] max2_int min2_int max_two min_two max_three min_three max_four min_four   -- for this text's walks alone
set_option linter.unusedVariables false
set_option linter.unusedSimpArgs false

/-! ### manorboylaw08_ArrayOrder: function 4 -/
mutual
def manorboylaw08_ArrayOrder.j0 : Nat → List (S40) → Int → Int → Int → Int → Bool → Option (Bool)
  | 0, _, _, _, _, _, _ => none
  | k + 1, x0, x1, x2, x3, x9, x43 => if x43 = true then ((manorboylaw08_sanity.f).bind fun t226 => (some t226)) else (if x9 ≤ 0 then (some false) else (if x9 = 0 then (none) else ((array_SubscriptsH.f x0 (Int.tmod x1 x9)).bind fun bt227 => ((array_SubscriptsH.f x0 (Int.tmod x2 x9)).bind fun bt231 => ((array_Offset.f x0 bt227.1).bind fun bt235 => ((array_Offset.f x0 bt231.1).bind fun bt237 => ((array_Strides.f x0).bind fun bt239 => (if bt227.2 = 0 then (if bt231.2 = 0 then (if bt235.2 = 0 then (if bt237.2 = 0 then (if bt239.2.2 = 0 then (if bt235.1 = (Int.tmod x1 x9) then (if bt237.1 = (Int.tmod x2 x9) then ((manorboylaw08_less.f k bt227.1 bt231.1).bind fun t244 => (if (t244 != (decide ((Int.tmod x1 x9) < (Int.tmod x2 x9)))) = true then (manorboylaw08_ArrayOrder.j1 k x0 (Int.tmod x1 x9) x3 bt227.1 bt239.1 true) else (manorboylaw08_ArrayOrder.j1 k x0 (Int.tmod x1 x9) x3 bt227.1 bt239.1 ((bt239.1.length : Int) != (x0.length : Int))))) else (manorboylaw08_ArrayOrder.j1 k x0 (Int.tmod x1 x9) x3 bt227.1 bt239.1 true)) else (manorboylaw08_ArrayOrder.j1 k x0 (Int.tmod x1 x9) x3 bt227.1 bt239.1 true)) else (manorboylaw08_ArrayOrder.j1 k x0 (Int.tmod x1 x9) x3 bt227.1 bt239.1 true)) else (manorboylaw08_ArrayOrder.j1 k x0 (Int.tmod x1 x9) x3 bt227.1 bt239.1 true)) else (manorboylaw08_ArrayOrder.j1 k x0 (Int.tmod x1 x9) x3 bt227.1 bt239.1 true)) else (manorboylaw08_ArrayOrder.j1 k x0 (Int.tmod x1 x9) x3 bt227.1 bt239.1 true)) else (manorboylaw08_ArrayOrder.j1 k x0 (Int.tmod x1 x9) x3 bt227.1 bt239.1 true)))))))))
def manorboylaw08_ArrayOrder.j1 : Nat → List (S40) → Int → Int → List Int → List Int → Bool → Option (Bool)
  | 0, _, _, _, _, _, _ => none
  | k + 1, x0, x1, x3, x11, x18, x126 => if x126 = true then (some false) else (if x1 = 0 then (manorboylaw08_ArrayOrder.l0 k x0 x1 x3 x11 x18 0) else (manorboylaw08_ArrayOrder.j3 k x0 x1 x3 x11 x18))
def manorboylaw08_ArrayOrder.j3 : Nat → List (S40) → Int → Int → List Int → List Int → Option (Bool)
  | 0, _, _, _, _, _ => none
  | k + 1, x0, x1, x3, x11, x18 => if (x0.length : Int) = 0 then (none) else (if 0 ≤ (Int.tmod (wrap64 (x3)) (x0.length : Int)) then (if (Int.tmod (wrap64 (x3)) (x0.length : Int)) < (x11.length : Int) then ((some (x11.set ((Int.tmod (wrap64 (x3)) (x0.length : Int)) : Int).toNat (wrap64 ((rd x11 (Int.tmod (wrap64 (x3)) (x0.length : Int))) + 1)) : List Int)).bind fun y248 => ((array_Offset.f x0 y248).bind fun bt249 => (if (Int.tmod (wrap64 (x3)) (x0.length : Int)) < (x0.length : Int) then (if (rd y248 (Int.tmod (wrap64 (x3)) (x0.length : Int))) > ((rd_T40 x0 (Int.tmod (wrap64 (x3)) (x0.length : Int))).f1) then ((manorboylaw08_sanity.f).bind fun t253 => (if t253 = true then (some (bt249.2 == 3)) else (some false))) else ((manorboylaw08_sanity.f).bind fun t254 => (if t254 = true then (if bt249.2 = 0 then (if (Int.tmod (wrap64 (x3)) (x0.length : Int)) < (x18.length : Int) then (some (bt249.1 == (wrap64 (x1 + (rd x18 (Int.tmod (wrap64 (x3)) (x0.length : Int))))))) else (none)) else (some false)) else (some false)))) else (none)))) else (none)) else (none))
def manorboylaw08_ArrayOrder.l0 : Nat → List (S40) → Int → Int → List Int → List Int → Int → Option (Bool)
  | 0, _, _, _, _, _, _ => none
  | k + 1, x0, x1, x3, x11, x18, x21 => if x21 < (x11.length : Int) then (if 0 ≤ x21 then (if x21 < (x0.length : Int) then (if (rd x11 x21) = ((rd_T40 x0 x21).f0) then (manorboylaw08_ArrayOrder.l0 k x0 x1 x3 x11 x18 (wrap64 (x21 + 1))) else (some false)) else (none)) else (none)) else (manorboylaw08_ArrayOrder.j3 k x0 x1 x3 x11 x18)
end
def manorboylaw08_ArrayOrder.f (k : Nat) (l0 : List (S40)) (a1 : Int) (a2 : Int) (a3 : Int) : Option (Bool) := (array_Size.f l0).bind fun bt224 => (if (l0.length : Int) > 6 then (manorboylaw08_ArrayOrder.j0 k l0 a1 a2 a3 bt224.1 true) else (if bt224.2 = 0 then (if a1 < 0 then (manorboylaw08_ArrayOrder.j0 k l0 a1 a2 a3 bt224.1 true) else (manorboylaw08_ArrayOrder.j0 k l0 a1 a2 a3 bt224.1 (decide (a2 < 0)))) else (manorboylaw08_ArrayOrder.j0 k l0 a1 a2 a3 bt224.1 true)))
theorem manorboylaw08_ArrayOrder.mono_l : ∀ k, (∀ y0 y1 y2 y3 y4 y5, LeO (manorboylaw08_ArrayOrder.j0 k y0 y1 y2 y3 y4 y5) (manorboylaw08_ArrayOrder.j0 (k + 1) y0 y1 y2 y3 y4 y5)) ∧ (∀ y0 y1 y2 y3 y4 y5, LeO (manorboylaw08_ArrayOrder.j1 k y0 y1 y2 y3 y4 y5) (manorboylaw08_ArrayOrder.j1 (k + 1) y0 y1 y2 y3 y4 y5)) ∧ (∀ y0 y1 y2 y3 y4, LeO (manorboylaw08_ArrayOrder.j3 k y0 y1 y2 y3 y4) (manorboylaw08_ArrayOrder.j3 (k + 1) y0 y1 y2 y3 y4)) ∧ (∀ y0 y1 y2 y3 y4 y5, LeO (manorboylaw08_ArrayOrder.l0 k y0 y1 y2 y3 y4 y5) (manorboylaw08_ArrayOrder.l0 (k + 1) y0 y1 y2 y3 y4 y5))
  | 0 => ⟨fun _ _ _ _ _ _ r h => by simp [manorboylaw08_ArrayOrder.j0] at h, fun _ _ _ _ _ _ r h => by simp [manorboylaw08_ArrayOrder.j1] at h, fun _ _ _ _ _ r h => by simp [manorboylaw08_ArrayOrder.j3] at h, fun _ _ _ _ _ _ r h => by simp [manorboylaw08_ArrayOrder.l0] at h⟩
  | k + 1 => by
    obtain ⟨ih0, ih1, ih2, ih3⟩ := manorboylaw08_ArrayOrder.mono_l k
    refine ⟨?_, ?_, ?_, ?_⟩
    · intro y0 y1 y2 y3 y4 y5
      unfold manorboylaw08_ArrayOrder.j0
      repeat' first
      | (with_reducible exact ih0 _ _ _ _ _ _)
      | (with_reducible exact ih1 _ _ _ _ _ _)
      | (with_reducible exact ih2 _ _ _ _ _)
      | (with_reducible exact ih3 _ _ _ _ _ _)
      | (with_reducible exact manorboylaw08_less.mono _ _ _)
      | (with_reducible exact LeO.refl _)
      | (with_reducible exact LeO.none _)
      | (with_reducible refine LeO.ite ?_ ?_)
      | (with_reducible refine LeO.bind ?_ (fun _ => ?_))
      | exact ih0 _ _ _ _ _ _
      | exact ih1 _ _ _ _ _ _
      | exact ih2 _ _ _ _ _
      | exact ih3 _ _ _ _ _ _
      | exact manorboylaw08_less.mono _ _ _
      | exact LeO.none _
      | refine LeO.ite ?_ ?_
      | refine LeO.bind ?_ (fun _ => ?_)
    · intro y0 y1 y2 y3 y4 y5
      unfold manorboylaw08_ArrayOrder.j1
      repeat' first
      | (with_reducible exact ih0 _ _ _ _ _ _)
      | (with_reducible exact ih1 _ _ _ _ _ _)
      | (with_reducible exact ih2 _ _ _ _ _)
      | (with_reducible exact ih3 _ _ _ _ _ _)
      | (with_reducible exact manorboylaw08_less.mono _ _ _)
      | (with_reducible exact LeO.refl _)
      | (with_reducible exact LeO.none _)
      | (with_reducible refine LeO.ite ?_ ?_)
      | (with_reducible refine LeO.bind ?_ (fun _ => ?_))
      | exact ih0 _ _ _ _ _ _
      | exact ih1 _ _ _ _ _ _
      | exact ih2 _ _ _ _ _
      | exact ih3 _ _ _ _ _ _
      | exact manorboylaw08_less.mono _ _ _
      | exact LeO.none _
      | refine LeO.ite ?_ ?_
      | refine LeO.bind ?_ (fun _ => ?_)
    · intro y0 y1 y2 y3 y4
      unfold manorboylaw08_ArrayOrder.j3
      repeat' first
      | (with_reducible exact ih0 _ _ _ _ _ _)
      | (with_reducible exact ih1 _ _ _ _ _ _)
      | (with_reducible exact ih2 _ _ _ _ _)
      | (with_reducible exact ih3 _ _ _ _ _ _)
      | (with_reducible exact manorboylaw08_less.mono _ _ _)
      | (with_reducible exact LeO.refl _)
      | (with_reducible exact LeO.none _)
      | (with_reducible refine LeO.ite ?_ ?_)
      | (with_reducible refine LeO.bind ?_ (fun _ => ?_))
      | exact ih0 _ _ _ _ _ _
      | exact ih1 _ _ _ _ _ _
      | exact ih2 _ _ _ _ _
      | exact ih3 _ _ _ _ _ _
      | exact manorboylaw08_less.mono _ _ _
      | exact LeO.none _
      | refine LeO.ite ?_ ?_
      | refine LeO.bind ?_ (fun _ => ?_)
    · intro y0 y1 y2 y3 y4 y5
      unfold manorboylaw08_ArrayOrder.l0
      repeat' first
      | (with_reducible exact ih0 _ _ _ _ _ _)
      | (with_reducible exact ih1 _ _ _ _ _ _)
      | (with_reducible exact ih2 _ _ _ _ _)
      | (with_reducible exact ih3 _ _ _ _ _ _)
      | (with_reducible exact manorboylaw08_less.mono _ _ _)
      | (with_reducible exact LeO.refl _)
      | (with_reducible exact LeO.none _)
      | (with_reducible refine LeO.ite ?_ ?_)
      | (with_reducible refine LeO.bind ?_ (fun _ => ?_))
      | exact ih0 _ _ _ _ _ _
      | exact ih1 _ _ _ _ _ _
      | exact ih2 _ _ _ _ _
      | exact ih3 _ _ _ _ _ _
      | exact manorboylaw08_less.mono _ _ _
      | exact LeO.none _
      | refine LeO.ite ?_ ?_
      | refine LeO.bind ?_ (fun _ => ?_)
theorem manorboylaw08_ArrayOrder.mono : ∀ a0 a1 a2 a3 k, LeO (manorboylaw08_ArrayOrder.f k a0 a1 a2 a3) (manorboylaw08_ArrayOrder.f (k + 1) a0 a1 a2 a3) := by
  intro a0 a1 a2 a3 k
  obtain ⟨ih0, ih1, ih2, ih3⟩ := manorboylaw08_ArrayOrder.mono_l k
  unfold manorboylaw08_ArrayOrder.f
  repeat' first
      | (with_reducible exact ih0 _ _ _ _ _ _)
      | (with_reducible exact ih1 _ _ _ _ _ _)
      | (with_reducible exact ih2 _ _ _ _ _)
      | (with_reducible exact ih3 _ _ _ _ _ _)
      | (with_reducible exact manorboylaw08_less.mono _ _ _)
      | (with_reducible exact LeO.refl _)
      | (with_reducible exact LeO.none _)
      | (with_reducible refine LeO.ite ?_ ?_)
      | (with_reducible refine LeO.bind ?_ (fun _ => ?_))
      | exact ih0 _ _ _ _ _ _
      | exact ih1 _ _ _ _ _ _
      | exact ih2 _ _ _ _ _
      | exact ih3 _ _ _ _ _ _
      | exact manorboylaw08_less.mono _ _ _
      | exact LeO.none _
      | refine LeO.ite ?_ ?_
      | refine LeO.bind ?_ (fun _ => ?_)
set_option maxHeartbeats 8000000 in
set_option maxRecDepth 100000 in
theorem manorboylaw08_ArrayOrder.calls (k : Nat) (A0 : Option Addr) (c0 : Nat) (l0 : List (S40)) (a1 : Int) (a2 : Int) (a3 : Int) (r : Bool) (w : World) (hr0 : Kd.C k40 w A0 l0.length l0) (hc0 : l0.length ≤ c0) (h : manorboylaw08_ArrayOrder.f k l0 a1 a2 a3 = some r) :
    Calls Try.prog 4 #[.slice A0 l0.length c0, .int .i64 a1, .int .i64 a2, .int .u8 a3] w fun e w' => e = .returned (.bool r) ∧ Below w.heap.size w w' := by
  have HR0 := Aside0.mk hr0
  have HC0 := Aside0.mk hc0
  clear hr0 hc0
  have HB := Aside0.mk (Below.refl w.heap.size w)
  have H : ((array_Size.f l0).bind fun bt224 => (if (l0.length : Int) > 6 then (manorboylaw08_ArrayOrder.j0 k l0 a1 a2 a3 bt224.1 true) else (if bt224.2 = 0 then (if a1 < 0 then (manorboylaw08_ArrayOrder.j0 k l0 a1 a2 a3 bt224.1 true) else (manorboylaw08_ArrayOrder.j0 k l0 a1 a2 a3 bt224.1 (decide (a2 < 0)))) else (manorboylaw08_ArrayOrder.j0 k l0 a1 a2 a3 bt224.1 true)))) = some r := h
  clear h
  replace H := Option.bind_eq_some_iff.mp H
  obtain ⟨⟨t224, t225⟩, A50, H⟩ := H
  replace H : (if (l0.length : Int) > 6 then (manorboylaw08_ArrayOrder.j0 k l0 a1 a2 a3 t224 true) else (if t225 = 0 then (if a1 < 0 then (manorboylaw08_ArrayOrder.j0 k l0 a1 a2 a3 t224 true) else (manorboylaw08_ArrayOrder.j0 k l0 a1 a2 a3 t224 (decide (a2 < 0)))) else (manorboylaw08_ArrayOrder.j0 k l0 a1 a2 a3 t224 true))) = some r := H
  have A5 := Aside0.mk A50
  clear A50
  have HC6 := Aside0.mk H
  clear H
  go_enter Try.func4, Try.ntmps4
  go_upto_region 2 with (first | (go_at_call 12; (with_reducible refine (array_Size.calls _ _ l0 t224 t225 _ ?side1 ?side2 A5.out).mono ?_); (case side1 => repeat (first | exact HR0.out | (with_reducible refine Kd.C_alloc ?_ _) | (with_reducible refine Kd.C_drewN ?_ _) | (with_reducible refine Kd.C_drew ?_))); (case side2 => exact HC0.out); rintro e w7 ⟨rfl, hb⟩; have n0_ := Aside0.mk (below_step (by repeat (first | exact HB.out | apply below_alloc | apply pw_below_drewN | apply below_drew1)) hb); clear HB; have HB := n0_; clear n0_; (try clear hb)))
  repeat (go_quiet (first | (go_at_call 12; (with_reducible refine (array_Size.calls _ _ l0 t224 t225 _ ?side1 ?side2 A5.out).mono ?_); (case side1 => repeat (first | exact HR0.out | (with_reducible refine Kd.C_alloc ?_ _) | (with_reducible refine Kd.C_drewN ?_ _) | (with_reducible refine Kd.C_drew ?_))); (case side2 => exact HC0.out); rintro e w7 ⟨rfl, hb⟩; have n0_ := Aside0.mk (below_step (by repeat (first | exact HB.out | apply below_alloc | apply pw_below_drewN | apply below_drew1)) hb); clear HB; have HB := n0_; clear n0_; (try clear hb))); go_upto_region 2 with (first | (go_at_call 12; (with_reducible refine (array_Size.calls _ _ l0 t224 t225 _ ?side1 ?side2 A5.out).mono ?_); (case side1 => repeat (first | exact HR0.out | (with_reducible refine Kd.C_alloc ?_ _) | (with_reducible refine Kd.C_drewN ?_ _) | (with_reducible refine Kd.C_drew ?_))); (case side2 => exact HC0.out); rintro e w7 ⟨rfl, hb⟩; have n0_ := Aside0.mk (below_step (by repeat (first | exact HB.out | apply below_alloc | apply pw_below_drewN | apply below_drew1)) hb); clear HB; have HB := n0_; clear n0_; (try clear hb))))
  (try simp only [Act.put, List.setIfInBounds_toArray, List.set_cons_zero, List.set_cons_succ])
  go_cut [43] (fun v43 wc => ∃ (kq : Nat) (x43_5 : Bool), v43 = .bool x43_5 ∧ Aside0 (manorboylaw08_ArrayOrder.j0 kq l0 a1 a2 a3 t224 x43_5 = some r) ∧ Aside0 (kq ≤ k) ∧ Aside0 (Below w.heap.size w wc))
  case first =>
    as_aux_lemma =>
    have H := HC6.out
    clear HC6
    by_cases c8 : (l0.length : Int) > 6
    · rw [if_pos c8] at H
      have c8b0 : decide (6 < (l0.length : Int)) = true := decide_eq_true c8
      have c8b1 : decide (6 < l0.length) = true := decide_eq_true (by omega)
      clear c8
      (first | rw [c8b0] | (simp only [i64_w, i32_w]; rw [c8b0]) | skip)
      have H' := Aside0.mk H
      clear H
      go_wp2
      repeat (go_quiet (fail); try go_wp2)
      go_meet
      case rel => exact ⟨_, (true), (by first | rfl | (simp; done) | (simp [*]; done)), H', ⟨by first | omega | exact Nat.le_refl _⟩, ⟨by repeat (first | exact HB.out | apply below_alloc | apply pw_below_drewN | apply below_drew1)⟩⟩
    · rw [if_neg c8] at H
      have c8b0 : decide (6 < (l0.length : Int)) = false := decide_eq_false c8
      have c8b1 : decide (6 < l0.length) = false := decide_eq_false (by omega)
      clear c8
      (first | rw [c8b0] | (simp only [i64_w, i32_w]; rw [c8b0]) | skip)
      by_cases c9 : t225 = 0
      · rw [if_pos c9] at H
        have c9b0 : (t225 == 0) = true := beq_iff_eq.mpr c9
        have c9b1 : (t225 != 0) = false := bne_eq_false_iff_eq.mpr c9
        clear c9
        by_cases c10 : a1 < 0
        · rw [if_pos c10] at H
          have c10b0 : decide (a1 < 0) = true := decide_eq_true c10
          clear c10
          have H' := Aside0.mk H
          clear H
          go_wp2
          repeat (go_quiet (fail); try go_wp2)
          go_meet
          case rel => exact ⟨_, (true), (by first | rfl | (simp; done) | (simp [*]; done)), H', ⟨by first | omega | exact Nat.le_refl _⟩, ⟨by repeat (first | exact HB.out | apply below_alloc | apply pw_below_drewN | apply below_drew1)⟩⟩
        · rw [if_neg c10] at H
          have c10b0 : decide (a1 < 0) = false := decide_eq_false c10
          clear c10
          have H' := Aside0.mk H
          clear H
          go_wp2
          repeat (go_quiet (fail); try go_wp2)
          go_meet
          case rel => exact ⟨_, (decide (a2 < 0)), (by first | rfl | (simp; done) | (simp [*]; done)), H', ⟨by first | omega | exact Nat.le_refl _⟩, ⟨by repeat (first | exact HB.out | apply below_alloc | apply pw_below_drewN | apply below_drew1)⟩⟩
      · rw [if_neg c9] at H
        have c9b0 : (t225 == 0) = false := beq_eq_false_iff_ne.mpr c9
        have c9b1 : (t225 != 0) = true := bne_iff_ne.mpr c9
        have H' := Aside0.mk H
        clear H
        go_wp2
        repeat (go_quiet (fail); try go_wp2)
        go_meet
        case rel => exact ⟨_, (true), (by first | rfl | (simp; done) | (simp [*]; done)), H', ⟨by first | omega | exact Nat.le_refl _⟩, ⟨by repeat (first | exact HB.out | apply below_alloc | apply pw_below_drewN | apply below_drew1)⟩⟩
  case rest =>
    as_aux_lemma =>
    clear HC6
    try clear c1
    try clear p2
    try clear c4
    try clear c8
    try clear c8b0
    try clear c8b1
    try clear c9
    try clear c9b0
    try clear c9b1
    try clear c10
    try clear c10b0
    obtain ⟨kq, x43_5, rfl, HA, HJ5, HB⟩ := hcut
    cases kq with
    | zero => exact absurd HA.out (by simp [manorboylaw08_ArrayOrder.j0])
    | succ kj5 =>
      have H := HA.out
      clear HA
      simp only [manorboylaw08_ArrayOrder.j0] at H
      by_cases c11 : x43_5 = true
      · subst c11
        have H1 : ((manorboylaw08_sanity.f).bind fun t226 => (some t226)) = some r := by rw [if_pos rfl] at H; exact H
        clear H
        have H := H1
        clear H1
        replace H := Option.bind_eq_some_iff.mp H
        obtain ⟨t226, A120, H⟩ := H
        replace H : (some t226) = some r := H
        have A12 := Aside0.mk A120
        clear A120
        obtain rfl := Option.some.inj H
        go_wp2_with (first | (go_at_call 11; (with_reducible refine (manorboylaw08_sanity.calls  t226 _ A12.out).mono ?_); rintro e w13 ⟨rfl, hb⟩; have n0_ := Aside0.mk (below_step (by repeat (first | exact HB.out | apply below_alloc | apply pw_below_drewN | apply below_drew1)) hb); clear HB; have HB := n0_; clear n0_; (try clear hb)))
        repeat (go_quiet (first | (go_at_call 11; (with_reducible refine (manorboylaw08_sanity.calls  t226 _ A12.out).mono ?_); rintro e w13 ⟨rfl, hb⟩; have n0_ := Aside0.mk (below_step (by repeat (first | exact HB.out | apply below_alloc | apply pw_below_drewN | apply below_drew1)) hb); clear HB; have HB := n0_; clear n0_; (try clear hb))); try go_wp2_with (first | (go_at_call 11; (with_reducible refine (manorboylaw08_sanity.calls  t226 _ A12.out).mono ?_); rintro e w13 ⟨rfl, hb⟩; have n0_ := Aside0.mk (below_step (by repeat (first | exact HB.out | apply below_alloc | apply pw_below_drewN | apply below_drew1)) hb); clear HB; have HB := n0_; clear n0_; (try clear hb))))
        go_ret
        exact ⟨by first | rfl | (simp [errW_none, errW_some] <;> rfl) | (simp [*, errW_none, errW_some] <;> rfl), by repeat (first | exact HB.out | apply below_alloc | apply pw_below_drewN | apply below_drew1)⟩
      · replace c11 := Bool.eq_false_iff.mpr c11
        subst c11
        have H1 : (if t224 ≤ 0 then (some false) else (if t224 = 0 then (none) else ((array_SubscriptsH.f l0 (Int.tmod a1 t224)).bind fun bt227 => ((array_SubscriptsH.f l0 (Int.tmod a2 t224)).bind fun bt231 => ((array_Offset.f l0 bt227.1).bind fun bt235 => ((array_Offset.f l0 bt231.1).bind fun bt237 => ((array_Strides.f l0).bind fun bt239 => (if bt227.2 = 0 then (if bt231.2 = 0 then (if bt235.2 = 0 then (if bt237.2 = 0 then (if bt239.2.2 = 0 then (if bt235.1 = (Int.tmod a1 t224) then (if bt237.1 = (Int.tmod a2 t224) then ((manorboylaw08_less.f kj5 bt227.1 bt231.1).bind fun t244 => (if (t244 != (decide ((Int.tmod a1 t224) < (Int.tmod a2 t224)))) = true then (manorboylaw08_ArrayOrder.j1 kj5 l0 (Int.tmod a1 t224) a3 bt227.1 bt239.1 true) else (manorboylaw08_ArrayOrder.j1 kj5 l0 (Int.tmod a1 t224) a3 bt227.1 bt239.1 ((bt239.1.length : Int) != (l0.length : Int))))) else (manorboylaw08_ArrayOrder.j1 kj5 l0 (Int.tmod a1 t224) a3 bt227.1 bt239.1 true)) else (manorboylaw08_ArrayOrder.j1 kj5 l0 (Int.tmod a1 t224) a3 bt227.1 bt239.1 true)) else (manorboylaw08_ArrayOrder.j1 kj5 l0 (Int.tmod a1 t224) a3 bt227.1 bt239.1 true)) else (manorboylaw08_ArrayOrder.j1 kj5 l0 (Int.tmod a1 t224) a3 bt227.1 bt239.1 true)) else (manorboylaw08_ArrayOrder.j1 kj5 l0 (Int.tmod a1 t224) a3 bt227.1 bt239.1 true)) else (manorboylaw08_ArrayOrder.j1 kj5 l0 (Int.tmod a1 t224) a3 bt227.1 bt239.1 true)) else (manorboylaw08_ArrayOrder.j1 kj5 l0 (Int.tmod a1 t224) a3 bt227.1 bt239.1 true))))))))) = some r := by rw [if_neg (show ¬ (false = true) by decide)] at H; exact H
        clear H
        have H := H1
        clear H1
        by_cases c14 : t224 ≤ 0
        · rw [if_pos c14] at H
          have c14b0 : decide (t224 ≤ 0) = true := decide_eq_true c14
          clear c14
          obtain rfl := Option.some.inj H
          go_wp2
          repeat (go_quiet (fail); try go_wp2)
          go_ret
          exact ⟨by first | rfl | (simp [errW_none, errW_some] <;> rfl) | (simp [*, errW_none, errW_some] <;> rfl), by repeat (first | exact HB.out | apply below_alloc | apply pw_below_drewN | apply below_drew1)⟩
        · rw [if_neg c14] at H
          have c14b0 : decide (t224 ≤ 0) = false := decide_eq_false c14
          clear c14
          by_cases c15 : t224 = 0
          · rw [if_pos c15] at H
            exact absurd H (by simp)
          · rw [if_neg c15] at H
            have c15b0 : (t224 == 0) = false := beq_eq_false_iff_ne.mpr c15
            have c15b1 : (t224 != 0) = true := bne_iff_ne.mpr c15
            replace H := Option.bind_eq_some_iff.mp H
            obtain ⟨⟨t227, t228⟩, A160, H⟩ := H
            replace H : ((array_SubscriptsH.f l0 (Int.tmod a2 t224)).bind fun bt231 => ((array_Offset.f l0 t227).bind fun bt235 => ((array_Offset.f l0 bt231.1).bind fun bt237 => ((array_Strides.f l0).bind fun bt239 => (if t228 = 0 then (if bt231.2 = 0 then (if bt235.2 = 0 then (if bt237.2 = 0 then (if bt239.2.2 = 0 then (if bt235.1 = (Int.tmod a1 t224) then (if bt237.1 = (Int.tmod a2 t224) then ((manorboylaw08_less.f kj5 t227 bt231.1).bind fun t244 => (if (t244 != (decide ((Int.tmod a1 t224) < (Int.tmod a2 t224)))) = true then (manorboylaw08_ArrayOrder.j1 kj5 l0 (Int.tmod a1 t224) a3 t227 bt239.1 true) else (manorboylaw08_ArrayOrder.j1 kj5 l0 (Int.tmod a1 t224) a3 t227 bt239.1 ((bt239.1.length : Int) != (l0.length : Int))))) else (manorboylaw08_ArrayOrder.j1 kj5 l0 (Int.tmod a1 t224) a3 t227 bt239.1 true)) else (manorboylaw08_ArrayOrder.j1 kj5 l0 (Int.tmod a1 t224) a3 t227 bt239.1 true)) else (manorboylaw08_ArrayOrder.j1 kj5 l0 (Int.tmod a1 t224) a3 t227 bt239.1 true)) else (manorboylaw08_ArrayOrder.j1 kj5 l0 (Int.tmod a1 t224) a3 t227 bt239.1 true)) else (manorboylaw08_ArrayOrder.j1 kj5 l0 (Int.tmod a1 t224) a3 t227 bt239.1 true)) else (manorboylaw08_ArrayOrder.j1 kj5 l0 (Int.tmod a1 t224) a3 t227 bt239.1 true)) else (manorboylaw08_ArrayOrder.j1 kj5 l0 (Int.tmod a1 t224) a3 t227 bt239.1 true)))))) = some r := H
            have A16 := Aside0.mk A160
            clear A160
            replace H := Option.bind_eq_some_iff.mp H
            obtain ⟨⟨t231, t232⟩, A170, H⟩ := H
            replace H : ((array_Offset.f l0 t227).bind fun bt235 => ((array_Offset.f l0 t231).bind fun bt237 => ((array_Strides.f l0).bind fun bt239 => (if t228 = 0 then (if t232 = 0 then (if bt235.2 = 0 then (if bt237.2 = 0 then (if bt239.2.2 = 0 then (if bt235.1 = (Int.tmod a1 t224) then (if bt237.1 = (Int.tmod a2 t224) then ((manorboylaw08_less.f kj5 t227 t231).bind fun t244 => (if (t244 != (decide ((Int.tmod a1 t224) < (Int.tmod a2 t224)))) = true then (manorboylaw08_ArrayOrder.j1 kj5 l0 (Int.tmod a1 t224) a3 t227 bt239.1 true) else (manorboylaw08_ArrayOrder.j1 kj5 l0 (Int.tmod a1 t224) a3 t227 bt239.1 ((bt239.1.length : Int) != (l0.length : Int))))) else (manorboylaw08_ArrayOrder.j1 kj5 l0 (Int.tmod a1 t224) a3 t227 bt239.1 true)) else (manorboylaw08_ArrayOrder.j1 kj5 l0 (Int.tmod a1 t224) a3 t227 bt239.1 true)) else (manorboylaw08_ArrayOrder.j1 kj5 l0 (Int.tmod a1 t224) a3 t227 bt239.1 true)) else (manorboylaw08_ArrayOrder.j1 kj5 l0 (Int.tmod a1 t224) a3 t227 bt239.1 true)) else (manorboylaw08_ArrayOrder.j1 kj5 l0 (Int.tmod a1 t224) a3 t227 bt239.1 true)) else (manorboylaw08_ArrayOrder.j1 kj5 l0 (Int.tmod a1 t224) a3 t227 bt239.1 true)) else (manorboylaw08_ArrayOrder.j1 kj5 l0 (Int.tmod a1 t224) a3 t227 bt239.1 true))))) = some r := H
            have A17 := Aside0.mk A170
            clear A170
            replace H := Option.bind_eq_some_iff.mp H
            obtain ⟨⟨t235, t236⟩, A180, H⟩ := H
            replace H : ((array_Offset.f l0 t231).bind fun bt237 => ((array_Strides.f l0).bind fun bt239 => (if t228 = 0 then (if t232 = 0 then (if t236 = 0 then (if bt237.2 = 0 then (if bt239.2.2 = 0 then (if t235 = (Int.tmod a1 t224) then (if bt237.1 = (Int.tmod a2 t224) then ((manorboylaw08_less.f kj5 t227 t231).bind fun t244 => (if (t244 != (decide ((Int.tmod a1 t224) < (Int.tmod a2 t224)))) = true then (manorboylaw08_ArrayOrder.j1 kj5 l0 (Int.tmod a1 t224) a3 t227 bt239.1 true) else (manorboylaw08_ArrayOrder.j1 kj5 l0 (Int.tmod a1 t224) a3 t227 bt239.1 ((bt239.1.length : Int) != (l0.length : Int))))) else (manorboylaw08_ArrayOrder.j1 kj5 l0 (Int.tmod a1 t224) a3 t227 bt239.1 true)) else (manorboylaw08_ArrayOrder.j1 kj5 l0 (Int.tmod a1 t224) a3 t227 bt239.1 true)) else (manorboylaw08_ArrayOrder.j1 kj5 l0 (Int.tmod a1 t224) a3 t227 bt239.1 true)) else (manorboylaw08_ArrayOrder.j1 kj5 l0 (Int.tmod a1 t224) a3 t227 bt239.1 true)) else (manorboylaw08_ArrayOrder.j1 kj5 l0 (Int.tmod a1 t224) a3 t227 bt239.1 true)) else (manorboylaw08_ArrayOrder.j1 kj5 l0 (Int.tmod a1 t224) a3 t227 bt239.1 true)) else (manorboylaw08_ArrayOrder.j1 kj5 l0 (Int.tmod a1 t224) a3 t227 bt239.1 true)))) = some r := H
            have A18 := Aside0.mk A180
            clear A180
            replace H := Option.bind_eq_some_iff.mp H
            obtain ⟨⟨t237, t238⟩, A190, H⟩ := H
            replace H : ((array_Strides.f l0).bind fun bt239 => (if t228 = 0 then (if t232 = 0 then (if t236 = 0 then (if t238 = 0 then (if bt239.2.2 = 0 then (if t235 = (Int.tmod a1 t224) then (if t237 = (Int.tmod a2 t224) then ((manorboylaw08_less.f kj5 t227 t231).bind fun t244 => (if (t244 != (decide ((Int.tmod a1 t224) < (Int.tmod a2 t224)))) = true then (manorboylaw08_ArrayOrder.j1 kj5 l0 (Int.tmod a1 t224) a3 t227 bt239.1 true) else (manorboylaw08_ArrayOrder.j1 kj5 l0 (Int.tmod a1 t224) a3 t227 bt239.1 ((bt239.1.length : Int) != (l0.length : Int))))) else (manorboylaw08_ArrayOrder.j1 kj5 l0 (Int.tmod a1 t224) a3 t227 bt239.1 true)) else (manorboylaw08_ArrayOrder.j1 kj5 l0 (Int.tmod a1 t224) a3 t227 bt239.1 true)) else (manorboylaw08_ArrayOrder.j1 kj5 l0 (Int.tmod a1 t224) a3 t227 bt239.1 true)) else (manorboylaw08_ArrayOrder.j1 kj5 l0 (Int.tmod a1 t224) a3 t227 bt239.1 true)) else (manorboylaw08_ArrayOrder.j1 kj5 l0 (Int.tmod a1 t224) a3 t227 bt239.1 true)) else (manorboylaw08_ArrayOrder.j1 kj5 l0 (Int.tmod a1 t224) a3 t227 bt239.1 true)) else (manorboylaw08_ArrayOrder.j1 kj5 l0 (Int.tmod a1 t224) a3 t227 bt239.1 true))) = some r := H
            have A19 := Aside0.mk A190
            clear A190
            replace H := Option.bind_eq_some_iff.mp H
            obtain ⟨⟨t239, t240, t241⟩, A200, H⟩ := H
            replace H : (if t228 = 0 then (if t232 = 0 then (if t236 = 0 then (if t238 = 0 then (if t241 = 0 then (if t235 = (Int.tmod a1 t224) then (if t237 = (Int.tmod a2 t224) then ((manorboylaw08_less.f kj5 t227 t231).bind fun t244 => (if (t244 != (decide ((Int.tmod a1 t224) < (Int.tmod a2 t224)))) = true then (manorboylaw08_ArrayOrder.j1 kj5 l0 (Int.tmod a1 t224) a3 t227 t239 true) else (manorboylaw08_ArrayOrder.j1 kj5 l0 (Int.tmod a1 t224) a3 t227 t239 ((t239.length : Int) != (l0.length : Int))))) else (manorboylaw08_ArrayOrder.j1 kj5 l0 (Int.tmod a1 t224) a3 t227 t239 true)) else (manorboylaw08_ArrayOrder.j1 kj5 l0 (Int.tmod a1 t224) a3 t227 t239 true)) else (manorboylaw08_ArrayOrder.j1 kj5 l0 (Int.tmod a1 t224) a3 t227 t239 true)) else (manorboylaw08_ArrayOrder.j1 kj5 l0 (Int.tmod a1 t224) a3 t227 t239 true)) else (manorboylaw08_ArrayOrder.j1 kj5 l0 (Int.tmod a1 t224) a3 t227 t239 true)) else (manorboylaw08_ArrayOrder.j1 kj5 l0 (Int.tmod a1 t224) a3 t227 t239 true)) else (manorboylaw08_ArrayOrder.j1 kj5 l0 (Int.tmod a1 t224) a3 t227 t239 true)) = some r := H
            have A20 := Aside0.mk A200
            clear A200
            have HC21 := Aside0.mk H
            clear H
            go_upto_region 13 with (first | (go_at_call 14; (with_reducible refine (array_SubscriptsH.calls _ _ l0 (Int.tmod a1 t224) t227 t228 _ ?side1 ?side2 A16.out).mono ?_); (case side1 => repeat (first | exact (Kd.C_below HR0.out HB.out) | (with_reducible refine Kd.C_alloc ?_ _) | (with_reducible refine Kd.C_drewN ?_ _) | (with_reducible refine Kd.C_drew ?_))); (case side2 => exact HC0.out); rintro e w22 ⟨v229, rfl, ho0, hb⟩; have n0_ := Aside0.mk (Kd.R_lower ho0 (below_size (by repeat (first | exact HB.out | apply below_alloc | apply pw_below_drewN | apply below_drew1)))); have n1_ := Aside0.mk (below_step (by repeat (first | exact HB.out | apply below_alloc | apply pw_below_drewN | apply below_drew1)) hb); clear HB; have HO230 := n0_; have HB := n1_; clear n0_ n1_; (try clear hb); (try clear ho0)) | (go_at_call 14; (with_reducible refine (array_SubscriptsH.calls _ _ l0 (Int.tmod a2 t224) t231 t232 _ ?side1 ?side2 A17.out).mono ?_); (case side1 => repeat (first | exact (Kd.C_below HR0.out HB.out) | (with_reducible refine Kd.C_alloc ?_ _) | (with_reducible refine Kd.C_drewN ?_ _) | (with_reducible refine Kd.C_drew ?_))); (case side2 => exact HC0.out); rintro e w23 ⟨v233, rfl, ho0, hb⟩; have n0_ := Aside0.mk (Kd.R_elder' (by (with_reducible repeat (first | apply Kd.R_alloc | apply Kd.R_drewN | apply Kd.R_drew)); exact HO230.out) (Kd.R_base ho0) hb); have n1_ := Aside0.mk (Kd.R_lower (Kd.R_new' ho0 (Kd.R_lt (by (with_reducible repeat (first | apply Kd.R_alloc | apply Kd.R_drewN | apply Kd.R_drew)); exact HO230.out))) (below_size (by repeat (first | exact HB.out | apply below_alloc | apply pw_below_drewN | apply below_drew1)))); have n2_ := Aside0.mk (below_step (by repeat (first | exact HB.out | apply below_alloc | apply pw_below_drewN | apply below_drew1)) hb); clear HO230; clear HB; have HO230 := n0_; have HO234 := n1_; have HB := n2_; clear n0_ n1_ n2_; (try clear hb); (try clear ho0); obtain ⟨Ao24, co24, eo24⟩ := Kd.R_slice HO230.out; subst eo24) | (go_at_call 13; (with_reducible refine (array_Offset.calls _ _ l0 _ _ t227 t235 t236 _ ?side1 ?side2 ?side3 ?side4 A18.out).mono ?_); (case side1 => repeat (first | exact (Kd.C_below HR0.out HB.out) | (with_reducible refine Kd.C_alloc ?_ _) | (with_reducible refine Kd.C_drewN ?_ _) | (with_reducible refine Kd.C_drew ?_))); (case side2 => exact HC0.out); (case side3 => repeat (first | exact (Kd.R_reads' HO230.out).2.2 | (with_reducible refine Kd.C_alloc ?_ _) | (with_reducible refine Kd.C_drewN ?_ _) | (with_reducible refine Kd.C_drew ?_))); (case side4 => exact (Kd.R_reads' HO230.out).2.1); rintro e w25 ⟨rfl, hb⟩; have n0_ := Aside0.mk (Kd.R_below (by (with_reducible repeat (first | apply Kd.R_alloc | apply Kd.R_drewN | apply Kd.R_drew)); exact HO230.out) hb); have n1_ := Aside0.mk (Kd.R_below (by (with_reducible repeat (first | apply Kd.R_alloc | apply Kd.R_drewN | apply Kd.R_drew)); exact HO234.out) hb); have n2_ := Aside0.mk (below_step (by repeat (first | exact HB.out | apply below_alloc | apply pw_below_drewN | apply below_drew1)) hb); clear HO230; clear HO234; clear HB; have HO230 := n0_; have HO234 := n1_; have HB := n2_; clear n0_ n1_ n2_; (try clear hb); obtain ⟨Ao26, co26, eo26⟩ := Kd.R_slice HO234.out; subst eo26) | (go_at_call 13; (with_reducible refine (array_Offset.calls _ _ l0 _ _ t231 t237 t238 _ ?side1 ?side2 ?side3 ?side4 A19.out).mono ?_); (case side1 => repeat (first | exact (Kd.C_below HR0.out HB.out) | (with_reducible refine Kd.C_alloc ?_ _) | (with_reducible refine Kd.C_drewN ?_ _) | (with_reducible refine Kd.C_drew ?_))); (case side2 => exact HC0.out); (case side3 => repeat (first | exact (Kd.R_reads' HO234.out).2.2 | (with_reducible refine Kd.C_alloc ?_ _) | (with_reducible refine Kd.C_drewN ?_ _) | (with_reducible refine Kd.C_drew ?_))); (case side4 => exact (Kd.R_reads' HO234.out).2.1); rintro e w27 ⟨rfl, hb⟩; have n0_ := Aside0.mk (Kd.R_below (by (with_reducible repeat (first | apply Kd.R_alloc | apply Kd.R_drewN | apply Kd.R_drew)); exact HO230.out) hb); have n1_ := Aside0.mk (Kd.R_below (by (with_reducible repeat (first | apply Kd.R_alloc | apply Kd.R_drewN | apply Kd.R_drew)); exact HO234.out) hb); have n2_ := Aside0.mk (below_step (by repeat (first | exact HB.out | apply below_alloc | apply pw_below_drewN | apply below_drew1)) hb); clear HO230; clear HO234; clear HB; have HO230 := n0_; have HO234 := n1_; have HB := n2_; clear n0_ n1_ n2_; (try clear hb)) | (go_at_call 15; (with_reducible refine (array_Strides.calls _ _ l0 t239 t240 t241 _ ?side1 ?side2 A20.out).mono ?_); (case side1 => repeat (first | exact (Kd.C_below HR0.out HB.out) | (with_reducible refine Kd.C_alloc ?_ _) | (with_reducible refine Kd.C_drewN ?_ _) | (with_reducible refine Kd.C_drew ?_))); (case side2 => exact HC0.out); rintro e w28 ⟨v242, rfl, ho0, hb⟩; have n0_ := Aside0.mk (Kd.R_elder' (by (with_reducible repeat (first | apply Kd.R_alloc | apply Kd.R_drewN | apply Kd.R_drew)); exact HO230.out) (Kd.R_base ho0) hb); have n1_ := Aside0.mk (Kd.R_elder' (by (with_reducible repeat (first | apply Kd.R_alloc | apply Kd.R_drewN | apply Kd.R_drew)); exact HO234.out) (Kd.R_base ho0) hb); have n2_ := Aside0.mk (Kd.R_lower (Kd.R_new' (Kd.R_new' ho0 (Kd.R_lt (by (with_reducible repeat (first | apply Kd.R_alloc | apply Kd.R_drewN | apply Kd.R_drew)); exact HO230.out))) (Kd.R_lt (by (with_reducible repeat (first | apply Kd.R_alloc | apply Kd.R_drewN | apply Kd.R_drew)); exact HO234.out))) (below_size (by repeat (first | exact HB.out | apply below_alloc | apply pw_below_drewN | apply below_drew1)))); have n3_ := Aside0.mk (below_step (by repeat (first | exact HB.out | apply below_alloc | apply pw_below_drewN | apply below_drew1)) hb); clear HO230; clear HO234; clear HB; have HO230 := n0_; have HO234 := n1_; have HO243 := n2_; have HB := n3_; clear n0_ n1_ n2_ n3_; (try clear hb); (try clear ho0)))
            repeat (go_quiet (first | (go_at_call 14; (with_reducible refine (array_SubscriptsH.calls _ _ l0 (Int.tmod a1 t224) t227 t228 _ ?side1 ?side2 A16.out).mono ?_); (case side1 => repeat (first | exact (Kd.C_below HR0.out HB.out) | (with_reducible refine Kd.C_alloc ?_ _) | (with_reducible refine Kd.C_drewN ?_ _) | (with_reducible refine Kd.C_drew ?_))); (case side2 => exact HC0.out); rintro e w22 ⟨v229, rfl, ho0, hb⟩; have n0_ := Aside0.mk (Kd.R_lower ho0 (below_size (by repeat (first | exact HB.out | apply below_alloc | apply pw_below_drewN | apply below_drew1)))); have n1_ := Aside0.mk (below_step (by repeat (first | exact HB.out | apply below_alloc | apply pw_below_drewN | apply below_drew1)) hb); clear HB; have HO230 := n0_; have HB := n1_; clear n0_ n1_; (try clear hb); (try clear ho0)) | (go_at_call 14; (with_reducible refine (array_SubscriptsH.calls _ _ l0 (Int.tmod a2 t224) t231 t232 _ ?side1 ?side2 A17.out).mono ?_); (case side1 => repeat (first | exact (Kd.C_below HR0.out HB.out) | (with_reducible refine Kd.C_alloc ?_ _) | (with_reducible refine Kd.C_drewN ?_ _) | (with_reducible refine Kd.C_drew ?_))); (case side2 => exact HC0.out); rintro e w23 ⟨v233, rfl, ho0, hb⟩; have n0_ := Aside0.mk (Kd.R_elder' (by (with_reducible repeat (first | apply Kd.R_alloc | apply Kd.R_drewN | apply Kd.R_drew)); exact HO230.out) (Kd.R_base ho0) hb); have n1_ := Aside0.mk (Kd.R_lower (Kd.R_new' ho0 (Kd.R_lt (by (with_reducible repeat (first | apply Kd.R_alloc | apply Kd.R_drewN | apply Kd.R_drew)); exact HO230.out))) (below_size (by repeat (first | exact HB.out | apply below_alloc | apply pw_below_drewN | apply below_drew1)))); have n2_ := Aside0.mk (below_step (by repeat (first | exact HB.out | apply below_alloc | apply pw_below_drewN | apply below_drew1)) hb); clear HO230; clear HB; have HO230 := n0_; have HO234 := n1_; have HB := n2_; clear n0_ n1_ n2_; (try clear hb); (try clear ho0); obtain ⟨Ao24, co24, eo24⟩ := Kd.R_slice HO230.out; subst eo24) | (go_at_call 13; (with_reducible refine (array_Offset.calls _ _ l0 _ _ t227 t235 t236 _ ?side1 ?side2 ?side3 ?side4 A18.out).mono ?_); (case side1 => repeat (first | exact (Kd.C_below HR0.out HB.out) | (with_reducible refine Kd.C_alloc ?_ _) | (with_reducible refine Kd.C_drewN ?_ _) | (with_reducible refine Kd.C_drew ?_))); (case side2 => exact HC0.out); (case side3 => repeat (first | exact (Kd.R_reads' HO230.out).2.2 | (with_reducible refine Kd.C_alloc ?_ _) | (with_reducible refine Kd.C_drewN ?_ _) | (with_reducible refine Kd.C_drew ?_))); (case side4 => exact (Kd.R_reads' HO230.out).2.1); rintro e w25 ⟨rfl, hb⟩; have n0_ := Aside0.mk (Kd.R_below (by (with_reducible repeat (first | apply Kd.R_alloc | apply Kd.R_drewN | apply Kd.R_drew)); exact HO230.out) hb); have n1_ := Aside0.mk (Kd.R_below (by (with_reducible repeat (first | apply Kd.R_alloc | apply Kd.R_drewN | apply Kd.R_drew)); exact HO234.out) hb); have n2_ := Aside0.mk (below_step (by repeat (first | exact HB.out | apply below_alloc | apply pw_below_drewN | apply below_drew1)) hb); clear HO230; clear HO234; clear HB; have HO230 := n0_; have HO234 := n1_; have HB := n2_; clear n0_ n1_ n2_; (try clear hb); obtain ⟨Ao26, co26, eo26⟩ := Kd.R_slice HO234.out; subst eo26) | (go_at_call 13; (with_reducible refine (array_Offset.calls _ _ l0 _ _ t231 t237 t238 _ ?side1 ?side2 ?side3 ?side4 A19.out).mono ?_); (case side1 => repeat (first | exact (Kd.C_below HR0.out HB.out) | (with_reducible refine Kd.C_alloc ?_ _) | (with_reducible refine Kd.C_drewN ?_ _) | (with_reducible refine Kd.C_drew ?_))); (case side2 => exact HC0.out); (case side3 => repeat (first | exact (Kd.R_reads' HO234.out).2.2 | (with_reducible refine Kd.C_alloc ?_ _) | (with_reducible refine Kd.C_drewN ?_ _) | (with_reducible refine Kd.C_drew ?_))); (case side4 => exact (Kd.R_reads' HO234.out).2.1); rintro e w27 ⟨rfl, hb⟩; have n0_ := Aside0.mk (Kd.R_below (by (with_reducible repeat (first | apply Kd.R_alloc | apply Kd.R_drewN | apply Kd.R_drew)); exact HO230.out) hb); have n1_ := Aside0.mk (Kd.R_below (by (with_reducible repeat (first | apply Kd.R_alloc | apply Kd.R_drewN | apply Kd.R_drew)); exact HO234.out) hb); have n2_ := Aside0.mk (below_step (by repeat (first | exact HB.out | apply below_alloc | apply pw_below_drewN | apply below_drew1)) hb); clear HO230; clear HO234; clear HB; have HO230 := n0_; have HO234 := n1_; have HB := n2_; clear n0_ n1_ n2_; (try clear hb)) | (go_at_call 15; (with_reducible refine (array_Strides.calls _ _ l0 t239 t240 t241 _ ?side1 ?side2 A20.out).mono ?_); (case side1 => repeat (first | exact (Kd.C_below HR0.out HB.out) | (with_reducible refine Kd.C_alloc ?_ _) | (with_reducible refine Kd.C_drewN ?_ _) | (with_reducible refine Kd.C_drew ?_))); (case side2 => exact HC0.out); rintro e w28 ⟨v242, rfl, ho0, hb⟩; have n0_ := Aside0.mk (Kd.R_elder' (by (with_reducible repeat (first | apply Kd.R_alloc | apply Kd.R_drewN | apply Kd.R_drew)); exact HO230.out) (Kd.R_base ho0) hb); have n1_ := Aside0.mk (Kd.R_elder' (by (with_reducible repeat (first | apply Kd.R_alloc | apply Kd.R_drewN | apply Kd.R_drew)); exact HO234.out) (Kd.R_base ho0) hb); have n2_ := Aside0.mk (Kd.R_lower (Kd.R_new' (Kd.R_new' ho0 (Kd.R_lt (by (with_reducible repeat (first | apply Kd.R_alloc | apply Kd.R_drewN | apply Kd.R_drew)); exact HO230.out))) (Kd.R_lt (by (with_reducible repeat (first | apply Kd.R_alloc | apply Kd.R_drewN | apply Kd.R_drew)); exact HO234.out))) (below_size (by repeat (first | exact HB.out | apply below_alloc | apply pw_below_drewN | apply below_drew1)))); have n3_ := Aside0.mk (below_step (by repeat (first | exact HB.out | apply below_alloc | apply pw_below_drewN | apply below_drew1)) hb); clear HO230; clear HO234; clear HB; have HO230 := n0_; have HO234 := n1_; have HO243 := n2_; have HB := n3_; clear n0_ n1_ n2_ n3_; (try clear hb); (try clear ho0))); go_upto_region 13 with (first | (go_at_call 14; (with_reducible refine (array_SubscriptsH.calls _ _ l0 (Int.tmod a1 t224) t227 t228 _ ?side1 ?side2 A16.out).mono ?_); (case side1 => repeat (first | exact (Kd.C_below HR0.out HB.out) | (with_reducible refine Kd.C_alloc ?_ _) | (with_reducible refine Kd.C_drewN ?_ _) | (with_reducible refine Kd.C_drew ?_))); (case side2 => exact HC0.out); rintro e w22 ⟨v229, rfl, ho0, hb⟩; have n0_ := Aside0.mk (Kd.R_lower ho0 (below_size (by repeat (first | exact HB.out | apply below_alloc | apply pw_below_drewN | apply below_drew1)))); have n1_ := Aside0.mk (below_step (by repeat (first | exact HB.out | apply below_alloc | apply pw_below_drewN | apply below_drew1)) hb); clear HB; have HO230 := n0_; have HB := n1_; clear n0_ n1_; (try clear hb); (try clear ho0)) | (go_at_call 14; (with_reducible refine (array_SubscriptsH.calls _ _ l0 (Int.tmod a2 t224) t231 t232 _ ?side1 ?side2 A17.out).mono ?_); (case side1 => repeat (first | exact (Kd.C_below HR0.out HB.out) | (with_reducible refine Kd.C_alloc ?_ _) | (with_reducible refine Kd.C_drewN ?_ _) | (with_reducible refine Kd.C_drew ?_))); (case side2 => exact HC0.out); rintro e w23 ⟨v233, rfl, ho0, hb⟩; have n0_ := Aside0.mk (Kd.R_elder' (by (with_reducible repeat (first | apply Kd.R_alloc | apply Kd.R_drewN | apply Kd.R_drew)); exact HO230.out) (Kd.R_base ho0) hb); have n1_ := Aside0.mk (Kd.R_lower (Kd.R_new' ho0 (Kd.R_lt (by (with_reducible repeat (first | apply Kd.R_alloc | apply Kd.R_drewN | apply Kd.R_drew)); exact HO230.out))) (below_size (by repeat (first | exact HB.out | apply below_alloc | apply pw_below_drewN | apply below_drew1)))); have n2_ := Aside0.mk (below_step (by repeat (first | exact HB.out | apply below_alloc | apply pw_below_drewN | apply below_drew1)) hb); clear HO230; clear HB; have HO230 := n0_; have HO234 := n1_; have HB := n2_; clear n0_ n1_ n2_; (try clear hb); (try clear ho0); obtain ⟨Ao24, co24, eo24⟩ := Kd.R_slice HO230.out; subst eo24) | (go_at_call 13; (with_reducible refine (array_Offset.calls _ _ l0 _ _ t227 t235 t236 _ ?side1 ?side2 ?side3 ?side4 A18.out).mono ?_); (case side1 => repeat (first | exact (Kd.C_below HR0.out HB.out) | (with_reducible refine Kd.C_alloc ?_ _) | (with_reducible refine Kd.C_drewN ?_ _) | (with_reducible refine Kd.C_drew ?_))); (case side2 => exact HC0.out); (case side3 => repeat (first | exact (Kd.R_reads' HO230.out).2.2 | (with_reducible refine Kd.C_alloc ?_ _) | (with_reducible refine Kd.C_drewN ?_ _) | (with_reducible refine Kd.C_drew ?_))); (case side4 => exact (Kd.R_reads' HO230.out).2.1); rintro e w25 ⟨rfl, hb⟩; have n0_ := Aside0.mk (Kd.R_below (by (with_reducible repeat (first | apply Kd.R_alloc | apply Kd.R_drewN | apply Kd.R_drew)); exact HO230.out) hb); have n1_ := Aside0.mk (Kd.R_below (by (with_reducible repeat (first | apply Kd.R_alloc | apply Kd.R_drewN | apply Kd.R_drew)); exact HO234.out) hb); have n2_ := Aside0.mk (below_step (by repeat (first | exact HB.out | apply below_alloc | apply pw_below_drewN | apply below_drew1)) hb); clear HO230; clear HO234; clear HB; have HO230 := n0_; have HO234 := n1_; have HB := n2_; clear n0_ n1_ n2_; (try clear hb); obtain ⟨Ao26, co26, eo26⟩ := Kd.R_slice HO234.out; subst eo26) | (go_at_call 13; (with_reducible refine (array_Offset.calls _ _ l0 _ _ t231 t237 t238 _ ?side1 ?side2 ?side3 ?side4 A19.out).mono ?_); (case side1 => repeat (first | exact (Kd.C_below HR0.out HB.out) | (with_reducible refine Kd.C_alloc ?_ _) | (with_reducible refine Kd.C_drewN ?_ _) | (with_reducible refine Kd.C_drew ?_))); (case side2 => exact HC0.out); (case side3 => repeat (first | exact (Kd.R_reads' HO234.out).2.2 | (with_reducible refine Kd.C_alloc ?_ _) | (with_reducible refine Kd.C_drewN ?_ _) | (with_reducible refine Kd.C_drew ?_))); (case side4 => exact (Kd.R_reads' HO234.out).2.1); rintro e w27 ⟨rfl, hb⟩; have n0_ := Aside0.mk (Kd.R_below (by (with_reducible repeat (first | apply Kd.R_alloc | apply Kd.R_drewN | apply Kd.R_drew)); exact HO230.out) hb); have n1_ := Aside0.mk (Kd.R_below (by (with_reducible repeat (first | apply Kd.R_alloc | apply Kd.R_drewN | apply Kd.R_drew)); exact HO234.out) hb); have n2_ := Aside0.mk (below_step (by repeat (first | exact HB.out | apply below_alloc | apply pw_below_drewN | apply below_drew1)) hb); clear HO230; clear HO234; clear HB; have HO230 := n0_; have HO234 := n1_; have HB := n2_; clear n0_ n1_ n2_; (try clear hb)) | (go_at_call 15; (with_reducible refine (array_Strides.calls _ _ l0 t239 t240 t241 _ ?side1 ?side2 A20.out).mono ?_); (case side1 => repeat (first | exact (Kd.C_below HR0.out HB.out) | (with_reducible refine Kd.C_alloc ?_ _) | (with_reducible refine Kd.C_drewN ?_ _) | (with_reducible refine Kd.C_drew ?_))); (case side2 => exact HC0.out); rintro e w28 ⟨v242, rfl, ho0, hb⟩; have n0_ := Aside0.mk (Kd.R_elder' (by (with_reducible repeat (first | apply Kd.R_alloc | apply Kd.R_drewN | apply Kd.R_drew)); exact HO230.out) (Kd.R_base ho0) hb); have n1_ := Aside0.mk (Kd.R_elder' (by (with_reducible repeat (first | apply Kd.R_alloc | apply Kd.R_drewN | apply Kd.R_drew)); exact HO234.out) (Kd.R_base ho0) hb); have n2_ := Aside0.mk (Kd.R_lower (Kd.R_new' (Kd.R_new' ho0 (Kd.R_lt (by (with_reducible repeat (first | apply Kd.R_alloc | apply Kd.R_drewN | apply Kd.R_drew)); exact HO230.out))) (Kd.R_lt (by (with_reducible repeat (first | apply Kd.R_alloc | apply Kd.R_drewN | apply Kd.R_drew)); exact HO234.out))) (below_size (by repeat (first | exact HB.out | apply below_alloc | apply pw_below_drewN | apply below_drew1)))); have n3_ := Aside0.mk (below_step (by repeat (first | exact HB.out | apply below_alloc | apply pw_below_drewN | apply below_drew1)) hb); clear HO230; clear HO234; clear HB; have HO230 := n0_; have HO234 := n1_; have HO243 := n2_; have HB := n3_; clear n0_ n1_ n2_ n3_; (try clear hb); (try clear ho0))))
            (try simp only [Act.put, List.setIfInBounds_toArray, List.set_cons_zero, List.set_cons_succ])
            go_cut [126] (fun v126 wc => ∃ (kq : Nat) (x126_20 : Bool), v126 = .bool x126_20 ∧ Aside0 (manorboylaw08_ArrayOrder.j1 kq l0 (Int.tmod a1 t224) a3 t227 t239 x126_20 = some r) ∧ Aside0 (kq ≤ kj5) ∧ Aside0 (Kd.R (Kd.int .i64) 3 wc w.heap.size (fun k_ => some k_ ≠ (v242 : Value).ownBlock) (.slice Ao24 t227.length co24) t227) ∧ Aside0 (Kd.R (Kd.int .i64) 3 wc w.heap.size (fun k_ => some k_ ≠ ((.slice Ao24 t227.length co24) : Value).ownBlock) v242 t239) ∧ Aside0 (Below w.heap.size w wc))
            case first =>
              as_aux_lemma =>
              have H := HC21.out
              clear HC21
              by_cases c29 : t228 = 0
              · rw [if_pos c29] at H
                have c29b0 : (t228 == 0) = true := beq_iff_eq.mpr c29
                have c29b1 : (t228 != 0) = false := bne_eq_false_iff_eq.mpr c29
                clear c29
                (first | rw [c29b0] | (simp only [i64_w, i32_w]; rw [c29b0]) | skip)
                by_cases c30 : t232 = 0
                · rw [if_pos c30] at H
                  have c30b0 : (t232 == 0) = true := beq_iff_eq.mpr c30
                  have c30b1 : (t232 != 0) = false := bne_eq_false_iff_eq.mpr c30
                  clear c30
                  by_cases c31 : t236 = 0
                  · rw [if_pos c31] at H
                    have c31b0 : (t236 == 0) = true := beq_iff_eq.mpr c31
                    have c31b1 : (t236 != 0) = false := bne_eq_false_iff_eq.mpr c31
                    clear c31
                    by_cases c32 : t238 = 0
                    · rw [if_pos c32] at H
                      have c32b0 : (t238 == 0) = true := beq_iff_eq.mpr c32
                      have c32b1 : (t238 != 0) = false := bne_eq_false_iff_eq.mpr c32
                      clear c32
                      by_cases c33 : t241 = 0
                      · rw [if_pos c33] at H
                        have c33b0 : (t241 == 0) = true := beq_iff_eq.mpr c33
                        have c33b1 : (t241 != 0) = false := bne_eq_false_iff_eq.mpr c33
                        clear c33
                        by_cases c34 : t235 = (Int.tmod a1 t224)
                        · rw [if_pos c34] at H
                          have c34b0 : (t235 == (Int.tmod a1 t224)) = true := beq_iff_eq.mpr c34
                          have c34b1 : (t235 != (Int.tmod a1 t224)) = false := bne_eq_false_iff_eq.mpr c34
                          clear c34
                          by_cases c35 : t237 = (Int.tmod a2 t224)
                          · rw [if_pos c35] at H
                            have c35b0 : (t237 == (Int.tmod a2 t224)) = true := beq_iff_eq.mpr c35
                            have c35b1 : (t237 != (Int.tmod a2 t224)) = false := bne_eq_false_iff_eq.mpr c35
                            clear c35
                            replace H := Option.bind_eq_some_iff.mp H
                            obtain ⟨t244, A360, H⟩ := H
                            replace H : (if (t244 != (decide ((Int.tmod a1 t224) < (Int.tmod a2 t224)))) = true then (manorboylaw08_ArrayOrder.j1 kj5 l0 (Int.tmod a1 t224) a3 t227 t239 true) else (manorboylaw08_ArrayOrder.j1 kj5 l0 (Int.tmod a1 t224) a3 t227 t239 ((t239.length : Int) != (l0.length : Int)))) = some r := H
                            have A36 := Aside0.mk A360
                            clear A360
                            by_cases c37 : (t244 != (decide ((Int.tmod a1 t224) < (Int.tmod a2 t224)))) = true
                            · rw [if_pos c37] at H
                              have c37b0 : (t244 != (decide ((Int.tmod a1 t224) < (Int.tmod a2 t224)))) = true := c37
                              (try (have c37b1 : decide (t244 = (decide ((Int.tmod a1 t224) < (Int.tmod a2 t224)))) = false := by simpa using c37))
                              (try (have c37b2 : (t244 == (decide ((Int.tmod a1 t224) < (Int.tmod a2 t224)))) = false := by simpa using c37))
                              (try (have c37b3 : ¬ (t244 = (decide ((Int.tmod a1 t224) < (Int.tmod a2 t224)))) := by simpa using c37))
                              clear c37
                              have H' := Aside0.mk H
                              clear H
                              go_wp2_with (first | (go_at_call 20; (with_reducible refine (manorboylaw08_less.calls kj5 _ _ t227 _ _ t231 t244 _ ?side1 ?side2 ?side3 ?side4 A36.out).mono ?_); (case side1 => repeat (first | exact (Kd.R_reads' HO230.out).2.2 | (with_reducible refine Kd.C_alloc ?_ _) | (with_reducible refine Kd.C_drewN ?_ _) | (with_reducible refine Kd.C_drew ?_))); (case side2 => exact (Kd.R_reads' HO230.out).2.1); (case side3 => repeat (first | exact (Kd.R_reads' HO234.out).2.2 | (with_reducible refine Kd.C_alloc ?_ _) | (with_reducible refine Kd.C_drewN ?_ _) | (with_reducible refine Kd.C_drew ?_))); (case side4 => exact (Kd.R_reads' HO234.out).2.1); rintro e w' ⟨rfl, ⟨nd, rfl⟩⟩; (try first | exact ⟨rfl, _, World.drewN_drewN _ _ _⟩ | exact ⟨rfl, _, Eq.trans (World.drewN_drewN _ _ _) (congrArg (World.drewN _) (Nat.add_assoc _ _ _))⟩)))
                              repeat (go_quiet (first | (go_at_call 20; (with_reducible refine (manorboylaw08_less.calls kj5 _ _ t227 _ _ t231 t244 _ ?side1 ?side2 ?side3 ?side4 A36.out).mono ?_); (case side1 => repeat (first | exact (Kd.R_reads' HO230.out).2.2 | (with_reducible refine Kd.C_alloc ?_ _) | (with_reducible refine Kd.C_drewN ?_ _) | (with_reducible refine Kd.C_drew ?_))); (case side2 => exact (Kd.R_reads' HO230.out).2.1); (case side3 => repeat (first | exact (Kd.R_reads' HO234.out).2.2 | (with_reducible refine Kd.C_alloc ?_ _) | (with_reducible refine Kd.C_drewN ?_ _) | (with_reducible refine Kd.C_drew ?_))); (case side4 => exact (Kd.R_reads' HO234.out).2.1); rintro e w' ⟨rfl, ⟨nd, rfl⟩⟩; (try first | exact ⟨rfl, _, World.drewN_drewN _ _ _⟩ | exact ⟨rfl, _, Eq.trans (World.drewN_drewN _ _ _) (congrArg (World.drewN _) (Nat.add_assoc _ _ _))⟩))); try go_wp2_with (first | (go_at_call 20; (with_reducible refine (manorboylaw08_less.calls kj5 _ _ t227 _ _ t231 t244 _ ?side1 ?side2 ?side3 ?side4 A36.out).mono ?_); (case side1 => repeat (first | exact (Kd.R_reads' HO230.out).2.2 | (with_reducible refine Kd.C_alloc ?_ _) | (with_reducible refine Kd.C_drewN ?_ _) | (with_reducible refine Kd.C_drew ?_))); (case side2 => exact (Kd.R_reads' HO230.out).2.1); (case side3 => repeat (first | exact (Kd.R_reads' HO234.out).2.2 | (with_reducible refine Kd.C_alloc ?_ _) | (with_reducible refine Kd.C_drewN ?_ _) | (with_reducible refine Kd.C_drew ?_))); (case side4 => exact (Kd.R_reads' HO234.out).2.1); rintro e w' ⟨rfl, ⟨nd, rfl⟩⟩; (try first | exact ⟨rfl, _, World.drewN_drewN _ _ _⟩ | exact ⟨rfl, _, Eq.trans (World.drewN_drewN _ _ _) (congrArg (World.drewN _) (Nat.add_assoc _ _ _))⟩))))
                              go_meet
                              case rel => exact ⟨_, (true), (by first | rfl | (simp; done) | (simp [*]; done)), H', ⟨by have := HJ5.out; first | omega | exact Nat.le_refl _⟩, ⟨by (with_reducible repeat (first | apply Kd.R_alloc | apply Kd.R_drewN | apply Kd.R_drew)); exact Kd.R_mono HO230.out (fun _ hk => hk.2)⟩, ⟨by (with_reducible repeat (first | apply Kd.R_alloc | apply Kd.R_drewN | apply Kd.R_drew)); exact Kd.R_mono HO243.out (fun _ hk => hk.1.2)⟩, ⟨by repeat (first | exact HB.out | apply below_alloc | apply pw_below_drewN | apply below_drew1)⟩⟩
                            · rw [if_neg c37] at H
                              have c37b0 : (t244 != (decide ((Int.tmod a1 t224) < (Int.tmod a2 t224)))) = false := by simpa using c37
                              (try (have c37b1 : decide (t244 = (decide ((Int.tmod a1 t224) < (Int.tmod a2 t224)))) = true := by simpa using c37))
                              (try (have c37b2 : (t244 == (decide ((Int.tmod a1 t224) < (Int.tmod a2 t224)))) = true := by simpa using c37))
                              clear c37
                              have H' := Aside0.mk H
                              clear H
                              go_wp2_with (first | (go_at_call 20; (with_reducible refine (manorboylaw08_less.calls kj5 _ _ t227 _ _ t231 t244 _ ?side1 ?side2 ?side3 ?side4 A36.out).mono ?_); (case side1 => repeat (first | exact (Kd.R_reads' HO230.out).2.2 | (with_reducible refine Kd.C_alloc ?_ _) | (with_reducible refine Kd.C_drewN ?_ _) | (with_reducible refine Kd.C_drew ?_))); (case side2 => exact (Kd.R_reads' HO230.out).2.1); (case side3 => repeat (first | exact (Kd.R_reads' HO234.out).2.2 | (with_reducible refine Kd.C_alloc ?_ _) | (with_reducible refine Kd.C_drewN ?_ _) | (with_reducible refine Kd.C_drew ?_))); (case side4 => exact (Kd.R_reads' HO234.out).2.1); rintro e w' ⟨rfl, ⟨nd, rfl⟩⟩; (try first | exact ⟨rfl, _, World.drewN_drewN _ _ _⟩ | exact ⟨rfl, _, Eq.trans (World.drewN_drewN _ _ _) (congrArg (World.drewN _) (Nat.add_assoc _ _ _))⟩); obtain ⟨Ao38, co38, eo38⟩ := Kd.R_slice HO243.out; subst eo38))
                              repeat (go_quiet (first | (go_at_call 20; (with_reducible refine (manorboylaw08_less.calls kj5 _ _ t227 _ _ t231 t244 _ ?side1 ?side2 ?side3 ?side4 A36.out).mono ?_); (case side1 => repeat (first | exact (Kd.R_reads' HO230.out).2.2 | (with_reducible refine Kd.C_alloc ?_ _) | (with_reducible refine Kd.C_drewN ?_ _) | (with_reducible refine Kd.C_drew ?_))); (case side2 => exact (Kd.R_reads' HO230.out).2.1); (case side3 => repeat (first | exact (Kd.R_reads' HO234.out).2.2 | (with_reducible refine Kd.C_alloc ?_ _) | (with_reducible refine Kd.C_drewN ?_ _) | (with_reducible refine Kd.C_drew ?_))); (case side4 => exact (Kd.R_reads' HO234.out).2.1); rintro e w' ⟨rfl, ⟨nd, rfl⟩⟩; (try first | exact ⟨rfl, _, World.drewN_drewN _ _ _⟩ | exact ⟨rfl, _, Eq.trans (World.drewN_drewN _ _ _) (congrArg (World.drewN _) (Nat.add_assoc _ _ _))⟩); obtain ⟨Ao38, co38, eo38⟩ := Kd.R_slice HO243.out; subst eo38)); try go_wp2_with (first | (go_at_call 20; (with_reducible refine (manorboylaw08_less.calls kj5 _ _ t227 _ _ t231 t244 _ ?side1 ?side2 ?side3 ?side4 A36.out).mono ?_); (case side1 => repeat (first | exact (Kd.R_reads' HO230.out).2.2 | (with_reducible refine Kd.C_alloc ?_ _) | (with_reducible refine Kd.C_drewN ?_ _) | (with_reducible refine Kd.C_drew ?_))); (case side2 => exact (Kd.R_reads' HO230.out).2.1); (case side3 => repeat (first | exact (Kd.R_reads' HO234.out).2.2 | (with_reducible refine Kd.C_alloc ?_ _) | (with_reducible refine Kd.C_drewN ?_ _) | (with_reducible refine Kd.C_drew ?_))); (case side4 => exact (Kd.R_reads' HO234.out).2.1); rintro e w' ⟨rfl, ⟨nd, rfl⟩⟩; (try first | exact ⟨rfl, _, World.drewN_drewN _ _ _⟩ | exact ⟨rfl, _, Eq.trans (World.drewN_drewN _ _ _) (congrArg (World.drewN _) (Nat.add_assoc _ _ _))⟩); obtain ⟨Ao38, co38, eo38⟩ := Kd.R_slice HO243.out; subst eo38)))
                              go_meet
                              case rel => exact ⟨_, (((t239.length : Int) != (l0.length : Int))), (by first | rfl | (simp; done) | (simp [*]; done)), H', ⟨by have := HJ5.out; first | omega | exact Nat.le_refl _⟩, ⟨by (with_reducible repeat (first | apply Kd.R_alloc | apply Kd.R_drewN | apply Kd.R_drew)); exact Kd.R_mono HO230.out (fun _ hk => hk.2)⟩, ⟨by (with_reducible repeat (first | apply Kd.R_alloc | apply Kd.R_drewN | apply Kd.R_drew)); exact Kd.R_mono HO243.out (fun _ hk => hk.1.2)⟩, ⟨by repeat (first | exact HB.out | apply below_alloc | apply pw_below_drewN | apply below_drew1)⟩⟩
                          · rw [if_neg c35] at H
                            have c35b0 : (t237 == (Int.tmod a2 t224)) = false := beq_eq_false_iff_ne.mpr c35
                            have c35b1 : (t237 != (Int.tmod a2 t224)) = true := bne_iff_ne.mpr c35
                            have H' := Aside0.mk H
                            clear H
                            go_wp2
                            repeat (go_quiet (fail); try go_wp2)
                            go_meet
                            case rel => exact ⟨_, (true), (by first | rfl | (simp; done) | (simp [*]; done)), H', ⟨by have := HJ5.out; first | omega | exact Nat.le_refl _⟩, ⟨by (with_reducible repeat (first | apply Kd.R_alloc | apply Kd.R_drewN | apply Kd.R_drew)); exact Kd.R_mono HO230.out (fun _ hk => hk.2)⟩, ⟨by (with_reducible repeat (first | apply Kd.R_alloc | apply Kd.R_drewN | apply Kd.R_drew)); exact Kd.R_mono HO243.out (fun _ hk => hk.1.2)⟩, ⟨by repeat (first | exact HB.out | apply below_alloc | apply pw_below_drewN | apply below_drew1)⟩⟩
                        · rw [if_neg c34] at H
                          have c34b0 : (t235 == (Int.tmod a1 t224)) = false := beq_eq_false_iff_ne.mpr c34
                          have c34b1 : (t235 != (Int.tmod a1 t224)) = true := bne_iff_ne.mpr c34
                          have H' := Aside0.mk H
                          clear H
                          go_wp2
                          repeat (go_quiet (fail); try go_wp2)
                          go_meet
                          case rel => exact ⟨_, (true), (by first | rfl | (simp; done) | (simp [*]; done)), H', ⟨by have := HJ5.out; first | omega | exact Nat.le_refl _⟩, ⟨by (with_reducible repeat (first | apply Kd.R_alloc | apply Kd.R_drewN | apply Kd.R_drew)); exact Kd.R_mono HO230.out (fun _ hk => hk.2)⟩, ⟨by (with_reducible repeat (first | apply Kd.R_alloc | apply Kd.R_drewN | apply Kd.R_drew)); exact Kd.R_mono HO243.out (fun _ hk => hk.1.2)⟩, ⟨by repeat (first | exact HB.out | apply below_alloc | apply pw_below_drewN | apply below_drew1)⟩⟩
                      · rw [if_neg c33] at H
                        have c33b0 : (t241 == 0) = false := beq_eq_false_iff_ne.mpr c33
                        have c33b1 : (t241 != 0) = true := bne_iff_ne.mpr c33
                        have H' := Aside0.mk H
                        clear H
                        go_wp2
                        repeat (go_quiet (fail); try go_wp2)
                        go_meet
                        case rel => exact ⟨_, (true), (by first | rfl | (simp; done) | (simp [*]; done)), H', ⟨by have := HJ5.out; first | omega | exact Nat.le_refl _⟩, ⟨by (with_reducible repeat (first | apply Kd.R_alloc | apply Kd.R_drewN | apply Kd.R_drew)); exact Kd.R_mono HO230.out (fun _ hk => hk.2)⟩, ⟨by (with_reducible repeat (first | apply Kd.R_alloc | apply Kd.R_drewN | apply Kd.R_drew)); exact Kd.R_mono HO243.out (fun _ hk => hk.1.2)⟩, ⟨by repeat (first | exact HB.out | apply below_alloc | apply pw_below_drewN | apply below_drew1)⟩⟩
                    · rw [if_neg c32] at H
                      have c32b0 : (t238 == 0) = false := beq_eq_false_iff_ne.mpr c32
                      have c32b1 : (t238 != 0) = true := bne_iff_ne.mpr c32
                      have H' := Aside0.mk H
                      clear H
                      go_wp2
                      repeat (go_quiet (fail); try go_wp2)
                      go_meet
                      case rel => exact ⟨_, (true), (by first | rfl | (simp; done) | (simp [*]; done)), H', ⟨by have := HJ5.out; first | omega | exact Nat.le_refl _⟩, ⟨by (with_reducible repeat (first | apply Kd.R_alloc | apply Kd.R_drewN | apply Kd.R_drew)); exact Kd.R_mono HO230.out (fun _ hk => hk.2)⟩, ⟨by (with_reducible repeat (first | apply Kd.R_alloc | apply Kd.R_drewN | apply Kd.R_drew)); exact Kd.R_mono HO243.out (fun _ hk => hk.1.2)⟩, ⟨by repeat (first | exact HB.out | apply below_alloc | apply pw_below_drewN | apply below_drew1)⟩⟩
                  · rw [if_neg c31] at H
                    have c31b0 : (t236 == 0) = false := beq_eq_false_iff_ne.mpr c31
                    have c31b1 : (t236 != 0) = true := bne_iff_ne.mpr c31
                    have H' := Aside0.mk H
                    clear H
                    go_wp2
                    repeat (go_quiet (fail); try go_wp2)
                    go_meet
                    case rel => exact ⟨_, (true), (by first | rfl | (simp; done) | (simp [*]; done)), H', ⟨by have := HJ5.out; first | omega | exact Nat.le_refl _⟩, ⟨by (with_reducible repeat (first | apply Kd.R_alloc | apply Kd.R_drewN | apply Kd.R_drew)); exact Kd.R_mono HO230.out (fun _ hk => hk.2)⟩, ⟨by (with_reducible repeat (first | apply Kd.R_alloc | apply Kd.R_drewN | apply Kd.R_drew)); exact Kd.R_mono HO243.out (fun _ hk => hk.1.2)⟩, ⟨by repeat (first | exact HB.out | apply below_alloc | apply pw_below_drewN | apply below_drew1)⟩⟩
                · rw [if_neg c30] at H
                  have c30b0 : (t232 == 0) = false := beq_eq_false_iff_ne.mpr c30
                  have c30b1 : (t232 != 0) = true := bne_iff_ne.mpr c30
                  have H' := Aside0.mk H
                  clear H
                  go_wp2
                  repeat (go_quiet (fail); try go_wp2)
                  go_meet
                  case rel => exact ⟨_, (true), (by first | rfl | (simp; done) | (simp [*]; done)), H', ⟨by have := HJ5.out; first | omega | exact Nat.le_refl _⟩, ⟨by (with_reducible repeat (first | apply Kd.R_alloc | apply Kd.R_drewN | apply Kd.R_drew)); exact Kd.R_mono HO230.out (fun _ hk => hk.2)⟩, ⟨by (with_reducible repeat (first | apply Kd.R_alloc | apply Kd.R_drewN | apply Kd.R_drew)); exact Kd.R_mono HO243.out (fun _ hk => hk.1.2)⟩, ⟨by repeat (first | exact HB.out | apply below_alloc | apply pw_below_drewN | apply below_drew1)⟩⟩
              · rw [if_neg c29] at H
                have c29b0 : (t228 == 0) = false := beq_eq_false_iff_ne.mpr c29
                have c29b1 : (t228 != 0) = true := bne_iff_ne.mpr c29
                (first | rw [c29b0] | (simp only [i64_w, i32_w]; rw [c29b0]) | skip)
                have H' := Aside0.mk H
                clear H
                go_wp2
                repeat (go_quiet (fail); try go_wp2)
                go_meet
                case rel => exact ⟨_, (true), (by first | rfl | (simp; done) | (simp [*]; done)), H', ⟨by have := HJ5.out; first | omega | exact Nat.le_refl _⟩, ⟨by (with_reducible repeat (first | apply Kd.R_alloc | apply Kd.R_drewN | apply Kd.R_drew)); exact Kd.R_mono HO230.out (fun _ hk => hk.2)⟩, ⟨by (with_reducible repeat (first | apply Kd.R_alloc | apply Kd.R_drewN | apply Kd.R_drew)); exact Kd.R_mono HO243.out (fun _ hk => hk.1.2)⟩, ⟨by repeat (first | exact HB.out | apply below_alloc | apply pw_below_drewN | apply below_drew1)⟩⟩
            case rest =>
              as_aux_lemma =>
              clear HC21
              try clear c1
              try clear c2
              try clear p2
              try clear c3
              try clear c4
              try clear c8
              try clear c8b0
              try clear c8b1
              try clear c9
              try clear c9b0
              try clear c9b1
              try clear c10
              try clear c10b0
              try clear c11
              try clear c14
              try clear c14b0
              try clear c15
              try clear c15b0
              try clear c15b1
              try clear c29
              try clear c29b0
              try clear c29b1
              try clear c30
              try clear c30b0
              try clear c30b1
              try clear c31
              try clear c31b0
              try clear c31b1
              try clear c32
              try clear c32b0
              try clear c32b1
              try clear c33
              try clear c33b0
              try clear c33b1
              try clear c34
              try clear c34b0
              try clear c34b1
              try clear c35
              try clear c35b0
              try clear c35b1
              try clear c37
              try clear c37b0
              try clear c37b1
              try clear c37b2
              try clear p2
              obtain ⟨kq, x126_20, rfl, HA, HJ20, HO_11, HO_18, HB⟩ := hcut
              cases kq with
              | zero => exact absurd HA.out (by simp [manorboylaw08_ArrayOrder.j1])
              | succ kj20 =>
                have H := HA.out
                clear HA
                simp only [manorboylaw08_ArrayOrder.j1] at H
                by_cases c39 : x126_20 = true
                · subst c39
                  have H1 : (some false) = some r := by rw [if_pos rfl] at H; exact H
                  clear H
                  have H := H1
                  clear H1
                  obtain rfl := Option.some.inj H
                  go_wp2
                  repeat (go_quiet (fail); try go_wp2)
                  go_ret
                  exact ⟨by first | rfl | (simp [errW_none, errW_some] <;> rfl) | (simp [*, errW_none, errW_some] <;> rfl), by repeat (first | exact HB.out | apply below_alloc | apply pw_below_drewN | apply below_drew1)⟩
                · replace c39 := Bool.eq_false_iff.mpr c39
                  subst c39
                  have H1 : (if (Int.tmod a1 t224) = 0 then (manorboylaw08_ArrayOrder.l0 kj20 l0 (Int.tmod a1 t224) a3 t227 t239 0) else (manorboylaw08_ArrayOrder.j3 kj20 l0 (Int.tmod a1 t224) a3 t227 t239)) = some r := by rw [if_neg (show ¬ (false = true) by decide)] at H; exact H
                  clear H
                  have H := H1
                  clear H1
                  have HC40 := Aside0.mk H
                  clear H
                  go_upto_if 128 with (fail)
                  repeat (go_quiet (fail); go_upto_if 128 with (fail))
                  go_cut [] (fun wc => ∃ (kq : Nat), Aside0 (manorboylaw08_ArrayOrder.j3 kq l0 (Int.tmod a1 t224) a3 t227 t239 = some r) ∧ Aside0 (kq ≤ kj20) ∧ Aside0 (Kd.R (Kd.int .i64) 3 wc w.heap.size (fun k_ => some k_ ≠ (v242 : Value).ownBlock) (.slice Ao24 t227.length co24) t227) ∧ Aside0 (Kd.R (Kd.int .i64) 3 wc w.heap.size (fun k_ => some k_ ≠ ((.slice Ao24 t227.length co24) : Value).ownBlock) v242 t239) ∧ Aside0 (Below w.heap.size w wc))
                  case first =>
                    as_aux_lemma =>
                    have H := HC40.out
                    clear HC40
                    by_cases c41 : (Int.tmod a1 t224) = 0
                    · rw [if_pos c41] at H
                      have c41b0 : ((Int.tmod a1 t224) == 0) = true := beq_iff_eq.mpr c41
                      have c41b1 : ((Int.tmod a1 t224) != 0) = false := bne_eq_false_iff_eq.mpr c41
                      clear c41
                      (first | rw [c41b0] | (simp only [i64_w, i32_w]; rw [c41b0]) | skip)
                      have H' := Aside0.mk H
                      clear H
                      go_wp2
                      repeat (go_quiet (fail); try go_wp2)
                      go_loopg [21] kj20 (fun kq v21 w' => ∃ (x21_3 : Int), v21 = .int .i64 x21_3 ∧ Aside0 (manorboylaw08_ArrayOrder.l0 kq l0 (Int.tmod a1 t224) a3 t227 t239 x21_3 = some r) ∧ Aside0 (kq ≤ kj20) ∧ Aside0 (Kd.R (Kd.int .i64) 3 w' w.heap.size (fun k_ => some k_ ≠ (v242 : Value).ownBlock) (.slice Ao24 t227.length co24) t227) ∧ Aside0 (Kd.R (Kd.int .i64) 3 w' w.heap.size (fun k_ => some k_ ≠ ((.slice Ao24 t227.length co24) : Value).ownBlock) v242 t239) ∧ Aside0 (Below w.heap.size w w'))
                      case atStart => exact ⟨(0), (by first | rfl | (simp; done) | (simp [*]; done)), H', ⟨Nat.le_refl _⟩, ⟨by (with_reducible repeat (first | apply Kd.R_alloc | apply Kd.R_drewN | apply Kd.R_drew)); exact HO_11.out⟩, ⟨by (with_reducible repeat (first | apply Kd.R_alloc | apply Kd.R_drewN | apply Kd.R_drew)); exact HO_18.out⟩, ⟨by repeat (first | exact HB.out | apply below_alloc | apply pw_below_drewN | apply below_drew1)⟩⟩
                      case round =>
                        as_aux_lemma =>
                        clear H'
                        try clear c1
                        try clear c2
                        try clear p2
                        try clear c3
                        try clear c4
                        try clear c8
                        try clear c8b0
                        try clear c8b1
                        try clear c9
                        try clear c9b0
                        try clear c9b1
                        try clear c10
                        try clear c10b0
                        try clear c11
                        try clear c14
                        try clear c14b0
                        try clear c15
                        try clear c15b0
                        try clear c15b1
                        try clear c29
                        try clear c29b0
                        try clear c29b1
                        try clear c30
                        try clear c30b0
                        try clear c30b1
                        try clear c31
                        try clear c31b0
                        try clear c31b1
                        try clear c32
                        try clear c32b0
                        try clear c32b1
                        try clear c33
                        try clear c33b0
                        try clear c33b1
                        try clear c34
                        try clear c34b0
                        try clear c34b1
                        try clear c35
                        try clear c35b0
                        try clear c35b1
                        try clear c37
                        try clear c37b0
                        try clear c37b1
                        try clear c37b2
                        try clear c39
                        try clear c41
                        try clear c41b0
                        try clear c41b1
                        try clear p2
                        obtain ⟨x21_3, rfl, HA, HK3, HO_11, HO_18, HB⟩ := hrel
                        cases gk with
                        | zero => exact absurd HA.out (by simp [manorboylaw08_ArrayOrder.l0])
                        | succ k3 =>
                          have H := HA.out
                          clear HA
                          simp only [manorboylaw08_ArrayOrder.l0] at H
                          by_cases c42 : x21_3 < (t227.length : Int)
                          · rw [if_pos c42] at H
                            have c42b0 : decide (x21_3 < (t227.length : Int)) = true := decide_eq_true c42
                            clear c42
                            by_cases c43 : 0 ≤ x21_3
                            · rw [if_pos c43] at H
                              have c43b0 : decide (0 ≤ x21_3) = true := decide_eq_true c43
                              clear c43
                              by_cases c44 : x21_3 < (l0.length : Int)
                              · rw [if_pos c44] at H
                                have c44b0 : decide (x21_3 < (l0.length : Int)) = true := decide_eq_true c44
                                clear c44
                                by_cases c45 : (rd t227 x21_3) = ((rd_T40 l0 x21_3).f0)
                                · rw [if_pos c45] at H
                                  have c45b0 : ((rd t227 x21_3) == ((rd_T40 l0 x21_3).f0)) = true := beq_iff_eq.mpr c45
                                  have c45b1 : ((rd t227 x21_3) != ((rd_T40 l0 x21_3).f0)) = false := bne_eq_false_iff_eq.mpr c45
                                  clear c45
                                  have H' := Aside0.mk H
                                  clear H
                                  have p245 : 0 ≤ (x21_3 : Int) := of_decide_eq_true (by first | (with_reducible assumption) | assumption)
                                  have q245 : x21_3 < (t227.length : Int) := of_decide_eq_true (by first | (with_reducible assumption) | assumption)
                                  obtain ⟨ad245, e245, hx245_0⟩ := Kd.at_int (Kd.R_reads' HO_11.out).2.2 x21_3 p245 q245
                                  cases e245
                                  replace p245 := eq_true p245
                                  replace q245 := eq_true q245
                                  have p246 : 0 ≤ (x21_3 : Int) := of_decide_eq_true (by first | (with_reducible assumption) | assumption)
                                  have q246 : x21_3 < (l0.length : Int) := of_decide_eq_true (by first | (with_reducible assumption) | assumption)
                                  obtain ⟨ad246, e246, hx246_0, hx246_1⟩ := at_T40 HR0.out x21_3 p246 q246
                                  cases e246
                                  replace hx246_0 := (HB.out.cell (World.block_lt_of_cell? w _ hx246_0)).trans hx246_0
                                  replace hx246_1 := (HB.out.cell (World.block_lt_of_cell? w _ hx246_1)).trans hx246_1
                                  replace p246 := eq_true p246
                                  replace q246 := eq_true q246
                                  go_wp2
                                  repeat (go_quiet (fail); try go_wp2)
                                  go_roundg k3
                                  case measure => have := HJ5.out; have := HJ20.out; have := HK3.out; omega
                                  case rel => exact ⟨(wrap64 (x21_3 + 1)), (by first | rfl | (simp; done) | (simp [*]; done)), H', ⟨by have := HJ5.out; have := HJ20.out; have := HK3.out; omega⟩, ⟨by (with_reducible repeat (first | apply Kd.R_alloc | apply Kd.R_drewN | apply Kd.R_drew)); exact HO_11.out⟩, ⟨by (with_reducible repeat (first | apply Kd.R_alloc | apply Kd.R_drewN | apply Kd.R_drew)); exact HO_18.out⟩, ⟨by repeat (first | exact HB.out | apply below_alloc | apply pw_below_drewN | apply below_drew1)⟩⟩
                                · rw [if_neg c45] at H
                                  have c45b0 : ((rd t227 x21_3) == ((rd_T40 l0 x21_3).f0)) = false := beq_eq_false_iff_ne.mpr c45
                                  have c45b1 : ((rd t227 x21_3) != ((rd_T40 l0 x21_3).f0)) = true := bne_iff_ne.mpr c45
                                  obtain rfl := Option.some.inj H
                                  have p245 : 0 ≤ (x21_3 : Int) := of_decide_eq_true (by first | (with_reducible assumption) | assumption)
                                  have q245 : x21_3 < (t227.length : Int) := of_decide_eq_true (by first | (with_reducible assumption) | assumption)
                                  obtain ⟨ad245, e245, hx245_0⟩ := Kd.at_int (Kd.R_reads' HO_11.out).2.2 x21_3 p245 q245
                                  cases e245
                                  replace p245 := eq_true p245
                                  replace q245 := eq_true q245
                                  have p246 : 0 ≤ (x21_3 : Int) := of_decide_eq_true (by first | (with_reducible assumption) | assumption)
                                  have q246 : x21_3 < (l0.length : Int) := of_decide_eq_true (by first | (with_reducible assumption) | assumption)
                                  obtain ⟨ad246, e246, hx246_0, hx246_1⟩ := at_T40 HR0.out x21_3 p246 q246
                                  cases e246
                                  replace hx246_0 := (HB.out.cell (World.block_lt_of_cell? w _ hx246_0)).trans hx246_0
                                  replace hx246_1 := (HB.out.cell (World.block_lt_of_cell? w _ hx246_1)).trans hx246_1
                                  replace p246 := eq_true p246
                                  replace q246 := eq_true q246
                                  go_wp2
                                  repeat (go_quiet (fail); try go_wp2)
                                  go_ret
                                  exact ⟨by first | rfl | (simp [errW_none, errW_some] <;> rfl) | (simp [*, errW_none, errW_some] <;> rfl), by repeat (first | exact HB.out | apply below_alloc | apply pw_below_drewN | apply below_drew1)⟩
                              · rw [if_neg c44] at H
                                exact absurd H (by simp)
                            · rw [if_neg c43] at H
                              exact absurd H (by simp)
                          · rw [if_neg c42] at H
                            have c42b0 : decide (x21_3 < (t227.length : Int)) = false := decide_eq_false c42
                            clear c42
                            have H' := Aside0.mk H
                            clear H
                            go_wp2
                            repeat (go_quiet (fail); try go_wp2)
                            go_meet
                            case rel => exact ⟨_, H', ⟨by have := HJ5.out; have := HJ20.out; have := HK3.out; first | omega | exact Nat.le_refl _⟩, ⟨by (with_reducible repeat (first | apply Kd.R_alloc | apply Kd.R_drewN | apply Kd.R_drew)); exact HO_11.out⟩, ⟨by (with_reducible repeat (first | apply Kd.R_alloc | apply Kd.R_drewN | apply Kd.R_drew)); exact HO_18.out⟩, ⟨by repeat (first | exact HB.out | apply below_alloc | apply pw_below_drewN | apply below_drew1)⟩⟩
                    · rw [if_neg c41] at H
                      have c41b0 : ((Int.tmod a1 t224) == 0) = false := beq_eq_false_iff_ne.mpr c41
                      have c41b1 : ((Int.tmod a1 t224) != 0) = true := bne_iff_ne.mpr c41
                      (first | rw [c41b0] | (simp only [i64_w, i32_w]; rw [c41b0]) | skip)
                      have H' := Aside0.mk H
                      clear H
                      go_wp2
                      repeat (go_quiet (fail); try go_wp2)
                      go_meet
                      case rel => exact ⟨_, H', ⟨by have := HJ5.out; have := HJ20.out; first | omega | exact Nat.le_refl _⟩, ⟨by (with_reducible repeat (first | apply Kd.R_alloc | apply Kd.R_drewN | apply Kd.R_drew)); exact HO_11.out⟩, ⟨by (with_reducible repeat (first | apply Kd.R_alloc | apply Kd.R_drewN | apply Kd.R_drew)); exact HO_18.out⟩, ⟨by repeat (first | exact HB.out | apply below_alloc | apply pw_below_drewN | apply below_drew1)⟩⟩
                  case rest =>
                    as_aux_lemma =>
                    clear HC40
                    try clear c1
                    try clear c2
                    try clear p2
                    try clear q2
                    try clear hx2
                    try clear c3
                    try clear c4
                    try clear p6
                    try clear c8
                    try clear c8b0
                    try clear c8b1
                    try clear c9
                    try clear c9b0
                    try clear c9b1
                    try clear c10
                    try clear c10b0
                    try clear c11
                    try clear c14
                    try clear c14b0
                    try clear c15
                    try clear c15b0
                    try clear c15b1
                    try clear p24
                    try clear q24
                    try clear hx24
                    try clear c29
                    try clear c29b0
                    try clear c29b1
                    try clear c30
                    try clear c30b0
                    try clear c30b1
                    try clear c31
                    try clear c31b0
                    try clear c31b1
                    try clear c32
                    try clear c32b0
                    try clear c32b1
                    try clear c33
                    try clear c33b0
                    try clear c33b1
                    try clear c34
                    try clear c34b0
                    try clear c34b1
                    try clear c35
                    try clear c35b0
                    try clear c35b1
                    try clear c37
                    try clear c37b0
                    try clear c37b1
                    try clear c37b2
                    try clear c39
                    try clear c41
                    try clear c41b0
                    try clear c41b1
                    try clear c42
                    try clear c42b0
                    try clear c43
                    try clear c43b0
                    try clear c44
                    try clear c44b0
                    try clear c45
                    try clear c45b0
                    try clear c45b1
                    try clear hx245_0
                    try clear hx246_0
                    try clear hx246_1
                    try clear p2
                    try clear p245
                    try clear p246
                    try clear q245
                    try clear q246
                    obtain ⟨kq, HA, HJ39, HO_11, HO_18, HB⟩ := hcut
                    cases kq with
                    | zero => exact absurd HA.out (by simp [manorboylaw08_ArrayOrder.j3])
                    | succ kj39 =>
                      have H := HA.out
                      clear HA
                      simp only [manorboylaw08_ArrayOrder.j3] at H
                      by_cases c46 : (l0.length : Int) = 0
                      · rw [if_pos c46] at H
                        exact absurd H (by simp)
                      · rw [if_neg c46] at H
                        have c46b0 : ((l0.length : Int) == 0) = false := beq_eq_false_iff_ne.mpr c46
                        have c46b1 : ((l0.length : Int) != 0) = true := bne_iff_ne.mpr c46
                        have c46b2 : ¬ (l0 = []) := fun h_ => c46 (by rw [h_]; rfl)
                        obtain ⟨ji47, hji47⟩ : ∃ j_ : Int, (Int.tmod (wrap64 (a3)) (l0.length : Int)) = j_ := ⟨_, rfl⟩
                        replace H : (if 0 ≤ (ji47) then (if (ji47) < (t227.length : Int) then ((some (t227.set ((ji47) : Int).toNat (wrap64 ((rd t227 (ji47)) + 1)) : List Int)).bind fun y248 => ((array_Offset.f l0 y248).bind fun bt249 => (if (ji47) < (l0.length : Int) then (if (rd y248 (ji47)) > ((rd_T40 l0 (ji47)).f1) then ((manorboylaw08_sanity.f).bind fun t253 => (if t253 = true then (some (bt249.2 == 3)) else (some false))) else ((manorboylaw08_sanity.f).bind fun t254 => (if t254 = true then (if bt249.2 = 0 then (if (ji47) < (t239.length : Int) then (some (bt249.1 == (wrap64 ((Int.tmod a1 t224) + (rd t239 (ji47)))))) else (none)) else (some false)) else (some false)))) else (none)))) else (none)) else (none)) = some r := by first | (rw [hji47] at H; exact H) | (simp only [hji47] at H ⊢; exact H)
                        by_cases c48 : 0 ≤ (ji47)
                        · rw [if_pos c48] at H
                          have c48b0 : decide (0 ≤ (ji47)) = true := decide_eq_true c48
                          clear c48
                          by_cases c49 : (ji47) < (t227.length : Int)
                          · rw [if_pos c49] at H
                            have c49b0 : decide ((ji47) < (t227.length : Int)) = true := decide_eq_true c49
                            clear c49
                            obtain ⟨y248, hy248⟩ : ∃ y_ : List Int, y_ = (t227.set ((ji47) : Int).toNat (wrap64 ((rd t227 (ji47)) + 1))) := ⟨_, rfl⟩
                            replace H : ((array_Offset.f l0 y248).bind fun bt249 => (if (ji47) < (l0.length : Int) then (if (rd y248 (ji47)) > ((rd_T40 l0 (ji47)).f1) then ((manorboylaw08_sanity.f).bind fun t253 => (if t253 = true then (some (bt249.2 == 3)) else (some false))) else ((manorboylaw08_sanity.f).bind fun t254 => (if t254 = true then (if bt249.2 = 0 then (if (ji47) < (t239.length : Int) then (some (bt249.1 == (wrap64 ((Int.tmod a1 t224) + (rd t239 (ji47)))))) else (none)) else (some false)) else (some false)))) else (none))) = some r := by first | (rw [hy248]; with_reducible exact H) | (have H2_ := (Option.bind_some _ _).symm.trans H; rw [hy248]; with_reducible exact H2_) | (have H2_ := (Option.bind_some _ _).symm.trans H; with_reducible exact H2_) | with_reducible exact H | (rw [hy248]; exact H) | exact H
                            have Ny248 := Aside0.mk hy248
                            clear hy248
                            replace H := Option.bind_eq_some_iff.mp H
                            obtain ⟨⟨t249, t250⟩, A510, H⟩ := H
                            replace H : (if (ji47) < (l0.length : Int) then (if (rd y248 (ji47)) > ((rd_T40 l0 (ji47)).f1) then ((manorboylaw08_sanity.f).bind fun t253 => (if t253 = true then (some (t250 == 3)) else (some false))) else ((manorboylaw08_sanity.f).bind fun t254 => (if t254 = true then (if t250 = 0 then (if (ji47) < (t239.length : Int) then (some (t249 == (wrap64 ((Int.tmod a1 t224) + (rd t239 (ji47)))))) else (none)) else (some false)) else (some false)))) else (none)) = some r := H
                            have A51 := Aside0.mk A510
                            clear A510
                            by_cases c52 : (ji47) < (l0.length : Int)
                            · rw [if_pos c52] at H
                              have c52b0 : decide ((ji47) < (l0.length : Int)) = true := decide_eq_true c52
                              clear c52
                              by_cases c53 : (rd y248 (ji47)) > ((rd_T40 l0 (ji47)).f1)
                              · rw [if_pos c53] at H
                                have c53b0 : decide (((rd_T40 l0 (ji47)).f1) < (rd y248 (ji47))) = true := decide_eq_true c53
                                clear c53
                                replace H := Option.bind_eq_some_iff.mp H
                                obtain ⟨t253, A540, H⟩ := H
                                replace H : (if t253 = true then (some (t250 == 3)) else (some false)) = some r := H
                                have A54 := Aside0.mk A540
                                clear A540
                                by_cases c55 : t253 = true
                                · subst c55
                                  have H1 : (some (t250 == 3)) = some r := by rw [if_pos rfl] at H; exact H
                                  clear H
                                  have H := H1
                                  clear H1
                                  obtain rfl := Option.some.inj H
                                  have p247 : 0 ≤ ((ji47) : Int) := of_decide_eq_true (by first | (with_reducible assumption) | assumption)
                                  have q247 : (ji47) < (t227.length : Int) := of_decide_eq_true (by first | (with_reducible assumption) | assumption)
                                  obtain ⟨ad247, e247, hx247_0⟩ := Kd.at_int (Kd.R_reads' HO_11.out).2.2 (ji47) p247 q247
                                  cases e247
                                  replace p247 := eq_true p247
                                  replace q247 := eq_true q247
                                  have p50 : 0 ≤ ((ji47) : Int) := of_decide_eq_true (by first | (with_reducible assumption) | assumption)
                                  have q50 : ((ji47) : Int) < ((t227.length : Int) : Int) := of_decide_eq_true (by first | (with_reducible assumption) | assumption)
                                  obtain ⟨go50, co50, eo50, gb50, gl50, cl50, HG50⟩ := Kd.R_form HO_11.out (by omega)
                                  (first | cases eo50 | (injection eo50 with ea_ en_ ec_; (first | subst ea_ | (injection ea_ with ea_; subst ea_)); subst ec_; clear en_))
                                  have GB50 := Aside0.mk gb50
                                  have GG50 := Aside0.mk HG50
                                  clear gb50 gl50 HG50
                                  (first | simp only [add_plain] at hx247_0 | skip)
                                  obtain ⟨hx50_0, hf50_0⟩ := Kd.R_celln 0 HO_11.out ((ji47) : Int) p50 q50
                                  replace p50 := eq_true p50
                                  replace q50 := eq_true q50
                                  have HP56 := Kd.R_putg HO_11.out ((ji47) : Int) (wrap64 ((rd t227 (ji47)) + 1))
                                  go_wp2_with (first | ((with_reducible refine gate_store (t := 3) (p := 157) rfl ?_); (try (rw [drewN_self wc]; generalize hq_ : World.drewN wc _ = wc; have n0_ := Aside0.mk (Kd.R_at hq_ HO_11.out); have n1_ := Aside0.mk (Kd.R_at hq_ HO_18.out); have n2_ := Aside0.mk (below_at hq_ HB.out); clear hq_ HO_11 HO_18 HB; have HO_11 := n0_; have HO_18 := n1_; have HB := n2_; clear n0_ n1_ n2_; (try (have HP56 := Kd.R_putg HO_11.out ((ji47) : Int) (wrap64 ((rd t227 (ji47)) + 1)))))); refine store_event (t := 3) (p := 157) (v := ?vo_w57) (w1 := (wc.setCell ⟨go50, ((ji47) : Int).toNat, none⟩ (.int .i64 (wrap64 ((rd t227 (ji47)) + 1))))) ?hg ?ho ?hn ?hr ?_; (case ho => rfl); (case hg => rfl); (case hn => rfl); (case hr => first | (go_simp; done) | (go_simp; rfl)); intro w57 hw; have hg : wc.grownBy w57 (some go50) := (by rw [hw]; exact HP56.2); have hp_ : Kd.R (Kd.int .i64) 3 w57 w.heap.size (fun k_ => some k_ ≠ (v242 : Value).ownBlock) (.slice (some ⟨go50, 0, none⟩) t227.length co24) y248 := (by rw [hw, Ny248.out]; exact HP56.1); clear HP56; have n0_ := Aside0.mk (hp_); have n1_ := Aside0.mk (Kd.R_after (v := (.slice (some ⟨go50, 0, none⟩) t227.length co24)) (v1 := (.slice (some ⟨go50, 0, none⟩) t227.length co24)) (ok := (fun _ => True)) (by (with_reducible repeat (first | apply Kd.R_alloc | apply Kd.R_drewN | apply Kd.R_drew)); exact Kd.R_mono HO_18.out (fun _ hk => ⟨trivial, hk⟩)) hg (.inl rfl)); have n2_ := Aside0.mk ((by rw [hw]; exact below_set (HB.out) GB50.out : Below w.heap.size w w57)); clear HO_11; clear HO_18; clear HB; have HO_11 := n0_; have HO_18 := n1_; have HB := n2_; clear n0_ n1_ n2_; clear hg hw hp_) | (go_at_call 13; refine calls_of_args (args' := #[.slice A0 l0.length c0, .slice (some ⟨go50, 0, none⟩) y248.length co24]) (by first | (rw [show y248.length = t227.length from (Kd.R_reads' HO_11.out).1.symm] <;> rfl) | rfl) ?_; (with_reducible refine (array_Offset.calls _ _ l0 _ _ y248 t249 t250 _ ?side1 ?side2 ?side3 ?side4 A51.out).mono ?_); (case side1 => repeat (first | exact (Kd.C_below HR0.out HB.out) | (with_reducible refine Kd.C_alloc ?_ _) | (with_reducible refine Kd.C_drewN ?_ _) | (with_reducible refine Kd.C_drew ?_))); (case side2 => exact HC0.out); (case side3 => repeat (first | exact (Kd.R_reads' HO_11.out).2.2 | (with_reducible refine Kd.C_alloc ?_ _) | (with_reducible refine Kd.C_drewN ?_ _) | (with_reducible refine Kd.C_drew ?_))); (case side4 => rw [show y248.length = t227.length from (Kd.R_reads' HO_11.out).1.symm]; exact (Kd.R_reads' HO_11.out).2.1); rintro e w58 ⟨rfl, hb⟩; have n0_ := Aside0.mk (Kd.R_below (by (with_reducible repeat (first | apply Kd.R_alloc | apply Kd.R_drewN | apply Kd.R_drew)); exact HO_11.out) hb); have n1_ := Aside0.mk (Kd.R_below (by (with_reducible repeat (first | apply Kd.R_alloc | apply Kd.R_drewN | apply Kd.R_drew)); exact HO_18.out) hb); have n2_ := Aside0.mk (below_step (by repeat (first | exact HB.out | apply below_alloc | apply pw_below_drewN | apply below_drew1)) hb); clear HO_11; clear HO_18; clear HB; have HO_11 := n0_; have HO_18 := n1_; have HB := n2_; clear n0_ n1_ n2_; (try clear hb); have p251 : 0 ≤ ((ji47) : Int) := of_decide_eq_true (by first | (with_reducible assumption) | assumption); have q251 : (ji47) < (y248.length : Int) := (by have h_ : ((ji47) : Int) < ((t227.length : Int) : Int) := of_decide_eq_true (by first | (with_reducible assumption) | assumption); first | (have e_ := (Kd.R_reads' HO_11.out).1; omega) | simpa only [Ny248.out, List.length_set] using h_); have ql251 : (((ji47) : Int) < ((t227.length : Int) : Int)) = True := eq_true (of_decide_eq_true (by first | (with_reducible assumption) | assumption)); obtain ⟨ad251, e251, hx251_0⟩ := Kd.at_int (Kd.R_reads' HO_11.out).2.2 (ji47) p251 q251; obtain rfl : (⟨go50, 0, none⟩ : Addr) = ad251 := (by injection e251); (first | simp only [add_plain] at hx251_0 | simp only [add_at] at hx251_0 | simp only [Addr.add, Nat.zero_add] at hx251_0 | skip); replace p251 := eq_true p251; replace q251 := eq_true q251; have p252 : 0 ≤ ((ji47) : Int) := of_decide_eq_true (by first | (with_reducible assumption) | assumption); have q252 : (ji47) < (l0.length : Int) := of_decide_eq_true (by first | (with_reducible assumption) | assumption); obtain ⟨ad252, e252, hx252_0, hx252_1⟩ := at_T40 HR0.out (ji47) p252 q252; cases e252; replace hx252_0 := (HB.out.cell (World.block_lt_of_cell? w _ hx252_0)).trans hx252_0; replace hx252_1 := (HB.out.cell (World.block_lt_of_cell? w _ hx252_1)).trans hx252_1; replace p252 := eq_true p252; replace q252 := eq_true q252) | (go_at_call 11; (with_reducible refine (manorboylaw08_sanity.calls  true _ A54.out).mono ?_); rintro e w59 ⟨rfl, hb⟩; have n0_ := Aside0.mk (Kd.R_below (by (with_reducible repeat (first | apply Kd.R_alloc | apply Kd.R_drewN | apply Kd.R_drew)); exact HO_11.out) hb); have n1_ := Aside0.mk (Kd.R_below (by (with_reducible repeat (first | apply Kd.R_alloc | apply Kd.R_drewN | apply Kd.R_drew)); exact HO_18.out) hb); have n2_ := Aside0.mk (below_step (by repeat (first | exact HB.out | apply below_alloc | apply pw_below_drewN | apply below_drew1)) hb); clear HO_11; clear HO_18; clear HB; have HO_11 := n0_; have HO_18 := n1_; have HB := n2_; clear n0_ n1_ n2_; (try clear hb)))
                                  repeat (go_quiet (first | ((with_reducible refine gate_store (t := 3) (p := 157) rfl ?_); (try (rw [drewN_self wc]; generalize hq_ : World.drewN wc _ = wc; have n0_ := Aside0.mk (Kd.R_at hq_ HO_11.out); have n1_ := Aside0.mk (Kd.R_at hq_ HO_18.out); have n2_ := Aside0.mk (below_at hq_ HB.out); clear hq_ HO_11 HO_18 HB; have HO_11 := n0_; have HO_18 := n1_; have HB := n2_; clear n0_ n1_ n2_; (try (have HP56 := Kd.R_putg HO_11.out ((ji47) : Int) (wrap64 ((rd t227 (ji47)) + 1)))))); refine store_event (t := 3) (p := 157) (v := ?vo_w57) (w1 := (wc.setCell ⟨go50, ((ji47) : Int).toNat, none⟩ (.int .i64 (wrap64 ((rd t227 (ji47)) + 1))))) ?hg ?ho ?hn ?hr ?_; (case ho => rfl); (case hg => rfl); (case hn => rfl); (case hr => first | (go_simp; done) | (go_simp; rfl)); intro w57 hw; have hg : wc.grownBy w57 (some go50) := (by rw [hw]; exact HP56.2); have hp_ : Kd.R (Kd.int .i64) 3 w57 w.heap.size (fun k_ => some k_ ≠ (v242 : Value).ownBlock) (.slice (some ⟨go50, 0, none⟩) t227.length co24) y248 := (by rw [hw, Ny248.out]; exact HP56.1); clear HP56; have n0_ := Aside0.mk (hp_); have n1_ := Aside0.mk (Kd.R_after (v := (.slice (some ⟨go50, 0, none⟩) t227.length co24)) (v1 := (.slice (some ⟨go50, 0, none⟩) t227.length co24)) (ok := (fun _ => True)) (by (with_reducible repeat (first | apply Kd.R_alloc | apply Kd.R_drewN | apply Kd.R_drew)); exact Kd.R_mono HO_18.out (fun _ hk => ⟨trivial, hk⟩)) hg (.inl rfl)); have n2_ := Aside0.mk ((by rw [hw]; exact below_set (HB.out) GB50.out : Below w.heap.size w w57)); clear HO_11; clear HO_18; clear HB; have HO_11 := n0_; have HO_18 := n1_; have HB := n2_; clear n0_ n1_ n2_; clear hg hw hp_) | (go_at_call 13; refine calls_of_args (args' := #[.slice A0 l0.length c0, .slice (some ⟨go50, 0, none⟩) y248.length co24]) (by first | (rw [show y248.length = t227.length from (Kd.R_reads' HO_11.out).1.symm] <;> rfl) | rfl) ?_; (with_reducible refine (array_Offset.calls _ _ l0 _ _ y248 t249 t250 _ ?side1 ?side2 ?side3 ?side4 A51.out).mono ?_); (case side1 => repeat (first | exact (Kd.C_below HR0.out HB.out) | (with_reducible refine Kd.C_alloc ?_ _) | (with_reducible refine Kd.C_drewN ?_ _) | (with_reducible refine Kd.C_drew ?_))); (case side2 => exact HC0.out); (case side3 => repeat (first | exact (Kd.R_reads' HO_11.out).2.2 | (with_reducible refine Kd.C_alloc ?_ _) | (with_reducible refine Kd.C_drewN ?_ _) | (with_reducible refine Kd.C_drew ?_))); (case side4 => rw [show y248.length = t227.length from (Kd.R_reads' HO_11.out).1.symm]; exact (Kd.R_reads' HO_11.out).2.1); rintro e w58 ⟨rfl, hb⟩; have n0_ := Aside0.mk (Kd.R_below (by (with_reducible repeat (first | apply Kd.R_alloc | apply Kd.R_drewN | apply Kd.R_drew)); exact HO_11.out) hb); have n1_ := Aside0.mk (Kd.R_below (by (with_reducible repeat (first | apply Kd.R_alloc | apply Kd.R_drewN | apply Kd.R_drew)); exact HO_18.out) hb); have n2_ := Aside0.mk (below_step (by repeat (first | exact HB.out | apply below_alloc | apply pw_below_drewN | apply below_drew1)) hb); clear HO_11; clear HO_18; clear HB; have HO_11 := n0_; have HO_18 := n1_; have HB := n2_; clear n0_ n1_ n2_; (try clear hb); have p251 : 0 ≤ ((ji47) : Int) := of_decide_eq_true (by first | (with_reducible assumption) | assumption); have q251 : (ji47) < (y248.length : Int) := (by have h_ : ((ji47) : Int) < ((t227.length : Int) : Int) := of_decide_eq_true (by first | (with_reducible assumption) | assumption); first | (have e_ := (Kd.R_reads' HO_11.out).1; omega) | simpa only [Ny248.out, List.length_set] using h_); have ql251 : (((ji47) : Int) < ((t227.length : Int) : Int)) = True := eq_true (of_decide_eq_true (by first | (with_reducible assumption) | assumption)); obtain ⟨ad251, e251, hx251_0⟩ := Kd.at_int (Kd.R_reads' HO_11.out).2.2 (ji47) p251 q251; obtain rfl : (⟨go50, 0, none⟩ : Addr) = ad251 := (by injection e251); (first | simp only [add_plain] at hx251_0 | simp only [add_at] at hx251_0 | simp only [Addr.add, Nat.zero_add] at hx251_0 | skip); replace p251 := eq_true p251; replace q251 := eq_true q251; have p252 : 0 ≤ ((ji47) : Int) := of_decide_eq_true (by first | (with_reducible assumption) | assumption); have q252 : (ji47) < (l0.length : Int) := of_decide_eq_true (by first | (with_reducible assumption) | assumption); obtain ⟨ad252, e252, hx252_0, hx252_1⟩ := at_T40 HR0.out (ji47) p252 q252; cases e252; replace hx252_0 := (HB.out.cell (World.block_lt_of_cell? w _ hx252_0)).trans hx252_0; replace hx252_1 := (HB.out.cell (World.block_lt_of_cell? w _ hx252_1)).trans hx252_1; replace p252 := eq_true p252; replace q252 := eq_true q252) | (go_at_call 11; (with_reducible refine (manorboylaw08_sanity.calls  true _ A54.out).mono ?_); rintro e w59 ⟨rfl, hb⟩; have n0_ := Aside0.mk (Kd.R_below (by (with_reducible repeat (first | apply Kd.R_alloc | apply Kd.R_drewN | apply Kd.R_drew)); exact HO_11.out) hb); have n1_ := Aside0.mk (Kd.R_below (by (with_reducible repeat (first | apply Kd.R_alloc | apply Kd.R_drewN | apply Kd.R_drew)); exact HO_18.out) hb); have n2_ := Aside0.mk (below_step (by repeat (first | exact HB.out | apply below_alloc | apply pw_below_drewN | apply below_drew1)) hb); clear HO_11; clear HO_18; clear HB; have HO_11 := n0_; have HO_18 := n1_; have HB := n2_; clear n0_ n1_ n2_; (try clear hb))); try go_wp2_with (first | ((with_reducible refine gate_store (t := 3) (p := 157) rfl ?_); (try (rw [drewN_self wc]; generalize hq_ : World.drewN wc _ = wc; have n0_ := Aside0.mk (Kd.R_at hq_ HO_11.out); have n1_ := Aside0.mk (Kd.R_at hq_ HO_18.out); have n2_ := Aside0.mk (below_at hq_ HB.out); clear hq_ HO_11 HO_18 HB; have HO_11 := n0_; have HO_18 := n1_; have HB := n2_; clear n0_ n1_ n2_; (try (have HP56 := Kd.R_putg HO_11.out ((ji47) : Int) (wrap64 ((rd t227 (ji47)) + 1)))))); refine store_event (t := 3) (p := 157) (v := ?vo_w57) (w1 := (wc.setCell ⟨go50, ((ji47) : Int).toNat, none⟩ (.int .i64 (wrap64 ((rd t227 (ji47)) + 1))))) ?hg ?ho ?hn ?hr ?_; (case ho => rfl); (case hg => rfl); (case hn => rfl); (case hr => first | (go_simp; done) | (go_simp; rfl)); intro w57 hw; have hg : wc.grownBy w57 (some go50) := (by rw [hw]; exact HP56.2); have hp_ : Kd.R (Kd.int .i64) 3 w57 w.heap.size (fun k_ => some k_ ≠ (v242 : Value).ownBlock) (.slice (some ⟨go50, 0, none⟩) t227.length co24) y248 := (by rw [hw, Ny248.out]; exact HP56.1); clear HP56; have n0_ := Aside0.mk (hp_); have n1_ := Aside0.mk (Kd.R_after (v := (.slice (some ⟨go50, 0, none⟩) t227.length co24)) (v1 := (.slice (some ⟨go50, 0, none⟩) t227.length co24)) (ok := (fun _ => True)) (by (with_reducible repeat (first | apply Kd.R_alloc | apply Kd.R_drewN | apply Kd.R_drew)); exact Kd.R_mono HO_18.out (fun _ hk => ⟨trivial, hk⟩)) hg (.inl rfl)); have n2_ := Aside0.mk ((by rw [hw]; exact below_set (HB.out) GB50.out : Below w.heap.size w w57)); clear HO_11; clear HO_18; clear HB; have HO_11 := n0_; have HO_18 := n1_; have HB := n2_; clear n0_ n1_ n2_; clear hg hw hp_) | (go_at_call 13; refine calls_of_args (args' := #[.slice A0 l0.length c0, .slice (some ⟨go50, 0, none⟩) y248.length co24]) (by first | (rw [show y248.length = t227.length from (Kd.R_reads' HO_11.out).1.symm] <;> rfl) | rfl) ?_; (with_reducible refine (array_Offset.calls _ _ l0 _ _ y248 t249 t250 _ ?side1 ?side2 ?side3 ?side4 A51.out).mono ?_); (case side1 => repeat (first | exact (Kd.C_below HR0.out HB.out) | (with_reducible refine Kd.C_alloc ?_ _) | (with_reducible refine Kd.C_drewN ?_ _) | (with_reducible refine Kd.C_drew ?_))); (case side2 => exact HC0.out); (case side3 => repeat (first | exact (Kd.R_reads' HO_11.out).2.2 | (with_reducible refine Kd.C_alloc ?_ _) | (with_reducible refine Kd.C_drewN ?_ _) | (with_reducible refine Kd.C_drew ?_))); (case side4 => rw [show y248.length = t227.length from (Kd.R_reads' HO_11.out).1.symm]; exact (Kd.R_reads' HO_11.out).2.1); rintro e w58 ⟨rfl, hb⟩; have n0_ := Aside0.mk (Kd.R_below (by (with_reducible repeat (first | apply Kd.R_alloc | apply Kd.R_drewN | apply Kd.R_drew)); exact HO_11.out) hb); have n1_ := Aside0.mk (Kd.R_below (by (with_reducible repeat (first | apply Kd.R_alloc | apply Kd.R_drewN | apply Kd.R_drew)); exact HO_18.out) hb); have n2_ := Aside0.mk (below_step (by repeat (first | exact HB.out | apply below_alloc | apply pw_below_drewN | apply below_drew1)) hb); clear HO_11; clear HO_18; clear HB; have HO_11 := n0_; have HO_18 := n1_; have HB := n2_; clear n0_ n1_ n2_; (try clear hb); have p251 : 0 ≤ ((ji47) : Int) := of_decide_eq_true (by first | (with_reducible assumption) | assumption); have q251 : (ji47) < (y248.length : Int) := (by have h_ : ((ji47) : Int) < ((t227.length : Int) : Int) := of_decide_eq_true (by first | (with_reducible assumption) | assumption); first | (have e_ := (Kd.R_reads' HO_11.out).1; omega) | simpa only [Ny248.out, List.length_set] using h_); have ql251 : (((ji47) : Int) < ((t227.length : Int) : Int)) = True := eq_true (of_decide_eq_true (by first | (with_reducible assumption) | assumption)); obtain ⟨ad251, e251, hx251_0⟩ := Kd.at_int (Kd.R_reads' HO_11.out).2.2 (ji47) p251 q251; obtain rfl : (⟨go50, 0, none⟩ : Addr) = ad251 := (by injection e251); (first | simp only [add_plain] at hx251_0 | simp only [add_at] at hx251_0 | simp only [Addr.add, Nat.zero_add] at hx251_0 | skip); replace p251 := eq_true p251; replace q251 := eq_true q251; have p252 : 0 ≤ ((ji47) : Int) := of_decide_eq_true (by first | (with_reducible assumption) | assumption); have q252 : (ji47) < (l0.length : Int) := of_decide_eq_true (by first | (with_reducible assumption) | assumption); obtain ⟨ad252, e252, hx252_0, hx252_1⟩ := at_T40 HR0.out (ji47) p252 q252; cases e252; replace hx252_0 := (HB.out.cell (World.block_lt_of_cell? w _ hx252_0)).trans hx252_0; replace hx252_1 := (HB.out.cell (World.block_lt_of_cell? w _ hx252_1)).trans hx252_1; replace p252 := eq_true p252; replace q252 := eq_true q252) | (go_at_call 11; (with_reducible refine (manorboylaw08_sanity.calls  true _ A54.out).mono ?_); rintro e w59 ⟨rfl, hb⟩; have n0_ := Aside0.mk (Kd.R_below (by (with_reducible repeat (first | apply Kd.R_alloc | apply Kd.R_drewN | apply Kd.R_drew)); exact HO_11.out) hb); have n1_ := Aside0.mk (Kd.R_below (by (with_reducible repeat (first | apply Kd.R_alloc | apply Kd.R_drewN | apply Kd.R_drew)); exact HO_18.out) hb); have n2_ := Aside0.mk (below_step (by repeat (first | exact HB.out | apply below_alloc | apply pw_below_drewN | apply below_drew1)) hb); clear HO_11; clear HO_18; clear HB; have HO_11 := n0_; have HO_18 := n1_; have HB := n2_; clear n0_ n1_ n2_; (try clear hb))))
                                  go_ret
                                  exact ⟨by first | rfl | (simp [errW_none, errW_some] <;> rfl) | (simp only [← hji47]; first | rfl | (simp [errW_none, errW_some] <;> rfl)) | (simp [*, errW_none, errW_some] <;> rfl), by repeat (first | exact HB.out | apply below_alloc | apply pw_below_drewN | apply below_drew1)⟩
                                · replace c55 := Bool.eq_false_iff.mpr c55
                                  subst c55
                                  have H1 : (some false) = some r := by rw [if_neg (show ¬ (false = true) by decide)] at H; exact H
                                  clear H
                                  have H := H1
                                  clear H1
                                  obtain rfl := Option.some.inj H
                                  have p247 : 0 ≤ ((ji47) : Int) := of_decide_eq_true (by first | (with_reducible assumption) | assumption)
                                  have q247 : (ji47) < (t227.length : Int) := of_decide_eq_true (by first | (with_reducible assumption) | assumption)
                                  obtain ⟨ad247, e247, hx247_0⟩ := Kd.at_int (Kd.R_reads' HO_11.out).2.2 (ji47) p247 q247
                                  cases e247
                                  replace p247 := eq_true p247
                                  replace q247 := eq_true q247
                                  have p50 : 0 ≤ ((ji47) : Int) := of_decide_eq_true (by first | (with_reducible assumption) | assumption)
                                  have q50 : ((ji47) : Int) < ((t227.length : Int) : Int) := of_decide_eq_true (by first | (with_reducible assumption) | assumption)
                                  obtain ⟨go50, co50, eo50, gb50, gl50, cl50, HG50⟩ := Kd.R_form HO_11.out (by omega)
                                  (first | cases eo50 | (injection eo50 with ea_ en_ ec_; (first | subst ea_ | (injection ea_ with ea_; subst ea_)); subst ec_; clear en_))
                                  have GB50 := Aside0.mk gb50
                                  have GG50 := Aside0.mk HG50
                                  clear gb50 gl50 HG50
                                  (first | simp only [add_plain] at hx247_0 | skip)
                                  obtain ⟨hx50_0, hf50_0⟩ := Kd.R_celln 0 HO_11.out ((ji47) : Int) p50 q50
                                  replace p50 := eq_true p50
                                  replace q50 := eq_true q50
                                  have HP60 := Kd.R_putg HO_11.out ((ji47) : Int) (wrap64 ((rd t227 (ji47)) + 1))
                                  go_wp2_with (first | ((with_reducible refine gate_store (t := 3) (p := 157) rfl ?_); (try (rw [drewN_self wc]; generalize hq_ : World.drewN wc _ = wc; have n0_ := Aside0.mk (Kd.R_at hq_ HO_11.out); have n1_ := Aside0.mk (Kd.R_at hq_ HO_18.out); have n2_ := Aside0.mk (below_at hq_ HB.out); clear hq_ HO_11 HO_18 HB; have HO_11 := n0_; have HO_18 := n1_; have HB := n2_; clear n0_ n1_ n2_; (try (have HP60 := Kd.R_putg HO_11.out ((ji47) : Int) (wrap64 ((rd t227 (ji47)) + 1)))))); refine store_event (t := 3) (p := 157) (v := ?vo_w61) (w1 := (wc.setCell ⟨go50, ((ji47) : Int).toNat, none⟩ (.int .i64 (wrap64 ((rd t227 (ji47)) + 1))))) ?hg ?ho ?hn ?hr ?_; (case ho => rfl); (case hg => rfl); (case hn => rfl); (case hr => first | (go_simp; done) | (go_simp; rfl)); intro w61 hw; have hg : wc.grownBy w61 (some go50) := (by rw [hw]; exact HP60.2); have hp_ : Kd.R (Kd.int .i64) 3 w61 w.heap.size (fun k_ => some k_ ≠ (v242 : Value).ownBlock) (.slice (some ⟨go50, 0, none⟩) t227.length co24) y248 := (by rw [hw, Ny248.out]; exact HP60.1); clear HP60; have n0_ := Aside0.mk (hp_); have n1_ := Aside0.mk (Kd.R_after (v := (.slice (some ⟨go50, 0, none⟩) t227.length co24)) (v1 := (.slice (some ⟨go50, 0, none⟩) t227.length co24)) (ok := (fun _ => True)) (by (with_reducible repeat (first | apply Kd.R_alloc | apply Kd.R_drewN | apply Kd.R_drew)); exact Kd.R_mono HO_18.out (fun _ hk => ⟨trivial, hk⟩)) hg (.inl rfl)); have n2_ := Aside0.mk ((by rw [hw]; exact below_set (HB.out) GB50.out : Below w.heap.size w w61)); clear HO_11; clear HO_18; clear HB; have HO_11 := n0_; have HO_18 := n1_; have HB := n2_; clear n0_ n1_ n2_; clear hg hw hp_) | (go_at_call 13; refine calls_of_args (args' := #[.slice A0 l0.length c0, .slice (some ⟨go50, 0, none⟩) y248.length co24]) (by first | (rw [show y248.length = t227.length from (Kd.R_reads' HO_11.out).1.symm] <;> rfl) | rfl) ?_; (with_reducible refine (array_Offset.calls _ _ l0 _ _ y248 t249 t250 _ ?side1 ?side2 ?side3 ?side4 A51.out).mono ?_); (case side1 => repeat (first | exact (Kd.C_below HR0.out HB.out) | (with_reducible refine Kd.C_alloc ?_ _) | (with_reducible refine Kd.C_drewN ?_ _) | (with_reducible refine Kd.C_drew ?_))); (case side2 => exact HC0.out); (case side3 => repeat (first | exact (Kd.R_reads' HO_11.out).2.2 | (with_reducible refine Kd.C_alloc ?_ _) | (with_reducible refine Kd.C_drewN ?_ _) | (with_reducible refine Kd.C_drew ?_))); (case side4 => rw [show y248.length = t227.length from (Kd.R_reads' HO_11.out).1.symm]; exact (Kd.R_reads' HO_11.out).2.1); rintro e w62 ⟨rfl, hb⟩; have n0_ := Aside0.mk (Kd.R_below (by (with_reducible repeat (first | apply Kd.R_alloc | apply Kd.R_drewN | apply Kd.R_drew)); exact HO_11.out) hb); have n1_ := Aside0.mk (Kd.R_below (by (with_reducible repeat (first | apply Kd.R_alloc | apply Kd.R_drewN | apply Kd.R_drew)); exact HO_18.out) hb); have n2_ := Aside0.mk (below_step (by repeat (first | exact HB.out | apply below_alloc | apply pw_below_drewN | apply below_drew1)) hb); clear HO_11; clear HO_18; clear HB; have HO_11 := n0_; have HO_18 := n1_; have HB := n2_; clear n0_ n1_ n2_; (try clear hb); have p251 : 0 ≤ ((ji47) : Int) := of_decide_eq_true (by first | (with_reducible assumption) | assumption); have q251 : (ji47) < (y248.length : Int) := (by have h_ : ((ji47) : Int) < ((t227.length : Int) : Int) := of_decide_eq_true (by first | (with_reducible assumption) | assumption); first | (have e_ := (Kd.R_reads' HO_11.out).1; omega) | simpa only [Ny248.out, List.length_set] using h_); have ql251 : (((ji47) : Int) < ((t227.length : Int) : Int)) = True := eq_true (of_decide_eq_true (by first | (with_reducible assumption) | assumption)); obtain ⟨ad251, e251, hx251_0⟩ := Kd.at_int (Kd.R_reads' HO_11.out).2.2 (ji47) p251 q251; obtain rfl : (⟨go50, 0, none⟩ : Addr) = ad251 := (by injection e251); (first | simp only [add_plain] at hx251_0 | simp only [add_at] at hx251_0 | simp only [Addr.add, Nat.zero_add] at hx251_0 | skip); replace p251 := eq_true p251; replace q251 := eq_true q251; have p252 : 0 ≤ ((ji47) : Int) := of_decide_eq_true (by first | (with_reducible assumption) | assumption); have q252 : (ji47) < (l0.length : Int) := of_decide_eq_true (by first | (with_reducible assumption) | assumption); obtain ⟨ad252, e252, hx252_0, hx252_1⟩ := at_T40 HR0.out (ji47) p252 q252; cases e252; replace hx252_0 := (HB.out.cell (World.block_lt_of_cell? w _ hx252_0)).trans hx252_0; replace hx252_1 := (HB.out.cell (World.block_lt_of_cell? w _ hx252_1)).trans hx252_1; replace p252 := eq_true p252; replace q252 := eq_true q252) | (go_at_call 11; (with_reducible refine (manorboylaw08_sanity.calls  false _ A54.out).mono ?_); rintro e w63 ⟨rfl, hb⟩; have n0_ := Aside0.mk (Kd.R_below (by (with_reducible repeat (first | apply Kd.R_alloc | apply Kd.R_drewN | apply Kd.R_drew)); exact HO_11.out) hb); have n1_ := Aside0.mk (Kd.R_below (by (with_reducible repeat (first | apply Kd.R_alloc | apply Kd.R_drewN | apply Kd.R_drew)); exact HO_18.out) hb); have n2_ := Aside0.mk (below_step (by repeat (first | exact HB.out | apply below_alloc | apply pw_below_drewN | apply below_drew1)) hb); clear HO_11; clear HO_18; clear HB; have HO_11 := n0_; have HO_18 := n1_; have HB := n2_; clear n0_ n1_ n2_; (try clear hb)))
                                  repeat (go_quiet (first | ((with_reducible refine gate_store (t := 3) (p := 157) rfl ?_); (try (rw [drewN_self wc]; generalize hq_ : World.drewN wc _ = wc; have n0_ := Aside0.mk (Kd.R_at hq_ HO_11.out); have n1_ := Aside0.mk (Kd.R_at hq_ HO_18.out); have n2_ := Aside0.mk (below_at hq_ HB.out); clear hq_ HO_11 HO_18 HB; have HO_11 := n0_; have HO_18 := n1_; have HB := n2_; clear n0_ n1_ n2_; (try (have HP60 := Kd.R_putg HO_11.out ((ji47) : Int) (wrap64 ((rd t227 (ji47)) + 1)))))); refine store_event (t := 3) (p := 157) (v := ?vo_w61) (w1 := (wc.setCell ⟨go50, ((ji47) : Int).toNat, none⟩ (.int .i64 (wrap64 ((rd t227 (ji47)) + 1))))) ?hg ?ho ?hn ?hr ?_; (case ho => rfl); (case hg => rfl); (case hn => rfl); (case hr => first | (go_simp; done) | (go_simp; rfl)); intro w61 hw; have hg : wc.grownBy w61 (some go50) := (by rw [hw]; exact HP60.2); have hp_ : Kd.R (Kd.int .i64) 3 w61 w.heap.size (fun k_ => some k_ ≠ (v242 : Value).ownBlock) (.slice (some ⟨go50, 0, none⟩) t227.length co24) y248 := (by rw [hw, Ny248.out]; exact HP60.1); clear HP60; have n0_ := Aside0.mk (hp_); have n1_ := Aside0.mk (Kd.R_after (v := (.slice (some ⟨go50, 0, none⟩) t227.length co24)) (v1 := (.slice (some ⟨go50, 0, none⟩) t227.length co24)) (ok := (fun _ => True)) (by (with_reducible repeat (first | apply Kd.R_alloc | apply Kd.R_drewN | apply Kd.R_drew)); exact Kd.R_mono HO_18.out (fun _ hk => ⟨trivial, hk⟩)) hg (.inl rfl)); have n2_ := Aside0.mk ((by rw [hw]; exact below_set (HB.out) GB50.out : Below w.heap.size w w61)); clear HO_11; clear HO_18; clear HB; have HO_11 := n0_; have HO_18 := n1_; have HB := n2_; clear n0_ n1_ n2_; clear hg hw hp_) | (go_at_call 13; refine calls_of_args (args' := #[.slice A0 l0.length c0, .slice (some ⟨go50, 0, none⟩) y248.length co24]) (by first | (rw [show y248.length = t227.length from (Kd.R_reads' HO_11.out).1.symm] <;> rfl) | rfl) ?_; (with_reducible refine (array_Offset.calls _ _ l0 _ _ y248 t249 t250 _ ?side1 ?side2 ?side3 ?side4 A51.out).mono ?_); (case side1 => repeat (first | exact (Kd.C_below HR0.out HB.out) | (with_reducible refine Kd.C_alloc ?_ _) | (with_reducible refine Kd.C_drewN ?_ _) | (with_reducible refine Kd.C_drew ?_))); (case side2 => exact HC0.out); (case side3 => repeat (first | exact (Kd.R_reads' HO_11.out).2.2 | (with_reducible refine Kd.C_alloc ?_ _) | (with_reducible refine Kd.C_drewN ?_ _) | (with_reducible refine Kd.C_drew ?_))); (case side4 => rw [show y248.length = t227.length from (Kd.R_reads' HO_11.out).1.symm]; exact (Kd.R_reads' HO_11.out).2.1); rintro e w62 ⟨rfl, hb⟩; have n0_ := Aside0.mk (Kd.R_below (by (with_reducible repeat (first | apply Kd.R_alloc | apply Kd.R_drewN | apply Kd.R_drew)); exact HO_11.out) hb); have n1_ := Aside0.mk (Kd.R_below (by (with_reducible repeat (first | apply Kd.R_alloc | apply Kd.R_drewN | apply Kd.R_drew)); exact HO_18.out) hb); have n2_ := Aside0.mk (below_step (by repeat (first | exact HB.out | apply below_alloc | apply pw_below_drewN | apply below_drew1)) hb); clear HO_11; clear HO_18; clear HB; have HO_11 := n0_; have HO_18 := n1_; have HB := n2_; clear n0_ n1_ n2_; (try clear hb); have p251 : 0 ≤ ((ji47) : Int) := of_decide_eq_true (by first | (with_reducible assumption) | assumption); have q251 : (ji47) < (y248.length : Int) := (by have h_ : ((ji47) : Int) < ((t227.length : Int) : Int) := of_decide_eq_true (by first | (with_reducible assumption) | assumption); first | (have e_ := (Kd.R_reads' HO_11.out).1; omega) | simpa only [Ny248.out, List.length_set] using h_); have ql251 : (((ji47) : Int) < ((t227.length : Int) : Int)) = True := eq_true (of_decide_eq_true (by first | (with_reducible assumption) | assumption)); obtain ⟨ad251, e251, hx251_0⟩ := Kd.at_int (Kd.R_reads' HO_11.out).2.2 (ji47) p251 q251; obtain rfl : (⟨go50, 0, none⟩ : Addr) = ad251 := (by injection e251); (first | simp only [add_plain] at hx251_0 | simp only [add_at] at hx251_0 | simp only [Addr.add, Nat.zero_add] at hx251_0 | skip); replace p251 := eq_true p251; replace q251 := eq_true q251; have p252 : 0 ≤ ((ji47) : Int) := of_decide_eq_true (by first | (with_reducible assumption) | assumption); have q252 : (ji47) < (l0.length : Int) := of_decide_eq_true (by first | (with_reducible assumption) | assumption); obtain ⟨ad252, e252, hx252_0, hx252_1⟩ := at_T40 HR0.out (ji47) p252 q252; cases e252; replace hx252_0 := (HB.out.cell (World.block_lt_of_cell? w _ hx252_0)).trans hx252_0; replace hx252_1 := (HB.out.cell (World.block_lt_of_cell? w _ hx252_1)).trans hx252_1; replace p252 := eq_true p252; replace q252 := eq_true q252) | (go_at_call 11; (with_reducible refine (manorboylaw08_sanity.calls  false _ A54.out).mono ?_); rintro e w63 ⟨rfl, hb⟩; have n0_ := Aside0.mk (Kd.R_below (by (with_reducible repeat (first | apply Kd.R_alloc | apply Kd.R_drewN | apply Kd.R_drew)); exact HO_11.out) hb); have n1_ := Aside0.mk (Kd.R_below (by (with_reducible repeat (first | apply Kd.R_alloc | apply Kd.R_drewN | apply Kd.R_drew)); exact HO_18.out) hb); have n2_ := Aside0.mk (below_step (by repeat (first | exact HB.out | apply below_alloc | apply pw_below_drewN | apply below_drew1)) hb); clear HO_11; clear HO_18; clear HB; have HO_11 := n0_; have HO_18 := n1_; have HB := n2_; clear n0_ n1_ n2_; (try clear hb))); try go_wp2_with (first | ((with_reducible refine gate_store (t := 3) (p := 157) rfl ?_); (try (rw [drewN_self wc]; generalize hq_ : World.drewN wc _ = wc; have n0_ := Aside0.mk (Kd.R_at hq_ HO_11.out); have n1_ := Aside0.mk (Kd.R_at hq_ HO_18.out); have n2_ := Aside0.mk (below_at hq_ HB.out); clear hq_ HO_11 HO_18 HB; have HO_11 := n0_; have HO_18 := n1_; have HB := n2_; clear n0_ n1_ n2_; (try (have HP60 := Kd.R_putg HO_11.out ((ji47) : Int) (wrap64 ((rd t227 (ji47)) + 1)))))); refine store_event (t := 3) (p := 157) (v := ?vo_w61) (w1 := (wc.setCell ⟨go50, ((ji47) : Int).toNat, none⟩ (.int .i64 (wrap64 ((rd t227 (ji47)) + 1))))) ?hg ?ho ?hn ?hr ?_; (case ho => rfl); (case hg => rfl); (case hn => rfl); (case hr => first | (go_simp; done) | (go_simp; rfl)); intro w61 hw; have hg : wc.grownBy w61 (some go50) := (by rw [hw]; exact HP60.2); have hp_ : Kd.R (Kd.int .i64) 3 w61 w.heap.size (fun k_ => some k_ ≠ (v242 : Value).ownBlock) (.slice (some ⟨go50, 0, none⟩) t227.length co24) y248 := (by rw [hw, Ny248.out]; exact HP60.1); clear HP60; have n0_ := Aside0.mk (hp_); have n1_ := Aside0.mk (Kd.R_after (v := (.slice (some ⟨go50, 0, none⟩) t227.length co24)) (v1 := (.slice (some ⟨go50, 0, none⟩) t227.length co24)) (ok := (fun _ => True)) (by (with_reducible repeat (first | apply Kd.R_alloc | apply Kd.R_drewN | apply Kd.R_drew)); exact Kd.R_mono HO_18.out (fun _ hk => ⟨trivial, hk⟩)) hg (.inl rfl)); have n2_ := Aside0.mk ((by rw [hw]; exact below_set (HB.out) GB50.out : Below w.heap.size w w61)); clear HO_11; clear HO_18; clear HB; have HO_11 := n0_; have HO_18 := n1_; have HB := n2_; clear n0_ n1_ n2_; clear hg hw hp_) | (go_at_call 13; refine calls_of_args (args' := #[.slice A0 l0.length c0, .slice (some ⟨go50, 0, none⟩) y248.length co24]) (by first | (rw [show y248.length = t227.length from (Kd.R_reads' HO_11.out).1.symm] <;> rfl) | rfl) ?_; (with_reducible refine (array_Offset.calls _ _ l0 _ _ y248 t249 t250 _ ?side1 ?side2 ?side3 ?side4 A51.out).mono ?_); (case side1 => repeat (first | exact (Kd.C_below HR0.out HB.out) | (with_reducible refine Kd.C_alloc ?_ _) | (with_reducible refine Kd.C_drewN ?_ _) | (with_reducible refine Kd.C_drew ?_))); (case side2 => exact HC0.out); (case side3 => repeat (first | exact (Kd.R_reads' HO_11.out).2.2 | (with_reducible refine Kd.C_alloc ?_ _) | (with_reducible refine Kd.C_drewN ?_ _) | (with_reducible refine Kd.C_drew ?_))); (case side4 => rw [show y248.length = t227.length from (Kd.R_reads' HO_11.out).1.symm]; exact (Kd.R_reads' HO_11.out).2.1); rintro e w62 ⟨rfl, hb⟩; have n0_ := Aside0.mk (Kd.R_below (by (with_reducible repeat (first | apply Kd.R_alloc | apply Kd.R_drewN | apply Kd.R_drew)); exact HO_11.out) hb); have n1_ := Aside0.mk (Kd.R_below (by (with_reducible repeat (first | apply Kd.R_alloc | apply Kd.R_drewN | apply Kd.R_drew)); exact HO_18.out) hb); have n2_ := Aside0.mk (below_step (by repeat (first | exact HB.out | apply below_alloc | apply pw_below_drewN | apply below_drew1)) hb); clear HO_11; clear HO_18; clear HB; have HO_11 := n0_; have HO_18 := n1_; have HB := n2_; clear n0_ n1_ n2_; (try clear hb); have p251 : 0 ≤ ((ji47) : Int) := of_decide_eq_true (by first | (with_reducible assumption) | assumption); have q251 : (ji47) < (y248.length : Int) := (by have h_ : ((ji47) : Int) < ((t227.length : Int) : Int) := of_decide_eq_true (by first | (with_reducible assumption) | assumption); first | (have e_ := (Kd.R_reads' HO_11.out).1; omega) | simpa only [Ny248.out, List.length_set] using h_); have ql251 : (((ji47) : Int) < ((t227.length : Int) : Int)) = True := eq_true (of_decide_eq_true (by first | (with_reducible assumption) | assumption)); obtain ⟨ad251, e251, hx251_0⟩ := Kd.at_int (Kd.R_reads' HO_11.out).2.2 (ji47) p251 q251; obtain rfl : (⟨go50, 0, none⟩ : Addr) = ad251 := (by injection e251); (first | simp only [add_plain] at hx251_0 | simp only [add_at] at hx251_0 | simp only [Addr.add, Nat.zero_add] at hx251_0 | skip); replace p251 := eq_true p251; replace q251 := eq_true q251; have p252 : 0 ≤ ((ji47) : Int) := of_decide_eq_true (by first | (with_reducible assumption) | assumption); have q252 : (ji47) < (l0.length : Int) := of_decide_eq_true (by first | (with_reducible assumption) | assumption); obtain ⟨ad252, e252, hx252_0, hx252_1⟩ := at_T40 HR0.out (ji47) p252 q252; cases e252; replace hx252_0 := (HB.out.cell (World.block_lt_of_cell? w _ hx252_0)).trans hx252_0; replace hx252_1 := (HB.out.cell (World.block_lt_of_cell? w _ hx252_1)).trans hx252_1; replace p252 := eq_true p252; replace q252 := eq_true q252) | (go_at_call 11; (with_reducible refine (manorboylaw08_sanity.calls  false _ A54.out).mono ?_); rintro e w63 ⟨rfl, hb⟩; have n0_ := Aside0.mk (Kd.R_below (by (with_reducible repeat (first | apply Kd.R_alloc | apply Kd.R_drewN | apply Kd.R_drew)); exact HO_11.out) hb); have n1_ := Aside0.mk (Kd.R_below (by (with_reducible repeat (first | apply Kd.R_alloc | apply Kd.R_drewN | apply Kd.R_drew)); exact HO_18.out) hb); have n2_ := Aside0.mk (below_step (by repeat (first | exact HB.out | apply below_alloc | apply pw_below_drewN | apply below_drew1)) hb); clear HO_11; clear HO_18; clear HB; have HO_11 := n0_; have HO_18 := n1_; have HB := n2_; clear n0_ n1_ n2_; (try clear hb))))
                                  go_ret
                                  exact ⟨by first | rfl | (simp [errW_none, errW_some] <;> rfl) | (simp only [← hji47]; first | rfl | (simp [errW_none, errW_some] <;> rfl)) | (simp [*, errW_none, errW_some] <;> rfl), by repeat (first | exact HB.out | apply below_alloc | apply pw_below_drewN | apply below_drew1)⟩
                              · rw [if_neg c53] at H
                                have c53b0 : decide (((rd_T40 l0 (ji47)).f1) < (rd y248 (ji47))) = false := decide_eq_false c53
                                clear c53
                                replace H := Option.bind_eq_some_iff.mp H
                                obtain ⟨t254, A640, H⟩ := H
                                replace H : (if t254 = true then (if t250 = 0 then (if (ji47) < (t239.length : Int) then (some (t249 == (wrap64 ((Int.tmod a1 t224) + (rd t239 (ji47)))))) else (none)) else (some false)) else (some false)) = some r := H
                                have A64 := Aside0.mk A640
                                clear A640
                                by_cases c65 : t254 = true
                                · subst c65
                                  have H1 : (if t250 = 0 then (if (ji47) < (t239.length : Int) then (some (t249 == (wrap64 ((Int.tmod a1 t224) + (rd t239 (ji47)))))) else (none)) else (some false)) = some r := by rw [if_pos rfl] at H; exact H
                                  clear H
                                  have H := H1
                                  clear H1
                                  by_cases c66 : t250 = 0
                                  · rw [if_pos c66] at H
                                    have c66b0 : (t250 == 0) = true := beq_iff_eq.mpr c66
                                    have c66b1 : (t250 != 0) = false := bne_eq_false_iff_eq.mpr c66
                                    clear c66
                                    by_cases c67 : (ji47) < (t239.length : Int)
                                    · rw [if_pos c67] at H
                                      have c67b0 : decide ((ji47) < (t239.length : Int)) = true := decide_eq_true c67
                                      clear c67
                                      obtain rfl := Option.some.inj H
                                      have p247 : 0 ≤ ((ji47) : Int) := of_decide_eq_true (by first | (with_reducible assumption) | assumption)
                                      have q247 : (ji47) < (t227.length : Int) := of_decide_eq_true (by first | (with_reducible assumption) | assumption)
                                      obtain ⟨ad247, e247, hx247_0⟩ := Kd.at_int (Kd.R_reads' HO_11.out).2.2 (ji47) p247 q247
                                      cases e247
                                      replace p247 := eq_true p247
                                      replace q247 := eq_true q247
                                      have p50 : 0 ≤ ((ji47) : Int) := of_decide_eq_true (by first | (with_reducible assumption) | assumption)
                                      have q50 : ((ji47) : Int) < ((t227.length : Int) : Int) := of_decide_eq_true (by first | (with_reducible assumption) | assumption)
                                      obtain ⟨go50, co50, eo50, gb50, gl50, cl50, HG50⟩ := Kd.R_form HO_11.out (by omega)
                                      (first | cases eo50 | (injection eo50 with ea_ en_ ec_; (first | subst ea_ | (injection ea_ with ea_; subst ea_)); subst ec_; clear en_))
                                      have GB50 := Aside0.mk gb50
                                      have GG50 := Aside0.mk HG50
                                      clear gb50 gl50 HG50
                                      (first | simp only [add_plain] at hx247_0 | skip)
                                      obtain ⟨hx50_0, hf50_0⟩ := Kd.R_celln 0 HO_11.out ((ji47) : Int) p50 q50
                                      replace p50 := eq_true p50
                                      replace q50 := eq_true q50
                                      have HP68 := Kd.R_putg HO_11.out ((ji47) : Int) (wrap64 ((rd t227 (ji47)) + 1))
                                      go_wp2_with (first | ((with_reducible refine gate_store (t := 3) (p := 157) rfl ?_); (try (rw [drewN_self wc]; generalize hq_ : World.drewN wc _ = wc; have n0_ := Aside0.mk (Kd.R_at hq_ HO_11.out); have n1_ := Aside0.mk (Kd.R_at hq_ HO_18.out); have n2_ := Aside0.mk (below_at hq_ HB.out); clear hq_ HO_11 HO_18 HB; have HO_11 := n0_; have HO_18 := n1_; have HB := n2_; clear n0_ n1_ n2_; (try (have HP68 := Kd.R_putg HO_11.out ((ji47) : Int) (wrap64 ((rd t227 (ji47)) + 1)))))); refine store_event (t := 3) (p := 157) (v := ?vo_w69) (w1 := (wc.setCell ⟨go50, ((ji47) : Int).toNat, none⟩ (.int .i64 (wrap64 ((rd t227 (ji47)) + 1))))) ?hg ?ho ?hn ?hr ?_; (case ho => rfl); (case hg => rfl); (case hn => rfl); (case hr => first | (go_simp; done) | (go_simp; rfl)); intro w69 hw; have hg : wc.grownBy w69 (some go50) := (by rw [hw]; exact HP68.2); have hp_ : Kd.R (Kd.int .i64) 3 w69 w.heap.size (fun k_ => some k_ ≠ (v242 : Value).ownBlock) (.slice (some ⟨go50, 0, none⟩) t227.length co24) y248 := (by rw [hw, Ny248.out]; exact HP68.1); clear HP68; have n0_ := Aside0.mk (hp_); have n1_ := Aside0.mk (Kd.R_after (v := (.slice (some ⟨go50, 0, none⟩) t227.length co24)) (v1 := (.slice (some ⟨go50, 0, none⟩) t227.length co24)) (ok := (fun _ => True)) (by (with_reducible repeat (first | apply Kd.R_alloc | apply Kd.R_drewN | apply Kd.R_drew)); exact Kd.R_mono HO_18.out (fun _ hk => ⟨trivial, hk⟩)) hg (.inl rfl)); have n2_ := Aside0.mk ((by rw [hw]; exact below_set (HB.out) GB50.out : Below w.heap.size w w69)); clear HO_11; clear HO_18; clear HB; have HO_11 := n0_; have HO_18 := n1_; have HB := n2_; clear n0_ n1_ n2_; clear hg hw hp_) | (go_at_call 13; refine calls_of_args (args' := #[.slice A0 l0.length c0, .slice (some ⟨go50, 0, none⟩) y248.length co24]) (by first | (rw [show y248.length = t227.length from (Kd.R_reads' HO_11.out).1.symm] <;> rfl) | rfl) ?_; (with_reducible refine (array_Offset.calls _ _ l0 _ _ y248 t249 t250 _ ?side1 ?side2 ?side3 ?side4 A51.out).mono ?_); (case side1 => repeat (first | exact (Kd.C_below HR0.out HB.out) | (with_reducible refine Kd.C_alloc ?_ _) | (with_reducible refine Kd.C_drewN ?_ _) | (with_reducible refine Kd.C_drew ?_))); (case side2 => exact HC0.out); (case side3 => repeat (first | exact (Kd.R_reads' HO_11.out).2.2 | (with_reducible refine Kd.C_alloc ?_ _) | (with_reducible refine Kd.C_drewN ?_ _) | (with_reducible refine Kd.C_drew ?_))); (case side4 => rw [show y248.length = t227.length from (Kd.R_reads' HO_11.out).1.symm]; exact (Kd.R_reads' HO_11.out).2.1); rintro e w70 ⟨rfl, hb⟩; have n0_ := Aside0.mk (Kd.R_below (by (with_reducible repeat (first | apply Kd.R_alloc | apply Kd.R_drewN | apply Kd.R_drew)); exact HO_11.out) hb); have n1_ := Aside0.mk (Kd.R_below (by (with_reducible repeat (first | apply Kd.R_alloc | apply Kd.R_drewN | apply Kd.R_drew)); exact HO_18.out) hb); have n2_ := Aside0.mk (below_step (by repeat (first | exact HB.out | apply below_alloc | apply pw_below_drewN | apply below_drew1)) hb); clear HO_11; clear HO_18; clear HB; have HO_11 := n0_; have HO_18 := n1_; have HB := n2_; clear n0_ n1_ n2_; (try clear hb); have p251 : 0 ≤ ((ji47) : Int) := of_decide_eq_true (by first | (with_reducible assumption) | assumption); have q251 : (ji47) < (y248.length : Int) := (by have h_ : ((ji47) : Int) < ((t227.length : Int) : Int) := of_decide_eq_true (by first | (with_reducible assumption) | assumption); first | (have e_ := (Kd.R_reads' HO_11.out).1; omega) | simpa only [Ny248.out, List.length_set] using h_); have ql251 : (((ji47) : Int) < ((t227.length : Int) : Int)) = True := eq_true (of_decide_eq_true (by first | (with_reducible assumption) | assumption)); obtain ⟨ad251, e251, hx251_0⟩ := Kd.at_int (Kd.R_reads' HO_11.out).2.2 (ji47) p251 q251; obtain rfl : (⟨go50, 0, none⟩ : Addr) = ad251 := (by injection e251); (first | simp only [add_plain] at hx251_0 | simp only [add_at] at hx251_0 | simp only [Addr.add, Nat.zero_add] at hx251_0 | skip); replace p251 := eq_true p251; replace q251 := eq_true q251; have p252 : 0 ≤ ((ji47) : Int) := of_decide_eq_true (by first | (with_reducible assumption) | assumption); have q252 : (ji47) < (l0.length : Int) := of_decide_eq_true (by first | (with_reducible assumption) | assumption); obtain ⟨ad252, e252, hx252_0, hx252_1⟩ := at_T40 HR0.out (ji47) p252 q252; cases e252; replace hx252_0 := (HB.out.cell (World.block_lt_of_cell? w _ hx252_0)).trans hx252_0; replace hx252_1 := (HB.out.cell (World.block_lt_of_cell? w _ hx252_1)).trans hx252_1; replace p252 := eq_true p252; replace q252 := eq_true q252) | (go_at_call 11; (with_reducible refine (manorboylaw08_sanity.calls  true _ A64.out).mono ?_); rintro e w71 ⟨rfl, hb⟩; have n0_ := Aside0.mk (Kd.R_below (by (with_reducible repeat (first | apply Kd.R_alloc | apply Kd.R_drewN | apply Kd.R_drew)); exact HO_11.out) hb); have n1_ := Aside0.mk (Kd.R_below (by (with_reducible repeat (first | apply Kd.R_alloc | apply Kd.R_drewN | apply Kd.R_drew)); exact HO_18.out) hb); have n2_ := Aside0.mk (below_step (by repeat (first | exact HB.out | apply below_alloc | apply pw_below_drewN | apply below_drew1)) hb); clear HO_11; clear HO_18; clear HB; have HO_11 := n0_; have HO_18 := n1_; have HB := n2_; clear n0_ n1_ n2_; (try clear hb); obtain ⟨Ao72, co72, eo72⟩ := Kd.R_slice HO_18.out; subst eo72; have p255 : 0 ≤ ((ji47) : Int) := of_decide_eq_true (by first | (with_reducible assumption) | assumption); have q255 : (ji47) < (t239.length : Int) := of_decide_eq_true (by first | (with_reducible assumption) | assumption); obtain ⟨ad255, e255, hx255_0⟩ := Kd.at_int (Kd.R_reads' HO_18.out).2.2 (ji47) p255 q255; cases e255; replace p255 := eq_true p255; replace q255 := eq_true q255))
                                      repeat (go_quiet (first | ((with_reducible refine gate_store (t := 3) (p := 157) rfl ?_); (try (rw [drewN_self wc]; generalize hq_ : World.drewN wc _ = wc; have n0_ := Aside0.mk (Kd.R_at hq_ HO_11.out); have n1_ := Aside0.mk (Kd.R_at hq_ HO_18.out); have n2_ := Aside0.mk (below_at hq_ HB.out); clear hq_ HO_11 HO_18 HB; have HO_11 := n0_; have HO_18 := n1_; have HB := n2_; clear n0_ n1_ n2_; (try (have HP68 := Kd.R_putg HO_11.out ((ji47) : Int) (wrap64 ((rd t227 (ji47)) + 1)))))); refine store_event (t := 3) (p := 157) (v := ?vo_w69) (w1 := (wc.setCell ⟨go50, ((ji47) : Int).toNat, none⟩ (.int .i64 (wrap64 ((rd t227 (ji47)) + 1))))) ?hg ?ho ?hn ?hr ?_; (case ho => rfl); (case hg => rfl); (case hn => rfl); (case hr => first | (go_simp; done) | (go_simp; rfl)); intro w69 hw; have hg : wc.grownBy w69 (some go50) := (by rw [hw]; exact HP68.2); have hp_ : Kd.R (Kd.int .i64) 3 w69 w.heap.size (fun k_ => some k_ ≠ (v242 : Value).ownBlock) (.slice (some ⟨go50, 0, none⟩) t227.length co24) y248 := (by rw [hw, Ny248.out]; exact HP68.1); clear HP68; have n0_ := Aside0.mk (hp_); have n1_ := Aside0.mk (Kd.R_after (v := (.slice (some ⟨go50, 0, none⟩) t227.length co24)) (v1 := (.slice (some ⟨go50, 0, none⟩) t227.length co24)) (ok := (fun _ => True)) (by (with_reducible repeat (first | apply Kd.R_alloc | apply Kd.R_drewN | apply Kd.R_drew)); exact Kd.R_mono HO_18.out (fun _ hk => ⟨trivial, hk⟩)) hg (.inl rfl)); have n2_ := Aside0.mk ((by rw [hw]; exact below_set (HB.out) GB50.out : Below w.heap.size w w69)); clear HO_11; clear HO_18; clear HB; have HO_11 := n0_; have HO_18 := n1_; have HB := n2_; clear n0_ n1_ n2_; clear hg hw hp_) | (go_at_call 13; refine calls_of_args (args' := #[.slice A0 l0.length c0, .slice (some ⟨go50, 0, none⟩) y248.length co24]) (by first | (rw [show y248.length = t227.length from (Kd.R_reads' HO_11.out).1.symm] <;> rfl) | rfl) ?_; (with_reducible refine (array_Offset.calls _ _ l0 _ _ y248 t249 t250 _ ?side1 ?side2 ?side3 ?side4 A51.out).mono ?_); (case side1 => repeat (first | exact (Kd.C_below HR0.out HB.out) | (with_reducible refine Kd.C_alloc ?_ _) | (with_reducible refine Kd.C_drewN ?_ _) | (with_reducible refine Kd.C_drew ?_))); (case side2 => exact HC0.out); (case side3 => repeat (first | exact (Kd.R_reads' HO_11.out).2.2 | (with_reducible refine Kd.C_alloc ?_ _) | (with_reducible refine Kd.C_drewN ?_ _) | (with_reducible refine Kd.C_drew ?_))); (case side4 => rw [show y248.length = t227.length from (Kd.R_reads' HO_11.out).1.symm]; exact (Kd.R_reads' HO_11.out).2.1); rintro e w70 ⟨rfl, hb⟩; have n0_ := Aside0.mk (Kd.R_below (by (with_reducible repeat (first | apply Kd.R_alloc | apply Kd.R_drewN | apply Kd.R_drew)); exact HO_11.out) hb); have n1_ := Aside0.mk (Kd.R_below (by (with_reducible repeat (first | apply Kd.R_alloc | apply Kd.R_drewN | apply Kd.R_drew)); exact HO_18.out) hb); have n2_ := Aside0.mk (below_step (by repeat (first | exact HB.out | apply below_alloc | apply pw_below_drewN | apply below_drew1)) hb); clear HO_11; clear HO_18; clear HB; have HO_11 := n0_; have HO_18 := n1_; have HB := n2_; clear n0_ n1_ n2_; (try clear hb); have p251 : 0 ≤ ((ji47) : Int) := of_decide_eq_true (by first | (with_reducible assumption) | assumption); have q251 : (ji47) < (y248.length : Int) := (by have h_ : ((ji47) : Int) < ((t227.length : Int) : Int) := of_decide_eq_true (by first | (with_reducible assumption) | assumption); first | (have e_ := (Kd.R_reads' HO_11.out).1; omega) | simpa only [Ny248.out, List.length_set] using h_); have ql251 : (((ji47) : Int) < ((t227.length : Int) : Int)) = True := eq_true (of_decide_eq_true (by first | (with_reducible assumption) | assumption)); obtain ⟨ad251, e251, hx251_0⟩ := Kd.at_int (Kd.R_reads' HO_11.out).2.2 (ji47) p251 q251; obtain rfl : (⟨go50, 0, none⟩ : Addr) = ad251 := (by injection e251); (first | simp only [add_plain] at hx251_0 | simp only [add_at] at hx251_0 | simp only [Addr.add, Nat.zero_add] at hx251_0 | skip); replace p251 := eq_true p251; replace q251 := eq_true q251; have p252 : 0 ≤ ((ji47) : Int) := of_decide_eq_true (by first | (with_reducible assumption) | assumption); have q252 : (ji47) < (l0.length : Int) := of_decide_eq_true (by first | (with_reducible assumption) | assumption); obtain ⟨ad252, e252, hx252_0, hx252_1⟩ := at_T40 HR0.out (ji47) p252 q252; cases e252; replace hx252_0 := (HB.out.cell (World.block_lt_of_cell? w _ hx252_0)).trans hx252_0; replace hx252_1 := (HB.out.cell (World.block_lt_of_cell? w _ hx252_1)).trans hx252_1; replace p252 := eq_true p252; replace q252 := eq_true q252) | (go_at_call 11; (with_reducible refine (manorboylaw08_sanity.calls  true _ A64.out).mono ?_); rintro e w71 ⟨rfl, hb⟩; have n0_ := Aside0.mk (Kd.R_below (by (with_reducible repeat (first | apply Kd.R_alloc | apply Kd.R_drewN | apply Kd.R_drew)); exact HO_11.out) hb); have n1_ := Aside0.mk (Kd.R_below (by (with_reducible repeat (first | apply Kd.R_alloc | apply Kd.R_drewN | apply Kd.R_drew)); exact HO_18.out) hb); have n2_ := Aside0.mk (below_step (by repeat (first | exact HB.out | apply below_alloc | apply pw_below_drewN | apply below_drew1)) hb); clear HO_11; clear HO_18; clear HB; have HO_11 := n0_; have HO_18 := n1_; have HB := n2_; clear n0_ n1_ n2_; (try clear hb); obtain ⟨Ao72, co72, eo72⟩ := Kd.R_slice HO_18.out; subst eo72; have p255 : 0 ≤ ((ji47) : Int) := of_decide_eq_true (by first | (with_reducible assumption) | assumption); have q255 : (ji47) < (t239.length : Int) := of_decide_eq_true (by first | (with_reducible assumption) | assumption); obtain ⟨ad255, e255, hx255_0⟩ := Kd.at_int (Kd.R_reads' HO_18.out).2.2 (ji47) p255 q255; cases e255; replace p255 := eq_true p255; replace q255 := eq_true q255)); try go_wp2_with (first | ((with_reducible refine gate_store (t := 3) (p := 157) rfl ?_); (try (rw [drewN_self wc]; generalize hq_ : World.drewN wc _ = wc; have n0_ := Aside0.mk (Kd.R_at hq_ HO_11.out); have n1_ := Aside0.mk (Kd.R_at hq_ HO_18.out); have n2_ := Aside0.mk (below_at hq_ HB.out); clear hq_ HO_11 HO_18 HB; have HO_11 := n0_; have HO_18 := n1_; have HB := n2_; clear n0_ n1_ n2_; (try (have HP68 := Kd.R_putg HO_11.out ((ji47) : Int) (wrap64 ((rd t227 (ji47)) + 1)))))); refine store_event (t := 3) (p := 157) (v := ?vo_w69) (w1 := (wc.setCell ⟨go50, ((ji47) : Int).toNat, none⟩ (.int .i64 (wrap64 ((rd t227 (ji47)) + 1))))) ?hg ?ho ?hn ?hr ?_; (case ho => rfl); (case hg => rfl); (case hn => rfl); (case hr => first | (go_simp; done) | (go_simp; rfl)); intro w69 hw; have hg : wc.grownBy w69 (some go50) := (by rw [hw]; exact HP68.2); have hp_ : Kd.R (Kd.int .i64) 3 w69 w.heap.size (fun k_ => some k_ ≠ (v242 : Value).ownBlock) (.slice (some ⟨go50, 0, none⟩) t227.length co24) y248 := (by rw [hw, Ny248.out]; exact HP68.1); clear HP68; have n0_ := Aside0.mk (hp_); have n1_ := Aside0.mk (Kd.R_after (v := (.slice (some ⟨go50, 0, none⟩) t227.length co24)) (v1 := (.slice (some ⟨go50, 0, none⟩) t227.length co24)) (ok := (fun _ => True)) (by (with_reducible repeat (first | apply Kd.R_alloc | apply Kd.R_drewN | apply Kd.R_drew)); exact Kd.R_mono HO_18.out (fun _ hk => ⟨trivial, hk⟩)) hg (.inl rfl)); have n2_ := Aside0.mk ((by rw [hw]; exact below_set (HB.out) GB50.out : Below w.heap.size w w69)); clear HO_11; clear HO_18; clear HB; have HO_11 := n0_; have HO_18 := n1_; have HB := n2_; clear n0_ n1_ n2_; clear hg hw hp_) | (go_at_call 13; refine calls_of_args (args' := #[.slice A0 l0.length c0, .slice (some ⟨go50, 0, none⟩) y248.length co24]) (by first | (rw [show y248.length = t227.length from (Kd.R_reads' HO_11.out).1.symm] <;> rfl) | rfl) ?_; (with_reducible refine (array_Offset.calls _ _ l0 _ _ y248 t249 t250 _ ?side1 ?side2 ?side3 ?side4 A51.out).mono ?_); (case side1 => repeat (first | exact (Kd.C_below HR0.out HB.out) | (with_reducible refine Kd.C_alloc ?_ _) | (with_reducible refine Kd.C_drewN ?_ _) | (with_reducible refine Kd.C_drew ?_))); (case side2 => exact HC0.out); (case side3 => repeat (first | exact (Kd.R_reads' HO_11.out).2.2 | (with_reducible refine Kd.C_alloc ?_ _) | (with_reducible refine Kd.C_drewN ?_ _) | (with_reducible refine Kd.C_drew ?_))); (case side4 => rw [show y248.length = t227.length from (Kd.R_reads' HO_11.out).1.symm]; exact (Kd.R_reads' HO_11.out).2.1); rintro e w70 ⟨rfl, hb⟩; have n0_ := Aside0.mk (Kd.R_below (by (with_reducible repeat (first | apply Kd.R_alloc | apply Kd.R_drewN | apply Kd.R_drew)); exact HO_11.out) hb); have n1_ := Aside0.mk (Kd.R_below (by (with_reducible repeat (first | apply Kd.R_alloc | apply Kd.R_drewN | apply Kd.R_drew)); exact HO_18.out) hb); have n2_ := Aside0.mk (below_step (by repeat (first | exact HB.out | apply below_alloc | apply pw_below_drewN | apply below_drew1)) hb); clear HO_11; clear HO_18; clear HB; have HO_11 := n0_; have HO_18 := n1_; have HB := n2_; clear n0_ n1_ n2_; (try clear hb); have p251 : 0 ≤ ((ji47) : Int) := of_decide_eq_true (by first | (with_reducible assumption) | assumption); have q251 : (ji47) < (y248.length : Int) := (by have h_ : ((ji47) : Int) < ((t227.length : Int) : Int) := of_decide_eq_true (by first | (with_reducible assumption) | assumption); first | (have e_ := (Kd.R_reads' HO_11.out).1; omega) | simpa only [Ny248.out, List.length_set] using h_); have ql251 : (((ji47) : Int) < ((t227.length : Int) : Int)) = True := eq_true (of_decide_eq_true (by first | (with_reducible assumption) | assumption)); obtain ⟨ad251, e251, hx251_0⟩ := Kd.at_int (Kd.R_reads' HO_11.out).2.2 (ji47) p251 q251; obtain rfl : (⟨go50, 0, none⟩ : Addr) = ad251 := (by injection e251); (first | simp only [add_plain] at hx251_0 | simp only [add_at] at hx251_0 | simp only [Addr.add, Nat.zero_add] at hx251_0 | skip); replace p251 := eq_true p251; replace q251 := eq_true q251; have p252 : 0 ≤ ((ji47) : Int) := of_decide_eq_true (by first | (with_reducible assumption) | assumption); have q252 : (ji47) < (l0.length : Int) := of_decide_eq_true (by first | (with_reducible assumption) | assumption); obtain ⟨ad252, e252, hx252_0, hx252_1⟩ := at_T40 HR0.out (ji47) p252 q252; cases e252; replace hx252_0 := (HB.out.cell (World.block_lt_of_cell? w _ hx252_0)).trans hx252_0; replace hx252_1 := (HB.out.cell (World.block_lt_of_cell? w _ hx252_1)).trans hx252_1; replace p252 := eq_true p252; replace q252 := eq_true q252) | (go_at_call 11; (with_reducible refine (manorboylaw08_sanity.calls  true _ A64.out).mono ?_); rintro e w71 ⟨rfl, hb⟩; have n0_ := Aside0.mk (Kd.R_below (by (with_reducible repeat (first | apply Kd.R_alloc | apply Kd.R_drewN | apply Kd.R_drew)); exact HO_11.out) hb); have n1_ := Aside0.mk (Kd.R_below (by (with_reducible repeat (first | apply Kd.R_alloc | apply Kd.R_drewN | apply Kd.R_drew)); exact HO_18.out) hb); have n2_ := Aside0.mk (below_step (by repeat (first | exact HB.out | apply below_alloc | apply pw_below_drewN | apply below_drew1)) hb); clear HO_11; clear HO_18; clear HB; have HO_11 := n0_; have HO_18 := n1_; have HB := n2_; clear n0_ n1_ n2_; (try clear hb); obtain ⟨Ao72, co72, eo72⟩ := Kd.R_slice HO_18.out; subst eo72; have p255 : 0 ≤ ((ji47) : Int) := of_decide_eq_true (by first | (with_reducible assumption) | assumption); have q255 : (ji47) < (t239.length : Int) := of_decide_eq_true (by first | (with_reducible assumption) | assumption); obtain ⟨ad255, e255, hx255_0⟩ := Kd.at_int (Kd.R_reads' HO_18.out).2.2 (ji47) p255 q255; cases e255; replace p255 := eq_true p255; replace q255 := eq_true q255)))
                                      go_ret
                                      exact ⟨by first | rfl | (simp [errW_none, errW_some] <;> rfl) | (simp only [← hji47]; first | rfl | (simp [errW_none, errW_some] <;> rfl)) | (simp [*, errW_none, errW_some] <;> rfl), by repeat (first | exact HB.out | apply below_alloc | apply pw_below_drewN | apply below_drew1)⟩
                                    · rw [if_neg c67] at H
                                      exact absurd H (by simp)
                                  · rw [if_neg c66] at H
                                    have c66b0 : (t250 == 0) = false := beq_eq_false_iff_ne.mpr c66
                                    have c66b1 : (t250 != 0) = true := bne_iff_ne.mpr c66
                                    obtain rfl := Option.some.inj H
                                    have p247 : 0 ≤ ((ji47) : Int) := of_decide_eq_true (by first | (with_reducible assumption) | assumption)
                                    have q247 : (ji47) < (t227.length : Int) := of_decide_eq_true (by first | (with_reducible assumption) | assumption)
                                    obtain ⟨ad247, e247, hx247_0⟩ := Kd.at_int (Kd.R_reads' HO_11.out).2.2 (ji47) p247 q247
                                    cases e247
                                    replace p247 := eq_true p247
                                    replace q247 := eq_true q247
                                    have p50 : 0 ≤ ((ji47) : Int) := of_decide_eq_true (by first | (with_reducible assumption) | assumption)
                                    have q50 : ((ji47) : Int) < ((t227.length : Int) : Int) := of_decide_eq_true (by first | (with_reducible assumption) | assumption)
                                    obtain ⟨go50, co50, eo50, gb50, gl50, cl50, HG50⟩ := Kd.R_form HO_11.out (by omega)
                                    (first | cases eo50 | (injection eo50 with ea_ en_ ec_; (first | subst ea_ | (injection ea_ with ea_; subst ea_)); subst ec_; clear en_))
                                    have GB50 := Aside0.mk gb50
                                    have GG50 := Aside0.mk HG50
                                    clear gb50 gl50 HG50
                                    (first | simp only [add_plain] at hx247_0 | skip)
                                    obtain ⟨hx50_0, hf50_0⟩ := Kd.R_celln 0 HO_11.out ((ji47) : Int) p50 q50
                                    replace p50 := eq_true p50
                                    replace q50 := eq_true q50
                                    have HP73 := Kd.R_putg HO_11.out ((ji47) : Int) (wrap64 ((rd t227 (ji47)) + 1))
                                    go_wp2_with (first | ((with_reducible refine gate_store (t := 3) (p := 157) rfl ?_); (try (rw [drewN_self wc]; generalize hq_ : World.drewN wc _ = wc; have n0_ := Aside0.mk (Kd.R_at hq_ HO_11.out); have n1_ := Aside0.mk (Kd.R_at hq_ HO_18.out); have n2_ := Aside0.mk (below_at hq_ HB.out); clear hq_ HO_11 HO_18 HB; have HO_11 := n0_; have HO_18 := n1_; have HB := n2_; clear n0_ n1_ n2_; (try (have HP73 := Kd.R_putg HO_11.out ((ji47) : Int) (wrap64 ((rd t227 (ji47)) + 1)))))); refine store_event (t := 3) (p := 157) (v := ?vo_w74) (w1 := (wc.setCell ⟨go50, ((ji47) : Int).toNat, none⟩ (.int .i64 (wrap64 ((rd t227 (ji47)) + 1))))) ?hg ?ho ?hn ?hr ?_; (case ho => rfl); (case hg => rfl); (case hn => rfl); (case hr => first | (go_simp; done) | (go_simp; rfl)); intro w74 hw; have hg : wc.grownBy w74 (some go50) := (by rw [hw]; exact HP73.2); have hp_ : Kd.R (Kd.int .i64) 3 w74 w.heap.size (fun k_ => some k_ ≠ (v242 : Value).ownBlock) (.slice (some ⟨go50, 0, none⟩) t227.length co24) y248 := (by rw [hw, Ny248.out]; exact HP73.1); clear HP73; have n0_ := Aside0.mk (hp_); have n1_ := Aside0.mk (Kd.R_after (v := (.slice (some ⟨go50, 0, none⟩) t227.length co24)) (v1 := (.slice (some ⟨go50, 0, none⟩) t227.length co24)) (ok := (fun _ => True)) (by (with_reducible repeat (first | apply Kd.R_alloc | apply Kd.R_drewN | apply Kd.R_drew)); exact Kd.R_mono HO_18.out (fun _ hk => ⟨trivial, hk⟩)) hg (.inl rfl)); have n2_ := Aside0.mk ((by rw [hw]; exact below_set (HB.out) GB50.out : Below w.heap.size w w74)); clear HO_11; clear HO_18; clear HB; have HO_11 := n0_; have HO_18 := n1_; have HB := n2_; clear n0_ n1_ n2_; clear hg hw hp_) | (go_at_call 13; refine calls_of_args (args' := #[.slice A0 l0.length c0, .slice (some ⟨go50, 0, none⟩) y248.length co24]) (by first | (rw [show y248.length = t227.length from (Kd.R_reads' HO_11.out).1.symm] <;> rfl) | rfl) ?_; (with_reducible refine (array_Offset.calls _ _ l0 _ _ y248 t249 t250 _ ?side1 ?side2 ?side3 ?side4 A51.out).mono ?_); (case side1 => repeat (first | exact (Kd.C_below HR0.out HB.out) | (with_reducible refine Kd.C_alloc ?_ _) | (with_reducible refine Kd.C_drewN ?_ _) | (with_reducible refine Kd.C_drew ?_))); (case side2 => exact HC0.out); (case side3 => repeat (first | exact (Kd.R_reads' HO_11.out).2.2 | (with_reducible refine Kd.C_alloc ?_ _) | (with_reducible refine Kd.C_drewN ?_ _) | (with_reducible refine Kd.C_drew ?_))); (case side4 => rw [show y248.length = t227.length from (Kd.R_reads' HO_11.out).1.symm]; exact (Kd.R_reads' HO_11.out).2.1); rintro e w75 ⟨rfl, hb⟩; have n0_ := Aside0.mk (Kd.R_below (by (with_reducible repeat (first | apply Kd.R_alloc | apply Kd.R_drewN | apply Kd.R_drew)); exact HO_11.out) hb); have n1_ := Aside0.mk (Kd.R_below (by (with_reducible repeat (first | apply Kd.R_alloc | apply Kd.R_drewN | apply Kd.R_drew)); exact HO_18.out) hb); have n2_ := Aside0.mk (below_step (by repeat (first | exact HB.out | apply below_alloc | apply pw_below_drewN | apply below_drew1)) hb); clear HO_11; clear HO_18; clear HB; have HO_11 := n0_; have HO_18 := n1_; have HB := n2_; clear n0_ n1_ n2_; (try clear hb); have p251 : 0 ≤ ((ji47) : Int) := of_decide_eq_true (by first | (with_reducible assumption) | assumption); have q251 : (ji47) < (y248.length : Int) := (by have h_ : ((ji47) : Int) < ((t227.length : Int) : Int) := of_decide_eq_true (by first | (with_reducible assumption) | assumption); first | (have e_ := (Kd.R_reads' HO_11.out).1; omega) | simpa only [Ny248.out, List.length_set] using h_); have ql251 : (((ji47) : Int) < ((t227.length : Int) : Int)) = True := eq_true (of_decide_eq_true (by first | (with_reducible assumption) | assumption)); obtain ⟨ad251, e251, hx251_0⟩ := Kd.at_int (Kd.R_reads' HO_11.out).2.2 (ji47) p251 q251; obtain rfl : (⟨go50, 0, none⟩ : Addr) = ad251 := (by injection e251); (first | simp only [add_plain] at hx251_0 | simp only [add_at] at hx251_0 | simp only [Addr.add, Nat.zero_add] at hx251_0 | skip); replace p251 := eq_true p251; replace q251 := eq_true q251; have p252 : 0 ≤ ((ji47) : Int) := of_decide_eq_true (by first | (with_reducible assumption) | assumption); have q252 : (ji47) < (l0.length : Int) := of_decide_eq_true (by first | (with_reducible assumption) | assumption); obtain ⟨ad252, e252, hx252_0, hx252_1⟩ := at_T40 HR0.out (ji47) p252 q252; cases e252; replace hx252_0 := (HB.out.cell (World.block_lt_of_cell? w _ hx252_0)).trans hx252_0; replace hx252_1 := (HB.out.cell (World.block_lt_of_cell? w _ hx252_1)).trans hx252_1; replace p252 := eq_true p252; replace q252 := eq_true q252) | (go_at_call 11; (with_reducible refine (manorboylaw08_sanity.calls  true _ A64.out).mono ?_); rintro e w76 ⟨rfl, hb⟩; have n0_ := Aside0.mk (Kd.R_below (by (with_reducible repeat (first | apply Kd.R_alloc | apply Kd.R_drewN | apply Kd.R_drew)); exact HO_11.out) hb); have n1_ := Aside0.mk (Kd.R_below (by (with_reducible repeat (first | apply Kd.R_alloc | apply Kd.R_drewN | apply Kd.R_drew)); exact HO_18.out) hb); have n2_ := Aside0.mk (below_step (by repeat (first | exact HB.out | apply below_alloc | apply pw_below_drewN | apply below_drew1)) hb); clear HO_11; clear HO_18; clear HB; have HO_11 := n0_; have HO_18 := n1_; have HB := n2_; clear n0_ n1_ n2_; (try clear hb)))
                                    repeat (go_quiet (first | ((with_reducible refine gate_store (t := 3) (p := 157) rfl ?_); (try (rw [drewN_self wc]; generalize hq_ : World.drewN wc _ = wc; have n0_ := Aside0.mk (Kd.R_at hq_ HO_11.out); have n1_ := Aside0.mk (Kd.R_at hq_ HO_18.out); have n2_ := Aside0.mk (below_at hq_ HB.out); clear hq_ HO_11 HO_18 HB; have HO_11 := n0_; have HO_18 := n1_; have HB := n2_; clear n0_ n1_ n2_; (try (have HP73 := Kd.R_putg HO_11.out ((ji47) : Int) (wrap64 ((rd t227 (ji47)) + 1)))))); refine store_event (t := 3) (p := 157) (v := ?vo_w74) (w1 := (wc.setCell ⟨go50, ((ji47) : Int).toNat, none⟩ (.int .i64 (wrap64 ((rd t227 (ji47)) + 1))))) ?hg ?ho ?hn ?hr ?_; (case ho => rfl); (case hg => rfl); (case hn => rfl); (case hr => first | (go_simp; done) | (go_simp; rfl)); intro w74 hw; have hg : wc.grownBy w74 (some go50) := (by rw [hw]; exact HP73.2); have hp_ : Kd.R (Kd.int .i64) 3 w74 w.heap.size (fun k_ => some k_ ≠ (v242 : Value).ownBlock) (.slice (some ⟨go50, 0, none⟩) t227.length co24) y248 := (by rw [hw, Ny248.out]; exact HP73.1); clear HP73; have n0_ := Aside0.mk (hp_); have n1_ := Aside0.mk (Kd.R_after (v := (.slice (some ⟨go50, 0, none⟩) t227.length co24)) (v1 := (.slice (some ⟨go50, 0, none⟩) t227.length co24)) (ok := (fun _ => True)) (by (with_reducible repeat (first | apply Kd.R_alloc | apply Kd.R_drewN | apply Kd.R_drew)); exact Kd.R_mono HO_18.out (fun _ hk => ⟨trivial, hk⟩)) hg (.inl rfl)); have n2_ := Aside0.mk ((by rw [hw]; exact below_set (HB.out) GB50.out : Below w.heap.size w w74)); clear HO_11; clear HO_18; clear HB; have HO_11 := n0_; have HO_18 := n1_; have HB := n2_; clear n0_ n1_ n2_; clear hg hw hp_) | (go_at_call 13; refine calls_of_args (args' := #[.slice A0 l0.length c0, .slice (some ⟨go50, 0, none⟩) y248.length co24]) (by first | (rw [show y248.length = t227.length from (Kd.R_reads' HO_11.out).1.symm] <;> rfl) | rfl) ?_; (with_reducible refine (array_Offset.calls _ _ l0 _ _ y248 t249 t250 _ ?side1 ?side2 ?side3 ?side4 A51.out).mono ?_); (case side1 => repeat (first | exact (Kd.C_below HR0.out HB.out) | (with_reducible refine Kd.C_alloc ?_ _) | (with_reducible refine Kd.C_drewN ?_ _) | (with_reducible refine Kd.C_drew ?_))); (case side2 => exact HC0.out); (case side3 => repeat (first | exact (Kd.R_reads' HO_11.out).2.2 | (with_reducible refine Kd.C_alloc ?_ _) | (with_reducible refine Kd.C_drewN ?_ _) | (with_reducible refine Kd.C_drew ?_))); (case side4 => rw [show y248.length = t227.length from (Kd.R_reads' HO_11.out).1.symm]; exact (Kd.R_reads' HO_11.out).2.1); rintro e w75 ⟨rfl, hb⟩; have n0_ := Aside0.mk (Kd.R_below (by (with_reducible repeat (first | apply Kd.R_alloc | apply Kd.R_drewN | apply Kd.R_drew)); exact HO_11.out) hb); have n1_ := Aside0.mk (Kd.R_below (by (with_reducible repeat (first | apply Kd.R_alloc | apply Kd.R_drewN | apply Kd.R_drew)); exact HO_18.out) hb); have n2_ := Aside0.mk (below_step (by repeat (first | exact HB.out | apply below_alloc | apply pw_below_drewN | apply below_drew1)) hb); clear HO_11; clear HO_18; clear HB; have HO_11 := n0_; have HO_18 := n1_; have HB := n2_; clear n0_ n1_ n2_; (try clear hb); have p251 : 0 ≤ ((ji47) : Int) := of_decide_eq_true (by first | (with_reducible assumption) | assumption); have q251 : (ji47) < (y248.length : Int) := (by have h_ : ((ji47) : Int) < ((t227.length : Int) : Int) := of_decide_eq_true (by first | (with_reducible assumption) | assumption); first | (have e_ := (Kd.R_reads' HO_11.out).1; omega) | simpa only [Ny248.out, List.length_set] using h_); have ql251 : (((ji47) : Int) < ((t227.length : Int) : Int)) = True := eq_true (of_decide_eq_true (by first | (with_reducible assumption) | assumption)); obtain ⟨ad251, e251, hx251_0⟩ := Kd.at_int (Kd.R_reads' HO_11.out).2.2 (ji47) p251 q251; obtain rfl : (⟨go50, 0, none⟩ : Addr) = ad251 := (by injection e251); (first | simp only [add_plain] at hx251_0 | simp only [add_at] at hx251_0 | simp only [Addr.add, Nat.zero_add] at hx251_0 | skip); replace p251 := eq_true p251; replace q251 := eq_true q251; have p252 : 0 ≤ ((ji47) : Int) := of_decide_eq_true (by first | (with_reducible assumption) | assumption); have q252 : (ji47) < (l0.length : Int) := of_decide_eq_true (by first | (with_reducible assumption) | assumption); obtain ⟨ad252, e252, hx252_0, hx252_1⟩ := at_T40 HR0.out (ji47) p252 q252; cases e252; replace hx252_0 := (HB.out.cell (World.block_lt_of_cell? w _ hx252_0)).trans hx252_0; replace hx252_1 := (HB.out.cell (World.block_lt_of_cell? w _ hx252_1)).trans hx252_1; replace p252 := eq_true p252; replace q252 := eq_true q252) | (go_at_call 11; (with_reducible refine (manorboylaw08_sanity.calls  true _ A64.out).mono ?_); rintro e w76 ⟨rfl, hb⟩; have n0_ := Aside0.mk (Kd.R_below (by (with_reducible repeat (first | apply Kd.R_alloc | apply Kd.R_drewN | apply Kd.R_drew)); exact HO_11.out) hb); have n1_ := Aside0.mk (Kd.R_below (by (with_reducible repeat (first | apply Kd.R_alloc | apply Kd.R_drewN | apply Kd.R_drew)); exact HO_18.out) hb); have n2_ := Aside0.mk (below_step (by repeat (first | exact HB.out | apply below_alloc | apply pw_below_drewN | apply below_drew1)) hb); clear HO_11; clear HO_18; clear HB; have HO_11 := n0_; have HO_18 := n1_; have HB := n2_; clear n0_ n1_ n2_; (try clear hb))); try go_wp2_with (first | ((with_reducible refine gate_store (t := 3) (p := 157) rfl ?_); (try (rw [drewN_self wc]; generalize hq_ : World.drewN wc _ = wc; have n0_ := Aside0.mk (Kd.R_at hq_ HO_11.out); have n1_ := Aside0.mk (Kd.R_at hq_ HO_18.out); have n2_ := Aside0.mk (below_at hq_ HB.out); clear hq_ HO_11 HO_18 HB; have HO_11 := n0_; have HO_18 := n1_; have HB := n2_; clear n0_ n1_ n2_; (try (have HP73 := Kd.R_putg HO_11.out ((ji47) : Int) (wrap64 ((rd t227 (ji47)) + 1)))))); refine store_event (t := 3) (p := 157) (v := ?vo_w74) (w1 := (wc.setCell ⟨go50, ((ji47) : Int).toNat, none⟩ (.int .i64 (wrap64 ((rd t227 (ji47)) + 1))))) ?hg ?ho ?hn ?hr ?_; (case ho => rfl); (case hg => rfl); (case hn => rfl); (case hr => first | (go_simp; done) | (go_simp; rfl)); intro w74 hw; have hg : wc.grownBy w74 (some go50) := (by rw [hw]; exact HP73.2); have hp_ : Kd.R (Kd.int .i64) 3 w74 w.heap.size (fun k_ => some k_ ≠ (v242 : Value).ownBlock) (.slice (some ⟨go50, 0, none⟩) t227.length co24) y248 := (by rw [hw, Ny248.out]; exact HP73.1); clear HP73; have n0_ := Aside0.mk (hp_); have n1_ := Aside0.mk (Kd.R_after (v := (.slice (some ⟨go50, 0, none⟩) t227.length co24)) (v1 := (.slice (some ⟨go50, 0, none⟩) t227.length co24)) (ok := (fun _ => True)) (by (with_reducible repeat (first | apply Kd.R_alloc | apply Kd.R_drewN | apply Kd.R_drew)); exact Kd.R_mono HO_18.out (fun _ hk => ⟨trivial, hk⟩)) hg (.inl rfl)); have n2_ := Aside0.mk ((by rw [hw]; exact below_set (HB.out) GB50.out : Below w.heap.size w w74)); clear HO_11; clear HO_18; clear HB; have HO_11 := n0_; have HO_18 := n1_; have HB := n2_; clear n0_ n1_ n2_; clear hg hw hp_) | (go_at_call 13; refine calls_of_args (args' := #[.slice A0 l0.length c0, .slice (some ⟨go50, 0, none⟩) y248.length co24]) (by first | (rw [show y248.length = t227.length from (Kd.R_reads' HO_11.out).1.symm] <;> rfl) | rfl) ?_; (with_reducible refine (array_Offset.calls _ _ l0 _ _ y248 t249 t250 _ ?side1 ?side2 ?side3 ?side4 A51.out).mono ?_); (case side1 => repeat (first | exact (Kd.C_below HR0.out HB.out) | (with_reducible refine Kd.C_alloc ?_ _) | (with_reducible refine Kd.C_drewN ?_ _) | (with_reducible refine Kd.C_drew ?_))); (case side2 => exact HC0.out); (case side3 => repeat (first | exact (Kd.R_reads' HO_11.out).2.2 | (with_reducible refine Kd.C_alloc ?_ _) | (with_reducible refine Kd.C_drewN ?_ _) | (with_reducible refine Kd.C_drew ?_))); (case side4 => rw [show y248.length = t227.length from (Kd.R_reads' HO_11.out).1.symm]; exact (Kd.R_reads' HO_11.out).2.1); rintro e w75 ⟨rfl, hb⟩; have n0_ := Aside0.mk (Kd.R_below (by (with_reducible repeat (first | apply Kd.R_alloc | apply Kd.R_drewN | apply Kd.R_drew)); exact HO_11.out) hb); have n1_ := Aside0.mk (Kd.R_below (by (with_reducible repeat (first | apply Kd.R_alloc | apply Kd.R_drewN | apply Kd.R_drew)); exact HO_18.out) hb); have n2_ := Aside0.mk (below_step (by repeat (first | exact HB.out | apply below_alloc | apply pw_below_drewN | apply below_drew1)) hb); clear HO_11; clear HO_18; clear HB; have HO_11 := n0_; have HO_18 := n1_; have HB := n2_; clear n0_ n1_ n2_; (try clear hb); have p251 : 0 ≤ ((ji47) : Int) := of_decide_eq_true (by first | (with_reducible assumption) | assumption); have q251 : (ji47) < (y248.length : Int) := (by have h_ : ((ji47) : Int) < ((t227.length : Int) : Int) := of_decide_eq_true (by first | (with_reducible assumption) | assumption); first | (have e_ := (Kd.R_reads' HO_11.out).1; omega) | simpa only [Ny248.out, List.length_set] using h_); have ql251 : (((ji47) : Int) < ((t227.length : Int) : Int)) = True := eq_true (of_decide_eq_true (by first | (with_reducible assumption) | assumption)); obtain ⟨ad251, e251, hx251_0⟩ := Kd.at_int (Kd.R_reads' HO_11.out).2.2 (ji47) p251 q251; obtain rfl : (⟨go50, 0, none⟩ : Addr) = ad251 := (by injection e251); (first | simp only [add_plain] at hx251_0 | simp only [add_at] at hx251_0 | simp only [Addr.add, Nat.zero_add] at hx251_0 | skip); replace p251 := eq_true p251; replace q251 := eq_true q251; have p252 : 0 ≤ ((ji47) : Int) := of_decide_eq_true (by first | (with_reducible assumption) | assumption); have q252 : (ji47) < (l0.length : Int) := of_decide_eq_true (by first | (with_reducible assumption) | assumption); obtain ⟨ad252, e252, hx252_0, hx252_1⟩ := at_T40 HR0.out (ji47) p252 q252; cases e252; replace hx252_0 := (HB.out.cell (World.block_lt_of_cell? w _ hx252_0)).trans hx252_0; replace hx252_1 := (HB.out.cell (World.block_lt_of_cell? w _ hx252_1)).trans hx252_1; replace p252 := eq_true p252; replace q252 := eq_true q252) | (go_at_call 11; (with_reducible refine (manorboylaw08_sanity.calls  true _ A64.out).mono ?_); rintro e w76 ⟨rfl, hb⟩; have n0_ := Aside0.mk (Kd.R_below (by (with_reducible repeat (first | apply Kd.R_alloc | apply Kd.R_drewN | apply Kd.R_drew)); exact HO_11.out) hb); have n1_ := Aside0.mk (Kd.R_below (by (with_reducible repeat (first | apply Kd.R_alloc | apply Kd.R_drewN | apply Kd.R_drew)); exact HO_18.out) hb); have n2_ := Aside0.mk (below_step (by repeat (first | exact HB.out | apply below_alloc | apply pw_below_drewN | apply below_drew1)) hb); clear HO_11; clear HO_18; clear HB; have HO_11 := n0_; have HO_18 := n1_; have HB := n2_; clear n0_ n1_ n2_; (try clear hb))))
                                    go_ret
                                    exact ⟨by first | rfl | (simp [errW_none, errW_some] <;> rfl) | (simp only [← hji47]; first | rfl | (simp [errW_none, errW_some] <;> rfl)) | (simp [*, errW_none, errW_some] <;> rfl), by repeat (first | exact HB.out | apply below_alloc | apply pw_below_drewN | apply below_drew1)⟩
                                · replace c65 := Bool.eq_false_iff.mpr c65
                                  subst c65
                                  have H1 : (some false) = some r := by rw [if_neg (show ¬ (false = true) by decide)] at H; exact H
                                  clear H
                                  have H := H1
                                  clear H1
                                  obtain rfl := Option.some.inj H
                                  have p247 : 0 ≤ ((ji47) : Int) := of_decide_eq_true (by first | (with_reducible assumption) | assumption)
                                  have q247 : (ji47) < (t227.length : Int) := of_decide_eq_true (by first | (with_reducible assumption) | assumption)
                                  obtain ⟨ad247, e247, hx247_0⟩ := Kd.at_int (Kd.R_reads' HO_11.out).2.2 (ji47) p247 q247
                                  cases e247
                                  replace p247 := eq_true p247
                                  replace q247 := eq_true q247
                                  have p50 : 0 ≤ ((ji47) : Int) := of_decide_eq_true (by first | (with_reducible assumption) | assumption)
                                  have q50 : ((ji47) : Int) < ((t227.length : Int) : Int) := of_decide_eq_true (by first | (with_reducible assumption) | assumption)
                                  obtain ⟨go50, co50, eo50, gb50, gl50, cl50, HG50⟩ := Kd.R_form HO_11.out (by omega)
                                  (first | cases eo50 | (injection eo50 with ea_ en_ ec_; (first | subst ea_ | (injection ea_ with ea_; subst ea_)); subst ec_; clear en_))
                                  have GB50 := Aside0.mk gb50
                                  have GG50 := Aside0.mk HG50
                                  clear gb50 gl50 HG50
                                  (first | simp only [add_plain] at hx247_0 | skip)
                                  obtain ⟨hx50_0, hf50_0⟩ := Kd.R_celln 0 HO_11.out ((ji47) : Int) p50 q50
                                  replace p50 := eq_true p50
                                  replace q50 := eq_true q50
                                  have HP77 := Kd.R_putg HO_11.out ((ji47) : Int) (wrap64 ((rd t227 (ji47)) + 1))
                                  go_wp2_with (first | ((with_reducible refine gate_store (t := 3) (p := 157) rfl ?_); (try (rw [drewN_self wc]; generalize hq_ : World.drewN wc _ = wc; have n0_ := Aside0.mk (Kd.R_at hq_ HO_11.out); have n1_ := Aside0.mk (Kd.R_at hq_ HO_18.out); have n2_ := Aside0.mk (below_at hq_ HB.out); clear hq_ HO_11 HO_18 HB; have HO_11 := n0_; have HO_18 := n1_; have HB := n2_; clear n0_ n1_ n2_; (try (have HP77 := Kd.R_putg HO_11.out ((ji47) : Int) (wrap64 ((rd t227 (ji47)) + 1)))))); refine store_event (t := 3) (p := 157) (v := ?vo_w78) (w1 := (wc.setCell ⟨go50, ((ji47) : Int).toNat, none⟩ (.int .i64 (wrap64 ((rd t227 (ji47)) + 1))))) ?hg ?ho ?hn ?hr ?_; (case ho => rfl); (case hg => rfl); (case hn => rfl); (case hr => first | (go_simp; done) | (go_simp; rfl)); intro w78 hw; have hg : wc.grownBy w78 (some go50) := (by rw [hw]; exact HP77.2); have hp_ : Kd.R (Kd.int .i64) 3 w78 w.heap.size (fun k_ => some k_ ≠ (v242 : Value).ownBlock) (.slice (some ⟨go50, 0, none⟩) t227.length co24) y248 := (by rw [hw, Ny248.out]; exact HP77.1); clear HP77; have n0_ := Aside0.mk (hp_); have n1_ := Aside0.mk (Kd.R_after (v := (.slice (some ⟨go50, 0, none⟩) t227.length co24)) (v1 := (.slice (some ⟨go50, 0, none⟩) t227.length co24)) (ok := (fun _ => True)) (by (with_reducible repeat (first | apply Kd.R_alloc | apply Kd.R_drewN | apply Kd.R_drew)); exact Kd.R_mono HO_18.out (fun _ hk => ⟨trivial, hk⟩)) hg (.inl rfl)); have n2_ := Aside0.mk ((by rw [hw]; exact below_set (HB.out) GB50.out : Below w.heap.size w w78)); clear HO_11; clear HO_18; clear HB; have HO_11 := n0_; have HO_18 := n1_; have HB := n2_; clear n0_ n1_ n2_; clear hg hw hp_) | (go_at_call 13; refine calls_of_args (args' := #[.slice A0 l0.length c0, .slice (some ⟨go50, 0, none⟩) y248.length co24]) (by first | (rw [show y248.length = t227.length from (Kd.R_reads' HO_11.out).1.symm] <;> rfl) | rfl) ?_; (with_reducible refine (array_Offset.calls _ _ l0 _ _ y248 t249 t250 _ ?side1 ?side2 ?side3 ?side4 A51.out).mono ?_); (case side1 => repeat (first | exact (Kd.C_below HR0.out HB.out) | (with_reducible refine Kd.C_alloc ?_ _) | (with_reducible refine Kd.C_drewN ?_ _) | (with_reducible refine Kd.C_drew ?_))); (case side2 => exact HC0.out); (case side3 => repeat (first | exact (Kd.R_reads' HO_11.out).2.2 | (with_reducible refine Kd.C_alloc ?_ _) | (with_reducible refine Kd.C_drewN ?_ _) | (with_reducible refine Kd.C_drew ?_))); (case side4 => rw [show y248.length = t227.length from (Kd.R_reads' HO_11.out).1.symm]; exact (Kd.R_reads' HO_11.out).2.1); rintro e w79 ⟨rfl, hb⟩; have n0_ := Aside0.mk (Kd.R_below (by (with_reducible repeat (first | apply Kd.R_alloc | apply Kd.R_drewN | apply Kd.R_drew)); exact HO_11.out) hb); have n1_ := Aside0.mk (Kd.R_below (by (with_reducible repeat (first | apply Kd.R_alloc | apply Kd.R_drewN | apply Kd.R_drew)); exact HO_18.out) hb); have n2_ := Aside0.mk (below_step (by repeat (first | exact HB.out | apply below_alloc | apply pw_below_drewN | apply below_drew1)) hb); clear HO_11; clear HO_18; clear HB; have HO_11 := n0_; have HO_18 := n1_; have HB := n2_; clear n0_ n1_ n2_; (try clear hb); have p251 : 0 ≤ ((ji47) : Int) := of_decide_eq_true (by first | (with_reducible assumption) | assumption); have q251 : (ji47) < (y248.length : Int) := (by have h_ : ((ji47) : Int) < ((t227.length : Int) : Int) := of_decide_eq_true (by first | (with_reducible assumption) | assumption); first | (have e_ := (Kd.R_reads' HO_11.out).1; omega) | simpa only [Ny248.out, List.length_set] using h_); have ql251 : (((ji47) : Int) < ((t227.length : Int) : Int)) = True := eq_true (of_decide_eq_true (by first | (with_reducible assumption) | assumption)); obtain ⟨ad251, e251, hx251_0⟩ := Kd.at_int (Kd.R_reads' HO_11.out).2.2 (ji47) p251 q251; obtain rfl : (⟨go50, 0, none⟩ : Addr) = ad251 := (by injection e251); (first | simp only [add_plain] at hx251_0 | simp only [add_at] at hx251_0 | simp only [Addr.add, Nat.zero_add] at hx251_0 | skip); replace p251 := eq_true p251; replace q251 := eq_true q251; have p252 : 0 ≤ ((ji47) : Int) := of_decide_eq_true (by first | (with_reducible assumption) | assumption); have q252 : (ji47) < (l0.length : Int) := of_decide_eq_true (by first | (with_reducible assumption) | assumption); obtain ⟨ad252, e252, hx252_0, hx252_1⟩ := at_T40 HR0.out (ji47) p252 q252; cases e252; replace hx252_0 := (HB.out.cell (World.block_lt_of_cell? w _ hx252_0)).trans hx252_0; replace hx252_1 := (HB.out.cell (World.block_lt_of_cell? w _ hx252_1)).trans hx252_1; replace p252 := eq_true p252; replace q252 := eq_true q252) | (go_at_call 11; (with_reducible refine (manorboylaw08_sanity.calls  false _ A64.out).mono ?_); rintro e w80 ⟨rfl, hb⟩; have n0_ := Aside0.mk (Kd.R_below (by (with_reducible repeat (first | apply Kd.R_alloc | apply Kd.R_drewN | apply Kd.R_drew)); exact HO_11.out) hb); have n1_ := Aside0.mk (Kd.R_below (by (with_reducible repeat (first | apply Kd.R_alloc | apply Kd.R_drewN | apply Kd.R_drew)); exact HO_18.out) hb); have n2_ := Aside0.mk (below_step (by repeat (first | exact HB.out | apply below_alloc | apply pw_below_drewN | apply below_drew1)) hb); clear HO_11; clear HO_18; clear HB; have HO_11 := n0_; have HO_18 := n1_; have HB := n2_; clear n0_ n1_ n2_; (try clear hb)))
                                  repeat (go_quiet (first | ((with_reducible refine gate_store (t := 3) (p := 157) rfl ?_); (try (rw [drewN_self wc]; generalize hq_ : World.drewN wc _ = wc; have n0_ := Aside0.mk (Kd.R_at hq_ HO_11.out); have n1_ := Aside0.mk (Kd.R_at hq_ HO_18.out); have n2_ := Aside0.mk (below_at hq_ HB.out); clear hq_ HO_11 HO_18 HB; have HO_11 := n0_; have HO_18 := n1_; have HB := n2_; clear n0_ n1_ n2_; (try (have HP77 := Kd.R_putg HO_11.out ((ji47) : Int) (wrap64 ((rd t227 (ji47)) + 1)))))); refine store_event (t := 3) (p := 157) (v := ?vo_w78) (w1 := (wc.setCell ⟨go50, ((ji47) : Int).toNat, none⟩ (.int .i64 (wrap64 ((rd t227 (ji47)) + 1))))) ?hg ?ho ?hn ?hr ?_; (case ho => rfl); (case hg => rfl); (case hn => rfl); (case hr => first | (go_simp; done) | (go_simp; rfl)); intro w78 hw; have hg : wc.grownBy w78 (some go50) := (by rw [hw]; exact HP77.2); have hp_ : Kd.R (Kd.int .i64) 3 w78 w.heap.size (fun k_ => some k_ ≠ (v242 : Value).ownBlock) (.slice (some ⟨go50, 0, none⟩) t227.length co24) y248 := (by rw [hw, Ny248.out]; exact HP77.1); clear HP77; have n0_ := Aside0.mk (hp_); have n1_ := Aside0.mk (Kd.R_after (v := (.slice (some ⟨go50, 0, none⟩) t227.length co24)) (v1 := (.slice (some ⟨go50, 0, none⟩) t227.length co24)) (ok := (fun _ => True)) (by (with_reducible repeat (first | apply Kd.R_alloc | apply Kd.R_drewN | apply Kd.R_drew)); exact Kd.R_mono HO_18.out (fun _ hk => ⟨trivial, hk⟩)) hg (.inl rfl)); have n2_ := Aside0.mk ((by rw [hw]; exact below_set (HB.out) GB50.out : Below w.heap.size w w78)); clear HO_11; clear HO_18; clear HB; have HO_11 := n0_; have HO_18 := n1_; have HB := n2_; clear n0_ n1_ n2_; clear hg hw hp_) | (go_at_call 13; refine calls_of_args (args' := #[.slice A0 l0.length c0, .slice (some ⟨go50, 0, none⟩) y248.length co24]) (by first | (rw [show y248.length = t227.length from (Kd.R_reads' HO_11.out).1.symm] <;> rfl) | rfl) ?_; (with_reducible refine (array_Offset.calls _ _ l0 _ _ y248 t249 t250 _ ?side1 ?side2 ?side3 ?side4 A51.out).mono ?_); (case side1 => repeat (first | exact (Kd.C_below HR0.out HB.out) | (with_reducible refine Kd.C_alloc ?_ _) | (with_reducible refine Kd.C_drewN ?_ _) | (with_reducible refine Kd.C_drew ?_))); (case side2 => exact HC0.out); (case side3 => repeat (first | exact (Kd.R_reads' HO_11.out).2.2 | (with_reducible refine Kd.C_alloc ?_ _) | (with_reducible refine Kd.C_drewN ?_ _) | (with_reducible refine Kd.C_drew ?_))); (case side4 => rw [show y248.length = t227.length from (Kd.R_reads' HO_11.out).1.symm]; exact (Kd.R_reads' HO_11.out).2.1); rintro e w79 ⟨rfl, hb⟩; have n0_ := Aside0.mk (Kd.R_below (by (with_reducible repeat (first | apply Kd.R_alloc | apply Kd.R_drewN | apply Kd.R_drew)); exact HO_11.out) hb); have n1_ := Aside0.mk (Kd.R_below (by (with_reducible repeat (first | apply Kd.R_alloc | apply Kd.R_drewN | apply Kd.R_drew)); exact HO_18.out) hb); have n2_ := Aside0.mk (below_step (by repeat (first | exact HB.out | apply below_alloc | apply pw_below_drewN | apply below_drew1)) hb); clear HO_11; clear HO_18; clear HB; have HO_11 := n0_; have HO_18 := n1_; have HB := n2_; clear n0_ n1_ n2_; (try clear hb); have p251 : 0 ≤ ((ji47) : Int) := of_decide_eq_true (by first | (with_reducible assumption) | assumption); have q251 : (ji47) < (y248.length : Int) := (by have h_ : ((ji47) : Int) < ((t227.length : Int) : Int) := of_decide_eq_true (by first | (with_reducible assumption) | assumption); first | (have e_ := (Kd.R_reads' HO_11.out).1; omega) | simpa only [Ny248.out, List.length_set] using h_); have ql251 : (((ji47) : Int) < ((t227.length : Int) : Int)) = True := eq_true (of_decide_eq_true (by first | (with_reducible assumption) | assumption)); obtain ⟨ad251, e251, hx251_0⟩ := Kd.at_int (Kd.R_reads' HO_11.out).2.2 (ji47) p251 q251; obtain rfl : (⟨go50, 0, none⟩ : Addr) = ad251 := (by injection e251); (first | simp only [add_plain] at hx251_0 | simp only [add_at] at hx251_0 | simp only [Addr.add, Nat.zero_add] at hx251_0 | skip); replace p251 := eq_true p251; replace q251 := eq_true q251; have p252 : 0 ≤ ((ji47) : Int) := of_decide_eq_true (by first | (with_reducible assumption) | assumption); have q252 : (ji47) < (l0.length : Int) := of_decide_eq_true (by first | (with_reducible assumption) | assumption); obtain ⟨ad252, e252, hx252_0, hx252_1⟩ := at_T40 HR0.out (ji47) p252 q252; cases e252; replace hx252_0 := (HB.out.cell (World.block_lt_of_cell? w _ hx252_0)).trans hx252_0; replace hx252_1 := (HB.out.cell (World.block_lt_of_cell? w _ hx252_1)).trans hx252_1; replace p252 := eq_true p252; replace q252 := eq_true q252) | (go_at_call 11; (with_reducible refine (manorboylaw08_sanity.calls  false _ A64.out).mono ?_); rintro e w80 ⟨rfl, hb⟩; have n0_ := Aside0.mk (Kd.R_below (by (with_reducible repeat (first | apply Kd.R_alloc | apply Kd.R_drewN | apply Kd.R_drew)); exact HO_11.out) hb); have n1_ := Aside0.mk (Kd.R_below (by (with_reducible repeat (first | apply Kd.R_alloc | apply Kd.R_drewN | apply Kd.R_drew)); exact HO_18.out) hb); have n2_ := Aside0.mk (below_step (by repeat (first | exact HB.out | apply below_alloc | apply pw_below_drewN | apply below_drew1)) hb); clear HO_11; clear HO_18; clear HB; have HO_11 := n0_; have HO_18 := n1_; have HB := n2_; clear n0_ n1_ n2_; (try clear hb))); try go_wp2_with (first | ((with_reducible refine gate_store (t := 3) (p := 157) rfl ?_); (try (rw [drewN_self wc]; generalize hq_ : World.drewN wc _ = wc; have n0_ := Aside0.mk (Kd.R_at hq_ HO_11.out); have n1_ := Aside0.mk (Kd.R_at hq_ HO_18.out); have n2_ := Aside0.mk (below_at hq_ HB.out); clear hq_ HO_11 HO_18 HB; have HO_11 := n0_; have HO_18 := n1_; have HB := n2_; clear n0_ n1_ n2_; (try (have HP77 := Kd.R_putg HO_11.out ((ji47) : Int) (wrap64 ((rd t227 (ji47)) + 1)))))); refine store_event (t := 3) (p := 157) (v := ?vo_w78) (w1 := (wc.setCell ⟨go50, ((ji47) : Int).toNat, none⟩ (.int .i64 (wrap64 ((rd t227 (ji47)) + 1))))) ?hg ?ho ?hn ?hr ?_; (case ho => rfl); (case hg => rfl); (case hn => rfl); (case hr => first | (go_simp; done) | (go_simp; rfl)); intro w78 hw; have hg : wc.grownBy w78 (some go50) := (by rw [hw]; exact HP77.2); have hp_ : Kd.R (Kd.int .i64) 3 w78 w.heap.size (fun k_ => some k_ ≠ (v242 : Value).ownBlock) (.slice (some ⟨go50, 0, none⟩) t227.length co24) y248 := (by rw [hw, Ny248.out]; exact HP77.1); clear HP77; have n0_ := Aside0.mk (hp_); have n1_ := Aside0.mk (Kd.R_after (v := (.slice (some ⟨go50, 0, none⟩) t227.length co24)) (v1 := (.slice (some ⟨go50, 0, none⟩) t227.length co24)) (ok := (fun _ => True)) (by (with_reducible repeat (first | apply Kd.R_alloc | apply Kd.R_drewN | apply Kd.R_drew)); exact Kd.R_mono HO_18.out (fun _ hk => ⟨trivial, hk⟩)) hg (.inl rfl)); have n2_ := Aside0.mk ((by rw [hw]; exact below_set (HB.out) GB50.out : Below w.heap.size w w78)); clear HO_11; clear HO_18; clear HB; have HO_11 := n0_; have HO_18 := n1_; have HB := n2_; clear n0_ n1_ n2_; clear hg hw hp_) | (go_at_call 13; refine calls_of_args (args' := #[.slice A0 l0.length c0, .slice (some ⟨go50, 0, none⟩) y248.length co24]) (by first | (rw [show y248.length = t227.length from (Kd.R_reads' HO_11.out).1.symm] <;> rfl) | rfl) ?_; (with_reducible refine (array_Offset.calls _ _ l0 _ _ y248 t249 t250 _ ?side1 ?side2 ?side3 ?side4 A51.out).mono ?_); (case side1 => repeat (first | exact (Kd.C_below HR0.out HB.out) | (with_reducible refine Kd.C_alloc ?_ _) | (with_reducible refine Kd.C_drewN ?_ _) | (with_reducible refine Kd.C_drew ?_))); (case side2 => exact HC0.out); (case side3 => repeat (first | exact (Kd.R_reads' HO_11.out).2.2 | (with_reducible refine Kd.C_alloc ?_ _) | (with_reducible refine Kd.C_drewN ?_ _) | (with_reducible refine Kd.C_drew ?_))); (case side4 => rw [show y248.length = t227.length from (Kd.R_reads' HO_11.out).1.symm]; exact (Kd.R_reads' HO_11.out).2.1); rintro e w79 ⟨rfl, hb⟩; have n0_ := Aside0.mk (Kd.R_below (by (with_reducible repeat (first | apply Kd.R_alloc | apply Kd.R_drewN | apply Kd.R_drew)); exact HO_11.out) hb); have n1_ := Aside0.mk (Kd.R_below (by (with_reducible repeat (first | apply Kd.R_alloc | apply Kd.R_drewN | apply Kd.R_drew)); exact HO_18.out) hb); have n2_ := Aside0.mk (below_step (by repeat (first | exact HB.out | apply below_alloc | apply pw_below_drewN | apply below_drew1)) hb); clear HO_11; clear HO_18; clear HB; have HO_11 := n0_; have HO_18 := n1_; have HB := n2_; clear n0_ n1_ n2_; (try clear hb); have p251 : 0 ≤ ((ji47) : Int) := of_decide_eq_true (by first | (with_reducible assumption) | assumption); have q251 : (ji47) < (y248.length : Int) := (by have h_ : ((ji47) : Int) < ((t227.length : Int) : Int) := of_decide_eq_true (by first | (with_reducible assumption) | assumption); first | (have e_ := (Kd.R_reads' HO_11.out).1; omega) | simpa only [Ny248.out, List.length_set] using h_); have ql251 : (((ji47) : Int) < ((t227.length : Int) : Int)) = True := eq_true (of_decide_eq_true (by first | (with_reducible assumption) | assumption)); obtain ⟨ad251, e251, hx251_0⟩ := Kd.at_int (Kd.R_reads' HO_11.out).2.2 (ji47) p251 q251; obtain rfl : (⟨go50, 0, none⟩ : Addr) = ad251 := (by injection e251); (first | simp only [add_plain] at hx251_0 | simp only [add_at] at hx251_0 | simp only [Addr.add, Nat.zero_add] at hx251_0 | skip); replace p251 := eq_true p251; replace q251 := eq_true q251; have p252 : 0 ≤ ((ji47) : Int) := of_decide_eq_true (by first | (with_reducible assumption) | assumption); have q252 : (ji47) < (l0.length : Int) := of_decide_eq_true (by first | (with_reducible assumption) | assumption); obtain ⟨ad252, e252, hx252_0, hx252_1⟩ := at_T40 HR0.out (ji47) p252 q252; cases e252; replace hx252_0 := (HB.out.cell (World.block_lt_of_cell? w _ hx252_0)).trans hx252_0; replace hx252_1 := (HB.out.cell (World.block_lt_of_cell? w _ hx252_1)).trans hx252_1; replace p252 := eq_true p252; replace q252 := eq_true q252) | (go_at_call 11; (with_reducible refine (manorboylaw08_sanity.calls  false _ A64.out).mono ?_); rintro e w80 ⟨rfl, hb⟩; have n0_ := Aside0.mk (Kd.R_below (by (with_reducible repeat (first | apply Kd.R_alloc | apply Kd.R_drewN | apply Kd.R_drew)); exact HO_11.out) hb); have n1_ := Aside0.mk (Kd.R_below (by (with_reducible repeat (first | apply Kd.R_alloc | apply Kd.R_drewN | apply Kd.R_drew)); exact HO_18.out) hb); have n2_ := Aside0.mk (below_step (by repeat (first | exact HB.out | apply below_alloc | apply pw_below_drewN | apply below_drew1)) hb); clear HO_11; clear HO_18; clear HB; have HO_11 := n0_; have HO_18 := n1_; have HB := n2_; clear n0_ n1_ n2_; (try clear hb))))
                                  go_ret
                                  exact ⟨by first | rfl | (simp [errW_none, errW_some] <;> rfl) | (simp only [← hji47]; first | rfl | (simp [errW_none, errW_some] <;> rfl)) | (simp [*, errW_none, errW_some] <;> rfl), by repeat (first | exact HB.out | apply below_alloc | apply pw_below_drewN | apply below_drew1)⟩
                            · rw [if_neg c52] at H
                              exact absurd H (by simp)
                          · rw [if_neg c49] at H
                            exact absurd H (by simp)
                        · rw [if_neg c48] at H
                          exact absurd H (by simp)

end Go.Proofs.Ytcjjmhgboibbgaa.Q
