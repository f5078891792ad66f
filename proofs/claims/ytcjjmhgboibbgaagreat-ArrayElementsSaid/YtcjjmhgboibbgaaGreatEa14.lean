/-
 Texts of the proof, in build order: words that the walks use, contracts of functions, plain facts.
-/
import Derived.Deep.RegionHeld3
import Derived.Test.YtcjjmhgboibbgaaGreatEa3
import Derived.Test.YtcjjmhgboibbgaaGreatEa4
import Derived.Test.YtcjjmhgboibbgaaGreatEa5
import Derived.Test.YtcjjmhgboibbgaaGreatEa11
import Derived.Test.YtcjjmhgboibbgaaGreatEa13
set_option maxHeartbeats 40000000
set_option maxRecDepth 100000
set_option linter.unusedVariables false
set_option linter.unusedSimpArgs false
section
namespace Go.Proofs.Q
open RowKit Shelf Rf Pw Pl Pm
theorem kept3 {w W W' : World} {p0 p1 p2 : Addr} {v0 v1 v2 : Value} (h : W.cell? p0 = some v0 ∧ W.cell? p1 = some v1 ∧ W.cell? p2 = some v2 ∧ Below w.heap.size w W) (hb : Below W.heap.size W W') : W'.cell? p0 = some v0 ∧ W'.cell? p1 = some v1 ∧ W'.cell? p2 = some v2 ∧ Below w.heap.size w W' :=
 ⟨cB hb h.1, cB hb h.2.1, cB hb h.2.2.1, bS h.2.2.2 hb⟩
theorem last3 {w W : World} {p0 p1 p2 : Addr} {v0 v1 v2 : Value} (h : W.cell? p0 = some v0 ∧ W.cell? p1 = some v1 ∧ W.cell? p2 = some v2 ∧ Below w.heap.size w W) : Below w.heap.size w W := h.2.2.2
theorem cell_far {W : World} {B D i j : Nat} {u v : Value} (hne : B ≠ D) (h : W.cell? ⟨B, i, none⟩ = some v) : (W.setCell ⟨D, j, none⟩ u).cell? ⟨B, i, none⟩ = some v := by
 have := Below.heap_setCell W ⟨D, j, none⟩ u B hne
 simpa [World.cell?, this] using h
theorem kept3s {w W : World} {B D : Nat} {v0 v1 v2 x0 x1 x2 : Value} (hne : B ≠ D) (hD : w.heap.size ≤ D) (h : W.cell? ⟨B, 0, none⟩ = some v0 ∧ W.cell? ⟨B, 1, none⟩ = some v1 ∧ W.cell? ⟨B, 2, none⟩ = some v2 ∧ Below w.heap.size w W) :
  (((W.setCell ⟨D, 0, none⟩ x0).setCell ⟨D, 1, none⟩ x1).setCell ⟨D, 2, none⟩ x2).cell? ⟨B, 0, none⟩ = some v0 ∧ (((W.setCell ⟨D, 0, none⟩ x0).setCell ⟨D, 1, none⟩ x1).setCell ⟨D, 2, none⟩ x2).cell? ⟨B, 1, none⟩ = some v1 ∧ (((W.setCell ⟨D, 0, none⟩ x0).setCell ⟨D, 1, none⟩ x1).setCell ⟨D, 2, none⟩ x2).cell? ⟨B, 2, none⟩ = some v2 ∧ Below w.heap.size w (((W.setCell ⟨D, 0, none⟩ x0).setCell ⟨D, 1, none⟩ x1).setCell ⟨D, 2, none⟩ x2) :=
 ⟨cell_far hne (cell_far hne (cell_far hne h.1)), cell_far hne (cell_far hne (cell_far hne h.2.1)), cell_far hne (cell_far hne (cell_far hne h.2.2.1)), bT (bT (bT h.2.2.2 hD) hD) hD⟩
def ClPost (t : Int) (ds : List S54) (es : List S38) (w : World) (e : Ending) (w' : World) : Prop := ∃ v1 v2, e = .returned (.agg #[.int .i64 t, v1, v2]) ∧ k54.R 54 w' w.heap.size (fun _ => True) v1 ds ∧ k38.R 38 w' w.heap.size (fun _ => True) v2 es ∧ Below w.heap.size w w'
theorem clone_calls (t : Int) (ad1 ad2 : Addr) (c1 c2 n m : Nat) (ds : List S54) (es : List S38) (w : World) (hr1 : Kd.C k54 w (some ad1) n ds) (hr2 : Kd.C k38 w (some ad2) m es) (hn : n ≤ 1000) (hm : m ≤ 1000) :
  Calls Tryz.prog 30 #[.agg #[.int .i64 t, .slice (some ad1) n c1, .slice (some ad2) m c2]] w (ClPost t ds es w) := by
 have e1 : Hid (ds.length = n) := Lib.hid hr1.1
 have e2 : Hid (es.length = m) := Lib.hid hr2.1
 have HR1 := Lib.hid hr1; clear hr1
 have HR2 := Lib.hid hr2; clear hr2
 go_enter Tryz.func30, Tryz.ntmps30
 go_wp2_with fail
 have b0 : ((w.alloc (.cells #[.int .i64 t, .slice (some ad1) n c1, .slice (some ad2) m c2] 25)).alloc (.cells #[.int .i64 0, .slice none 0 0, .slice none 0 0] 25)).heap[w.heap.size]? = some (.cells #[.int .i64 t, .slice (some ad1) n c1, .slice (some ad2) m c2] 25) := kA (heap_alloc_new w _) _
 have r0 : ((w.alloc (.cells #[.int .i64 t, .slice (some ad1) n c1, .slice (some ad2) m c2] 25)).alloc (.cells #[.int .i64 0, .slice none 0 0, .slice none 0 0] 25)).heap[w.heap.size + 1]? = some (.cells #[.int .i64 0, .slice none 0 0, .slice none 0 0] 25) := by
  have := heap_alloc_new (w.alloc (.cells #[.int .i64 t, .slice (some ad1) n c1, .slice (some ad2) m c2] 25)) (.cells #[.int .i64 0, .slice none 0 0, .slice none 0 0] 25); rwa [World.size_alloc] at this
 have hW0 : Below w.heap.size w ((w.alloc (.cells #[.int .i64 t, .slice (some ad1) n c1, .slice (some ad2) m c2] 25)).alloc (.cells #[.int .i64 0, .slice none 0 0, .slice none 0 0] 25)) := bA (bA (Below.refl _ _) _) _
 try simp only [World.size_alloc]
 generalize ((w.alloc (.cells #[.int .i64 t, .slice (some ad1) n c1, .slice (some ad2) m c2] 25)).alloc (.cells #[.int .i64 0, .slice none 0 0, .slice none 0 0] 25)) = W0 at *
 obtain ⟨B, hB⟩ : ∃ B, B = w.heap.size := ⟨_, rfl⟩
 obtain ⟨D, hD⟩ : ∃ D, D = w.heap.size + 1 := ⟨_, rfl⟩
 have hne : B ≠ D := by omega
 have hne2 : D ≠ B := by omega
 rw [← hD, ← hB]
 rw [← hB] at b0
 rw [← hD] at r0
 have HBe := Lib.hid hB
 have HDe := Lib.hid hD
 clear hB hD
 have hDw : w.heap.size ≤ D := by have := HDe.out; omega
 have s0 : W0.cell? ⟨B, 0, none⟩ = some (.int .i64 t) := by rw [kC b0 0]; rfl
 have s1 : W0.cell? ⟨B, 1, none⟩ = some (.slice (some ad1) n c1) := by rw [kC b0 1]; rfl
 have s2 : W0.cell? ⟨B, 2, none⟩ = some (.slice (some ad2) m c2) := by rw [kC b0 2]; rfl
 clear b0
 have hHe2 : Hid (D < W0.drew.heap.size) := Lib.hid (Array.getElem?_eq_some_iff.1 r0).1
 replace r0 : W0.drew.heap[D]? = some (Obj.cells #[Value.int IntKind.i64 0, Value.slice none 0 0, Value.slice none 0 0] 25) := r0
 go_region_held3 (fun w' => w'.cell? ⟨B, 0, none⟩ = some (.int .i64 t) ∧ w'.cell? ⟨B, 1, none⟩ = some (.slice (some ad1) n c1) ∧ w'.cell? ⟨B, 2, none⟩ = some (.slice (some ad2) m c2) ∧ Below w.heap.size w w')
  (first | exact ⟨s0, s1, s2, below_drew hW0⟩ | exact ⟨s0, s1, s2, hW0⟩ | exact kept3 (by assumption) (by assumption) | exact kept3s hne hDw (by assumption))
  (first
   | (go_at_call 38; go_loud (refine (clone40_calls ad1 n c1 ds hn _ (Kd.C_below HR1.out (last3 (by assumption)))).mono ?_); rintro e wA ⟨v1, rfl, hv1, hb⟩; obtain ⟨A1, q1, rfl⟩ := Kd.R_slice hv1; go_loud (replace r0 := kB r0 hb); (have HV1 := Lib.hid hv1); (have hZ := hb.size); clear hv1)
   | (go_at_call 59; refine (clone59_calls ad2 m c2 es hm _ (Kd.C_below HR2.out (last3 (by assumption)))).mono ?_; rintro e wB ⟨v2, rfl, hv2, hb2⟩; obtain ⟨A2, q2, rfl⟩ := Kd.R_slice hv2; (replace r0 := kB r0 hb2); (have HV2 := Lib.hid hv2); (replace HV1 := Lib.hid (Kd.R_below HV1.out hb2)); (have k0 := kC r0 0); (have k1 := kC r0 1); (have k2 := kC r0 2); (have f0 := kF r0 0); (have f1 := kF r0 1); (have f2 := kF r0 2); clear hv2 hb; (have HR0 := Lib.hid r0); clear r0))
 rename_i hHeld
 have hBf := last3 hHeld
 clear hHeld
 have hW0s : D < W0.drew.heap.size := by
  have := hHe2.out
  exact this
 go_wp2
 have hne4 : ∀ k, W0.drew.heap.size ≤ k → k ≠ D := fun k hk e => by omega
 have hw0 : w.heap.size ≤ W0.drew.heap.size := by omega
 refine bodyPost_ret (v := .agg #[.int .i64 t, .slice A1 ds.length q1, .slice A2 es.length q2]) ?_ rfl ⟨_, _, rfl, Kd.R_lower (R_stay HV1.out ?_) hw0, Kd.R_lower (R_stay HV2.out ?_) (by omega), hBf⟩
 ·simp [results, Tryz.results30, go_sem, k0, k1, k2]
 all_goals (intro k hk _; have hkk := hne4 k (by omega); rw [Below.heap_setCell _ _ _ k hkk, Below.heap_setCell _ _ _ k hkk, Below.heap_setCell _ _ _ k hkk])
end Go.Proofs.Q
namespace Go.Proofs.Q
open RowKit Shelf Rf Pw Pl Pm
/-- an error, and the empty array -/
def ResizeNo (x : Int) (w : World) (en : Ending) (w' : World) : Prop := en = .returned (.tuple #[.agg #[.int .i64 0, .slice none 0 0, .slice none 0 0], .int .i64 x]) ∧ Below w.heap.size w w'
end Go.Proofs.Q
end
section
namespace Go.Proofs.Q
open RowKit Pw Pl Pm
attribute [local go_sem] max2_int min2_int max_two min_two max_three min_three max_four min_four
end Go.Proofs.Q
end
section
namespace Go.Proofs.Q
open RowKit Rf Pw Pl Pm
/-- Check, as the print is told it -/
def array_Check.f (a0_0 : Int) (l0_1 : List (S54)) (l0_2 : List (S38)) : Option (Int) := checkF a0_0 l0_1 l0_2
theorem array_Check.calls (a0_0 : Int) (A0_1 : Option Addr) (c0_1 : Nat) (l0_1 : List (S54)) (A0_2 : Option Addr) (c0_2 : Nat) (l0_2 : List (S38)) (r : Int) (w : World) (hr0_1 : Kd.C k54 w A0_1 l0_1.length l0_1) (hc0_1 : l0_1.length ≤ c0_1) (hr0_2 : Kd.C k38 w A0_2 l0_2.length l0_2) (hc0_2 : l0_2.length ≤ c0_2) (h : array_Check.f a0_0 l0_1 l0_2 = some r) :
  Calls Tryz.prog 18 #[.agg #[.int .i64 a0_0, .slice A0_1 l0_1.length c0_1, .slice A0_2 l0_2.length c0_2]] w fun e w' => e = .returned (.int .i64 r) ∧ Below w.heap.size w w' :=
 check_calls a0_0 A0_1 c0_1 l0_1 A0_2 c0_2 l0_2 r w hr0_1 hc0_1 hr0_2 h
end Go.Proofs.Q
end
section
namespace Go.Proofs.Q
open RowKit Pw Pl Pm
attribute [local go_sem] max2_int min2_int max_two min_two max_three min_three max_four min_four   -- for this text's walks alone
theorem eqA54 (d : Nat) (w : World) (x0 y0 : Int) (x1 y1 : Int) :
  (Op.equalIn (d + 2) 54 (.agg #[.int .i64 x0, .int .i64 x1]) (.agg #[.int .i64 y0, .int .i64 y1])).run Tryz.prog w = .ok (x0 == y0 && (x1 == y1)) w := by
 refine eqA_of Tryz.underlying54 (by kernel_rfl) ?_
 refine eqf_cons (by rfl) (by go_simp; rfl) (by go_simp; rfl) (by go_simp) ?_
 exact eqf_last (by rfl) (by go_simp; rfl) (by go_simp; rfl) (by go_simp)
end Go.Proofs.Q
end
section
namespace Go.Proofs.Q
open RowKit Pw Pl Pm
attribute [local go_sem] max2_int min2_int max_two min_two max_three min_three max_four min_four   -- for this text's walks alone
def array_offset.l0 : Nat → List (S54) → List Int → Int → List Int → Int → Int → Option (Int × Int)
 | 0, _, _, _, _, _, _ => none
 | k + 1, x0, x6, x7, x20, x21, x22 => if x22 < x21 then (if 0 ≤ x22 then (if x22 < (x20.length : Int) then (if x22 < (x0.length : Int) then (if (rd x20 x22) < ((rd_T54 x0 x22).f0) then (some (0, 3)) else (if (rd x20 x22) > ((rd_T54 x0 x22).f1) then (some (0, 3)) else (if x22 < (x6.length : Int) then (array_offset.l0 k x0 x6 (wrap64 (x7 + (wrap64 ((rd x6 x22) * (rd x20 x22))))) x20 x21 (wrap64 (x22 + 1))) else (none)))) else (none)) else (none)) else (none)) else (some (x7, 0))
def array_offset.f (k : Nat) (l0 : List (S54)) (l1 : List Int) : Option (Int × Int) := if (l1.length : Int) = (l0.length : Int) then ((array_strides.f l0).bind fun bt101 => (array_offset.l0 k l0 bt101.1 bt101.2 l1 (l1.length : Int) 0)) else (some (0, 10))
theorem array_offset.calls (k : Nat) (A0 : Option Addr) (c0 : Nat) (l0 : List (S54)) (A1 : Option Addr) (c1 : Nat) (l1 : List Int) (r1 : Int) (r2 : Int) (w : World) (hr0 : Kd.C k54 w A0 l0.length l0) (hc0 : l0.length ≤ c0) (hr1 : Kd.C (Kd.int .i64) w A1 l1.length l1) (hc1 : l1.length ≤ c1) (h : array_offset.f k l0 l1 = some (r1, r2)) :
  Calls Tryz.prog 48 #[.slice A0 l0.length c0, .slice A1 l1.length c1] w fun e w' => e = .returned (.tuple #[.int .i64 r1, .int .i64 r2]) ∧ Below w.heap.size w w' := by
 have HR0 := As.mk hr0
 have HC0 := As.mk hc0
 clear hr0 hc0
 have HR1 := As.mk hr1
 have HC1 := As.mk hc1
 clear hr1 hc1
 have HB := As.mk (Below.refl w.heap.size w)
 have H : (if (l1.length : Int) = (l0.length : Int) then ((array_strides.f l0).bind fun bt101 => (array_offset.l0 k l0 bt101.1 bt101.2 l1 (l1.length : Int) 0)) else (some (0, 10))) = some (r1, r2) := h
 clear h
 by_cases c3 : (l1.length : Int) = (l0.length : Int)
 ·rw [if_pos c3] at H
  have c3b0 : ((l1.length : Int) == (l0.length : Int)) = true := beq_iff_eq.mpr c3
  have c3b1 : ((l1.length : Int) != (l0.length : Int)) = false := bne_eq_false_iff_eq.mpr c3
  have c3b2 : (l1.length == l0.length) = true := by first | simpa using c3 | (simp at c3 ⊢; omega)
  clear c3
  replace H := Option.bind_eq_some_iff.mp H
  obtain ⟨⟨t101, t102⟩, A40, H⟩ := H
  replace H : (array_offset.l0 k l0 t101 t102 l1 (l1.length : Int) 0) = some (r1, r2) := H
  have A4 := As.mk A40
  clear A40
  have H' := As.mk H
  clear H
  go_enter Tryz.func48, Tryz.ntmps48
  go_wp2_with (first | ((with_reducible refine gC (f := 57) rfl ?_); refine gl 17 Tryz.func57 #[.slice A0 l0.length c0] ?_; (with_reducible refine (array_strides.calls _ _ l0 t101 t102 _ ?side1 ?side2 A4.out).mono ?_); (case side1 => repeat (first | exact HR0.out | (with_reducible first | apply Kd.C_alloc | apply Kd.C_drewN | apply Kd.C_drew))); (case side2 => exact HC0.out); rintro e w5 ⟨v103, rfl, ho0, hb⟩; refine ⟨_, rfl, ?_⟩; have HO104 := As.mk (Kd.R_lower ho0 (bZ zz)); replace HB := As.mk (bS zz hb); (try clear hb); (try clear ho0)))
  go_loopg [7, 22] k (fun kq v7 v22 w' => ∃ (x7_1 : Int) (x22_1 : Int), v7 = .int .i64 x7_1 ∧ v22 = .int .i64 x22_1 ∧ As (array_offset.l0 kq l0 t101 x7_1 l1 (l1.length : Int) x22_1 = some (r1, r2)) ∧ As (kq ≤ k) ∧ As (Kd.R (Kd.int .i64) 3 w' w.heap.size (fun _ => True) v103 t101) ∧ As (Below w.heap.size w w'))
  case atStart => exact ⟨(t102), (0), (by first | rfl | (simp; done) | (simp [*]; done)), (by first | rfl | (simp; done) | (simp [*]; done)), H', ⟨Nat.le_refl _⟩, ⟨by (with_reducible repeat (first | apply Kd.R_alloc | apply Kd.R_drewN | apply Kd.R_drew)); exact HO104.out⟩, ⟨zz⟩⟩
  case round =>
   clear H'
   try clear c1
   try clear p2
   try clear c3
   try clear c3b0
   try clear c3b1
   try clear c3b2
   obtain ⟨x7_1, x22_1, rfl, rfl, HA, HK1, HO_6, HB⟩ := hrel
   cases gk with
   | zero => exact absurd HA.out (by simp [array_offset.l0])
   | succ k1 =>
    have H := HA.out
    clear HA
    simp only [array_offset.l0] at H
    by_cases c6 : x22_1 < (l1.length : Int)
    ·rw [if_pos c6] at H
     have c6b0 : decide (x22_1 < (l1.length : Int)) = true := decide_eq_true c6
     clear c6
     by_cases c7 : 0 ≤ x22_1
     ·rw [if_pos c7] at H
      have c7b0 : decide (0 ≤ x22_1) = true := decide_eq_true c7
      clear c7
      by_cases c8 : x22_1 < (l1.length : Int)
      ·rw [if_pos c8] at H
       have c8b0 : decide (x22_1 < (l1.length : Int)) = true := decide_eq_true c8
       clear c8
       by_cases c9 : x22_1 < (l0.length : Int)
       ·rw [if_pos c9] at H
        have c9b0 : decide (x22_1 < (l0.length : Int)) = true := decide_eq_true c9
        clear c9
        by_cases c10 : (rd l1 x22_1) < ((rd_T54 l0 x22_1).f0)
        ·rw [if_pos c10] at H
         have c10b0 : decide ((rd l1 x22_1) < ((rd_T54 l0 x22_1).f0)) = true := decide_eq_true c10
         clear c10
         simp only [Option.some.injEq, Prod.mk.injEq] at H
         obtain ⟨rfl, rfl⟩ := H
         have p105 : 0 ≤ (x22_1 : Int) := od
         have q105 : x22_1 < (l1.length : Int) := od
         obtain ⟨ad105, e105, hx105_0⟩ := Kd.at_int HR1.out x22_1 p105 q105
         cases e105
         replace hx105_0 := (HB.out.cell (World.block_lt_of_cell? w _ hx105_0)).trans hx105_0
         replace p105 := eq_true p105
         replace q105 := eq_true q105
         have p106 : 0 ≤ (x22_1 : Int) := od
         have q106 : x22_1 < (l0.length : Int) := od
         obtain ⟨ad106, e106, hx106_0, hx106_1⟩ := at_T54 HR0.out x22_1 p106 q106
         cases e106
         replace hx106_0 := (HB.out.cell (World.block_lt_of_cell? w _ hx106_0)).trans hx106_0
         replace hx106_1 := (HB.out.cell (World.block_lt_of_cell? w _ hx106_1)).trans hx106_1
         replace p106 := eq_true p106
         replace q106 := eq_true q106
         go_wp2
         go_ret2
         exact ⟨by first | rfl | (simp [eN, eS] <;> rfl) | (simp [*, eN, eS] <;> rfl), zz⟩
        ·rw [if_neg c10] at H
         have c10b0 : decide ((rd l1 x22_1) < ((rd_T54 l0 x22_1).f0)) = false := decide_eq_false c10
         clear c10
         by_cases c11 : (rd l1 x22_1) > ((rd_T54 l0 x22_1).f1)
         ·rw [if_pos c11] at H
          have c11b0 : decide (((rd_T54 l0 x22_1).f1) < (rd l1 x22_1)) = true := decide_eq_true c11
          clear c11
          simp only [Option.some.injEq, Prod.mk.injEq] at H
          obtain ⟨rfl, rfl⟩ := H
          have p105 : 0 ≤ (x22_1 : Int) := od
          have q105 : x22_1 < (l1.length : Int) := od
          obtain ⟨ad105, e105, hx105_0⟩ := Kd.at_int HR1.out x22_1 p105 q105
          cases e105
          replace hx105_0 := (HB.out.cell (World.block_lt_of_cell? w _ hx105_0)).trans hx105_0
          replace p105 := eq_true p105
          replace q105 := eq_true q105
          have p106 : 0 ≤ (x22_1 : Int) := od
          have q106 : x22_1 < (l0.length : Int) := od
          obtain ⟨ad106, e106, hx106_0, hx106_1⟩ := at_T54 HR0.out x22_1 p106 q106
          cases e106
          replace hx106_0 := (HB.out.cell (World.block_lt_of_cell? w _ hx106_0)).trans hx106_0
          replace hx106_1 := (HB.out.cell (World.block_lt_of_cell? w _ hx106_1)).trans hx106_1
          replace p106 := eq_true p106
          replace q106 := eq_true q106
          have p107 : 0 ≤ (x22_1 : Int) := od
          have q107 : x22_1 < (l0.length : Int) := od
          obtain ⟨ad107, e107, hx107_0, hx107_1⟩ := at_T54 HR0.out x22_1 p107 q107
          obtain rfl : ad106 = ad107 := (by injection e107)
          replace hx107_0 := (HB.out.cell (World.block_lt_of_cell? w _ hx107_0)).trans hx107_0
          replace hx107_1 := (HB.out.cell (World.block_lt_of_cell? w _ hx107_1)).trans hx107_1
          replace p107 := eq_true p107
          replace q107 := eq_true q107
          go_wp2
          go_ret2
          exact ⟨by first | rfl | (simp [eN, eS] <;> rfl) | (simp [*, eN, eS] <;> rfl), zz⟩
         ·rw [if_neg c11] at H
          have c11b0 : decide (((rd_T54 l0 x22_1).f1) < (rd l1 x22_1)) = false := decide_eq_false c11
          clear c11
          by_cases c12 : x22_1 < (t101.length : Int)
          ·rw [if_pos c12] at H
           have c12b0 : decide (x22_1 < (t101.length : Int)) = true := decide_eq_true c12
           clear c12
           have H' := As.mk H
           clear H
           have p105 : 0 ≤ (x22_1 : Int) := od
           have q105 : x22_1 < (l1.length : Int) := od
           obtain ⟨ad105, e105, hx105_0⟩ := Kd.at_int HR1.out x22_1 p105 q105
           cases e105
           replace hx105_0 := (HB.out.cell (World.block_lt_of_cell? w _ hx105_0)).trans hx105_0
           replace p105 := eq_true p105
           replace q105 := eq_true q105
           have p106 : 0 ≤ (x22_1 : Int) := od
           have q106 : x22_1 < (l0.length : Int) := od
           obtain ⟨ad106, e106, hx106_0, hx106_1⟩ := at_T54 HR0.out x22_1 p106 q106
           cases e106
           replace hx106_0 := (HB.out.cell (World.block_lt_of_cell? w _ hx106_0)).trans hx106_0
           replace hx106_1 := (HB.out.cell (World.block_lt_of_cell? w _ hx106_1)).trans hx106_1
           replace p106 := eq_true p106
           replace q106 := eq_true q106
           have p107 : 0 ≤ (x22_1 : Int) := od
           have q107 : x22_1 < (l0.length : Int) := od
           obtain ⟨ad107, e107, hx107_0, hx107_1⟩ := at_T54 HR0.out x22_1 p107 q107
           obtain rfl : ad106 = ad107 := (by injection e107)
           replace hx107_0 := (HB.out.cell (World.block_lt_of_cell? w _ hx107_0)).trans hx107_0
           replace hx107_1 := (HB.out.cell (World.block_lt_of_cell? w _ hx107_1)).trans hx107_1
           replace p107 := eq_true p107
           replace q107 := eq_true q107
           obtain ⟨Ao13, co13, eo13⟩ := Kd.R_slice HO_6.out
           subst eo13
           have p108 : 0 ≤ (x22_1 : Int) := od
           have q108 : x22_1 < (t101.length : Int) := od
           obtain ⟨ad108, e108, hx108_0⟩ := Kd.at_int (Kd.R_reads' HO_6.out).2.2 x22_1 p108 q108
           cases e108
           replace p108 := eq_true p108
           replace q108 := eq_true q108
           go_wp2
           go_roundg k1
           case measure => have := HK1.out; omega
           case rel => exact ⟨(wrap64 (x7_1 + (wrap64 ((rd t101 x22_1) * (rd l1 x22_1))))), (wrap64 (x22_1 + 1)), (by first | rfl | (simp; done) | (simp [*]; done)), (by first | rfl | (simp; done) | (simp [*]; done)), H', ⟨by have := HK1.out; omega⟩, ⟨by (with_reducible repeat (first | apply Kd.R_alloc | apply Kd.R_drewN | apply Kd.R_drew)); exact HO_6.out⟩, ⟨zz⟩⟩
          ·rw [if_neg c12] at H
           exact absurd H (by simp)
       ·rw [if_neg c9] at H
        exact absurd H (by simp)
      ·rw [if_neg c8] at H
       exact absurd H (by simp)
     ·rw [if_neg c7] at H
      exact absurd H (by simp)
    ·rw [if_neg c6] at H
     have c6b0 : decide (x22_1 < (l1.length : Int)) = false := decide_eq_false c6
     clear c6
     simp only [Option.some.injEq, Prod.mk.injEq] at H
     obtain ⟨rfl, rfl⟩ := H
     go_wp2
     go_ret2
     exact ⟨by first | rfl | (simp [eN, eS] <;> rfl) | (simp [*, eN, eS] <;> rfl), zz⟩
 ·rw [if_neg c3] at H
  have c3b0 : ((l1.length : Int) == (l0.length : Int)) = false := beq_eq_false_iff_ne.mpr c3
  have c3b1 : ((l1.length : Int) != (l0.length : Int)) = true := bne_iff_ne.mpr c3
  have c3b2 : (l1.length == l0.length) = false := by first | simpa using c3 | (simp at c3 ⊢; omega)
  simp only [Option.some.injEq, Prod.mk.injEq] at H
  obtain ⟨rfl, rfl⟩ := H
  go_enter Tryz.func48, Tryz.ntmps48
  go_wp2
  go_ret2
  exact ⟨by first | rfl | (simp [eN, eS] <;> rfl) | (simp [*, eN, eS] <;> rfl), zz⟩
end Go.Proofs.Q
end
