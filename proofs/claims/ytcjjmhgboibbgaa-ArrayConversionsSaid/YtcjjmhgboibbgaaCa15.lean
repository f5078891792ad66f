/-
  Texts of the proof, in build order: words that the walks use, contracts of functions, plain facts.
-/
import Derived.Deep.RegionHeld3
import Derived.Test.YtcjjmhgboibbgaaCa3
import Derived.Test.YtcjjmhgboibbgaaCa5
import Derived.Test.YtcjjmhgboibbgaaCa12
import Derived.Test.YtcjjmhgboibbgaaCa14
section
namespace Go.Proofs.Ytcjjmhgboibbgaa.Q
open Go.RowKit Go.Shelf Go.Proofs.Rf Go.Proofs.YtcjjmhgboibbgaaW.PrintWords Go.Proofs.YtcjjmhgboibbgaaW.PrintLast Go.Proofs.YtcjjmhgboibbgaaW.PrintMore
set_option linter.unusedVariables false
set_option linter.unusedSimpArgs false
set_option maxRecDepth 100000
theorem kept3 {w W W' : World} {p0 p1 p2 : Addr} {v0 v1 v2 : Value} (h : W.cell? p0 = some v0 ∧ W.cell? p1 = some v1 ∧ W.cell? p2 = some v2 ∧ Below w.heap.size w W) (hb : Below W.heap.size W W') : W'.cell? p0 = some v0 ∧ W'.cell? p1 = some v1 ∧ W'.cell? p2 = some v2 ∧ Below w.heap.size w W' :=
  ⟨pw_cell_below hb h.1, pw_cell_below hb h.2.1, pw_cell_below hb h.2.2.1, below_step h.2.2.2 hb⟩
theorem last3 {w W : World} {p0 p1 p2 : Addr} {v0 v1 v2 : Value} (h : W.cell? p0 = some v0 ∧ W.cell? p1 = some v1 ∧ W.cell? p2 = some v2 ∧ Below w.heap.size w W) : Below w.heap.size w W := h.2.2.2
theorem cell_far {W : World} {B D i j : Nat} {u v : Value} (hne : B ≠ D) (h : W.cell? ⟨B, i, none⟩ = some v) : (W.setCell ⟨D, j, none⟩ u).cell? ⟨B, i, none⟩ = some v := by
  have := Below.heap_setCell W ⟨D, j, none⟩ u B hne
  simpa [World.cell?, this] using h
theorem kept3s {w W : World} {B D : Nat} {v0 v1 v2 x0 x1 x2 : Value} (hne : B ≠ D) (hD : w.heap.size ≤ D) (h : W.cell? ⟨B, 0, none⟩ = some v0 ∧ W.cell? ⟨B, 1, none⟩ = some v1 ∧ W.cell? ⟨B, 2, none⟩ = some v2 ∧ Below w.heap.size w W) :
    (((W.setCell ⟨D, 0, none⟩ x0).setCell ⟨D, 1, none⟩ x1).setCell ⟨D, 2, none⟩ x2).cell? ⟨B, 0, none⟩ = some v0 ∧ (((W.setCell ⟨D, 0, none⟩ x0).setCell ⟨D, 1, none⟩ x1).setCell ⟨D, 2, none⟩ x2).cell? ⟨B, 1, none⟩ = some v1 ∧ (((W.setCell ⟨D, 0, none⟩ x0).setCell ⟨D, 1, none⟩ x1).setCell ⟨D, 2, none⟩ x2).cell? ⟨B, 2, none⟩ = some v2 ∧ Below w.heap.size w (((W.setCell ⟨D, 0, none⟩ x0).setCell ⟨D, 1, none⟩ x1).setCell ⟨D, 2, none⟩ x2) :=
  ⟨cell_far hne (cell_far hne (cell_far hne h.1)), cell_far hne (cell_far hne (cell_far hne h.2.1)), cell_far hne (cell_far hne (cell_far hne h.2.2.1)), below_set (below_set (below_set h.2.2.2 hD) hD) hD⟩
def ClPost (t : Int) (ds : List S40) (es : List S59) (w : World) (e : Ending) (w' : World) : Prop := ∃ v1 v2, e = .returned (.agg #[.int .i64 t, v1, v2]) ∧ k40.R 40 w' w.heap.size (fun _ => True) v1 ds ∧ k59.R 59 w' w.heap.size (fun _ => True) v2 es ∧ Below w.heap.size w w'
set_option maxHeartbeats 4000000 in
theorem clone_calls (t : Int) (ad1 ad2 : Addr) (c1 c2 n m : Nat) (ds : List S40) (es : List S59) (w : World) (hr1 : Kd.C k40 w (some ad1) n ds) (hr2 : Kd.C k59 w (some ad2) m es) (hn : n ≤ 1000) (hm : m ≤ 1000) :
    Calls Try.prog 46 #[.agg #[.int .i64 t, .slice (some ad1) n c1, .slice (some ad2) m c2]] w (ClPost t ds es w) := by
  have e1 : Hid (ds.length = n) := Lib.hid hr1.1
  have e2 : Hid (es.length = m) := Lib.hid hr2.1
  have HR1 := Lib.hid hr1; clear hr1
  have HR2 := Lib.hid hr2; clear hr2
  go_enter Try.func46, Try.ntmps46
  go_wp2_with fail
  have b0 : ((w.alloc (.cells #[.int .i64 t, .slice (some ad1) n c1, .slice (some ad2) m c2] 50)).alloc (.cells #[.int .i64 0, .slice none 0 0, .slice none 0 0] 50)).heap[w.heap.size]? = some (.cells #[.int .i64 t, .slice (some ad1) n c1, .slice (some ad2) m c2] 50) := blk_alloc (heap_alloc_new w _) _
  have r0 : ((w.alloc (.cells #[.int .i64 t, .slice (some ad1) n c1, .slice (some ad2) m c2] 50)).alloc (.cells #[.int .i64 0, .slice none 0 0, .slice none 0 0] 50)).heap[w.heap.size + 1]? = some (.cells #[.int .i64 0, .slice none 0 0, .slice none 0 0] 50) := by
    have := heap_alloc_new (w.alloc (.cells #[.int .i64 t, .slice (some ad1) n c1, .slice (some ad2) m c2] 50)) (.cells #[.int .i64 0, .slice none 0 0, .slice none 0 0] 50); rwa [World.size_alloc] at this
  have hW0 : Below w.heap.size w ((w.alloc (.cells #[.int .i64 t, .slice (some ad1) n c1, .slice (some ad2) m c2] 50)).alloc (.cells #[.int .i64 0, .slice none 0 0, .slice none 0 0] 50)) := below_alloc (below_alloc (Below.refl _ _) _) _
  try simp only [World.size_alloc]
  generalize ((w.alloc (.cells #[.int .i64 t, .slice (some ad1) n c1, .slice (some ad2) m c2] 50)).alloc (.cells #[.int .i64 0, .slice none 0 0, .slice none 0 0] 50)) = W0 at *
  obtain ⟨B, hB⟩ : ∃ B, B = w.heap.size := ⟨_, rfl⟩
  obtain ⟨D, hD⟩ : ∃ D, D = w.heap.size + 1 := ⟨_, rfl⟩
  have hne : B ≠ D := by omega
  have hne2 : D ≠ B := by omega
  rw [← hD, ← hB]
  rw [← hB] at b0
  rw [← hD] at r0
  have HBe := Lib.hid hB
  have HDe := Lib.hid hD
  clear hB hD
  have hDw : w.heap.size ≤ D := by have := HDe.out; omega
  have s0 : W0.cell? ⟨B, 0, none⟩ = some (.int .i64 t) := by rw [blk_cell b0 0]; rfl
  have s1 : W0.cell? ⟨B, 1, none⟩ = some (.slice (some ad1) n c1) := by rw [blk_cell b0 1]; rfl
  have s2 : W0.cell? ⟨B, 2, none⟩ = some (.slice (some ad2) m c2) := by rw [blk_cell b0 2]; rfl
  clear b0
  have hHe2 : Hid (D < W0.drew.heap.size) := Lib.hid (Array.getElem?_eq_some_iff.1 r0).1
  replace r0 : W0.drew.heap[D]? = some (Obj.cells #[Value.int IntKind.i64 0, Value.slice none 0 0, Value.slice none 0 0] 50) := r0
  go_region_held3 (fun w' => w'.cell? ⟨B, 0, none⟩ = some (.int .i64 t) ∧ w'.cell? ⟨B, 1, none⟩ = some (.slice (some ad1) n c1) ∧ w'.cell? ⟨B, 2, none⟩ = some (.slice (some ad2) m c2) ∧ Below w.heap.size w w')
    (first | exact ⟨s0, s1, s2, below_drew hW0⟩ | exact ⟨s0, s1, s2, hW0⟩ | exact kept3 (by assumption) (by assumption) | exact kept3s hne hDw (by assumption))
    (first
      | (go_at_call 55; go_loud (refine (clone40_calls ad1 n c1 ds hn _ (Kd.C_below HR1.out (last3 (by assumption)))).mono ?_); rintro e wA ⟨v1, rfl, hv1, hb⟩; obtain ⟨A1, q1, rfl⟩ := Kd.R_slice hv1; go_loud (replace r0 := blk_below r0 hb); (have HV1 := Lib.hid hv1); (have hZ := hb.size); clear hv1)
      | (go_at_call 64; refine (clone59_calls ad2 m c2 es hm _ (Kd.C_below HR2.out (last3 (by assumption)))).mono ?_; rintro e wB ⟨v2, rfl, hv2, hb2⟩; obtain ⟨A2, q2, rfl⟩ := Kd.R_slice hv2; (replace r0 := blk_below r0 hb2); (have HV2 := Lib.hid hv2); (replace HV1 := Lib.hid (Kd.R_below HV1.out hb2)); (have k0 := blk_cell r0 0); (have k1 := blk_cell r0 1); (have k2 := blk_cell r0 2); (have f0 := blk_frozen r0 0); (have f1 := blk_frozen r0 1); (have f2 := blk_frozen r0 2); clear hv2 hb; (have HR0 := Lib.hid r0); clear r0))
  rename_i hHeld
  have hBf := last3 hHeld
  clear hHeld
  have hW0s : D < W0.drew.heap.size := by
    have := hHe2.out
    exact this
  go_wp2
  have hne4 : ∀ k, W0.drew.heap.size ≤ k → k ≠ D := fun k hk e => by omega
  have hw0 : w.heap.size ≤ W0.drew.heap.size := by omega
  refine bodyPost_ret (v := .agg #[.int .i64 t, .slice A1 ds.length q1, .slice A2 es.length q2]) ?_ rfl ⟨_, _, rfl, Kd.R_lower (R_stay HV1.out ?_) hw0, Kd.R_lower (R_stay HV2.out ?_) (by omega), hBf⟩
  · simp [results, Try.results46, go_sem, k0, k1, k2]
  all_goals (intro k hk _; have hkk := hne4 k (by omega); rw [Below.heap_setCell _ _ _ k hkk, Below.heap_setCell _ _ _ k hkk, Below.heap_setCell _ _ _ k hkk])
end Go.Proofs.Ytcjjmhgboibbgaa.Q
namespace Go.Proofs.Ytcjjmhgboibbgaa.Q
open Go.RowKit Go.Shelf Go.Proofs.Rf Go.Proofs.YtcjjmhgboibbgaaW.PrintWords Go.Proofs.YtcjjmhgboibbgaaW.PrintLast Go.Proofs.YtcjjmhgboibbgaaW.PrintMore
set_option linter.unusedVariables false
set_option linter.unusedSimpArgs false
set_option maxRecDepth 100000
theorem leaves_none {P : Program} {fn : Func} {tmps : Array Value} {R : Ending → World → Prop} {W : World} (h : ∃ v, (results fn tmps).run P W = .ok v W ∧ R (.returned v) W) : LeavesInM Fence.wide 0 P fn tmps R [] .returning W := h
/-- an error, and the empty array -/
def ResizeNo (x : Int) (w : World) (en : Ending) (w' : World) : Prop := en = .returned (.tuple #[.agg #[.int .i64 0, .slice none 0 0, .slice none 0 0], .int .i64 x]) ∧ Below w.heap.size w w'
set_option maxHeartbeats 40000000 in
theorem resize_bad (t : Int) (ad1 ad2 : Addr) (A3 : Option Addr) (c1 c2 c3 n m n3 : Nat) (ds l1 : List S40) (es : List S59) (w : World)
    (hr1 : Kd.C k40 w (some ad1) n ds) (hc1 : n ≤ c1) (hr2 : Kd.C k59 w (some ad2) m es) (hc2 : m ≤ c2) (hr3 : Kd.C k40 w A3 n3 l1) (hc3 : n3 ≤ c3)
    (hchk : checkF t ds es = some 0) (hl : errOf l1 ≠ 0) :
    CallsIn Fence.wide 0 Try.prog 27 #[.agg #[.int .i64 t, .slice (some ad1) n c1, .slice (some ad2) m c2], .slice A3 n3 c3] w (ResizeNo (errOf l1) w) := by
  have e1 : Hid (ds.length = n) := Lib.hid hr1.1
  have e2 : Hid (es.length = m) := Lib.hid hr2.1
  have e3 : Hid (l1.length = n3) := Lib.hid hr3.1
  have HR1 := Lib.hid hr1
  have HR2 := Lib.hid hr2
  have HR3 := Lib.hid hr3
  have HCK := Lib.hid hchk
  have hlb : (errOf l1 != 0) = true := by simpa using hl
  have HL := Lib.hid hl
  clear hr1 hr2 hr3 hchk hl
  refine callsIn_of_wp_marks Try.func27 rfl trivial ?_
  simp only [Try.ntmps27, List.size_toArray, List.length_cons, List.length_nil, Nat.reduceAdd, Nat.reduceSub, Array.replicate_succ, Array.replicate_zero, List.push_toArray, List.append_toArray, List.nil_append, List.cons_append]
  gi_wp2
  have b0 : ((w.alloc (.cells #[.int .i64 t, .slice (some ad1) n c1, .slice (some ad2) m c2] 50)).alloc (.cells #[.int .i64 0, .slice none 0 0, .slice none 0 0] 50)).heap[w.heap.size]? = some (.cells #[.int .i64 t, .slice (some ad1) n c1, .slice (some ad2) m c2] 50) := blk_alloc (heap_alloc_new w _) _
  have r0 : ((w.alloc (.cells #[.int .i64 t, .slice (some ad1) n c1, .slice (some ad2) m c2] 50)).alloc (.cells #[.int .i64 0, .slice none 0 0, .slice none 0 0] 50)).heap[w.heap.size + 1]? = some (.cells #[.int .i64 0, .slice none 0 0, .slice none 0 0] 50) := by
    have := heap_alloc_new (w.alloc (.cells #[.int .i64 t, .slice (some ad1) n c1, .slice (some ad2) m c2] 50)) (.cells #[.int .i64 0, .slice none 0 0, .slice none 0 0] 50); rwa [World.size_alloc] at this
  have hW0 : Below w.heap.size w ((w.alloc (.cells #[.int .i64 t, .slice (some ad1) n c1, .slice (some ad2) m c2] 50)).alloc (.cells #[.int .i64 0, .slice none 0 0, .slice none 0 0] 50)) := below_alloc (below_alloc (Below.refl _ _) _) _
  generalize ((w.alloc (.cells #[.int .i64 t, .slice (some ad1) n c1, .slice (some ad2) m c2] 50)).alloc (.cells #[.int .i64 0, .slice none 0 0, .slice none 0 0] 50)) = W0 at *
  have hck := (callsIn_wide (n := 0)).2 (check_calls t (some ad1) c1 ds (some ad2) c2 es 0 W0 (by rw [e1.out]; exact Kd.C_below HR1.out hW0) (by rw [e1.out]; exact hc1) (by rw [e2.out]; exact Kd.C_below HR2.out hW0) HCK.out)
  rw [e1.out, e2.out] at hck
  refine ⟨trivial, rfl, hck.mono ?_⟩
  rintro e w1 ⟨rfl, hb1⟩
  clear hck
  obtain ⟨b1, x1, y1, z1, g1⟩ := box3b b0 hb1
  obtain ⟨r1, _, _, _, _⟩ := box3b r0 hb1
  have hW1 := below_step hW0 hb1
  clear b0 r0 hW0 hb1
  gi_wp2
  have hch := (callsIn_wide (n := 0)).2 (checked_calls (some ⟨w1.heap.size, 0, none⟩) 1 [l1] (w1.alloc (.cells #[.slice A3 l1.length c3] 22)) (C_one w1 A3 c3 l1 (by rw [e3.out]; exact hc3) (by rw [e3.out]; exact Kd.C_below HR3.out hW1)) (Nat.le_refl _) (by simp))
  rw [e3.out, checkedL_one] at hch
  refine ⟨trivial, rfl, hch.mono ?_⟩
  rintro e w2 ⟨rfl, hb2⟩
  clear hch
  obtain ⟨b2, x2, y2, z2, g2⟩ := box3b (blk_alloc b1 _) hb2
  obtain ⟨r2, p0, p1, p2, _⟩ := box3b (blk_alloc r1 _) hb2
  have hW2 := below_step (below_alloc hW1 _) hb2
  clear b1 x1 y1 z1 g1 r1 hW1 hb2
  have q0 := blk_frozen r2 0
  have q1 := blk_frozen r2 1
  have q2 := blk_frozen r2 2
  gi_wp2
  have hBf : Below w.heap.size w (((w2.setCell ⟨w.heap.size + 1, 0, none⟩ (.int .i64 0)).setCell ⟨w.heap.size + 1, 1, none⟩ (.slice none 0 0)).setCell ⟨w.heap.size + 1, 2, none⟩ (.slice none 0 0)) := below_set (below_set (below_set hW2 (by omega)) (by omega)) (by omega)
  refine leaves_none ⟨.tuple #[.agg #[.int .i64 0, .slice none 0 0, .slice none 0 0], .int .i64 (errOf l1)], ?_, rfl, hBf⟩
  simp [results, Try.results27, go_sem, p0, p1, p2]
set_option maxHeartbeats 40000000 in
theorem resize_kind (t : Int) (ad1 ad2 : Addr) (A3 : Option Addr) (c1 c2 c3 n m n3 : Nat) (ds l1 : List S40) (es : List S59) (w : World)
    (hr1 : Kd.C k40 w (some ad1) n ds) (hc1 : n ≤ c1) (hr2 : Kd.C k59 w (some ad2) m es) (hc2 : m ≤ c2) (hr3 : Kd.C k40 w A3 n3 l1) (hc3 : n3 ≤ c3)
    (hchk : checkF t ds es = some 0) (hl : errOf l1 = 0) (hn : n3 ≠ n) :
    CallsIn Fence.wide 0 Try.prog 27 #[.agg #[.int .i64 t, .slice (some ad1) n c1, .slice (some ad2) m c2], .slice A3 n3 c3] w (ResizeNo 10 w) := by
  have e1 : Hid (ds.length = n) := Lib.hid hr1.1
  have e2 : Hid (es.length = m) := Lib.hid hr2.1
  have e3 : Hid (l1.length = n3) := Lib.hid hr3.1
  have HR1 := Lib.hid hr1
  have HR2 := Lib.hid hr2
  have HR3 := Lib.hid hr3
  have HCK := Lib.hid hchk
  have hlb : ((n3 : Int) != (n : Int)) = true := by simp; omega
  have HL := Lib.hid hl
  clear hr1 hr2 hr3 hchk hl
  refine callsIn_of_wp_marks Try.func27 rfl trivial ?_
  simp only [Try.ntmps27, List.size_toArray, List.length_cons, List.length_nil, Nat.reduceAdd, Nat.reduceSub, Array.replicate_succ, Array.replicate_zero, List.push_toArray, List.append_toArray, List.nil_append, List.cons_append]
  gi_wp2
  have b0 : ((w.alloc (.cells #[.int .i64 t, .slice (some ad1) n c1, .slice (some ad2) m c2] 50)).alloc (.cells #[.int .i64 0, .slice none 0 0, .slice none 0 0] 50)).heap[w.heap.size]? = some (.cells #[.int .i64 t, .slice (some ad1) n c1, .slice (some ad2) m c2] 50) := blk_alloc (heap_alloc_new w _) _
  have r0 : ((w.alloc (.cells #[.int .i64 t, .slice (some ad1) n c1, .slice (some ad2) m c2] 50)).alloc (.cells #[.int .i64 0, .slice none 0 0, .slice none 0 0] 50)).heap[w.heap.size + 1]? = some (.cells #[.int .i64 0, .slice none 0 0, .slice none 0 0] 50) := by
    have := heap_alloc_new (w.alloc (.cells #[.int .i64 t, .slice (some ad1) n c1, .slice (some ad2) m c2] 50)) (.cells #[.int .i64 0, .slice none 0 0, .slice none 0 0] 50); rwa [World.size_alloc] at this
  have hW0 : Below w.heap.size w ((w.alloc (.cells #[.int .i64 t, .slice (some ad1) n c1, .slice (some ad2) m c2] 50)).alloc (.cells #[.int .i64 0, .slice none 0 0, .slice none 0 0] 50)) := below_alloc (below_alloc (Below.refl _ _) _) _
  generalize ((w.alloc (.cells #[.int .i64 t, .slice (some ad1) n c1, .slice (some ad2) m c2] 50)).alloc (.cells #[.int .i64 0, .slice none 0 0, .slice none 0 0] 50)) = W0 at *
  have hck := (callsIn_wide (n := 0)).2 (check_calls t (some ad1) c1 ds (some ad2) c2 es 0 W0 (by rw [e1.out]; exact Kd.C_below HR1.out hW0) (by rw [e1.out]; exact hc1) (by rw [e2.out]; exact Kd.C_below HR2.out hW0) HCK.out)
  rw [e1.out, e2.out] at hck
  refine ⟨trivial, rfl, hck.mono ?_⟩
  rintro e w1 ⟨rfl, hb1⟩
  clear hck
  obtain ⟨b1, x1, y1, z1, g1⟩ := box3b b0 hb1
  obtain ⟨r1, _, _, _, _⟩ := box3b r0 hb1
  have hW1 := below_step hW0 hb1
  clear b0 r0 hW0 hb1
  gi_wp2
  have hch := (callsIn_wide (n := 0)).2 (checked_calls (some ⟨w1.heap.size, 0, none⟩) 1 [l1] (w1.alloc (.cells #[.slice A3 l1.length c3] 22)) (C_one w1 A3 c3 l1 (by rw [e3.out]; exact hc3) (by rw [e3.out]; exact Kd.C_below HR3.out hW1)) (Nat.le_refl _) (by simp))
  rw [e3.out, checkedL_one, HL.out] at hch
  refine ⟨trivial, rfl, hch.mono ?_⟩
  rintro e w2 ⟨rfl, hb2⟩
  clear hch
  obtain ⟨b2, x2, y2, z2, g2⟩ := box3b (blk_alloc b1 _) hb2
  obtain ⟨r2, p0, p1, p2, _⟩ := box3b (blk_alloc r1 _) hb2
  have hW2 := below_step (below_alloc hW1 _) hb2
  clear b1 x1 y1 z1 g1 r1 hW1 hb2
  have q0 := blk_frozen r2 0
  have q1 := blk_frozen r2 1
  have q2 := blk_frozen r2 2
  gi_wp2
  have hBf : Below w.heap.size w (((w2.setCell ⟨w.heap.size + 1, 0, none⟩ (.int .i64 0)).setCell ⟨w.heap.size + 1, 1, none⟩ (.slice none 0 0)).setCell ⟨w.heap.size + 1, 2, none⟩ (.slice none 0 0)) := below_set (below_set (below_set hW2 (by omega)) (by omega)) (by omega)
  refine leaves_none ⟨.tuple #[.agg #[.int .i64 0, .slice none 0 0, .slice none 0 0], .int .i64 10], ?_, rfl, hBf⟩
  simp [results, Try.results27, go_sem, p0, p1, p2]
set_option maxHeartbeats 40000000 in
theorem resize_same (t : Int) (ad1 ad2 : Addr) (A3 : Option Addr) (c1 c2 c3 n m : Nat) (ds l1 : List S40) (es : List S59) (w : World)
    (hr1 : Kd.C k40 w (some ad1) n ds) (hc1 : n ≤ c1) (hr2 : Kd.C k59 w (some ad2) m es) (hc2 : m ≤ c2) (hr3 : Kd.C k40 w A3 n l1) (hc3 : n ≤ c3)
    (hchk : checkF t ds es = some 0) (hd : errOf ds = 0) (hl : errOf l1 = 0) (he : allSame l1 ds = true) (hm : m ≤ 1000) :
    CallsIn Fence.wide 0 Try.prog 27 #[.agg #[.int .i64 t, .slice (some ad1) n c1, .slice (some ad2) m c2], .slice A3 n c3] w (ResizePost t ds es w) := by
  have e1 : Hid (ds.length = n) := Lib.hid hr1.1
  have e2 : Hid (es.length = m) := Lib.hid hr2.1
  have e3 : Hid (l1.length = n) := Lib.hid hr3.1
  have HR1 := Lib.hid hr1
  have HR2 := Lib.hid hr2
  have HR3 := Lib.hid hr3
  have HCK := Lib.hid hchk
  have hn4 : n ≤ 4 := by have := (errOf_zero hd).2.2.2.2; rw [e1.out] at this; exact this
  have hnn : ((n : Int) != (n : Int)) = false := by simp
  have HE := Lib.hid he; clear he hd
  have HL := Lib.hid hl
  clear hr1 hr2 hr3 hchk hl
  refine callsIn_of_wp_marks Try.func27 rfl trivial ?_
  simp only [Try.ntmps27, List.size_toArray, List.length_cons, List.length_nil, Nat.reduceAdd, Nat.reduceSub, Array.replicate_succ, Array.replicate_zero, List.push_toArray, List.append_toArray, List.nil_append, List.cons_append]
  gi_wp2
  have b0 : ((w.alloc (.cells #[.int .i64 t, .slice (some ad1) n c1, .slice (some ad2) m c2] 50)).alloc (.cells #[.int .i64 0, .slice none 0 0, .slice none 0 0] 50)).heap[w.heap.size]? = some (.cells #[.int .i64 t, .slice (some ad1) n c1, .slice (some ad2) m c2] 50) := blk_alloc (heap_alloc_new w _) _
  have r0 : ((w.alloc (.cells #[.int .i64 t, .slice (some ad1) n c1, .slice (some ad2) m c2] 50)).alloc (.cells #[.int .i64 0, .slice none 0 0, .slice none 0 0] 50)).heap[w.heap.size + 1]? = some (.cells #[.int .i64 0, .slice none 0 0, .slice none 0 0] 50) := by
    have := heap_alloc_new (w.alloc (.cells #[.int .i64 t, .slice (some ad1) n c1, .slice (some ad2) m c2] 50)) (.cells #[.int .i64 0, .slice none 0 0, .slice none 0 0] 50); rwa [World.size_alloc] at this
  have hW0 : Below w.heap.size w ((w.alloc (.cells #[.int .i64 t, .slice (some ad1) n c1, .slice (some ad2) m c2] 50)).alloc (.cells #[.int .i64 0, .slice none 0 0, .slice none 0 0] 50)) := below_alloc (below_alloc (Below.refl _ _) _) _
  generalize ((w.alloc (.cells #[.int .i64 t, .slice (some ad1) n c1, .slice (some ad2) m c2] 50)).alloc (.cells #[.int .i64 0, .slice none 0 0, .slice none 0 0] 50)) = W0 at *
  have hck := (callsIn_wide (n := 0)).2 (check_calls t (some ad1) c1 ds (some ad2) c2 es 0 W0 (by rw [e1.out]; exact Kd.C_below HR1.out hW0) (by rw [e1.out]; exact hc1) (by rw [e2.out]; exact Kd.C_below HR2.out hW0) HCK.out)
  rw [e1.out, e2.out] at hck
  refine ⟨trivial, rfl, hck.mono ?_⟩
  rintro e w1 ⟨rfl, hb1⟩
  clear hck
  obtain ⟨b1, x1, y1, z1, g1⟩ := box3b b0 hb1
  obtain ⟨r1, _, _, _, _⟩ := box3b r0 hb1
  have hW1 := below_step hW0 hb1
  clear b0 r0 hW0 hb1
  gi_wp2
  have hch := (callsIn_wide (n := 0)).2 (checked_calls (some ⟨w1.heap.size, 0, none⟩) 1 [l1] (w1.alloc (.cells #[.slice A3 l1.length c3] 22)) (C_one w1 A3 c3 l1 (by rw [e3.out]; exact hc3) (by rw [e3.out]; exact Kd.C_below HR3.out hW1)) (Nat.le_refl _) (by simp))
  rw [e3.out, checkedL_one, HL.out] at hch
  refine ⟨trivial, rfl, hch.mono ?_⟩
  rintro e w2 ⟨rfl, hb2⟩
  clear hch
  obtain ⟨b2, x2, y2, z2, g2⟩ := box3b (blk_alloc b1 _) hb2
  obtain ⟨r2, p0, p1, p2, _⟩ := box3b (blk_alloc r1 _) hb2
  have hW2 := below_step (below_alloc hW1 _) hb2
  clear b1 x1 y1 z1 g1 r1 hW1 hb2
  gi_wp2
  refine ⟨trivial, rfl, ((callsIn_wide (n := 0)).2 (equalFunc_calls A3 (some ad1) c3 c1 n l1 ds w2 (Kd.C_below HR3.out hW2) (Kd.C_below HR1.out hW2) hn4)).mono ?_⟩
  rintro e w3 ⟨rfl, hb3⟩
  rw [HE.out]
  obtain ⟨b3, x3, y3, z3, g3⟩ := box3b b2 hb3
  obtain ⟨r3, _, _, _, _⟩ := box3b r2 hb3
  have hW3 := below_step hW2 hb3
  clear b2 r2 x2 y2 z2 p0 p1 p2
  gi_wp2
  refine ⟨trivial, rfl, ((callsIn_wide (n := 0)).2 (clone_calls t ad1 ad2 c1 c2 n m ds es w3 (Kd.C_below HR1.out hW3) (Kd.C_below HR2.out hW3) (by omega) hm)).mono ?_⟩
  rintro e w4 ⟨v1, v2, rfl, hv1, hv2, hb4⟩
  obtain ⟨A1, q1, rfl⟩ := Kd.R_slice hv1
  obtain ⟨A2, q2, rfl⟩ := Kd.R_slice hv2
  have hW4 := below_step hW3 hb4
  obtain ⟨r4, k0, k1, k2, _⟩ := box3b r3 hb4
  have f0 := blk_frozen r4 0
  have f1 := blk_frozen r4 1
  have f2 := blk_frozen r4 2
  have hl3 := blk_lt r3
  have hs := hW3.size
  have HV1 := Lib.hid hv1
  have HV2 := Lib.hid hv2
  clear hv1 hv2 hb4 hb3 r3 r4 b3 x3 y3 z3
  gi_wp2
  have hBf : Below w.heap.size w (((w4.setCell ⟨w.heap.size + 1, 0, none⟩ (.int .i64 t)).setCell ⟨w.heap.size + 1, 1, none⟩ (.slice A1 ds.length q1)).setCell ⟨w.heap.size + 1, 2, none⟩ (.slice A2 es.length q2)) := below_set (below_set (below_set hW4 (by omega)) (by omega)) (by omega)
  refine leaves_none ⟨.tuple #[.agg #[.int .i64 t, .slice A1 ds.length q1, .slice A2 es.length q2], .int .i64 0], ?_, _, _, rfl, Kd.R_lower (R_stay HV1.out ?_) hs, Kd.R_lower (R_stay HV2.out ?_) hs, hBf⟩
  · simp [results, Try.results27, go_sem, k0, k1, k2]
  all_goals (intro k hk _; have hkk : k ≠ w.heap.size + 1 := (by omega); rw [Below.heap_setCell _ _ _ k hkk, Below.heap_setCell _ _ _ k hkk, Below.heap_setCell _ _ _ k hkk])
end Go.Proofs.Ytcjjmhgboibbgaa.Q
end
section
namespace Go.Proofs.Ytcjjmhgboibbgaa.Q
open Go.RowKit Go.Proofs.YtcjjmhgboibbgaaW.PrintWords Go.Proofs.YtcjjmhgboibbgaaW.PrintLast Go.Proofs.YtcjjmhgboibbgaaW.PrintMore
attribute [local go_sem] max2_int min2_int max_two min_two max_three min_three max_four min_four
set_option linter.unusedVariables false
set_option linter.unusedSimpArgs false
def cut (d e : S40) : S40 := ⟨mx d.f0 e.f0, mn d.f1 e.f1⟩
def commonGo : List S40 → List S40 → List S40 → List S40 × Int
  | d :: r, e :: s, acc => if (cut d e).f1 < (cut d e).f0 then ([], 5) else commonGo r s (acc ++ [cut d e])
  | _, _, acc => (acc, 0)
def commonF (a b : List S40) : List S40 × Int := if errOf a = 0 then if errOf b = 0 then if a.length = b.length then commonGo a b [] else ([], 10) else ([], errOf b) else ([], errOf a)
theorem checkedL_two (a b : List S40) : checkedL [a, b] = if errOf a = 0 then errOf b else errOf a := by
  simp only [checkedL]
  by_cases h : errOf a = 0
  · simp only [h, if_true]; split <;> simp_all
  · simp only [h, if_false]
def array_Common.f (l0 : List (S40)) (l1 : List (S40)) : Option ((List (S40)) × Int) := some (commonF l0 l1)
set_option maxRecDepth 100000 in
set_option maxHeartbeats 4000000 in
theorem array_Common.calls (A0 : Option Addr) (c0 : Nat) (l0 : List (S40)) (A1 : Option Addr) (c1 : Nat) (l1 : List (S40)) (r1 : List (S40)) (r2 : Int) (w : World) (hr0 : Kd.C k40 w A0 l0.length l0) (hc0 : l0.length ≤ c0) (hr1 : Kd.C k40 w A1 l1.length l1) (hc1 : l1.length ≤ c1) (h : array_Common.f l0 l1 = some (r1, r2)) :
    Calls Try.prog 21 #[.slice A0 l0.length c0, .slice A1 l1.length c1] w fun e w' => ∃ v0_ : Value, e = .returned (.tuple #[v0_, .int .i64 r2]) ∧ Kd.R k40 40 w' w.heap.size (fun _ => True) v0_ r1 ∧ Below w.heap.size w w' := by
  simp only [array_Common.f, Option.some.injEq] at h
  have H := Lib.hid h; clear h
  have HR0 := Lib.hid hr0; clear hr0
  have HR1 := Lib.hid hr1; clear hr1
  have H2 := Lib.hid (C_two w A0 c0 l0 hc0 HR0.out A1 c1 l1 hc1 HR1.out)
  by_cases he : checkedL [l0, l1] = 0
  · have HE := Lib.hid he
    rw [checkedL_two] at he
    have he0 : errOf l0 = 0 := by
      by_cases h : errOf l0 = 0
      · exact h
      · rw [if_neg h] at he; exact he
    have he1 : errOf l1 = 0 := by rw [if_pos he0] at he; exact he
    clear he
    obtain ⟨_, hp, hq, h1, h4⟩ := errOf_zero he0
    by_cases hl : l0.length = l1.length
    · have HF : Hid (commonF l0 l1 = commonGo l0 l1 []) := Lib.hid (by rw [commonF, if_pos he0, if_pos he1, if_pos hl])
      have q1 : ((l0.length : Int) != (l1.length : Int)) = false := by simp [hl]
      have q2 : (l0.length != l1.length) = false := by simp [hl]
      have HL := Lib.hid hl
      have hl2 : l0.length ≤ l1.length := by omega
      have HN : Hid (∀ d ∈ l0, near d) := Lib.hid hp.1
      have HN1 : Hid (∀ d ∈ l1, near d) := Lib.hid (errOf_zero he1).2.1.1
      clear hp hq he0 he1 hl
      go_enter Try.func21, Try.ntmps21
      go_wp2_with (go_at_call 34; refine (checked_calls _ _ [l0, l1] _ H2.out (Nat.le_refl _) (by simp)).mono ?_; rintro e w1 ⟨rfl, hb⟩; rw [HE.out]; (have HB := Lib.hid (below_step (below_alloc (Below.refl _ _) _) hb)); clear hb)
      go_loopw [7, 8, 9, 10, 25] (fun v _ _ _ i wr => ∃ (k : Nat) (acc : List S40), k ≤ l0.length ∧ i = .int .i64 k ∧ Hid (acc.length = k ∧ commonGo (l0.drop k) (l1.drop k) acc = commonGo l0 l1 []) ∧ Hid (Below w.heap.size w wr) ∧ Hid (Kd.R k40 40 wr w.heap.size (fun _ => True) v acc))
        (fun _ _ _ _ i _ => l0.length - (intOf i).toNat)
      case atStart => exact ⟨0, [], Nat.zero_le _, rfl, Lib.hid ⟨rfl, rfl⟩, HB, Lib.hid (Kd.R_nil _ _ _ _ _)⟩
      case round =>
        clear HB
        obtain ⟨k, acc, hk, rfl, HP, HB, HO⟩ := hrel
        by_cases hlt : k < l0.length
        · have hlt1 : k < l1.length := by omega
          obtain ⟨ad, e1, h0, h1'⟩ := at_T40 HR0.out (k : Int) (by omega) (by omega)
          have ek : rd_T40 l0 (k : Int) = l0[k] := by simp [rd_T40, List.getD, hlt]
          rw [ek] at h0 h1'
          cases e1
          obtain ⟨ad1, e2, g0, g1⟩ := at_T40 HR1.out (k : Int) (by omega) (by omega)
          have ek1 : rd_T40 l1 (k : Int) = l1[k] := by simp [rd_T40, List.getD, hlt1]
          rw [ek1] at g0 g1
          cases e2
          replace h0 := (HB.out.cell (World.block_lt_of_cell? w _ h0)).trans h0
          replace h1' := (HB.out.cell (World.block_lt_of_cell? w _ h1')).trans h1'
          replace g0 := (HB.out.cell (World.block_lt_of_cell? w _ g0)).trans g0
          replace g1 := (HB.out.cell (World.block_lt_of_cell? w _ g1)).trans g1
          simp only [Int.toNat_natCast] at h0 h1' g0 g1
          obtain ⟨m1, m2, m3, m4⟩ := HN.out _ (List.getElem_mem hlt)
          obtain ⟨n1, n2, n3, n4⟩ := HN1.out _ (List.getElem_mem hlt1)
          have HP2 := HP.out.2
          rw [List.drop_eq_getElem_cons hlt, List.drop_eq_getElem_cons hlt1] at HP2
          simp only [commonGo] at HP2
          have HP3 := Lib.hid HP2; clear HP2 ek ek1
          generalize l0[k] = d at *
          generalize l1[k] = e at *
          obtain ⟨gb, go, hadd⟩ := addr_of g0
          rw [hadd] at g0 g1
          have b1 := World.block_lt_of_cell? wr _ g0
          have i0 : (0 : Int) ≤ (k : Int) := Int.natCast_nonneg _
          have i1 : (k : Int) < (l1.length : Int) := by omega
          go_wp2_with fail
          obtain ⟨g, hg⟩ : ∃ g, g = wr.heap.size := ⟨_, rfl⟩
          obtain ⟨W0, hW0⟩ : ∃ W0, W0 = wr.alloc (.cells #[.int .i64 d.f0, .int .i64 d.f1] 40) := ⟨_, rfl⟩
          have s0 : W0.cell? ⟨g, 0, none⟩ = some (.int .i64 d.f0) := by rw [hW0, hg]; simp [go_sem]
          have s1 : W0.cell? ⟨g, 1, none⟩ = some (.int .i64 d.f1) := by rw [hW0, hg]; simp [go_sem]
          have g0' : W0.cell? ⟨gb, go, none⟩ = some (.int .i64 e.f0) := by rw [hW0]; exact pw_cell_below (below_alloc (Below.refl _ _) _) g0
          have g1' : W0.cell? ⟨gb, go + 1, none⟩ = some (.int .i64 e.f1) := by rw [hW0]; exact pw_cell_below (below_alloc (Below.refl _ _) _) g1
          have hgl : g < W0.heap.size := by rw [hW0, hg, World.size_alloc]; omega
          have b1' : gb < W0.heap.size := by rw [hW0, World.size_alloc]; omega
          rw [← hg, ← hW0]
          have HW0 := Lib.hid hW0; have HG := Lib.hid hg
          clear h0 h1' g0 g1 b1 hW0 hg
          go_region_held3 (fun w' => w'.cell? ⟨g, 0, none⟩ = some (.int .i64 d.f0) ∧ w'.cell? ⟨g, 1, none⟩ = some (.int .i64 d.f1) ∧ w'.cell? ⟨gb, go, none⟩ = some (.int .i64 e.f0) ∧ w'.cell? ⟨gb, go + 1, none⟩ = some (.int .i64 e.f1))
            (first | go_keep | exact ⟨s0, s1, g0', g1'⟩)
            (first | fail)
          all_goals
            have HB1 : Hid (Below w.heap.size w (W0.alloc (.cells #[.int .i64 (if d.f0 < e.f0 then e.f0 else d.f0), .int .i64 (if e.f1 < d.f1 then e.f1 else d.f1)] 40)).drew) := Lib.hid (below_drew (below_alloc (by rw [HW0.out]; exact below_alloc HB.out _) _))
            have HO1 : Hid (Kd.R k40 40 (W0.alloc (.cells #[.int .i64 (if d.f0 < e.f0 then e.f0 else d.f0), .int .i64 (if e.f1 < d.f1 then e.f1 else d.f1)] 40)).drew w.heap.size (fun _ => True) u7 acc) := Lib.hid (Kd.R_drew (Kd.R_alloc (by rw [HW0.out]; exact Kd.R_alloc HO.out _) _))
            have k0 : ((W0.alloc (.cells #[.int .i64 (if d.f0 < e.f0 then e.f0 else d.f0), .int .i64 (if e.f1 < d.f1 then e.f1 else d.f1)] 40)).drew).cell? ⟨W0.heap.size, 0, none⟩ = some (.int .i64 (if d.f0 < e.f0 then e.f0 else d.f0)) := by simp [go_sem]
            have k1 : ((W0.alloc (.cells #[.int .i64 (if d.f0 < e.f0 then e.f0 else d.f0), .int .i64 (if e.f1 < d.f1 then e.f1 else d.f1)] 40)).drew).cell? ⟨W0.heap.size, 1, none⟩ = some (.int .i64 (if e.f1 < d.f1 then e.f1 else d.f1)) := by simp [go_sem]
            have hal : acc.length ≤ 4 := by have := HP.out.1; omega
            have hcut : cut d e = ⟨if d.f0 < e.f0 then e.f0 else d.f0, if e.f1 < d.f1 then e.f1 else d.f1⟩ := rfl
            have HP4 := HP3.out
            rw [hcut] at HP4
            have HP5 := Lib.hid HP4
            clear HP4 hcut HP3 HO HB s0 s1 g0' g1'
            try (rename_i hHeld; clear hHeld)
            generalize (W0.alloc (.cells #[.int .i64 (if d.f0 < e.f0 then e.f0 else d.f0), .int .i64 (if e.f1 < d.f1 then e.f1 else d.f1)] 40)).drew = W1 at *
            generalize W0.heap.size = gx at *
            generalize (if d.f0 < e.f0 then e.f0 else d.f0) = x at *
            generalize (if e.f1 < d.f1 then e.f1 else d.f1) = y at *
            by_cases hxy : y < x
            · go_wp2
              have hh := H.out
              rw [HF.out, ← HP5.out, if_pos hxy] at hh
              simp only [Prod.mk.injEq] at hh
              obtain ⟨rfl, rfl⟩ := hh
              go_ret2
              exact ⟨_, rfl, Kd.R_nil _ _ _ _ _, HB1.out⟩
            · go_wp2_with (at_builtin; refine Kd.R_append k40 (w0 := w) w.heap.size rfl (.tmp 52) (.tmp 54) 22 40 (.agg #[.int .i64 0, .int .i64 0]) 16 rfl Try.underlying22 info40 rfl (by decide) (by omega) u7 acc (⟨x, y⟩ : S40) [.int .i64 x, .int .i64 y] (fun _ => True) (fun _ => False) rfl (by first | (go_simp; done) | (go_simp; rfl)) ?aP (fun _ hk => hk.elim) ?aF ?aO ?aB ?aS ?aL ?_; (case aP => exact k40_mkM _ _ _ (⟨x, y⟩ : S40)); (case aF => exact fun _ _ => trivial); (case aO => exact HO1.out); (case aB => exact HB1.out); (case aS => exact HB1.out.size); (case aL => omega); intro v1 w2 ho hb hg hat; (have HO2 := Lib.hid ho); (have HB2 := Lib.hid hb); clear ho hb hg hat)
              go_roundw
              case rel => exact ⟨k + 1, acc ++ [⟨x, y⟩], by omega, by go_num, Lib.hid ⟨by simp [HP.out.1], by rw [← HP5.out, if_neg (by omega)]⟩, HB2, HO2⟩
              case measure => simp [intOf]; omega
        · have HFE : Hid (commonF l0 l1 = (acc, 0)) := Lib.hid (by rw [HF.out, ← HP.out.2, show l0.drop k = [] from List.drop_eq_nil_of_le (by omega)]; rfl)
          go_wp2
          have hh := H.out
          rw [HFE.out] at hh
          simp only [Prod.mk.injEq] at hh
          obtain ⟨rfl, rfl⟩ := hh
          go_ret2
          exact ⟨_, rfl, HO.out, HB.out⟩
    · have HF : Hid (commonF l0 l1 = ([], 10)) := Lib.hid (by rw [commonF, if_pos he0, if_pos he1, if_neg hl])
      have q1 : ((l0.length : Int) != (l1.length : Int)) = true := by simp; omega
      have q2 : (l0.length != l1.length) = true := by simp [hl]
      have q3 : ((l0.length : Int) == (l1.length : Int)) = false := by simp; omega
      have q4 : (l0.length == l1.length) = false := by simp [hl]
      clear hl hp hq he0 he1
      go_enter Try.func21, Try.ntmps21
      go_wp2_with (go_at_call 34; refine (checked_calls _ _ [l0, l1] _ H2.out (Nat.le_refl _) (by simp)).mono ?_; rintro e w1 ⟨rfl, hb⟩; rw [HE.out]; (have HB := Lib.hid (below_step (below_alloc (Below.refl _ _) _) hb)); clear hb)
      have hh := H.out
      rw [HF.out] at hh
      simp only [Prod.mk.injEq] at hh
      obtain ⟨rfl, rfl⟩ := hh
      go_ret2
      exact ⟨_, rfl, Kd.R_nil _ _ _ _ _, HB.out⟩
  · have hne : (checkedL [l0, l1] != 0) = true := by simpa using he
    have HF : Hid (commonF l0 l1 = ([], checkedL [l0, l1])) := Lib.hid (by
      rw [checkedL_two] at he ⊢
      unfold commonF
      by_cases h : errOf l0 = 0
      · rw [if_pos h] at he; rw [if_pos h, if_neg he, if_pos h]
      · rw [if_neg h, if_neg h])
    clear he
    go_enter Try.func21, Try.ntmps21
    go_wp2_with (go_at_call 34; refine (checked_calls _ _ [l0, l1] _ H2.out (Nat.le_refl _) (by simp)).mono ?_; rintro e w1 ⟨rfl, hb⟩; (have HB := Lib.hid (below_step (below_alloc (Below.refl _ _) _) hb)); clear hb)
    have hh := H.out
    rw [HF.out] at hh
    simp only [Prod.mk.injEq] at hh
    obtain ⟨rfl, rfl⟩ := hh
    go_ret2
    exact ⟨_, rfl, Kd.R_nil _ _ _ _ _, HB.out⟩
end Go.Proofs.Ytcjjmhgboibbgaa.Q
end
section
namespace Go.Proofs.Ytcjjmhgboibbgaa.Q
set_option linter.unusedVariables false
open Go.RowKit Go.Proofs.Rf Go.Proofs.YtcjjmhgboibbgaaW.PrintWords Go.Proofs.YtcjjmhgboibbgaaW.PrintLast Go.Proofs.YtcjjmhgboibbgaaW.PrintMore
/-- Check, as the print is told it -/
def array_Check.f (a0_0 : Int) (l0_1 : List (S40)) (l0_2 : List (S59)) : Option (Int) := checkF a0_0 l0_1 l0_2
theorem array_Check.calls (a0_0 : Int) (A0_1 : Option Addr) (c0_1 : Nat) (l0_1 : List (S40)) (A0_2 : Option Addr) (c0_2 : Nat) (l0_2 : List (S59)) (r : Int) (w : World) (hr0_1 : Kd.C k40 w A0_1 l0_1.length l0_1) (hc0_1 : l0_1.length ≤ c0_1) (hr0_2 : Kd.C k59 w A0_2 l0_2.length l0_2) (hc0_2 : l0_2.length ≤ c0_2) (h : array_Check.f a0_0 l0_1 l0_2 = some r) :
    Calls Try.prog 26 #[.agg #[.int .i64 a0_0, .slice A0_1 l0_1.length c0_1, .slice A0_2 l0_2.length c0_2]] w fun e w' => e = .returned (.int .i64 r) ∧ Below w.heap.size w w' :=
  check_calls a0_0 A0_1 c0_1 l0_1 A0_2 c0_2 l0_2 r w hr0_1 hc0_1 hr0_2 h
end Go.Proofs.Ytcjjmhgboibbgaa.Q
end
section
namespace Go.Proofs.Ytcjjmhgboibbgaa.Q
open Go.RowKit Go.Proofs.YtcjjmhgboibbgaaW.PrintWords Go.Proofs.YtcjjmhgboibbgaaW.PrintLast Go.Proofs.YtcjjmhgboibbgaaW.PrintMore
attribute [local go_sem] max2_int min2_int max_two min_two max_three min_three max_four min_four   -- for this text's walks alone
set_option linter.unusedVariables false
set_option linter.unusedSimpArgs false
theorem eqA40 (d : Nat) (w : World) (x0 y0 : Int) (x1 y1 : Int) :
    (Op.equalIn (d + 2) 40 (.agg #[.int .i64 x0, .int .i64 x1]) (.agg #[.int .i64 y0, .int .i64 y1])).run Try.prog w = .ok (x0 == y0 && (x1 == y1)) w := by
  refine eqA_of Try.underlying40 (by kernel_rfl) ?_
  refine eqf_cons (by rfl) (by go_simp; rfl) (by go_simp; rfl) (by go_simp) ?_
  exact eqf_last (by rfl) (by go_simp; rfl) (by go_simp; rfl) (by go_simp)
end Go.Proofs.Ytcjjmhgboibbgaa.Q
end
section
namespace Go.Proofs.Ytcjjmhgboibbgaa.Q
open Go.RowKit Go.Proofs.YtcjjmhgboibbgaaW.PrintWords Go.Proofs.YtcjjmhgboibbgaaW.PrintLast Go.Proofs.YtcjjmhgboibbgaaW.PrintMore
attribute [local go_sem] max2_int min2_int max_two min_two max_three min_three max_four min_four   -- for this text's walks alone
set_option linter.unusedVariables false
set_option linter.unusedSimpArgs false
def array_offset.l0 : Nat → List (S40) → List Int → Int → List Int → Int → Int → Option (Int × Int)
  | 0, _, _, _, _, _, _ => none
  | k + 1, x0, x6, x7, x20, x21, x22 => if x22 < x21 then (if 0 ≤ x22 then (if x22 < (x20.length : Int) then (if x22 < (x0.length : Int) then (if (rd x20 x22) < ((rd_T40 x0 x22).f0) then (some (0, 3)) else (if (rd x20 x22) > ((rd_T40 x0 x22).f1) then (some (0, 3)) else (if x22 < (x6.length : Int) then (array_offset.l0 k x0 x6 (wrap64 (x7 + (wrap64 ((rd x6 x22) * (rd x20 x22))))) x20 x21 (wrap64 (x22 + 1))) else (none)))) else (none)) else (none)) else (none)) else (some (x7, 0))
def array_offset.f (k : Nat) (l0 : List (S40)) (l1 : List Int) : Option (Int × Int) := if (l1.length : Int) = (l0.length : Int) then ((array_strides.f l0).bind fun bt101 => (array_offset.l0 k l0 bt101.1 bt101.2 l1 (l1.length : Int) 0)) else (some (0, 10))
theorem array_offset.mono_l : ∀ k, (∀ y0 y1 y2 y3 y4 y5, LeO (array_offset.l0 k y0 y1 y2 y3 y4 y5) (array_offset.l0 (k + 1) y0 y1 y2 y3 y4 y5))
  | 0 => fun _ _ _ _ _ _ r h => by simp [array_offset.l0] at h
  | k + 1 => by
    have ih0 := array_offset.mono_l k
    · intro y0 y1 y2 y3 y4 y5
      unfold array_offset.l0
      repeat' first
      | (with_reducible exact ih0 _ _ _ _ _ _)
      | (with_reducible exact LeO.refl _)
      | (with_reducible exact LeO.none _)
      | (with_reducible refine LeO.ite ?_ ?_)
      | (with_reducible refine LeO.bind ?_ (fun _ => ?_))
      | exact ih0 _ _ _ _ _ _
      | exact LeO.none _
      | refine LeO.ite ?_ ?_
      | refine LeO.bind ?_ (fun _ => ?_)
theorem array_offset.mono : ∀ a0 a1 k, LeO (array_offset.f k a0 a1) (array_offset.f (k + 1) a0 a1) := by
  intro a0 a1 k
  have ih0 := array_offset.mono_l k
  unfold array_offset.f
  repeat' first
      | (with_reducible exact ih0 _ _ _ _ _ _)
      | (with_reducible exact LeO.refl _)
      | (with_reducible exact LeO.none _)
      | (with_reducible refine LeO.ite ?_ ?_)
      | (with_reducible refine LeO.bind ?_ (fun _ => ?_))
      | exact ih0 _ _ _ _ _ _
      | exact LeO.none _
      | refine LeO.ite ?_ ?_
      | refine LeO.bind ?_ (fun _ => ?_)
set_option maxHeartbeats 8000000 in
set_option maxRecDepth 100000 in
theorem array_offset.calls (k : Nat) (A0 : Option Addr) (c0 : Nat) (l0 : List (S40)) (A1 : Option Addr) (c1 : Nat) (l1 : List Int) (r1 : Int) (r2 : Int) (w : World) (hr0 : Kd.C k40 w A0 l0.length l0) (hc0 : l0.length ≤ c0) (hr1 : Kd.C (Kd.int .i64) w A1 l1.length l1) (hc1 : l1.length ≤ c1) (h : array_offset.f k l0 l1 = some (r1, r2)) :
    Calls Try.prog 36 #[.slice A0 l0.length c0, .slice A1 l1.length c1] w fun e w' => e = .returned (.tuple #[.int .i64 r1, .int .i64 r2]) ∧ Below w.heap.size w w' := by
  have HR0 := Aside0.mk hr0
  have HC0 := Aside0.mk hc0
  clear hr0 hc0
  have HR1 := Aside0.mk hr1
  have HC1 := Aside0.mk hc1
  clear hr1 hc1
  have HB := Aside0.mk (Below.refl w.heap.size w)
  have H : (if (l1.length : Int) = (l0.length : Int) then ((array_strides.f l0).bind fun bt101 => (array_offset.l0 k l0 bt101.1 bt101.2 l1 (l1.length : Int) 0)) else (some (0, 10))) = some (r1, r2) := h
  clear h
  by_cases c3 : (l1.length : Int) = (l0.length : Int)
  · rw [if_pos c3] at H
    have c3b0 : ((l1.length : Int) == (l0.length : Int)) = true := beq_iff_eq.mpr c3
    have c3b1 : ((l1.length : Int) != (l0.length : Int)) = false := bne_eq_false_iff_eq.mpr c3
    have c3b2 : (l1.length == l0.length) = true := by first | simpa using c3 | (simp at c3 ⊢; omega)
    clear c3
    replace H := Option.bind_eq_some_iff.mp H
    obtain ⟨⟨t101, t102⟩, A40, H⟩ := H
    replace H : (array_offset.l0 k l0 t101 t102 l1 (l1.length : Int) 0) = some (r1, r2) := H
    have A4 := Aside0.mk A40
    clear A40
    have H' := Aside0.mk H
    clear H
    go_enter Try.func36, Try.ntmps36
    go_wp2_with (first | ((with_reducible refine gate_callee (f := 37) rfl ?_); refine goesL_ (some 17) rfl rfl Try.func37 (by kernel_rfl) rfl #[.slice A0 l0.length c0] rfl (by (try simp only [List.map_toArray, List.map_cons, List.map_nil]); first | done | rfl | (simp only [List.length_drop, List.length_take]; rfl)) ?_; (with_reducible refine (array_strides.calls _ _ l0 t101 t102 _ ?side1 ?side2 A4.out).mono ?_); (case side1 => repeat (first | exact HR0.out | (with_reducible refine Kd.C_alloc ?_ _) | (with_reducible refine Kd.C_drewN ?_ _) | (with_reducible refine Kd.C_drew ?_))); (case side2 => exact HC0.out); rintro e w5 ⟨v103, rfl, ho0, hb⟩; refine ⟨_, rfl, ?_⟩; have n0_ := Aside0.mk (Kd.R_lower ho0 (below_size (by repeat (first | exact HB.out | apply below_alloc | apply pw_below_drewN | apply below_drew1)))); have n1_ := Aside0.mk (below_step (by repeat (first | exact HB.out | apply below_alloc | apply pw_below_drewN | apply below_drew1)) hb); clear HB; have HO104 := n0_; have HB := n1_; clear n0_ n1_; (try clear hb); (try clear ho0)))
    go_loopg [7, 22] k (fun kq v7 v22 w' => ∃ (x7_1 : Int) (x22_1 : Int), v7 = .int .i64 x7_1 ∧ v22 = .int .i64 x22_1 ∧ Aside0 (array_offset.l0 kq l0 t101 x7_1 l1 (l1.length : Int) x22_1 = some (r1, r2)) ∧ Aside0 (kq ≤ k) ∧ Aside0 (Kd.R (Kd.int .i64) 3 w' w.heap.size (fun _ => True) v103 t101) ∧ Aside0 (Below w.heap.size w w'))
    case atStart => exact ⟨(t102), (0), (by first | rfl | (simp; done) | (simp [*]; done)), (by first | rfl | (simp; done) | (simp [*]; done)), H', ⟨Nat.le_refl _⟩, ⟨by (with_reducible repeat (first | apply Kd.R_alloc | apply Kd.R_drewN | apply Kd.R_drew)); exact HO104.out⟩, ⟨by repeat (first | exact HB.out | apply below_alloc | apply pw_below_drewN | apply below_drew1)⟩⟩
    case round =>
      clear H'
      try clear c1
      try clear p2
      try clear c3
      try clear c3b0
      try clear c3b1
      try clear c3b2
      obtain ⟨x7_1, x22_1, rfl, rfl, HA, HK1, HO_6, HB⟩ := hrel
      cases gk with
      | zero => exact absurd HA.out (by simp [array_offset.l0])
      | succ k1 =>
        have H := HA.out
        clear HA
        simp only [array_offset.l0] at H
        by_cases c6 : x22_1 < (l1.length : Int)
        · rw [if_pos c6] at H
          have c6b0 : decide (x22_1 < (l1.length : Int)) = true := decide_eq_true c6
          clear c6
          by_cases c7 : 0 ≤ x22_1
          · rw [if_pos c7] at H
            have c7b0 : decide (0 ≤ x22_1) = true := decide_eq_true c7
            clear c7
            by_cases c8 : x22_1 < (l1.length : Int)
            · rw [if_pos c8] at H
              have c8b0 : decide (x22_1 < (l1.length : Int)) = true := decide_eq_true c8
              clear c8
              by_cases c9 : x22_1 < (l0.length : Int)
              · rw [if_pos c9] at H
                have c9b0 : decide (x22_1 < (l0.length : Int)) = true := decide_eq_true c9
                clear c9
                by_cases c10 : (rd l1 x22_1) < ((rd_T40 l0 x22_1).f0)
                · rw [if_pos c10] at H
                  have c10b0 : decide ((rd l1 x22_1) < ((rd_T40 l0 x22_1).f0)) = true := decide_eq_true c10
                  clear c10
                  simp only [Option.some.injEq, Prod.mk.injEq] at H
                  obtain ⟨rfl, rfl⟩ := H
                  have p105 : 0 ≤ (x22_1 : Int) := of_decide_eq_true (by first | (with_reducible assumption) | assumption)
                  have q105 : x22_1 < (l1.length : Int) := of_decide_eq_true (by first | (with_reducible assumption) | assumption)
                  obtain ⟨ad105, e105, hx105_0⟩ := Kd.at_int HR1.out x22_1 p105 q105
                  cases e105
                  replace hx105_0 := (HB.out.cell (World.block_lt_of_cell? w _ hx105_0)).trans hx105_0
                  replace p105 := eq_true p105
                  replace q105 := eq_true q105
                  have p106 : 0 ≤ (x22_1 : Int) := of_decide_eq_true (by first | (with_reducible assumption) | assumption)
                  have q106 : x22_1 < (l0.length : Int) := of_decide_eq_true (by first | (with_reducible assumption) | assumption)
                  obtain ⟨ad106, e106, hx106_0, hx106_1⟩ := at_T40 HR0.out x22_1 p106 q106
                  cases e106
                  replace hx106_0 := (HB.out.cell (World.block_lt_of_cell? w _ hx106_0)).trans hx106_0
                  replace hx106_1 := (HB.out.cell (World.block_lt_of_cell? w _ hx106_1)).trans hx106_1
                  replace p106 := eq_true p106
                  replace q106 := eq_true q106
                  go_wp2
                  go_ret2
                  exact ⟨by first | rfl | (simp [errW_none, errW_some] <;> rfl) | (simp [*, errW_none, errW_some] <;> rfl), by repeat (first | exact HB.out | apply below_alloc | apply pw_below_drewN | apply below_drew1)⟩
                · rw [if_neg c10] at H
                  have c10b0 : decide ((rd l1 x22_1) < ((rd_T40 l0 x22_1).f0)) = false := decide_eq_false c10
                  clear c10
                  by_cases c11 : (rd l1 x22_1) > ((rd_T40 l0 x22_1).f1)
                  · rw [if_pos c11] at H
                    have c11b0 : decide (((rd_T40 l0 x22_1).f1) < (rd l1 x22_1)) = true := decide_eq_true c11
                    clear c11
                    simp only [Option.some.injEq, Prod.mk.injEq] at H
                    obtain ⟨rfl, rfl⟩ := H
                    have p105 : 0 ≤ (x22_1 : Int) := of_decide_eq_true (by first | (with_reducible assumption) | assumption)
                    have q105 : x22_1 < (l1.length : Int) := of_decide_eq_true (by first | (with_reducible assumption) | assumption)
                    obtain ⟨ad105, e105, hx105_0⟩ := Kd.at_int HR1.out x22_1 p105 q105
                    cases e105
                    replace hx105_0 := (HB.out.cell (World.block_lt_of_cell? w _ hx105_0)).trans hx105_0
                    replace p105 := eq_true p105
                    replace q105 := eq_true q105
                    have p106 : 0 ≤ (x22_1 : Int) := of_decide_eq_true (by first | (with_reducible assumption) | assumption)
                    have q106 : x22_1 < (l0.length : Int) := of_decide_eq_true (by first | (with_reducible assumption) | assumption)
                    obtain ⟨ad106, e106, hx106_0, hx106_1⟩ := at_T40 HR0.out x22_1 p106 q106
                    cases e106
                    replace hx106_0 := (HB.out.cell (World.block_lt_of_cell? w _ hx106_0)).trans hx106_0
                    replace hx106_1 := (HB.out.cell (World.block_lt_of_cell? w _ hx106_1)).trans hx106_1
                    replace p106 := eq_true p106
                    replace q106 := eq_true q106
                    have p107 : 0 ≤ (x22_1 : Int) := of_decide_eq_true (by first | (with_reducible assumption) | assumption)
                    have q107 : x22_1 < (l0.length : Int) := of_decide_eq_true (by first | (with_reducible assumption) | assumption)
                    obtain ⟨ad107, e107, hx107_0, hx107_1⟩ := at_T40 HR0.out x22_1 p107 q107
                    obtain rfl : ad106 = ad107 := (by injection e107)
                    replace hx107_0 := (HB.out.cell (World.block_lt_of_cell? w _ hx107_0)).trans hx107_0
                    replace hx107_1 := (HB.out.cell (World.block_lt_of_cell? w _ hx107_1)).trans hx107_1
                    replace p107 := eq_true p107
                    replace q107 := eq_true q107
                    go_wp2
                    go_ret2
                    exact ⟨by first | rfl | (simp [errW_none, errW_some] <;> rfl) | (simp [*, errW_none, errW_some] <;> rfl), by repeat (first | exact HB.out | apply below_alloc | apply pw_below_drewN | apply below_drew1)⟩
                  · rw [if_neg c11] at H
                    have c11b0 : decide (((rd_T40 l0 x22_1).f1) < (rd l1 x22_1)) = false := decide_eq_false c11
                    clear c11
                    by_cases c12 : x22_1 < (t101.length : Int)
                    · rw [if_pos c12] at H
                      have c12b0 : decide (x22_1 < (t101.length : Int)) = true := decide_eq_true c12
                      clear c12
                      have H' := Aside0.mk H
                      clear H
                      have p105 : 0 ≤ (x22_1 : Int) := of_decide_eq_true (by first | (with_reducible assumption) | assumption)
                      have q105 : x22_1 < (l1.length : Int) := of_decide_eq_true (by first | (with_reducible assumption) | assumption)
                      obtain ⟨ad105, e105, hx105_0⟩ := Kd.at_int HR1.out x22_1 p105 q105
                      cases e105
                      replace hx105_0 := (HB.out.cell (World.block_lt_of_cell? w _ hx105_0)).trans hx105_0
                      replace p105 := eq_true p105
                      replace q105 := eq_true q105
                      have p106 : 0 ≤ (x22_1 : Int) := of_decide_eq_true (by first | (with_reducible assumption) | assumption)
                      have q106 : x22_1 < (l0.length : Int) := of_decide_eq_true (by first | (with_reducible assumption) | assumption)
                      obtain ⟨ad106, e106, hx106_0, hx106_1⟩ := at_T40 HR0.out x22_1 p106 q106
                      cases e106
                      replace hx106_0 := (HB.out.cell (World.block_lt_of_cell? w _ hx106_0)).trans hx106_0
                      replace hx106_1 := (HB.out.cell (World.block_lt_of_cell? w _ hx106_1)).trans hx106_1
                      replace p106 := eq_true p106
                      replace q106 := eq_true q106
                      have p107 : 0 ≤ (x22_1 : Int) := of_decide_eq_true (by first | (with_reducible assumption) | assumption)
                      have q107 : x22_1 < (l0.length : Int) := of_decide_eq_true (by first | (with_reducible assumption) | assumption)
                      obtain ⟨ad107, e107, hx107_0, hx107_1⟩ := at_T40 HR0.out x22_1 p107 q107
                      obtain rfl : ad106 = ad107 := (by injection e107)
                      replace hx107_0 := (HB.out.cell (World.block_lt_of_cell? w _ hx107_0)).trans hx107_0
                      replace hx107_1 := (HB.out.cell (World.block_lt_of_cell? w _ hx107_1)).trans hx107_1
                      replace p107 := eq_true p107
                      replace q107 := eq_true q107
                      obtain ⟨Ao13, co13, eo13⟩ := Kd.R_slice HO_6.out
                      subst eo13
                      have p108 : 0 ≤ (x22_1 : Int) := of_decide_eq_true (by first | (with_reducible assumption) | assumption)
                      have q108 : x22_1 < (t101.length : Int) := of_decide_eq_true (by first | (with_reducible assumption) | assumption)
                      obtain ⟨ad108, e108, hx108_0⟩ := Kd.at_int (Kd.R_reads' HO_6.out).2.2 x22_1 p108 q108
                      cases e108
                      replace p108 := eq_true p108
                      replace q108 := eq_true q108
                      go_wp2
                      go_roundg k1
                      case measure => have := HK1.out; omega
                      case rel => exact ⟨(wrap64 (x7_1 + (wrap64 ((rd t101 x22_1) * (rd l1 x22_1))))), (wrap64 (x22_1 + 1)), (by first | rfl | (simp; done) | (simp [*]; done)), (by first | rfl | (simp; done) | (simp [*]; done)), H', ⟨by have := HK1.out; omega⟩, ⟨by (with_reducible repeat (first | apply Kd.R_alloc | apply Kd.R_drewN | apply Kd.R_drew)); exact HO_6.out⟩, ⟨by repeat (first | exact HB.out | apply below_alloc | apply pw_below_drewN | apply below_drew1)⟩⟩
                    · rw [if_neg c12] at H
                      exact absurd H (by simp)
              · rw [if_neg c9] at H
                exact absurd H (by simp)
            · rw [if_neg c8] at H
              exact absurd H (by simp)
          · rw [if_neg c7] at H
            exact absurd H (by simp)
        · rw [if_neg c6] at H
          have c6b0 : decide (x22_1 < (l1.length : Int)) = false := decide_eq_false c6
          clear c6
          simp only [Option.some.injEq, Prod.mk.injEq] at H
          obtain ⟨rfl, rfl⟩ := H
          go_wp2
          go_ret2
          exact ⟨by first | rfl | (simp [errW_none, errW_some] <;> rfl) | (simp [*, errW_none, errW_some] <;> rfl), by repeat (first | exact HB.out | apply below_alloc | apply pw_below_drewN | apply below_drew1)⟩
  · rw [if_neg c3] at H
    have c3b0 : ((l1.length : Int) == (l0.length : Int)) = false := beq_eq_false_iff_ne.mpr c3
    have c3b1 : ((l1.length : Int) != (l0.length : Int)) = true := bne_iff_ne.mpr c3
    have c3b2 : (l1.length == l0.length) = false := by first | simpa using c3 | (simp at c3 ⊢; omega)
    simp only [Option.some.injEq, Prod.mk.injEq] at H
    obtain ⟨rfl, rfl⟩ := H
    go_enter Try.func36, Try.ntmps36
    go_wp2
    go_ret2
    exact ⟨by first | rfl | (simp [errW_none, errW_some] <;> rfl) | (simp [*, errW_none, errW_some] <;> rfl), by repeat (first | exact HB.out | apply below_alloc | apply pw_below_drewN | apply below_drew1)⟩
end Go.Proofs.Ytcjjmhgboibbgaa.Q
end
