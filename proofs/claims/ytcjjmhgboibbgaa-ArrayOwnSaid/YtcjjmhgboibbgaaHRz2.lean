import Derived.Test.YtcjjmhgboibbgaaHc3
import Derived.Deep.RegionHeld3
namespace Go.Proofs.Ytcjjmhgboibbgaa.Q
open Go.RowKit Go.Shelf Go.Proofs.Rf Go.Proofs.YtcjjmhgboibbgaaW.PrintWords Go.Proofs.YtcjjmhgboibbgaaW.PrintLast Go.Proofs.YtcjjmhgboibbgaaW.PrintMore
set_option linter.unusedVariables false
set_option linter.unusedSimpArgs false
set_option maxRecDepth 100000
theorem kept3 {w W W' : World} {p0 p1 p2 : Addr} {v0 v1 v2 : Value} (h : W.cell? p0 = some v0 ∧ W.cell? p1 = some v1 ∧ W.cell? p2 = some v2 ∧ Below w.heap.size w W) (hb : Below W.heap.size W W') : W'.cell? p0 = some v0 ∧ W'.cell? p1 = some v1 ∧ W'.cell? p2 = some v2 ∧ Below w.heap.size w W' :=
  ⟨pw_cell_below hb h.1, pw_cell_below hb h.2.1, pw_cell_below hb h.2.2.1, below_step h.2.2.2 hb⟩
theorem last3 {w W : World} {p0 p1 p2 : Addr} {v0 v1 v2 : Value} (h : W.cell? p0 = some v0 ∧ W.cell? p1 = some v1 ∧ W.cell? p2 = some v2 ∧ Below w.heap.size w W) : Below w.heap.size w W := h.2.2.2
theorem cell_far {W : World} {B D i j : Nat} {u v : Value} (hne : B ≠ D) (h : W.cell? ⟨B, i, none⟩ = some v) : (W.setCell ⟨D, j, none⟩ u).cell? ⟨B, i, none⟩ = some v := by
  have := Below.heap_setCell W ⟨D, j, none⟩ u B hne
  simpa [World.cell?, this] using h
theorem kept3s {w W : World} {B D : Nat} {v0 v1 v2 x0 x1 x2 : Value} (hne : B ≠ D) (hD : w.heap.size ≤ D) (h : W.cell? ⟨B, 0, none⟩ = some v0 ∧ W.cell? ⟨B, 1, none⟩ = some v1 ∧ W.cell? ⟨B, 2, none⟩ = some v2 ∧ Below w.heap.size w W) :
    (((W.setCell ⟨D, 0, none⟩ x0).setCell ⟨D, 1, none⟩ x1).setCell ⟨D, 2, none⟩ x2).cell? ⟨B, 0, none⟩ = some v0 ∧ (((W.setCell ⟨D, 0, none⟩ x0).setCell ⟨D, 1, none⟩ x1).setCell ⟨D, 2, none⟩ x2).cell? ⟨B, 1, none⟩ = some v1 ∧ (((W.setCell ⟨D, 0, none⟩ x0).setCell ⟨D, 1, none⟩ x1).setCell ⟨D, 2, none⟩ x2).cell? ⟨B, 2, none⟩ = some v2 ∧ Below w.heap.size w (((W.setCell ⟨D, 0, none⟩ x0).setCell ⟨D, 1, none⟩ x1).setCell ⟨D, 2, none⟩ x2) :=
  ⟨cell_far hne (cell_far hne (cell_far hne h.1)), cell_far hne (cell_far hne (cell_far hne h.2.1)), cell_far hne (cell_far hne (cell_far hne h.2.2.1)), below_set (below_set (below_set h.2.2.2 hD) hD) hD⟩
def ClPost (t : Int) (ds : List S40) (es : List S59) (w : World) (e : Ending) (w' : World) : Prop := ∃ v1 v2, e = .returned (.agg #[.int .i64 t, v1, v2]) ∧ k40.R 40 w' w.heap.size (fun _ => True) v1 ds ∧ k59.R 59 w' w.heap.size (fun _ => True) v2 es ∧ Below w.heap.size w w'
set_option maxHeartbeats 4000000 in
theorem clone_calls (t : Int) (ad1 ad2 : Addr) (c1 c2 n m : Nat) (ds : List S40) (es : List S59) (w : World) (hr1 : Kd.C k40 w (some ad1) n ds) (hr2 : Kd.C k59 w (some ad2) m es) (hn : n ≤ 1000) (hm : m ≤ 1000) :
    Calls Try.prog 46 #[.agg #[.int .i64 t, .slice (some ad1) n c1, .slice (some ad2) m c2]] w (ClPost t ds es w) := by
  have e1 : Hid (ds.length = n) := Lib.hid hr1.1
  have e2 : Hid (es.length = m) := Lib.hid hr2.1
  have HR1 := Lib.hid hr1; clear hr1
  have HR2 := Lib.hid hr2; clear hr2
  go_enter Try.func46, Try.ntmps46
  go_wp2_with fail
  have b0 : ((w.alloc (.cells #[.int .i64 t, .slice (some ad1) n c1, .slice (some ad2) m c2] 50)).alloc (.cells #[.int .i64 0, .slice none 0 0, .slice none 0 0] 50)).heap[w.heap.size]? = some (.cells #[.int .i64 t, .slice (some ad1) n c1, .slice (some ad2) m c2] 50) := blk_alloc (heap_alloc_new w _) _
  have r0 : ((w.alloc (.cells #[.int .i64 t, .slice (some ad1) n c1, .slice (some ad2) m c2] 50)).alloc (.cells #[.int .i64 0, .slice none 0 0, .slice none 0 0] 50)).heap[w.heap.size + 1]? = some (.cells #[.int .i64 0, .slice none 0 0, .slice none 0 0] 50) := by
    have := heap_alloc_new (w.alloc (.cells #[.int .i64 t, .slice (some ad1) n c1, .slice (some ad2) m c2] 50)) (.cells #[.int .i64 0, .slice none 0 0, .slice none 0 0] 50); rwa [World.size_alloc] at this
  have hW0 : Below w.heap.size w ((w.alloc (.cells #[.int .i64 t, .slice (some ad1) n c1, .slice (some ad2) m c2] 50)).alloc (.cells #[.int .i64 0, .slice none 0 0, .slice none 0 0] 50)) := below_alloc (below_alloc (Below.refl _ _) _) _
  try simp only [World.size_alloc]
  generalize ((w.alloc (.cells #[.int .i64 t, .slice (some ad1) n c1, .slice (some ad2) m c2] 50)).alloc (.cells #[.int .i64 0, .slice none 0 0, .slice none 0 0] 50)) = W0 at *
  obtain ⟨B, hB⟩ : ∃ B, B = w.heap.size := ⟨_, rfl⟩
  obtain ⟨D, hD⟩ : ∃ D, D = w.heap.size + 1 := ⟨_, rfl⟩
  have hne : B ≠ D := by omega
  have hne2 : D ≠ B := by omega
  rw [← hD, ← hB]
  rw [← hB] at b0
  rw [← hD] at r0
  have HBe := Lib.hid hB
  have HDe := Lib.hid hD
  clear hB hD
  have hDw : w.heap.size ≤ D := by have := HDe.out; omega
  have s0 : W0.cell? ⟨B, 0, none⟩ = some (.int .i64 t) := by rw [blk_cell b0 0]; rfl
  have s1 : W0.cell? ⟨B, 1, none⟩ = some (.slice (some ad1) n c1) := by rw [blk_cell b0 1]; rfl
  have s2 : W0.cell? ⟨B, 2, none⟩ = some (.slice (some ad2) m c2) := by rw [blk_cell b0 2]; rfl
  clear b0
  have hHe2 : Hid (D < W0.drew.heap.size) := Lib.hid (Array.getElem?_eq_some_iff.1 r0).1
  replace r0 : W0.drew.heap[D]? = some (Obj.cells #[Value.int IntKind.i64 0, Value.slice none 0 0, Value.slice none 0 0] 50) := r0
  go_region_held3 (fun w' => w'.cell? ⟨B, 0, none⟩ = some (.int .i64 t) ∧ w'.cell? ⟨B, 1, none⟩ = some (.slice (some ad1) n c1) ∧ w'.cell? ⟨B, 2, none⟩ = some (.slice (some ad2) m c2) ∧ Below w.heap.size w w')
    (first | exact ⟨s0, s1, s2, below_drew hW0⟩ | exact ⟨s0, s1, s2, hW0⟩ | exact kept3 (by assumption) (by assumption) | exact kept3s hne hDw (by assumption))
    (first
      | (go_at_call 55; go_loud (refine (clone40_calls ad1 n c1 ds hn _ (Kd.C_below HR1.out (last3 (by assumption)))).mono ?_); rintro e wA ⟨v1, rfl, hv1, hb⟩; obtain ⟨A1, q1, rfl⟩ := Kd.R_slice hv1; go_loud (replace r0 := blk_below r0 hb); (have HV1 := Lib.hid hv1); (have hZ := hb.size); clear hv1)
      | (go_at_call 64; refine (clone59_calls ad2 m c2 es hm _ (Kd.C_below HR2.out (last3 (by assumption)))).mono ?_; rintro e wB ⟨v2, rfl, hv2, hb2⟩; obtain ⟨A2, q2, rfl⟩ := Kd.R_slice hv2; (replace r0 := blk_below r0 hb2); (have HV2 := Lib.hid hv2); (replace HV1 := Lib.hid (Kd.R_below HV1.out hb2)); (have k0 := blk_cell r0 0); (have k1 := blk_cell r0 1); (have k2 := blk_cell r0 2); (have f0 := blk_frozen r0 0); (have f1 := blk_frozen r0 1); (have f2 := blk_frozen r0 2); clear hv2 hb; (have HR0 := Lib.hid r0); clear r0))
  rename_i hHeld
  have hBf := last3 hHeld
  clear hHeld
  have hW0s : D < W0.drew.heap.size := by
    have := hHe2.out
    exact this
  go_wp2
  have hne4 : ∀ k, W0.drew.heap.size ≤ k → k ≠ D := fun k hk e => by omega
  have hw0 : w.heap.size ≤ W0.drew.heap.size := by omega
  refine bodyPost_ret (v := .agg #[.int .i64 t, .slice A1 ds.length q1, .slice A2 es.length q2]) ?_ rfl ⟨_, _, rfl, Kd.R_lower (R_stay HV1.out ?_) hw0, Kd.R_lower (R_stay HV2.out ?_) (by omega), hBf⟩
  · simp [results, Try.results46, go_sem, k0, k1, k2]
  all_goals (intro k hk _; have hkk := hne4 k (by omega); rw [Below.heap_setCell _ _ _ k hkk, Below.heap_setCell _ _ _ k hkk, Below.heap_setCell _ _ _ k hkk])
end Go.Proofs.Ytcjjmhgboibbgaa.Q

namespace Go.Proofs.Ytcjjmhgboibbgaa.Q
open Go.RowKit Go.Shelf Go.Proofs.Rf Go.Proofs.YtcjjmhgboibbgaaW.PrintWords Go.Proofs.YtcjjmhgboibbgaaW.PrintLast Go.Proofs.YtcjjmhgboibbgaaW.PrintMore
set_option linter.unusedVariables false
set_option linter.unusedSimpArgs false
set_option maxRecDepth 100000
theorem leaves_none {P : Program} {fn : Func} {tmps : Array Value} {R : Ending → World → Prop} {W : World} (h : ∃ v, (results fn tmps).run P W = .ok v W ∧ R (.returned v) W) : LeavesInM Fence.wide 0 P fn tmps R [] .returning W := h
/-- an error, and the empty array -/
def ResizeNo (x : Int) (w : World) (en : Ending) (w' : World) : Prop := en = .returned (.tuple #[.agg #[.int .i64 0, .slice none 0 0, .slice none 0 0], .int .i64 x]) ∧ Below w.heap.size w w'
set_option maxHeartbeats 40000000 in
theorem resize_bad (t : Int) (ad1 ad2 : Addr) (A3 : Option Addr) (c1 c2 c3 n m n3 : Nat) (ds l1 : List S40) (es : List S59) (w : World)
    (hr1 : Kd.C k40 w (some ad1) n ds) (hc1 : n ≤ c1) (hr2 : Kd.C k59 w (some ad2) m es) (hc2 : m ≤ c2) (hr3 : Kd.C k40 w A3 n3 l1) (hc3 : n3 ≤ c3)
    (hchk : checkF t ds es = some 0) (hl : errOf l1 ≠ 0) :
    CallsIn Fence.wide 0 Try.prog 27 #[.agg #[.int .i64 t, .slice (some ad1) n c1, .slice (some ad2) m c2], .slice A3 n3 c3] w (ResizeNo (errOf l1) w) := by
  have e1 : Hid (ds.length = n) := Lib.hid hr1.1
  have e2 : Hid (es.length = m) := Lib.hid hr2.1
  have e3 : Hid (l1.length = n3) := Lib.hid hr3.1
  have HR1 := Lib.hid hr1
  have HR2 := Lib.hid hr2
  have HR3 := Lib.hid hr3
  have HCK := Lib.hid hchk
  have hlb : (errOf l1 != 0) = true := by simpa using hl
  have HL := Lib.hid hl
  clear hr1 hr2 hr3 hchk hl
  refine callsIn_of_wp_marks Try.func27 rfl trivial ?_
  simp only [Try.ntmps27, List.size_toArray, List.length_cons, List.length_nil, Nat.reduceAdd, Nat.reduceSub, Array.replicate_succ, Array.replicate_zero, List.push_toArray, List.append_toArray, List.nil_append, List.cons_append]
  gi_wp2
  have b0 : ((w.alloc (.cells #[.int .i64 t, .slice (some ad1) n c1, .slice (some ad2) m c2] 50)).alloc (.cells #[.int .i64 0, .slice none 0 0, .slice none 0 0] 50)).heap[w.heap.size]? = some (.cells #[.int .i64 t, .slice (some ad1) n c1, .slice (some ad2) m c2] 50) := blk_alloc (heap_alloc_new w _) _
  have r0 : ((w.alloc (.cells #[.int .i64 t, .slice (some ad1) n c1, .slice (some ad2) m c2] 50)).alloc (.cells #[.int .i64 0, .slice none 0 0, .slice none 0 0] 50)).heap[w.heap.size + 1]? = some (.cells #[.int .i64 0, .slice none 0 0, .slice none 0 0] 50) := by
    have := heap_alloc_new (w.alloc (.cells #[.int .i64 t, .slice (some ad1) n c1, .slice (some ad2) m c2] 50)) (.cells #[.int .i64 0, .slice none 0 0, .slice none 0 0] 50); rwa [World.size_alloc] at this
  have hW0 : Below w.heap.size w ((w.alloc (.cells #[.int .i64 t, .slice (some ad1) n c1, .slice (some ad2) m c2] 50)).alloc (.cells #[.int .i64 0, .slice none 0 0, .slice none 0 0] 50)) := below_alloc (below_alloc (Below.refl _ _) _) _
  generalize ((w.alloc (.cells #[.int .i64 t, .slice (some ad1) n c1, .slice (some ad2) m c2] 50)).alloc (.cells #[.int .i64 0, .slice none 0 0, .slice none 0 0] 50)) = W0 at *
  have hck := (callsIn_wide (n := 0)).2 (check_calls t (some ad1) c1 ds (some ad2) c2 es 0 W0 (by rw [e1.out]; exact Kd.C_below HR1.out hW0) (by rw [e1.out]; exact hc1) (by rw [e2.out]; exact Kd.C_below HR2.out hW0) HCK.out)
  rw [e1.out, e2.out] at hck
  refine ⟨trivial, rfl, hck.mono ?_⟩
  rintro e w1 ⟨rfl, hb1⟩
  clear hck
  obtain ⟨b1, x1, y1, z1, g1⟩ := box3b b0 hb1
  obtain ⟨r1, _, _, _, _⟩ := box3b r0 hb1
  have hW1 := below_step hW0 hb1
  clear b0 r0 hW0 hb1
  gi_wp2
  have hch := (callsIn_wide (n := 0)).2 (checked_calls (some ⟨w1.heap.size, 0, none⟩) 1 [l1] (w1.alloc (.cells #[.slice A3 l1.length c3] 22)) (C_one w1 A3 c3 l1 (by rw [e3.out]; exact hc3) (by rw [e3.out]; exact Kd.C_below HR3.out hW1)) (Nat.le_refl _) (by simp))
  rw [e3.out, checkedL_one] at hch
  refine ⟨trivial, rfl, hch.mono ?_⟩
  rintro e w2 ⟨rfl, hb2⟩
  clear hch
  obtain ⟨b2, x2, y2, z2, g2⟩ := box3b (blk_alloc b1 _) hb2
  obtain ⟨r2, p0, p1, p2, _⟩ := box3b (blk_alloc r1 _) hb2
  have hW2 := below_step (below_alloc hW1 _) hb2
  clear b1 x1 y1 z1 g1 r1 hW1 hb2
  have q0 := blk_frozen r2 0
  have q1 := blk_frozen r2 1
  have q2 := blk_frozen r2 2
  gi_wp2
  have hBf : Below w.heap.size w (((w2.setCell ⟨w.heap.size + 1, 0, none⟩ (.int .i64 0)).setCell ⟨w.heap.size + 1, 1, none⟩ (.slice none 0 0)).setCell ⟨w.heap.size + 1, 2, none⟩ (.slice none 0 0)) := below_set (below_set (below_set hW2 (by omega)) (by omega)) (by omega)
  refine leaves_none ⟨.tuple #[.agg #[.int .i64 0, .slice none 0 0, .slice none 0 0], .int .i64 (errOf l1)], ?_, rfl, hBf⟩
  simp [results, Try.results27, go_sem, p0, p1, p2]
set_option maxHeartbeats 40000000 in
theorem resize_kind (t : Int) (ad1 ad2 : Addr) (A3 : Option Addr) (c1 c2 c3 n m n3 : Nat) (ds l1 : List S40) (es : List S59) (w : World)
    (hr1 : Kd.C k40 w (some ad1) n ds) (hc1 : n ≤ c1) (hr2 : Kd.C k59 w (some ad2) m es) (hc2 : m ≤ c2) (hr3 : Kd.C k40 w A3 n3 l1) (hc3 : n3 ≤ c3)
    (hchk : checkF t ds es = some 0) (hl : errOf l1 = 0) (hn : n3 ≠ n) :
    CallsIn Fence.wide 0 Try.prog 27 #[.agg #[.int .i64 t, .slice (some ad1) n c1, .slice (some ad2) m c2], .slice A3 n3 c3] w (ResizeNo 10 w) := by
  have e1 : Hid (ds.length = n) := Lib.hid hr1.1
  have e2 : Hid (es.length = m) := Lib.hid hr2.1
  have e3 : Hid (l1.length = n3) := Lib.hid hr3.1
  have HR1 := Lib.hid hr1
  have HR2 := Lib.hid hr2
  have HR3 := Lib.hid hr3
  have HCK := Lib.hid hchk
  have hlb : ((n3 : Int) != (n : Int)) = true := by simp; omega
  have HL := Lib.hid hl
  clear hr1 hr2 hr3 hchk hl
  refine callsIn_of_wp_marks Try.func27 rfl trivial ?_
  simp only [Try.ntmps27, List.size_toArray, List.length_cons, List.length_nil, Nat.reduceAdd, Nat.reduceSub, Array.replicate_succ, Array.replicate_zero, List.push_toArray, List.append_toArray, List.nil_append, List.cons_append]
  gi_wp2
  have b0 : ((w.alloc (.cells #[.int .i64 t, .slice (some ad1) n c1, .slice (some ad2) m c2] 50)).alloc (.cells #[.int .i64 0, .slice none 0 0, .slice none 0 0] 50)).heap[w.heap.size]? = some (.cells #[.int .i64 t, .slice (some ad1) n c1, .slice (some ad2) m c2] 50) := blk_alloc (heap_alloc_new w _) _
  have r0 : ((w.alloc (.cells #[.int .i64 t, .slice (some ad1) n c1, .slice (some ad2) m c2] 50)).alloc (.cells #[.int .i64 0, .slice none 0 0, .slice none 0 0] 50)).heap[w.heap.size + 1]? = some (.cells #[.int .i64 0, .slice none 0 0, .slice none 0 0] 50) := by
    have := heap_alloc_new (w.alloc (.cells #[.int .i64 t, .slice (some ad1) n c1, .slice (some ad2) m c2] 50)) (.cells #[.int .i64 0, .slice none 0 0, .slice none 0 0] 50); rwa [World.size_alloc] at this
  have hW0 : Below w.heap.size w ((w.alloc (.cells #[.int .i64 t, .slice (some ad1) n c1, .slice (some ad2) m c2] 50)).alloc (.cells #[.int .i64 0, .slice none 0 0, .slice none 0 0] 50)) := below_alloc (below_alloc (Below.refl _ _) _) _
  generalize ((w.alloc (.cells #[.int .i64 t, .slice (some ad1) n c1, .slice (some ad2) m c2] 50)).alloc (.cells #[.int .i64 0, .slice none 0 0, .slice none 0 0] 50)) = W0 at *
  have hck := (callsIn_wide (n := 0)).2 (check_calls t (some ad1) c1 ds (some ad2) c2 es 0 W0 (by rw [e1.out]; exact Kd.C_below HR1.out hW0) (by rw [e1.out]; exact hc1) (by rw [e2.out]; exact Kd.C_below HR2.out hW0) HCK.out)
  rw [e1.out, e2.out] at hck
  refine ⟨trivial, rfl, hck.mono ?_⟩
  rintro e w1 ⟨rfl, hb1⟩
  clear hck
  obtain ⟨b1, x1, y1, z1, g1⟩ := box3b b0 hb1
  obtain ⟨r1, _, _, _, _⟩ := box3b r0 hb1
  have hW1 := below_step hW0 hb1
  clear b0 r0 hW0 hb1
  gi_wp2
  have hch := (callsIn_wide (n := 0)).2 (checked_calls (some ⟨w1.heap.size, 0, none⟩) 1 [l1] (w1.alloc (.cells #[.slice A3 l1.length c3] 22)) (C_one w1 A3 c3 l1 (by rw [e3.out]; exact hc3) (by rw [e3.out]; exact Kd.C_below HR3.out hW1)) (Nat.le_refl _) (by simp))
  rw [e3.out, checkedL_one, HL.out] at hch
  refine ⟨trivial, rfl, hch.mono ?_⟩
  rintro e w2 ⟨rfl, hb2⟩
  clear hch
  obtain ⟨b2, x2, y2, z2, g2⟩ := box3b (blk_alloc b1 _) hb2
  obtain ⟨r2, p0, p1, p2, _⟩ := box3b (blk_alloc r1 _) hb2
  have hW2 := below_step (below_alloc hW1 _) hb2
  clear b1 x1 y1 z1 g1 r1 hW1 hb2
  have q0 := blk_frozen r2 0
  have q1 := blk_frozen r2 1
  have q2 := blk_frozen r2 2
  gi_wp2
  have hBf : Below w.heap.size w (((w2.setCell ⟨w.heap.size + 1, 0, none⟩ (.int .i64 0)).setCell ⟨w.heap.size + 1, 1, none⟩ (.slice none 0 0)).setCell ⟨w.heap.size + 1, 2, none⟩ (.slice none 0 0)) := below_set (below_set (below_set hW2 (by omega)) (by omega)) (by omega)
  refine leaves_none ⟨.tuple #[.agg #[.int .i64 0, .slice none 0 0, .slice none 0 0], .int .i64 10], ?_, rfl, hBf⟩
  simp [results, Try.results27, go_sem, p0, p1, p2]
set_option maxHeartbeats 40000000 in
theorem resize_same (t : Int) (ad1 ad2 : Addr) (A3 : Option Addr) (c1 c2 c3 n m : Nat) (ds l1 : List S40) (es : List S59) (w : World)
    (hr1 : Kd.C k40 w (some ad1) n ds) (hc1 : n ≤ c1) (hr2 : Kd.C k59 w (some ad2) m es) (hc2 : m ≤ c2) (hr3 : Kd.C k40 w A3 n l1) (hc3 : n ≤ c3)
    (hchk : checkF t ds es = some 0) (hd : errOf ds = 0) (hl : errOf l1 = 0) (he : allSame l1 ds = true) (hm : m ≤ 1000) :
    CallsIn Fence.wide 0 Try.prog 27 #[.agg #[.int .i64 t, .slice (some ad1) n c1, .slice (some ad2) m c2], .slice A3 n c3] w (ResizePost t ds es w) := by
  have e1 : Hid (ds.length = n) := Lib.hid hr1.1
  have e2 : Hid (es.length = m) := Lib.hid hr2.1
  have e3 : Hid (l1.length = n) := Lib.hid hr3.1
  have HR1 := Lib.hid hr1
  have HR2 := Lib.hid hr2
  have HR3 := Lib.hid hr3
  have HCK := Lib.hid hchk
  have hn4 : n ≤ 4 := by have := (errOf_zero hd).2.2.2.2; rw [e1.out] at this; exact this
  have hnn : ((n : Int) != (n : Int)) = false := by simp
  have HE := Lib.hid he; clear he hd
  have HL := Lib.hid hl
  clear hr1 hr2 hr3 hchk hl
  refine callsIn_of_wp_marks Try.func27 rfl trivial ?_
  simp only [Try.ntmps27, List.size_toArray, List.length_cons, List.length_nil, Nat.reduceAdd, Nat.reduceSub, Array.replicate_succ, Array.replicate_zero, List.push_toArray, List.append_toArray, List.nil_append, List.cons_append]
  gi_wp2
  have b0 : ((w.alloc (.cells #[.int .i64 t, .slice (some ad1) n c1, .slice (some ad2) m c2] 50)).alloc (.cells #[.int .i64 0, .slice none 0 0, .slice none 0 0] 50)).heap[w.heap.size]? = some (.cells #[.int .i64 t, .slice (some ad1) n c1, .slice (some ad2) m c2] 50) := blk_alloc (heap_alloc_new w _) _
  have r0 : ((w.alloc (.cells #[.int .i64 t, .slice (some ad1) n c1, .slice (some ad2) m c2] 50)).alloc (.cells #[.int .i64 0, .slice none 0 0, .slice none 0 0] 50)).heap[w.heap.size + 1]? = some (.cells #[.int .i64 0, .slice none 0 0, .slice none 0 0] 50) := by
    have := heap_alloc_new (w.alloc (.cells #[.int .i64 t, .slice (some ad1) n c1, .slice (some ad2) m c2] 50)) (.cells #[.int .i64 0, .slice none 0 0, .slice none 0 0] 50); rwa [World.size_alloc] at this
  have hW0 : Below w.heap.size w ((w.alloc (.cells #[.int .i64 t, .slice (some ad1) n c1, .slice (some ad2) m c2] 50)).alloc (.cells #[.int .i64 0, .slice none 0 0, .slice none 0 0] 50)) := below_alloc (below_alloc (Below.refl _ _) _) _
  generalize ((w.alloc (.cells #[.int .i64 t, .slice (some ad1) n c1, .slice (some ad2) m c2] 50)).alloc (.cells #[.int .i64 0, .slice none 0 0, .slice none 0 0] 50)) = W0 at *
  have hck := (callsIn_wide (n := 0)).2 (check_calls t (some ad1) c1 ds (some ad2) c2 es 0 W0 (by rw [e1.out]; exact Kd.C_below HR1.out hW0) (by rw [e1.out]; exact hc1) (by rw [e2.out]; exact Kd.C_below HR2.out hW0) HCK.out)
  rw [e1.out, e2.out] at hck
  refine ⟨trivial, rfl, hck.mono ?_⟩
  rintro e w1 ⟨rfl, hb1⟩
  clear hck
  obtain ⟨b1, x1, y1, z1, g1⟩ := box3b b0 hb1
  obtain ⟨r1, _, _, _, _⟩ := box3b r0 hb1
  have hW1 := below_step hW0 hb1
  clear b0 r0 hW0 hb1
  gi_wp2
  have hch := (callsIn_wide (n := 0)).2 (checked_calls (some ⟨w1.heap.size, 0, none⟩) 1 [l1] (w1.alloc (.cells #[.slice A3 l1.length c3] 22)) (C_one w1 A3 c3 l1 (by rw [e3.out]; exact hc3) (by rw [e3.out]; exact Kd.C_below HR3.out hW1)) (Nat.le_refl _) (by simp))
  rw [e3.out, checkedL_one, HL.out] at hch
  refine ⟨trivial, rfl, hch.mono ?_⟩
  rintro e w2 ⟨rfl, hb2⟩
  clear hch
  obtain ⟨b2, x2, y2, z2, g2⟩ := box3b (blk_alloc b1 _) hb2
  obtain ⟨r2, p0, p1, p2, _⟩ := box3b (blk_alloc r1 _) hb2
  have hW2 := below_step (below_alloc hW1 _) hb2
  clear b1 x1 y1 z1 g1 r1 hW1 hb2
  gi_wp2
  refine ⟨trivial, rfl, ((callsIn_wide (n := 0)).2 (equalFunc_calls A3 (some ad1) c3 c1 n l1 ds w2 (Kd.C_below HR3.out hW2) (Kd.C_below HR1.out hW2) hn4)).mono ?_⟩
  rintro e w3 ⟨rfl, hb3⟩
  rw [HE.out]
  obtain ⟨b3, x3, y3, z3, g3⟩ := box3b b2 hb3
  obtain ⟨r3, _, _, _, _⟩ := box3b r2 hb3
  have hW3 := below_step hW2 hb3
  clear b2 r2 x2 y2 z2 p0 p1 p2
  gi_wp2
  refine ⟨trivial, rfl, ((callsIn_wide (n := 0)).2 (clone_calls t ad1 ad2 c1 c2 n m ds es w3 (Kd.C_below HR1.out hW3) (Kd.C_below HR2.out hW3) (by omega) hm)).mono ?_⟩
  rintro e w4 ⟨v1, v2, rfl, hv1, hv2, hb4⟩
  obtain ⟨A1, q1, rfl⟩ := Kd.R_slice hv1
  obtain ⟨A2, q2, rfl⟩ := Kd.R_slice hv2
  have hW4 := below_step hW3 hb4
  obtain ⟨r4, k0, k1, k2, _⟩ := box3b r3 hb4
  have f0 := blk_frozen r4 0
  have f1 := blk_frozen r4 1
  have f2 := blk_frozen r4 2
  have hl3 := blk_lt r3
  have hs := hW3.size
  have HV1 := Lib.hid hv1
  have HV2 := Lib.hid hv2
  clear hv1 hv2 hb4 hb3 r3 r4 b3 x3 y3 z3
  gi_wp2
  have hBf : Below w.heap.size w (((w4.setCell ⟨w.heap.size + 1, 0, none⟩ (.int .i64 t)).setCell ⟨w.heap.size + 1, 1, none⟩ (.slice A1 ds.length q1)).setCell ⟨w.heap.size + 1, 2, none⟩ (.slice A2 es.length q2)) := below_set (below_set (below_set hW4 (by omega)) (by omega)) (by omega)
  refine leaves_none ⟨.tuple #[.agg #[.int .i64 t, .slice A1 ds.length q1, .slice A2 es.length q2], .int .i64 0], ?_, _, _, rfl, Kd.R_lower (R_stay HV1.out ?_) hs, Kd.R_lower (R_stay HV2.out ?_) hs, hBf⟩
  · simp [results, Try.results27, go_sem, k0, k1, k2]
  all_goals (intro k hk _; have hkk : k ≠ w.heap.size + 1 := (by omega); rw [Below.heap_setCell _ _ _ k hkk, Below.heap_setCell _ _ _ k hkk, Below.heap_setCell _ _ _ k hkk])
end Go.Proofs.Ytcjjmhgboibbgaa.Q
