/-
 Texts of the proof, in build order: words that the walks use, contracts of functions, plain facts.
-/
import Derived.Deep.RegionHeld3
import Derived.Test.YtcjjmhgboibbgaaGreatBa3
import Derived.Test.YtcjjmhgboibbgaaGreatBa5
import Derived.Test.YtcjjmhgboibbgaaGreatBa7
import Derived.Test.YtcjjmhgboibbgaaGreatBa9
import Derived.Test.YtcjjmhgboibbgaaGreatBa11
import Derived.Test.YtcjjmhgboibbgaaGreatBa12
import Derived.Test.YtcjjmhgboibbgaaGreatBa14
set_option maxHeartbeats 40000000
set_option maxRecDepth 100000
set_option linter.unusedVariables false
set_option linter.unusedSimpArgs false
section
namespace Go.Proofs.Q
open RowKit Shelf Rf Pw Pl Pm
theorem kept3 {w W W' : World} {p0 p1 p2 : Addr} {v0 v1 v2 : Value} (h : W.cell? p0 = some v0 ∧ W.cell? p1 = some v1 ∧ W.cell? p2 = some v2 ∧ Below w.heap.size w W) (hb : Below W.heap.size W W') : W'.cell? p0 = some v0 ∧ W'.cell? p1 = some v1 ∧ W'.cell? p2 = some v2 ∧ Below w.heap.size w W' :=
 ⟨cB hb h.1, cB hb h.2.1, cB hb h.2.2.1, bS h.2.2.2 hb⟩
theorem last3 {w W : World} {p0 p1 p2 : Addr} {v0 v1 v2 : Value} (h : W.cell? p0 = some v0 ∧ W.cell? p1 = some v1 ∧ W.cell? p2 = some v2 ∧ Below w.heap.size w W) : Below w.heap.size w W := h.2.2.2
theorem cell_far {W : World} {B D i j : Nat} {u v : Value} (hne : B ≠ D) (h : W.cell? ⟨B, i, none⟩ = some v) : (W.setCell ⟨D, j, none⟩ u).cell? ⟨B, i, none⟩ = some v := by
 have := Below.heap_setCell W ⟨D, j, none⟩ u B hne
 simpa [World.cell?, this] using h
theorem kept3s {w W : World} {B D : Nat} {v0 v1 v2 x0 x1 x2 : Value} (hne : B ≠ D) (hD : w.heap.size ≤ D) (h : W.cell? ⟨B, 0, none⟩ = some v0 ∧ W.cell? ⟨B, 1, none⟩ = some v1 ∧ W.cell? ⟨B, 2, none⟩ = some v2 ∧ Below w.heap.size w W) :
  (((W.setCell ⟨D, 0, none⟩ x0).setCell ⟨D, 1, none⟩ x1).setCell ⟨D, 2, none⟩ x2).cell? ⟨B, 0, none⟩ = some v0 ∧ (((W.setCell ⟨D, 0, none⟩ x0).setCell ⟨D, 1, none⟩ x1).setCell ⟨D, 2, none⟩ x2).cell? ⟨B, 1, none⟩ = some v1 ∧ (((W.setCell ⟨D, 0, none⟩ x0).setCell ⟨D, 1, none⟩ x1).setCell ⟨D, 2, none⟩ x2).cell? ⟨B, 2, none⟩ = some v2 ∧ Below w.heap.size w (((W.setCell ⟨D, 0, none⟩ x0).setCell ⟨D, 1, none⟩ x1).setCell ⟨D, 2, none⟩ x2) :=
 ⟨cell_far hne (cell_far hne (cell_far hne h.1)), cell_far hne (cell_far hne (cell_far hne h.2.1)), cell_far hne (cell_far hne (cell_far hne h.2.2.1)), bT (bT (bT h.2.2.2 hD) hD) hD⟩
def ClPost (t : Int) (ds : List S54) (es : List S38) (w : World) (e : Ending) (w' : World) : Prop := ∃ v1 v2, e = .returned (.agg #[.int .i64 t, v1, v2]) ∧ k54.R 54 w' w.heap.size (fun _ => True) v1 ds ∧ k38.R 38 w' w.heap.size (fun _ => True) v2 es ∧ Below w.heap.size w w'
theorem clone_calls (t : Int) (ad1 ad2 : Addr) (c1 c2 n m : Nat) (ds : List S54) (es : List S38) (w : World) (hr1 : Kd.C k54 w (some ad1) n ds) (hr2 : Kd.C k38 w (some ad2) m es) (hn : n ≤ 1000) (hm : m ≤ 1000) :
  Calls Tryz.prog 30 #[.agg #[.int .i64 t, .slice (some ad1) n c1, .slice (some ad2) m c2]] w (ClPost t ds es w) := by
 have e1 : Hid (ds.length = n) := Lib.hid hr1.1
 have e2 : Hid (es.length = m) := Lib.hid hr2.1
 have HR1 := Lib.hid hr1; clear hr1
 have HR2 := Lib.hid hr2; clear hr2
 go_enter Tryz.func30, Tryz.ntmps30
 go_wp2_with fail
 have b0 : ((w.alloc (.cells #[.int .i64 t, .slice (some ad1) n c1, .slice (some ad2) m c2] 25)).alloc (.cells #[.int .i64 0, .slice none 0 0, .slice none 0 0] 25)).heap[w.heap.size]? = some (.cells #[.int .i64 t, .slice (some ad1) n c1, .slice (some ad2) m c2] 25) := kA (heap_alloc_new w _) _
 have r0 : ((w.alloc (.cells #[.int .i64 t, .slice (some ad1) n c1, .slice (some ad2) m c2] 25)).alloc (.cells #[.int .i64 0, .slice none 0 0, .slice none 0 0] 25)).heap[w.heap.size + 1]? = some (.cells #[.int .i64 0, .slice none 0 0, .slice none 0 0] 25) := by
  have := heap_alloc_new (w.alloc (.cells #[.int .i64 t, .slice (some ad1) n c1, .slice (some ad2) m c2] 25)) (.cells #[.int .i64 0, .slice none 0 0, .slice none 0 0] 25); rwa [World.size_alloc] at this
 have hW0 : Below w.heap.size w ((w.alloc (.cells #[.int .i64 t, .slice (some ad1) n c1, .slice (some ad2) m c2] 25)).alloc (.cells #[.int .i64 0, .slice none 0 0, .slice none 0 0] 25)) := bA (bA (Below.refl _ _) _) _
 try simp only [World.size_alloc]
 generalize ((w.alloc (.cells #[.int .i64 t, .slice (some ad1) n c1, .slice (some ad2) m c2] 25)).alloc (.cells #[.int .i64 0, .slice none 0 0, .slice none 0 0] 25)) = W0 at *
 obtain ⟨B, hB⟩ : ∃ B, B = w.heap.size := ⟨_, rfl⟩
 obtain ⟨D, hD⟩ : ∃ D, D = w.heap.size + 1 := ⟨_, rfl⟩
 have hne : B ≠ D := by omega
 have hne2 : D ≠ B := by omega
 rw [← hD, ← hB]
 rw [← hB] at b0
 rw [← hD] at r0
 have HBe := Lib.hid hB
 have HDe := Lib.hid hD
 clear hB hD
 have hDw : w.heap.size ≤ D := by have := HDe.out; omega
 have s0 : W0.cell? ⟨B, 0, none⟩ = some (.int .i64 t) := by rw [kC b0 0]; rfl
 have s1 : W0.cell? ⟨B, 1, none⟩ = some (.slice (some ad1) n c1) := by rw [kC b0 1]; rfl
 have s2 : W0.cell? ⟨B, 2, none⟩ = some (.slice (some ad2) m c2) := by rw [kC b0 2]; rfl
 clear b0
 have hHe2 : Hid (D < W0.drew.heap.size) := Lib.hid (Array.getElem?_eq_some_iff.1 r0).1
 replace r0 : W0.drew.heap[D]? = some (Obj.cells #[Value.int IntKind.i64 0, Value.slice none 0 0, Value.slice none 0 0] 25) := r0
 go_region_held3 (fun w' => w'.cell? ⟨B, 0, none⟩ = some (.int .i64 t) ∧ w'.cell? ⟨B, 1, none⟩ = some (.slice (some ad1) n c1) ∧ w'.cell? ⟨B, 2, none⟩ = some (.slice (some ad2) m c2) ∧ Below w.heap.size w w')
  (first | exact ⟨s0, s1, s2, below_drew hW0⟩ | exact ⟨s0, s1, s2, hW0⟩ | exact kept3 (by assumption) (by assumption) | exact kept3s hne hDw (by assumption))
  (first
   | (go_at_call 38; go_loud (refine (clone40_calls ad1 n c1 ds hn _ (Kd.C_below HR1.out (last3 (by assumption)))).mono ?_); rintro e wA ⟨v1, rfl, hv1, hb⟩; obtain ⟨A1, q1, rfl⟩ := Kd.R_slice hv1; go_loud (replace r0 := kB r0 hb); (have HV1 := Lib.hid hv1); (have hZ := hb.size); clear hv1)
   | (go_at_call 59; refine (clone59_calls ad2 m c2 es hm _ (Kd.C_below HR2.out (last3 (by assumption)))).mono ?_; rintro e wB ⟨v2, rfl, hv2, hb2⟩; obtain ⟨A2, q2, rfl⟩ := Kd.R_slice hv2; (replace r0 := kB r0 hb2); (have HV2 := Lib.hid hv2); (replace HV1 := Lib.hid (Kd.R_below HV1.out hb2)); (have k0 := kC r0 0); (have k1 := kC r0 1); (have k2 := kC r0 2); (have f0 := kF r0 0); (have f1 := kF r0 1); (have f2 := kF r0 2); clear hv2 hb; (have HR0 := Lib.hid r0); clear r0))
 rename_i hHeld
 have hBf := last3 hHeld
 clear hHeld
 have hW0s : D < W0.drew.heap.size := by
  have := hHe2.out
  exact this
 go_wp2
 have hne4 : ∀ k, W0.drew.heap.size ≤ k → k ≠ D := fun k hk e => by omega
 have hw0 : w.heap.size ≤ W0.drew.heap.size := by omega
 refine bodyPost_ret (v := .agg #[.int .i64 t, .slice A1 ds.length q1, .slice A2 es.length q2]) ?_ rfl ⟨_, _, rfl, Kd.R_lower (R_stay HV1.out ?_) hw0, Kd.R_lower (R_stay HV2.out ?_) (by omega), hBf⟩
 ·simp [results, Tryz.results30, go_sem, k0, k1, k2]
 all_goals (intro k hk _; have hkk := hne4 k (by omega); rw [Below.heap_setCell _ _ _ k hkk, Below.heap_setCell _ _ _ k hkk, Below.heap_setCell _ _ _ k hkk])
end Go.Proofs.Q
namespace Go.Proofs.Q
open RowKit Shelf Rf Pw Pl Pm
theorem leaves_none {P : Program} {fn : Func} {tmps : Array Value} {R : Ending → World → Prop} {W : World} (h : ∃ v, (results fn tmps).run P W = .ok v W ∧ R (.returned v) W) : LeavesInM Fence.wide 0 P fn tmps R [] .returning W := h
/-- an error, and the empty array -/
def ResizeNo (x : Int) (w : World) (en : Ending) (w' : World) : Prop := en = .returned (.tuple #[.agg #[.int .i64 0, .slice none 0 0, .slice none 0 0], .int .i64 x]) ∧ Below w.heap.size w w'
theorem resize_bad (t : Int) (ad1 ad2 : Addr) (A3 : Option Addr) (c1 c2 c3 n m n3 : Nat) (ds l1 : List S54) (es : List S38) (w : World)
  (hr1 : Kd.C k54 w (some ad1) n ds) (hc1 : n ≤ c1) (hr2 : Kd.C k38 w (some ad2) m es) (hc2 : m ≤ c2) (hr3 : Kd.C k54 w A3 n3 l1) (hc3 : n3 ≤ c3)
  (hchk : checkF t ds es = some 0) (hl : errOf l1 ≠ 0) :
  CallsIn Fence.wide 0 Tryz.prog 7 #[.agg #[.int .i64 t, .slice (some ad1) n c1, .slice (some ad2) m c2], .slice A3 n3 c3] w (ResizeNo (errOf l1) w) := by
 have e1 : Hid (ds.length = n) := Lib.hid hr1.1
 have e2 : Hid (es.length = m) := Lib.hid hr2.1
 have e3 : Hid (l1.length = n3) := Lib.hid hr3.1
 have HR1 := Lib.hid hr1
 have HR2 := Lib.hid hr2
 have HR3 := Lib.hid hr3
 have HCK := Lib.hid hchk
 have hlb : (errOf l1 != 0) = true := by simpa using hl
 have HL := Lib.hid hl
 clear hr1 hr2 hr3 hchk hl
 refine callsIn_of_wp_marks Tryz.func7 rfl trivial ?_
 simp only [Tryz.ntmps7, List.size_toArray, List.length_cons, List.length_nil, Nat.reduceAdd, Nat.reduceSub, Array.replicate_succ, Array.replicate_zero, List.push_toArray, List.append_toArray, List.nil_append, List.cons_append]
 gi_wp2
 have b0 : ((w.alloc (.cells #[.int .i64 t, .slice (some ad1) n c1, .slice (some ad2) m c2] 25)).alloc (.cells #[.int .i64 0, .slice none 0 0, .slice none 0 0] 25)).heap[w.heap.size]? = some (.cells #[.int .i64 t, .slice (some ad1) n c1, .slice (some ad2) m c2] 25) := kA (heap_alloc_new w _) _
 have r0 : ((w.alloc (.cells #[.int .i64 t, .slice (some ad1) n c1, .slice (some ad2) m c2] 25)).alloc (.cells #[.int .i64 0, .slice none 0 0, .slice none 0 0] 25)).heap[w.heap.size + 1]? = some (.cells #[.int .i64 0, .slice none 0 0, .slice none 0 0] 25) := by
  have := heap_alloc_new (w.alloc (.cells #[.int .i64 t, .slice (some ad1) n c1, .slice (some ad2) m c2] 25)) (.cells #[.int .i64 0, .slice none 0 0, .slice none 0 0] 25); rwa [World.size_alloc] at this
 have hW0 : Below w.heap.size w ((w.alloc (.cells #[.int .i64 t, .slice (some ad1) n c1, .slice (some ad2) m c2] 25)).alloc (.cells #[.int .i64 0, .slice none 0 0, .slice none 0 0] 25)) := bA (bA (Below.refl _ _) _) _
 generalize ((w.alloc (.cells #[.int .i64 t, .slice (some ad1) n c1, .slice (some ad2) m c2] 25)).alloc (.cells #[.int .i64 0, .slice none 0 0, .slice none 0 0] 25)) = W0 at *
 have hck := (callsIn_wide (n := 0)).2 (check_calls t (some ad1) c1 ds (some ad2) c2 es 0 W0 (by rw [e1.out]; exact Kd.C_below HR1.out hW0) (by rw [e1.out]; exact hc1) (by rw [e2.out]; exact Kd.C_below HR2.out hW0) HCK.out)
 rw [e1.out, e2.out] at hck
 refine ⟨trivial, rfl, hck.mono ?_⟩
 rintro e w1 ⟨rfl, hb1⟩
 clear hck
 obtain ⟨b1, x1, y1, z1, g1⟩ := box3b b0 hb1
 obtain ⟨r1, _, _, _, _⟩ := box3b r0 hb1
 have hW1 := bS hW0 hb1
 clear b0 r0 hW0 hb1
 gi_wp2
 have hch := (callsIn_wide (n := 0)).2 (checked_calls (some ⟨w1.heap.size, 0, none⟩) 1 [l1] (w1.alloc (.cells #[.slice A3 l1.length c3] 22)) (C_one w1 A3 c3 l1 (by rw [e3.out]; exact hc3) (by rw [e3.out]; exact Kd.C_below HR3.out hW1)) (Nat.le_refl _) (by simp))
 rw [e3.out, checkedL_one] at hch
 refine ⟨trivial, rfl, hch.mono ?_⟩
 rintro e w2 ⟨rfl, hb2⟩
 clear hch
 obtain ⟨b2, x2, y2, z2, g2⟩ := box3b (kA b1 _) hb2
 obtain ⟨r2, p0, p1, p2, _⟩ := box3b (kA r1 _) hb2
 have hW2 := bS (bA hW1 _) hb2
 clear b1 x1 y1 z1 g1 r1 hW1 hb2
 have q0 := kF r2 0
 have q1 := kF r2 1
 have q2 := kF r2 2
 gi_wp2
 have hBf : Below w.heap.size w (((w2.setCell ⟨w.heap.size + 1, 0, none⟩ (.int .i64 0)).setCell ⟨w.heap.size + 1, 1, none⟩ (.slice none 0 0)).setCell ⟨w.heap.size + 1, 2, none⟩ (.slice none 0 0)) := bT (bT (bT hW2 (by omega)) (by omega)) (by omega)
 refine leaves_none ⟨.tuple #[.agg #[.int .i64 0, .slice none 0 0, .slice none 0 0], .int .i64 (errOf l1)], ?_, rfl, hBf⟩
 simp [results, Tryz.results7, go_sem, p0, p1, p2]
theorem resize_kind (t : Int) (ad1 ad2 : Addr) (A3 : Option Addr) (c1 c2 c3 n m n3 : Nat) (ds l1 : List S54) (es : List S38) (w : World)
  (hr1 : Kd.C k54 w (some ad1) n ds) (hc1 : n ≤ c1) (hr2 : Kd.C k38 w (some ad2) m es) (hc2 : m ≤ c2) (hr3 : Kd.C k54 w A3 n3 l1) (hc3 : n3 ≤ c3)
  (hchk : checkF t ds es = some 0) (hl : errOf l1 = 0) (hn : n3 ≠ n) :
  CallsIn Fence.wide 0 Tryz.prog 7 #[.agg #[.int .i64 t, .slice (some ad1) n c1, .slice (some ad2) m c2], .slice A3 n3 c3] w (ResizeNo 10 w) := by
 have e1 : Hid (ds.length = n) := Lib.hid hr1.1
 have e2 : Hid (es.length = m) := Lib.hid hr2.1
 have e3 : Hid (l1.length = n3) := Lib.hid hr3.1
 have HR1 := Lib.hid hr1
 have HR2 := Lib.hid hr2
 have HR3 := Lib.hid hr3
 have HCK := Lib.hid hchk
 have hlb : ((n3 : Int) != (n : Int)) = true := by simp; omega
 have HL := Lib.hid hl
 clear hr1 hr2 hr3 hchk hl
 refine callsIn_of_wp_marks Tryz.func7 rfl trivial ?_
 simp only [Tryz.ntmps7, List.size_toArray, List.length_cons, List.length_nil, Nat.reduceAdd, Nat.reduceSub, Array.replicate_succ, Array.replicate_zero, List.push_toArray, List.append_toArray, List.nil_append, List.cons_append]
 gi_wp2
 have b0 : ((w.alloc (.cells #[.int .i64 t, .slice (some ad1) n c1, .slice (some ad2) m c2] 25)).alloc (.cells #[.int .i64 0, .slice none 0 0, .slice none 0 0] 25)).heap[w.heap.size]? = some (.cells #[.int .i64 t, .slice (some ad1) n c1, .slice (some ad2) m c2] 25) := kA (heap_alloc_new w _) _
 have r0 : ((w.alloc (.cells #[.int .i64 t, .slice (some ad1) n c1, .slice (some ad2) m c2] 25)).alloc (.cells #[.int .i64 0, .slice none 0 0, .slice none 0 0] 25)).heap[w.heap.size + 1]? = some (.cells #[.int .i64 0, .slice none 0 0, .slice none 0 0] 25) := by
  have := heap_alloc_new (w.alloc (.cells #[.int .i64 t, .slice (some ad1) n c1, .slice (some ad2) m c2] 25)) (.cells #[.int .i64 0, .slice none 0 0, .slice none 0 0] 25); rwa [World.size_alloc] at this
 have hW0 : Below w.heap.size w ((w.alloc (.cells #[.int .i64 t, .slice (some ad1) n c1, .slice (some ad2) m c2] 25)).alloc (.cells #[.int .i64 0, .slice none 0 0, .slice none 0 0] 25)) := bA (bA (Below.refl _ _) _) _
 generalize ((w.alloc (.cells #[.int .i64 t, .slice (some ad1) n c1, .slice (some ad2) m c2] 25)).alloc (.cells #[.int .i64 0, .slice none 0 0, .slice none 0 0] 25)) = W0 at *
 have hck := (callsIn_wide (n := 0)).2 (check_calls t (some ad1) c1 ds (some ad2) c2 es 0 W0 (by rw [e1.out]; exact Kd.C_below HR1.out hW0) (by rw [e1.out]; exact hc1) (by rw [e2.out]; exact Kd.C_below HR2.out hW0) HCK.out)
 rw [e1.out, e2.out] at hck
 refine ⟨trivial, rfl, hck.mono ?_⟩
 rintro e w1 ⟨rfl, hb1⟩
 clear hck
 obtain ⟨b1, x1, y1, z1, g1⟩ := box3b b0 hb1
 obtain ⟨r1, _, _, _, _⟩ := box3b r0 hb1
 have hW1 := bS hW0 hb1
 clear b0 r0 hW0 hb1
 gi_wp2
 have hch := (callsIn_wide (n := 0)).2 (checked_calls (some ⟨w1.heap.size, 0, none⟩) 1 [l1] (w1.alloc (.cells #[.slice A3 l1.length c3] 22)) (C_one w1 A3 c3 l1 (by rw [e3.out]; exact hc3) (by rw [e3.out]; exact Kd.C_below HR3.out hW1)) (Nat.le_refl _) (by simp))
 rw [e3.out, checkedL_one, HL.out] at hch
 refine ⟨trivial, rfl, hch.mono ?_⟩
 rintro e w2 ⟨rfl, hb2⟩
 clear hch
 obtain ⟨b2, x2, y2, z2, g2⟩ := box3b (kA b1 _) hb2
 obtain ⟨r2, p0, p1, p2, _⟩ := box3b (kA r1 _) hb2
 have hW2 := bS (bA hW1 _) hb2
 clear b1 x1 y1 z1 g1 r1 hW1 hb2
 have q0 := kF r2 0
 have q1 := kF r2 1
 have q2 := kF r2 2
 gi_wp2
 have hBf : Below w.heap.size w (((w2.setCell ⟨w.heap.size + 1, 0, none⟩ (.int .i64 0)).setCell ⟨w.heap.size + 1, 1, none⟩ (.slice none 0 0)).setCell ⟨w.heap.size + 1, 2, none⟩ (.slice none 0 0)) := bT (bT (bT hW2 (by omega)) (by omega)) (by omega)
 refine leaves_none ⟨.tuple #[.agg #[.int .i64 0, .slice none 0 0, .slice none 0 0], .int .i64 10], ?_, rfl, hBf⟩
 simp [results, Tryz.results7, go_sem, p0, p1, p2]
theorem resize_same (t : Int) (ad1 ad2 : Addr) (A3 : Option Addr) (c1 c2 c3 n m : Nat) (ds l1 : List S54) (es : List S38) (w : World)
  (hr1 : Kd.C k54 w (some ad1) n ds) (hc1 : n ≤ c1) (hr2 : Kd.C k38 w (some ad2) m es) (hc2 : m ≤ c2) (hr3 : Kd.C k54 w A3 n l1) (hc3 : n ≤ c3)
  (hchk : checkF t ds es = some 0) (hd : errOf ds = 0) (hl : errOf l1 = 0) (he : allSame l1 ds = true) (hm : m ≤ 1000) :
  CallsIn Fence.wide 0 Tryz.prog 7 #[.agg #[.int .i64 t, .slice (some ad1) n c1, .slice (some ad2) m c2], .slice A3 n c3] w (ResizePost t ds es w) := by
 have e1 : Hid (ds.length = n) := Lib.hid hr1.1
 have e2 : Hid (es.length = m) := Lib.hid hr2.1
 have e3 : Hid (l1.length = n) := Lib.hid hr3.1
 have HR1 := Lib.hid hr1
 have HR2 := Lib.hid hr2
 have HR3 := Lib.hid hr3
 have HCK := Lib.hid hchk
 have hn4 : n ≤ 4 := by have := (errOf_zero hd).2.2.2.2; rw [e1.out] at this; exact this
 have hnn : ((n : Int) != (n : Int)) = false := by simp
 have HE := Lib.hid he; clear he hd
 have HL := Lib.hid hl
 clear hr1 hr2 hr3 hchk hl
 refine callsIn_of_wp_marks Tryz.func7 rfl trivial ?_
 simp only [Tryz.ntmps7, List.size_toArray, List.length_cons, List.length_nil, Nat.reduceAdd, Nat.reduceSub, Array.replicate_succ, Array.replicate_zero, List.push_toArray, List.append_toArray, List.nil_append, List.cons_append]
 gi_wp2
 have b0 : ((w.alloc (.cells #[.int .i64 t, .slice (some ad1) n c1, .slice (some ad2) m c2] 25)).alloc (.cells #[.int .i64 0, .slice none 0 0, .slice none 0 0] 25)).heap[w.heap.size]? = some (.cells #[.int .i64 t, .slice (some ad1) n c1, .slice (some ad2) m c2] 25) := kA (heap_alloc_new w _) _
 have r0 : ((w.alloc (.cells #[.int .i64 t, .slice (some ad1) n c1, .slice (some ad2) m c2] 25)).alloc (.cells #[.int .i64 0, .slice none 0 0, .slice none 0 0] 25)).heap[w.heap.size + 1]? = some (.cells #[.int .i64 0, .slice none 0 0, .slice none 0 0] 25) := by
  have := heap_alloc_new (w.alloc (.cells #[.int .i64 t, .slice (some ad1) n c1, .slice (some ad2) m c2] 25)) (.cells #[.int .i64 0, .slice none 0 0, .slice none 0 0] 25); rwa [World.size_alloc] at this
 have hW0 : Below w.heap.size w ((w.alloc (.cells #[.int .i64 t, .slice (some ad1) n c1, .slice (some ad2) m c2] 25)).alloc (.cells #[.int .i64 0, .slice none 0 0, .slice none 0 0] 25)) := bA (bA (Below.refl _ _) _) _
 generalize ((w.alloc (.cells #[.int .i64 t, .slice (some ad1) n c1, .slice (some ad2) m c2] 25)).alloc (.cells #[.int .i64 0, .slice none 0 0, .slice none 0 0] 25)) = W0 at *
 have hck := (callsIn_wide (n := 0)).2 (check_calls t (some ad1) c1 ds (some ad2) c2 es 0 W0 (by rw [e1.out]; exact Kd.C_below HR1.out hW0) (by rw [e1.out]; exact hc1) (by rw [e2.out]; exact Kd.C_below HR2.out hW0) HCK.out)
 rw [e1.out, e2.out] at hck
 refine ⟨trivial, rfl, hck.mono ?_⟩
 rintro e w1 ⟨rfl, hb1⟩
 clear hck
 obtain ⟨b1, x1, y1, z1, g1⟩ := box3b b0 hb1
 obtain ⟨r1, _, _, _, _⟩ := box3b r0 hb1
 have hW1 := bS hW0 hb1
 clear b0 r0 hW0 hb1
 gi_wp2
 have hch := (callsIn_wide (n := 0)).2 (checked_calls (some ⟨w1.heap.size, 0, none⟩) 1 [l1] (w1.alloc (.cells #[.slice A3 l1.length c3] 22)) (C_one w1 A3 c3 l1 (by rw [e3.out]; exact hc3) (by rw [e3.out]; exact Kd.C_below HR3.out hW1)) (Nat.le_refl _) (by simp))
 rw [e3.out, checkedL_one, HL.out] at hch
 refine ⟨trivial, rfl, hch.mono ?_⟩
 rintro e w2 ⟨rfl, hb2⟩
 clear hch
 obtain ⟨b2, x2, y2, z2, g2⟩ := box3b (kA b1 _) hb2
 obtain ⟨r2, p0, p1, p2, _⟩ := box3b (kA r1 _) hb2
 have hW2 := bS (bA hW1 _) hb2
 clear b1 x1 y1 z1 g1 r1 hW1 hb2
 gi_wp2
 refine ⟨trivial, rfl, ((callsIn_wide (n := 0)).2 (equalFunc_calls A3 (some ad1) c3 c1 n l1 ds w2 (Kd.C_below HR3.out hW2) (Kd.C_below HR1.out hW2) hn4)).mono ?_⟩
 rintro e w3 ⟨rfl, hb3⟩
 rw [HE.out]
 obtain ⟨b3, x3, y3, z3, g3⟩ := box3b b2 hb3
 obtain ⟨r3, _, _, _, _⟩ := box3b r2 hb3
 have hW3 := bS hW2 hb3
 clear b2 r2 x2 y2 z2 p0 p1 p2
 gi_wp2
 refine ⟨trivial, rfl, ((callsIn_wide (n := 0)).2 (clone_calls t ad1 ad2 c1 c2 n m ds es w3 (Kd.C_below HR1.out hW3) (Kd.C_below HR2.out hW3) (by omega) hm)).mono ?_⟩
 rintro e w4 ⟨v1, v2, rfl, hv1, hv2, hb4⟩
 obtain ⟨A1, q1, rfl⟩ := Kd.R_slice hv1
 obtain ⟨A2, q2, rfl⟩ := Kd.R_slice hv2
 have hW4 := bS hW3 hb4
 obtain ⟨r4, k0, k1, k2, _⟩ := box3b r3 hb4
 have f0 := kF r4 0
 have f1 := kF r4 1
 have f2 := kF r4 2
 have hl3 := blk_lt r3
 have hs := hW3.size
 have HV1 := Lib.hid hv1
 have HV2 := Lib.hid hv2
 clear hv1 hv2 hb4 hb3 r3 r4 b3 x3 y3 z3
 gi_wp2
 have hBf : Below w.heap.size w (((w4.setCell ⟨w.heap.size + 1, 0, none⟩ (.int .i64 t)).setCell ⟨w.heap.size + 1, 1, none⟩ (.slice A1 ds.length q1)).setCell ⟨w.heap.size + 1, 2, none⟩ (.slice A2 es.length q2)) := bT (bT (bT hW4 (by omega)) (by omega)) (by omega)
 refine leaves_none ⟨.tuple #[.agg #[.int .i64 t, .slice A1 ds.length q1, .slice A2 es.length q2], .int .i64 0], ?_, _, _, rfl, Kd.R_lower (R_stay HV1.out ?_) hs, Kd.R_lower (R_stay HV2.out ?_) hs, hBf⟩
 ·simp [results, Tryz.results7, go_sem, k0, k1, k2]
 all_goals (intro k hk _; have hkk : k ≠ w.heap.size + 1 := (by omega); rw [Below.heap_setCell _ _ _ k hkk, Below.heap_setCell _ _ _ k hkk, Below.heap_setCell _ _ _ k hkk])
end Go.Proofs.Q
end
section
namespace Go.Proofs.Q
open RowKit Pw Pl Pm
attribute [local go_sem] max2_int min2_int max_two min_two max_three min_three max_four min_four
end Go.Proofs.Q
end
section
namespace Go.Proofs.Q
open RowKit Rf Pw Pl Pm
/-- Check, as the print is told it -/
def array_Check.f (a0_0 : Int) (l0_1 : List (S54)) (l0_2 : List (S38)) : Option (Int) := checkF a0_0 l0_1 l0_2
theorem array_Check.calls (a0_0 : Int) (A0_1 : Option Addr) (c0_1 : Nat) (l0_1 : List (S54)) (A0_2 : Option Addr) (c0_2 : Nat) (l0_2 : List (S38)) (r : Int) (w : World) (hr0_1 : Kd.C k54 w A0_1 l0_1.length l0_1) (hc0_1 : l0_1.length ≤ c0_1) (hr0_2 : Kd.C k38 w A0_2 l0_2.length l0_2) (hc0_2 : l0_2.length ≤ c0_2) (h : array_Check.f a0_0 l0_1 l0_2 = some r) :
  Calls Tryz.prog 18 #[.agg #[.int .i64 a0_0, .slice A0_1 l0_1.length c0_1, .slice A0_2 l0_2.length c0_2]] w fun e w' => e = .returned (.int .i64 r) ∧ Below w.heap.size w w' :=
 check_calls a0_0 A0_1 c0_1 l0_1 A0_2 c0_2 l0_2 r w hr0_1 hc0_1 hr0_2 h
end Go.Proofs.Q
end
section
namespace Go.Proofs.Q
open RowKit Pw Pl Pm
attribute [local go_sem] max2_int min2_int max_two min_two max_three min_three max_four min_four   -- for this text's walks alone
theorem eqA54 (d : Nat) (w : World) (x0 y0 : Int) (x1 y1 : Int) :
  (Op.equalIn (d + 2) 54 (.agg #[.int .i64 x0, .int .i64 x1]) (.agg #[.int .i64 y0, .int .i64 y1])).run Tryz.prog w = .ok (x0 == y0 && (x1 == y1)) w := by
 refine eqA_of Tryz.underlying54 (by kernel_rfl) ?_
 refine eqf_cons (by rfl) (by go_simp; rfl) (by go_simp; rfl) (by go_simp) ?_
 exact eqf_last (by rfl) (by go_simp; rfl) (by go_simp; rfl) (by go_simp)
end Go.Proofs.Q
end
section
namespace Go.Proofs.Q
open RowKit Pw Pl Pm
attribute [local go_sem] max2_int min2_int max_two min_two max_three min_three max_four min_four   -- for this text's walks alone
end Go.Proofs.Q
end
section
namespace Go.Proofs.Q
open RowKit Pw Pl Pm
attribute [local go_sem] max2_int min2_int max_two min_two max_three min_three max_four min_four   -- for this text's walks alone
attribute [local go_sem high] eqA54 eqA38
def manorboylaw08_small.f (a0_0 : Int) (l0_1 : List (S54)) (l0_2 : List (S38)) : Option (Bool) := if (l0_1.length : Int) ≤ 6 then (some (decide ((l0_2.length : Int) ≤ 1010))) else (some false)
theorem manorboylaw08_small.calls (a0_0 : Int) (A0_1 : Option Addr) (c0_1 : Nat) (l0_1 : List (S54)) (A0_2 : Option Addr) (c0_2 : Nat) (l0_2 : List (S38)) (r : Bool) (w : World) (hr0_1 : Kd.C k54 w A0_1 l0_1.length l0_1) (hc0_1 : l0_1.length ≤ c0_1) (hr0_2 : Kd.C k38 w A0_2 l0_2.length l0_2) (hc0_2 : l0_2.length ≤ c0_2) (h : manorboylaw08_small.f a0_0 l0_1 l0_2 = some r) :
  Calls Tryz.prog 5 #[.agg #[.int .i64 a0_0, .slice A0_1 l0_1.length c0_1, .slice A0_2 l0_2.length c0_2]] w fun e w' => e = .returned (.bool r) ∧ Below w.heap.size w w' := by
 have hu50 := Tryz.underlying25
 have HR0_1 := As.mk hr0_1
 have HC0_1 := As.mk hc0_1
 clear hr0_1 hc0_1
 have HR0_2 := As.mk hr0_2
 have HC0_2 := As.mk hc0_2
 clear hr0_2 hc0_2
 have HB := As.mk (Below.refl w.heap.size w)
 have H : (if (l0_1.length : Int) ≤ 6 then (some (decide ((l0_2.length : Int) ≤ 1010))) else (some false)) = some r := h
 clear h
 by_cases c2 : (l0_1.length : Int) ≤ 6
 ·rw [if_pos c2] at H
  have c2b0 : decide ((l0_1.length : Int) ≤ 6) = true := decide_eq_true c2
  have c2b1 : decide (l0_1.length ≤ 6) = true := decide_eq_true (by omega)
  clear c2
  obtain rfl := Option.some.inj H
  go_enter Tryz.func5, Tryz.ntmps5
  go_wp2_with (first | ((with_reducible refine gD (N := 1) rfl ?_); (try (refine gate_guard (by rfl) ?_; dsimp only)); refine bX (by rfl) (N := 1) (by rfl) (cs := #[.int .i64 a0_0, .slice A0_1 l0_1.length c0_1, .slice A0_2 l0_2.length c0_2]) (t := 25) (by first | (go_simp; done) | (go_simp; rfl)) ?_; intro gb154 hg w3 hbox hb; have BK154 := As.mk (hbox); have GW154 := As.mk ((by rw [hg]; exact (bZ (by repeat (first | exact HB.out | apply bA | apply bN | apply bD))) : w.heap.size ≤ gb154)); have GE154 := GW154; replace HB := As.mk (bS (by repeat (first | exact HB.out | apply bA | apply bN | apply bD)) hb); clear hb hbox hg; have hcz4_0 : w3.cell? ⟨gb154, 0, none⟩ = some (.int .i64 a0_0) := (kC BK154.out 0).trans rfl; have hcz4_1 : w3.cell? ⟨gb154, 1, none⟩ = some (.slice A0_1 l0_1.length c0_1) := (kC BK154.out 1).trans rfl; have hcz4_2 : w3.cell? ⟨gb154, 2, none⟩ = some (.slice A0_2 l0_2.length c0_2) := (kC BK154.out 2).trans rfl; have hfz4_0 := kF BK154.out 0; have hfz4_1 := kF BK154.out 1; have hfz4_2 := kF BK154.out 2))
  go_ret
  exact ⟨by first | rfl | (simp [eN, eS] <;> rfl) | (simp [*, eN, eS] <;> rfl), by repeat (first | (with_reducible first | exact HB.out | apply bA | apply bN | apply bD | refine bT ?_ GE154.out) | exact HB.out)⟩
 ·rw [if_neg c2] at H
  have c2b0 : decide ((l0_1.length : Int) ≤ 6) = false := decide_eq_false c2
  have c2b1 : decide (l0_1.length ≤ 6) = false := decide_eq_false (by omega)
  clear c2
  obtain rfl := Option.some.inj H
  go_enter Tryz.func5, Tryz.ntmps5
  go_wp2_with (first | ((with_reducible refine gD (N := 1) rfl ?_); (try (refine gate_guard (by rfl) ?_; dsimp only)); refine bX (by rfl) (N := 1) (by rfl) (cs := #[.int .i64 a0_0, .slice A0_1 l0_1.length c0_1, .slice A0_2 l0_2.length c0_2]) (t := 25) (by first | (go_simp; done) | (go_simp; rfl)) ?_; intro gb154 hg w5 hbox hb; have BK154 := As.mk (hbox); have GW154 := As.mk ((by rw [hg]; exact (bZ (by repeat (first | exact HB.out | apply bA | apply bN | apply bD))) : w.heap.size ≤ gb154)); have GE154 := GW154; replace HB := As.mk (bS (by repeat (first | exact HB.out | apply bA | apply bN | apply bD)) hb); clear hb hbox hg; have hcz6_0 : w5.cell? ⟨gb154, 0, none⟩ = some (.int .i64 a0_0) := (kC BK154.out 0).trans rfl; have hcz6_1 : w5.cell? ⟨gb154, 1, none⟩ = some (.slice A0_1 l0_1.length c0_1) := (kC BK154.out 1).trans rfl; have hcz6_2 : w5.cell? ⟨gb154, 2, none⟩ = some (.slice A0_2 l0_2.length c0_2) := (kC BK154.out 2).trans rfl; have hfz6_0 := kF BK154.out 0; have hfz6_1 := kF BK154.out 1; have hfz6_2 := kF BK154.out 2))
  go_ret
  exact ⟨by first | rfl | (simp [eN, eS] <;> rfl) | (simp [*, eN, eS] <;> rfl), by repeat (first | (with_reducible first | exact HB.out | apply bA | apply bN | apply bD | refine bT ?_ GE154.out) | exact HB.out)⟩
end Go.Proofs.Q
end
section
namespace Go.Proofs.Q
open RowKit Shelf Rf Pw Pl Pm
/-- the way on which the dimensions change -/
def Changes (t : Int) (ds : List S54) (es : List S38) (l1 : List S54) : Prop :=
 isTy t = true ∧ checkF t ds es = some 0 ∧ errOf ds = 0 ∧ errOf l1 = 0 ∧ l1.length = ds.length ∧ allSame l1 ds = false ∧ (es.length : Int) = prodL ds
instance (t : Int) (ds : List S54) (es : List S38) (l1 : List S54) : Decidable (Changes t ds es l1) := by unfold Changes; exact inferInstance
def array_Resize.f (a0_0 : Int) (l0_1 : List (S54)) (l0_2 : List (S38)) (l1 : List (S54)) : Option (Int × (List (S54)) × (List (S38)) × Int) :=
 if Changes a0_0 l0_1 l0_2 l1 then some (a0_0, l1, resL a0_0 l0_1 l0_2 l1, 0) else none
theorem C_some {α : Type} {d : Kd α} {w : World} {A : Option Addr} {n : Nat} {xs : List α} (h : d.C w A n xs) (h0 : 0 < n) : ∃ ad, A = some ad := by
 obtain ⟨ad, e, _⟩ := h.2.2 h0
 exact ⟨ad, e⟩
theorem array_Resize.calls (a0_0 : Int) (A0_1 : Option Addr) (c0_1 : Nat) (l0_1 : List (S54)) (A0_2 : Option Addr) (c0_2 : Nat) (l0_2 : List (S38)) (A1 : Option Addr) (c1 : Nat) (l1 : List (S54)) (r1 : Int) (r2 : List (S54)) (r3 : List (S38)) (r4 : Int) (w : World) (hr0_1 : Kd.C k54 w A0_1 l0_1.length l0_1) (hc0_1 : l0_1.length ≤ c0_1) (hr0_2 : Kd.C k38 w A0_2 l0_2.length l0_2) (hc0_2 : l0_2.length ≤ c0_2) (hr1 : Kd.C k54 w A1 l1.length l1) (hc1 : l1.length ≤ c1) (h : array_Resize.f a0_0 l0_1 l0_2 l1 = some (r1, r2, r3, r4)) :
  Calls Tryz.prog 7 #[.agg #[.int .i64 a0_0, .slice A0_1 l0_1.length c0_1, .slice A0_2 l0_2.length c0_2], .slice A1 l1.length c1] w fun e w' => ∃ v1_ v2_ : Value, e = .returned (.tuple #[.agg #[.int .i64 r1, v1_, v2_], .int .i64 r4]) ∧ Kd.R k54 54 w' w.heap.size (fun _ => True) v1_ r2 ∧ Kd.R k38 38 w' w.heap.size (fun _ => True) v2_ r3 ∧ Below w.heap.size w w' := by
 unfold array_Resize.f at h
 by_cases hc : Changes a0_0 l0_1 l0_2 l1
 ·rw [if_pos hc] at h
  simp only [Option.some.injEq, Prod.mk.injEq] at h
  obtain ⟨rfl, rfl, rfl, rfl⟩ := h
  obtain ⟨ht, hchk, hd, hl, hlen, hne, hm⟩ := hc
  obtain ⟨_, hp, _, h1, _⟩ := errOf_zero hd
  have hp1 := hp.pos
  obtain ⟨ad1, rfl⟩ := C_some hr0_1 h1
  obtain ⟨ad2, rfl⟩ := C_some hr0_2 (by omega)
  obtain ⟨ad3, rfl⟩ := C_some hr1 (by omega)
  rw [hlen] at hr1 hc1 ⊢
  refine ((callsIn_wide (n := 0)).1 (resize_walk a0_0 ad1 ad2 ad3 c0_1 c0_2 c1 l0_1.length l0_2.length l0_1 l1 l0_2 w hr0_1 hc0_1 hr0_2 hc0_2 hr1 hc1 ht hchk hd hl hne hm)).mono ?_
  rintro e w' ⟨v1, v2, he, h1, h2, h3⟩
  exact ⟨v1, v2, he, h1, h2, h3⟩
 ·rw [if_neg hc] at h; cases h
end Go.Proofs.Q
end
section
namespace Go.Proofs.Q
open RowKit Pw Pl Pm
attribute [local go_sem] max2_int min2_int max_two min_two max_three min_three max_four min_four   -- for this text's walks alone
def manorboylaw08_plane.f  : Option ((List (S54))) := some (([(⟨1, 2⟩ : S54), (⟨0, 2⟩ : S54)] : List (S54)))
theorem manorboylaw08_plane.calls  (r : List (S54)) (w : World) (h : manorboylaw08_plane.f  = some r) :
  Calls Tryz.prog 22 #[] w fun e w' => ∃ v0_ : Value, e = .returned (v0_) ∧ Kd.R k54 54 w' w.heap.size (fun _ => True) v0_ r ∧ Below w.heap.size w w' := by
 have hu40 := Tryz.underlying54
 have HB := As.mk (Below.refl w.heap.size w)
 have H : (some (([(⟨1, 2⟩ : S54), (⟨0, 2⟩ : S54)] : List (S54)))) = some r := h
 clear h
 obtain ⟨y148, hy148⟩ : ∃ y_ : List (S54), y_ = (([(⟨1, 2⟩ : S54), (⟨0, 2⟩ : S54)] : List (S54))) := ⟨_, rfl⟩
 replace H : (some y148) = some r := by first | (rw [hy148]; with_reducible exact H) | (have H2_ := (Option.bind_some _ _).symm.trans H; rw [hy148]; with_reducible exact H2_) | (have H2_ := (Option.bind_some _ _).symm.trans H; with_reducible exact H2_) | with_reducible exact H | (rw [hy148]; exact H) | exact H
 have Ny148 := As.mk hy148
 clear hy148
 obtain rfl := Option.some.inj H
 go_enter Tryz.func22, Tryz.ntmps22
 go_wp2_with (first | ((with_reducible refine gD (N := 3) rfl ?_); refine Kd.R_lit k54 _ 54 ?hg (N := 3) ?hd (xs := ([(⟨1, 2⟩ : S54), (⟨0, 2⟩ : S54)] : List (S54))) (inner := [.int .i64 1, .int .i64 2, .int .i64 0, .int .i64 2]) (ok := fun _ => True) (okp := fun _ => True) ?hr ?hp (fun _ hk => hk) trivial (Below.refl _ _) (Nat.le_refl _) (by simp) ?_; (case hd => rfl); (case hg => rfl); (case hr => first | (go_simp; done) | (go_simp; rfl)); (case hp => exact (Reps.c2 (show Kd.M k54 _ _ _ (⟨1, 2⟩ : S54) [.int .i64 1, .int .i64 2] from (k54_mkM _ _ _ (⟨1, 2⟩ : S54) )) (Reps.c2 (show Kd.M k54 _ _ _ (⟨0, 2⟩ : S54) [.int .i64 0, .int .i64 2] from (k54_mkM _ _ _ (⟨0, 2⟩ : S54) )) (Reps.none _ _)))); intro v149 w1 ho2 hb hg_ hnew_; clear hg_ hnew_; (first | rw [← Ny148.out] at ho2 | (simp only [Int.reduceToNat] at ho2; rw [← Ny148.out] at ho2)); have HO150 := As.mk (Kd.R_lower ho2 (bZ (by repeat (first | exact HB.out | apply bA | apply bN | apply bD)))); replace HB := As.mk (bS (by repeat (first | exact HB.out | apply bA | apply bN | apply bD)) hb); clear hb ho2))
 go_ret
 exact ⟨_, by first | rfl | (simp [eN, eS] <;> rfl) | (simp [*, eN, eS] <;> rfl), by (with_reducible repeat (first | apply Kd.R_alloc | apply Kd.R_drewN | apply Kd.R_drew)); exact HO150.out, by repeat (first | exact HB.out | apply bA | apply bN | apply bD)⟩
def manorboylaw08_integer.f (a0 : Int) : Option (Int × Int × Int × Int × Bool) := some (1, a0, 0, 0, false)
theorem manorboylaw08_integer.calls (a0 : Int) (r1 : Int) (r2 : Int) (r3 : Int) (r4 : Int) (r5 : Bool) (w : World) (h : manorboylaw08_integer.f a0 = some (r1, r2, r3, r4, r5)) :
  Calls Tryz.prog 26 #[.int .i64 a0] w fun e w' => e = .returned (.agg #[.int .i64 r1, .int .i64 r2, .int .i64 r3, .int .i64 r4, .bool r5]) ∧ Below w.heap.size w w' := by
 have hu59 := Tryz.underlying38
 have HB := As.mk (Below.refl w.heap.size w)
 have H : (some (1, a0, 0, 0, false)) = some (r1, r2, r3, r4, r5) := h
 clear h
 simp only [Option.some.injEq, Prod.mk.injEq] at H
 obtain ⟨rfl, rfl, rfl, rfl, rfl⟩ := H
 go_enter Tryz.func26, Tryz.ntmps26
 go_wp2_with (first | ((with_reducible refine gD (N := 2) rfl ?_); refine bX (by rfl) (N := 2) (by rfl) (cs := #[.int .i64 0, .int .i64 0, .int .i64 0, .int .i64 0, .bool false]) (t := 38) (by first | (go_simp; done) | (go_simp; rfl)) ?_; intro gb151 hg w2 hbox hb; have BK151 := As.mk (hbox); have GW151 := As.mk ((by rw [hg]; exact (bZ (by repeat (first | exact HB.out | apply bA | apply bN | apply bD))) : w.heap.size ≤ gb151)); have GE151 := GW151; replace HB := As.mk (bS (by repeat (first | exact HB.out | apply bA | apply bN | apply bD)) hb); clear hb hbox hg; have hcz3_0 : w2.cell? ⟨gb151, 0, none⟩ = some (.int .i64 0) := (kC BK151.out 0).trans rfl; have hcz3_1 : w2.cell? ⟨gb151, 1, none⟩ = some (.int .i64 0) := (kC BK151.out 1).trans rfl; have hcz3_2 : w2.cell? ⟨gb151, 2, none⟩ = some (.int .i64 0) := (kC BK151.out 2).trans rfl; have hcz3_3 : w2.cell? ⟨gb151, 3, none⟩ = some (.int .i64 0) := (kC BK151.out 3).trans rfl; have hcz3_4 : w2.cell? ⟨gb151, 4, none⟩ = some (.bool false) := (kC BK151.out 4).trans rfl; have hfz3_0 := kF BK151.out 0; have hfz3_1 := kF BK151.out 1; have hfz3_2 := kF BK151.out 2; have hfz3_3 := kF BK151.out 3; have hfz3_4 := kF BK151.out 4))
 refine bodyPost_ret (results_cell_row rfl _ _ gb151 38 #[.int .i64 1, .int .i64 a0, .int .i64 0, .int .i64 0, .bool false] (0, 0) _ rfl (by (with_reducible repeat (first | apply kN | apply kD | apply kA)); refine kP (cs := #[.int .i64 1, .int .i64 a0, .int .i64 0, .int .i64 0, .bool false]) ?_ 4 _ rfl; (with_reducible repeat (first | apply kN | apply kD | apply kA)); refine kP (cs := #[.int .i64 1, .int .i64 a0, .int .i64 0, .int .i64 0, .bool false]) ?_ 3 _ rfl; (with_reducible repeat (first | apply kN | apply kD | apply kA)); refine kP (cs := #[.int .i64 1, .int .i64 a0, .int .i64 0, .int .i64 0, .bool false]) ?_ 2 _ rfl; (with_reducible repeat (first | apply kN | apply kD | apply kA)); refine kP (cs := #[.int .i64 1, .int .i64 0, .int .i64 0, .int .i64 0, .bool false]) ?_ 1 _ rfl; (with_reducible repeat (first | apply kN | apply kD | apply kA)); refine kP (cs := #[.int .i64 0, .int .i64 0, .int .i64 0, .int .i64 0, .bool false]) ?_ 0 _ rfl; (with_reducible repeat (first | apply kN | apply kD | apply kA)); exact BK151.out) Tryz.underlying38 rfl (by kernel_rfl)) rfl ?_
 exact ⟨by first | rfl | (simp [eN, eS] <;> rfl) | (simp [*, eN, eS] <;> rfl), by repeat (first | (with_reducible first | exact HB.out | apply bA | apply bN | apply bD | refine bT ?_ GE151.out) | exact HB.out)⟩
end Go.Proofs.Q
end
section
namespace Go.Proofs.Q
open RowKit Shelf Rf Pw Pl Pm
def planeL : List S54 := [⟨1, 2⟩, ⟨0, 2⟩]
theorem plane_c (w : World) : Calls Tryz.prog 22 #[] w fun e w' => ∃ A c, e = .returned (.slice A 2 c) ∧ (2 ≤ c ∧ Kd.C k54 w' A 2 planeL ∧ Kd.V k54 54 w' w'.heap.size (fun _ => True) (.slice A 2 c) planeL) ∧ Below w.heap.size w w' := by
 refine (manorboylaw08_plane.calls planeL w (by rfl)).mono ?_
 rintro e w' ⟨v, rfl, hr, hb⟩
 have hv := Kd.R_V (base' := w'.heap.size) hr
 obtain ⟨A, c, rfl, hc, hC⟩ := Kd.R_reads hr
 exact ⟨A, c, rfl, ⟨hc, hC, hv⟩, hb⟩
theorem off_c (A : Option Addr) (c : Nat) (A1 : Option Addr) (c1 : Nat) (s : List Int) (r1 r2 : Int) (w : World) (hc : 2 ≤ c) (hC : Kd.C k54 w A 2 planeL) (hs : s.length = 2) (hc1 : 2 ≤ c1) (hC1 : Kd.C (Kd.int .i64) w A1 2 s) (h : array_Offset.f planeL s = some (r1, r2)) :
  Calls Tryz.prog 21 #[.slice A 2 c, .slice A1 2 c1] w fun e w' => e = .returned (.tuple #[.int .i64 r1, .int .i64 r2]) ∧ Below w.heap.size w w' := by
 have := array_Offset.calls A c planeL A1 c1 s r1 r2 w hC hc (by rw [hs]; exact hC1) (by rw [hs]; exact hc1) h
 rw [hs] at this
 exact this
theorem t1 : array_Offset.f planeL [1, 2] = some (2, 0) := by decide +kernel
theorem t2 : array_Offset.f planeL [2, 0] = some (3, 0) := by decide +kernel
theorem t3 : array_Offset.f planeL [3, 0] = some (0, 3) := by decide +kernel
theorem t4 : array_Strides.f planeL = some ([3, 1], -3, 0) := by decide +kernel
theorem t5 : array_Subscripts.f 1000 planeL 5 = some ([2, 2], 0) := by decide +kernel
theorem t6 : array_Resize.f 1 [⟨1, 3⟩] [⟨1, 7, z36, false⟩, ⟨1, 8, z36, false⟩, ⟨1, 9, z36, false⟩] [⟨2, 4⟩] = some (1, [⟨2, 4⟩], [⟨1, 8, z36, false⟩, ⟨1, 9, z36, false⟩, ⟨1, 0, z36, false⟩], 0) := by kernel_rfl
theorem t7 : array_Resize.f 1 [⟨2, 4⟩] [⟨1, 8, z36, false⟩, ⟨1, 9, z36, false⟩, ⟨1, 0, z36, false⟩] [⟨1, 3⟩] = some (1, [⟨1, 3⟩], [⟨1, 0, z36, false⟩, ⟨1, 8, z36, false⟩, ⟨1, 9, z36, false⟩], 0) := by kernel_rfl
theorem subs_c (A : Option Addr) (c : Nat) (w : World) (hV : Kd.V k54 54 w w.heap.size (fun _ => True) (.slice A 2 c) planeL) :
  Calls Tryz.prog 23 #[.slice A 2 c, .int .i64 5] w fun e w' => ∃ A1 c1, e = .returned (.tuple #[.slice A1 2 c1, .int .i64 0]) ∧ (2 ≤ c1 ∧ Kd.C (Kd.int .i64) w' A1 2 [2, 2]) ∧ Below w.heap.size w w' := by
 refine (array_Subscripts.calls 1000 (fun _ => True) A c planeL 5 [2, 2] 0 w hV t5).mono ?_
 rintro e w' ⟨v, rfl, hr, hb⟩
 obtain ⟨A1, c1, rfl, hc, hC⟩ := Kd.R_reads hr
 exact ⟨A1, c1, rfl, ⟨hc, hC⟩, hb⟩
theorem str_c (A : Option Addr) (c : Nat) (w : World) (hc : 2 ≤ c) (hC : Kd.C k54 w A 2 planeL) :
  Calls Tryz.prog 24 #[.slice A 2 c] w fun e w' => ∃ A1 c1, e = .returned (.tuple #[.slice A1 2 c1, .int .i64 (-3), .int .i64 0]) ∧ (2 ≤ c1 ∧ Kd.C (Kd.int .i64) w' A1 2 [3, 1]) ∧ Below w.heap.size w w' := by
 refine (array_Strides.calls A c planeL [3, 1] (-3) 0 w hC hc t4).mono ?_
 rintro e w' ⟨v, rfl, hr, hb⟩
 obtain ⟨A1, c1, rfl, hc, hC⟩ := Kd.R_reads hr
 exact ⟨A1, c1, rfl, ⟨hc, hC⟩, hb⟩
theorem C_two_ints (W : World) (a b : Int) : Kd.C (Kd.int .i64) (W.alloc (.cells #[.int .i64 a, .int .i64 b] 3)) (some ⟨W.heap.size, 0, none⟩) 2 [a, b] := by
 refine Kd.C_of_reads (d := 0) ⟨rfl, by omega, fun _ => ⟨_, rfl, fun j hj => ?_⟩⟩
 rw [add_at, kC (heap_alloc_new W _)]
 match j, hj with
 | 0, _ => rfl
 | 1, _ => rfl
theorem same_c (A : Option Addr) (c : Nat) (A1 : Option Addr) (c1 : Nat) (s : List Int) (w : World) (hs : s.length = 2) (hc : 2 ≤ c) (hC : Kd.C (Kd.int .i64) w A 2 s) (hc1 : 2 ≤ c1) (hC1 : Kd.C (Kd.int .i64) w A1 2 s) (h : manorboylaw08_sameInts.f 1000 s s = some true) :
  Calls Tryz.prog 25 #[.slice A 2 c, .slice A1 2 c1] w fun e w' => e = .returned (.bool true) ∧ Below w.heap.size w w' := by
 have := manorboylaw08_sameInts.calls 1000 A c s A1 c1 s true w (by rw [hs]; exact hC) (by rw [hs]; exact hc) (by rw [hs]; exact hC1) (by rw [hs]; exact hc1) h
 rw [hs] at this
 refine this.mono ?_
 rintro e w' ⟨rfl, ⟨n, rfl⟩⟩
 exact ⟨rfl, ⟨rfl, rfl, rfl, Nat.le_refl _, fun _ _ => rfl⟩⟩
theorem t8 : manorboylaw08_sameInts.f 1000 [2, 2] [2, 2] = some true := by decide +kernel
theorem t9 : manorboylaw08_sameInts.f 1000 [3, 1] [3, 1] = some true := by decide +kernel
theorem int_c (n : Int) (w : World) : Calls Tryz.prog 26 #[.int .i64 n] w fun e w' => e = .returned (.agg #[.int .i64 1, .int .i64 n, .int .i64 0, .int .i64 0, .bool false]) ∧ Below w.heap.size w w' := manorboylaw08_integer.calls n 1 n 0 0 false w rfl
theorem C_c40 (x : S54) {W : World} {g : Nat} (hg : W.heap[g]? = some (.cells #[.int .i64 x.f0, .int .i64 x.f1] 54)) : Kd.C k54 W (some ⟨g, 0, none⟩) 1 [x] := by
 refine ⟨rfl, by omega, fun _ => ⟨⟨g, 0, none⟩, rfl, fun j p hj => ?_⟩⟩
 cases j with
 | succ j => simp at hj
 | zero =>
  simp at hj; subst hj
  refine ⟨[.int .i64 x.f0, .int .i64 x.f1], rfl, k54_mk W x, fun i u hu => ?_⟩
  rw [Nat.zero_mul, add_at, Nat.zero_add, Nat.zero_add, cell_of_row W g i _ 54 (0, 0) hg]
  simpa using hu
theorem C_flat (L : List S38) {W : World} {g : Nat} (hl : L.length ≤ 1000) (hg : W.heap[g]? = some (.cells (flat59 L).toArray 38)) : Kd.C k38 W (some ⟨g, 0, none⟩) L.length L := by
 refine ⟨rfl, by omega, fun _ => ⟨⟨g, 0, none⟩, rfl, fun j p hj => ?_⟩⟩
 refine ⟨c59 p, rfl, k38_mk W p, fun i u hu => ?_⟩
 rw [add_at, Nat.zero_add, cell_of_row W g _ _ 38 (0, 0) hg]
 have h5 := flat_chunk L j p hj
 rw [← h5, List.getElem?_take] at hu
 split at hu
 ·simpa [show k38.sz = 5 from rfl] using hu
 ·cases hu
theorem C_three {W : World} {g : Nat} (a b c : Int) (hg : W.heap[g]? = some (.cells #[.int .i64 1, .int .i64 a, .int .i64 0, .int .i64 0, .bool false, .int .i64 1, .int .i64 b, .int .i64 0, .int .i64 0, .bool false, .int .i64 1, .int .i64 c, .int .i64 0, .int .i64 0, .bool false] 38)) : Kd.C k38 W (some ⟨g, 0, none⟩) 3 [⟨1, a, z36, false⟩, ⟨1, b, z36, false⟩, ⟨1, c, z36, false⟩] :=
 C_flat [⟨1, a, z36, false⟩, ⟨1, b, z36, false⟩, ⟨1, c, z36, false⟩] (by simp) hg
theorem new2 (W : World) (a b c : Obj) : (((W.alloc a).alloc b).alloc c).heap[W.heap.size + 1 + 1]? = some c := by
 have := heap_alloc_new ((W.alloc a).alloc b) c
 rwa [World.size_alloc, World.size_alloc] at this
theorem new1 (W : World) (a b : Obj) : ((W.alloc a).alloc b).heap[W.heap.size + 1]? = some b := by
 have := heap_alloc_new (W.alloc a) b
 rwa [World.size_alloc] at this
def SanPost (w : World) (e : Ending) (w' : World) : Prop := e = .returned (.bool true) ∧ Below w.heap.size w w'
theorem cells1 {W : World} {A : Option Addr} {a b c : Int} (h : k38.C W A 3 [⟨1, a, z36, false⟩, ⟨1, b, z36, false⟩, ⟨1, c, z36, false⟩]) : ∃ g o, A = some ⟨g, o, none⟩ ∧ W.cell? ⟨g, o, none⟩ = some (.int .i64 1) ∧ W.cell? ⟨g, o + 1, none⟩ = some (.int .i64 a) ∧ W.cell? ⟨g, o + 2, none⟩ = some (.int .i64 0) ∧ W.cell? ⟨g, o + 3, none⟩ = some (.int .i64 0) ∧ W.cell? ⟨g, o + 4, none⟩ = some (.bool false) ∧ W.cell? ⟨g, o + 5, none⟩ = some (.int .i64 1) ∧ W.cell? ⟨g, o + 6, none⟩ = some (.int .i64 b) ∧ W.cell? ⟨g, o + 7, none⟩ = some (.int .i64 0) ∧ W.cell? ⟨g, o + 8, none⟩ = some (.int .i64 0) ∧ W.cell? ⟨g, o + 9, none⟩ = some (.bool false) ∧ W.cell? ⟨g, o + 10, none⟩ = some (.int .i64 1) ∧ W.cell? ⟨g, o + 11, none⟩ = some (.int .i64 c) ∧ W.cell? ⟨g, o + 12, none⟩ = some (.int .i64 0) ∧ W.cell? ⟨g, o + 13, none⟩ = some (.int .i64 0) ∧ W.cell? ⟨g, o + 14, none⟩ = some (.bool false) := by
 obtain ⟨ad, rfl, a0, a1, a2, a3, a4⟩ := at_T38 h 0 (by omega) (by omega)
 obtain ⟨_, e, b0, b1, b2, b3, b4⟩ := at_T38 h 1 (by omega) (by omega)
 cases e
 obtain ⟨_, e, c0, c1, c2, c3, c4⟩ := at_T38 h 2 (by omega) (by omega)
 cases e
 obtain ⟨g, o, rfl⟩ : ∃ g o, ad = ⟨g, o, none⟩ := by
  obtain ⟨b, o, s⟩ := ad
  cases s with
  | none => exact ⟨b, o, rfl⟩
  | some s =>
   exfalso
   obtain ⟨b', o', e'⟩ := addr_of a0
   unfold Addr.add at e'
   split at e' <;> simp_all
 simp only [add_at] at a0 a1 a2 a3 a4 b0 b1 b2 b3 b4 c0 c1 c2 c3 c4
 exact ⟨g, o, rfl, a0, a1, a2, a3, a4, b0, b1, b2, b3, b4, c0, c1, c2, c3, c4⟩
theorem keepS {w W W' : World} {p0 p1 p2 p3 p4 p5 p6 p7 p8 p9 p10 p11 p12 p13 p14 p15 p16 p17 p18 p19 p20 p21 : Addr} {v0 v1 v2 v3 v4 v5 v6 v7 v8 v9 v10 v11 v12 v13 v14 v15 v16 v17 v18 v19 v20 v21 : Value} (h : Below w.heap.size w W ∧ W.cell? p0 = some v0 ∧ W.cell? p1 = some v1 ∧ W.cell? p2 = some v2 ∧ W.cell? p3 = some v3 ∧ W.cell? p4 = some v4 ∧ W.cell? p5 = some v5 ∧ W.cell? p6 = some v6 ∧ W.cell? p7 = some v7 ∧ W.cell? p8 = some v8 ∧ W.cell? p9 = some v9 ∧ W.cell? p10 = some v10 ∧ W.cell? p11 = some v11 ∧ W.cell? p12 = some v12 ∧ W.cell? p13 = some v13 ∧ W.cell? p14 = some v14 ∧ W.cell? p15 = some v15 ∧ W.cell? p16 = some v16 ∧ W.cell? p17 = some v17 ∧ W.cell? p18 = some v18 ∧ W.cell? p19 = some v19 ∧ W.cell? p20 = some v20 ∧ W.cell? p21 = some v21) (hb : Below W.heap.size W W') : Below w.heap.size w W' ∧ W'.cell? p0 = some v0 ∧ W'.cell? p1 = some v1 ∧ W'.cell? p2 = some v2 ∧ W'.cell? p3 = some v3 ∧ W'.cell? p4 = some v4 ∧ W'.cell? p5 = some v5 ∧ W'.cell? p6 = some v6 ∧ W'.cell? p7 = some v7 ∧ W'.cell? p8 = some v8 ∧ W'.cell? p9 = some v9 ∧ W'.cell? p10 = some v10 ∧ W'.cell? p11 = some v11 ∧ W'.cell? p12 = some v12 ∧ W'.cell? p13 = some v13 ∧ W'.cell? p14 = some v14 ∧ W'.cell? p15 = some v15 ∧ W'.cell? p16 = some v16 ∧ W'.cell? p17 = some v17 ∧ W'.cell? p18 = some v18 ∧ W'.cell? p19 = some v19 ∧ W'.cell? p20 = some v20 ∧ W'.cell? p21 = some v21 :=
 let ⟨h0, c0, c1, c2, c3, c4, c5, c6, c7, c8, c9, c10, c11, c12, c13, c14, c15, c16, c17, c18, c19, c20, c21⟩ := h
 ⟨bS h0 hb, cB hb c0, cB hb c1, cB hb c2, cB hb c3, cB hb c4, cB hb c5, cB hb c6, cB hb c7, cB hb c8, cB hb c9, cB hb c10, cB hb c11, cB hb c12, cB hb c13, cB hb c14, cB hb c15, cB hb c16, cB hb c17, cB hb c18, cB hb c19, cB hb c20, cB hb c21⟩
theorem sanity_walk (w : World) : Calls Tryz.prog 6 #[] w (SanPost w) := by
 have hB := Below.refl w.heap.size w
 go_enter Tryz.func6, Tryz.ntmps6
 go_wp2_with (first
  | (go_at_call 22; refine (plane_c _).mono ?_; rintro e w1 ⟨A, c, rfl, ⟨hc, hC, hV⟩, hb⟩; (replace hB := bS hB hb); (have HC := Lib.hid hC); (have HV := Lib.hid hV); (try replace hT := bS hT hb); (try replace hX := bS hX hb); clear hC hV hb)
  | (go_at_call 21; refine (off_c A c _ _ [1, 2] 2 0 _ hc (Kd.C_below HC.out (bA (Below.refl _ _) _)) rfl (Nat.le_refl _) (C_two_ints _ _ _) t1).mono ?_; rintro e w2 ⟨rfl, hb⟩; (replace hB := bS (bA hB _) hb); clear hb HC HV hc)
  | (go_at_call 21; refine (off_c A c _ _ [2, 0] 3 0 _ hc (Kd.C_below HC.out (bA (Below.refl _ _) _)) rfl (Nat.le_refl _) (C_two_ints _ _ _) t2).mono ?_; rintro e w2 ⟨rfl, hb⟩; (replace hB := bS (bA hB _) hb); clear hb HC HV hc)
  | (go_at_call 21; refine (off_c A c _ _ [3, 0] 0 3 _ hc (Kd.C_below HC.out (bA (Below.refl _ _) _)) rfl (Nat.le_refl _) (C_two_ints _ _ _) t3).mono ?_; rintro e w5 ⟨rfl, hb⟩; (replace hB := bS (bA hB _) hb); (replace hT := bS (bA hT _) hb); (replace hX := bS (bA hX _) hb); clear hb HC HV hc)
  | (go_at_call 23; refine (subs_c A c _ HV.out).mono ?_; rintro e w3 ⟨A1, c1, rfl, ⟨hc1, hS⟩, hb⟩; (replace hB := bS hB hb); (have S3 := Lib.hid hS); (have hT := Below.refl w3.heap.size w3); clear hS hb HC HV hc)
  | (go_at_call 24; refine (str_c A c _ hc HC.out).mono ?_; rintro e w4 ⟨A2, c2, rfl, ⟨hc2, hU⟩, hb⟩; (replace hB := bS hB hb); (have U4 := Lib.hid hU); (replace hT := bS hT hb); (have hX := Below.refl w4.heap.size w4); clear hU hb HC HV hc)
  | (go_at_call 25; go_loud (refine (same_c _ _ _ _ [2, 2] _ ?hl ?hc ?hC ?hd ?hD ?hf).mono ?_); go_loud (case hl => rfl); go_loud (case hc => exact hc1); go_loud (case hC => exact Kd.C_below S3.out (bA hT _)); go_loud (case hd => exact Nat.le_refl _); go_loud (case hD => exact C_two_ints _ _ _); go_loud (case hf => exact t8); rintro e w6 ⟨rfl, hb⟩; (replace hB := bS (bA hB _) hb); (replace hX := bS (bA hX _) hb); clear hb S3 hT hc1)
  | (go_at_call 25; go_loud (refine (same_c _ _ _ _ [3, 1] _ ?hl ?hc ?hC ?hd ?hD ?hf).mono ?_); go_loud (case hl => rfl); go_loud (case hc => exact hc2); go_loud (case hC => exact Kd.C_below U4.out (bA hX _)); go_loud (case hd => exact Nat.le_refl _); go_loud (case hD => exact C_two_ints _ _ _); go_loud (case hf => exact t9); rintro e w7 ⟨rfl, hb⟩; (replace hB := bS (bA hB _) hb); clear hb hX U4 hc2)
  | (go_at_call 26; refine (int_c _ _).mono ?_; rintro e w8 ⟨rfl, hb⟩; (first | (replace hD := kB hD hb) | (have hD : w8.heap[w7.heap.size]? = some (.cells #[.int .i64 1, .int .i64 3] 54) := kB (heap_alloc_new _ _) hb)); (replace hB : Below w.heap.size w w8 := bS (by first | exact hB | exact bA hB _) hb); clear hb)
  | (go_at_call 7; (have hD0 := hD); clear hD0; refine (array_Resize.calls 1 _ 1 [⟨1, 3⟩] _ 3 [⟨1, 7, z36, false⟩, ⟨1, 8, z36, false⟩, ⟨1, 9, z36, false⟩] _ 1 [⟨2, 4⟩] _ _ _ _ _ ?h1 (Nat.le_refl _) ?h2 (Nat.le_refl _) ?h3 (Nat.le_refl _) t6).mono ?_; go_loud (case h1 => exact C_c40 ⟨1, 3⟩ (kA (kA (kA hD _) _) _)); go_loud (case h2 => exact C_three _ _ _ (kA (kA (heap_alloc_new _ _) _) _)); go_loud (case h3 => exact C_c40 ⟨2, 4⟩ (new2 _ _ _ _)); rintro e w9 ⟨v1, v2, rfl, h1, h2, hb⟩; obtain ⟨A3, q3, rfl⟩ := Kd.R_slice h1; obtain ⟨A4, q4, rfl⟩ := Kd.R_slice h2; (replace hB := bS (bA (bA (bA hB _) _) _) hb); obtain ⟨_, _, eq1, hq3, hC3⟩ := Kd.R_reads h1; cases eq1; obtain ⟨_, _, eq1, hq4, hC4⟩ := Kd.R_reads h2; cases eq1; (have HV1 := Lib.hid hC3); (have HV2 := Lib.hid hC4); clear h1 h2 hb hC3 hC4 hD)
  | (go_at_call 7; (have hV0 := HV2); clear hV0; refine (array_Resize.calls 1 A3 q3 [⟨2, 4⟩] A4 q4 [⟨1, 8, z36, false⟩, ⟨1, 9, z36, false⟩, ⟨1, 0, z36, false⟩] _ 1 [⟨1, 3⟩] _ _ _ _ _ ?k1 hq3 ?k2 hq4 ?k3 (Nat.le_refl _) t7).mono ?_; go_loud (case k1 => exact Kd.C_below HV1.out (bA (bA (Below.refl _ _) _) _)); go_loud (case k2 => exact Kd.C_below HV2.out (bA (bA (Below.refl _ _) _) _)); go_loud (case k3 => exact C_c40 ⟨1, 3⟩ (new1 _ _ _)); rintro e w10 ⟨v1, v2, rfl, h1, h2, hb⟩; obtain ⟨A5, q5, rfl⟩ := Kd.R_slice h1; obtain ⟨A6, q6, rfl⟩ := Kd.R_slice h2; (have hG := kB (kA (heap_alloc_new _ _) _) hb); (replace HV2 := Lib.hid (Kd.C_below HV2.out (bS (bA (bA (Below.refl _ _) _) _) hb))); (replace hB := bS (bA (bA hB _) _) hb); obtain ⟨_, _, eq1, hq6, hC6⟩ := Kd.R_reads h2; cases eq1; (have HV6 := Lib.hid hC6); (have HG := Lib.hid hG); clear h1 h2 hb hC6 HV1 hq3 hG))
 obtain ⟨g4, o4, rfl, x0, x1, x2, x3, x4, -⟩ := cells1 HV2.out
 obtain ⟨g6, o6, rfl, y0, y1, y2, y3, y4, y5, y6, y7, y8, y9, y10, y11, y12, y13, y14⟩ := cells1 HV6.out
 obtain ⟨gb, hgb⟩ : ∃ gb, gb = w9.heap.size := ⟨_, rfl⟩
 obtain ⟨gc, hgc⟩ : ∃ gc, gc = w10.heap.size := ⟨_, rfl⟩
 rw [← hgb] at HG
 have hS : Below w.heap.size w (w10.alloc (.cells #[.int .i64 1, .slice A5 1 q5, .slice (some ⟨g6, o6, none⟩) 3 q6] 25)) ∧ (w10.alloc (.cells #[.int .i64 1, .slice A5 1 q5, .slice (some ⟨g6, o6, none⟩) 3 q6] 25)).cell? ⟨gb, 2, none⟩ = some (.slice (some ⟨g4, o4, none⟩) 3 q4) ∧ (w10.alloc (.cells #[.int .i64 1, .slice A5 1 q5, .slice (some ⟨g6, o6, none⟩) 3 q6] 25)).cell? ⟨gc, 2, none⟩ = some (.slice (some ⟨g6, o6, none⟩) 3 q6) ∧ (w10.alloc (.cells #[.int .i64 1, .slice A5 1 q5, .slice (some ⟨g6, o6, none⟩) 3 q6] 25)).cell? ⟨g4, o4, none⟩ = some (.int .i64 1) ∧ (w10.alloc (.cells #[.int .i64 1, .slice A5 1 q5, .slice (some ⟨g6, o6, none⟩) 3 q6] 25)).cell? ⟨g4, o4 + 1, none⟩ = some (.int .i64 8) ∧ (w10.alloc (.cells #[.int .i64 1, .slice A5 1 q5, .slice (some ⟨g6, o6, none⟩) 3 q6] 25)).cell? ⟨g4, o4 + 2, none⟩ = some (.int .i64 0) ∧ (w10.alloc (.cells #[.int .i64 1, .slice A5 1 q5, .slice (some ⟨g6, o6, none⟩) 3 q6] 25)).cell? ⟨g4, o4 + 3, none⟩ = some (.int .i64 0) ∧ (w10.alloc (.cells #[.int .i64 1, .slice A5 1 q5, .slice (some ⟨g6, o6, none⟩) 3 q6] 25)).cell? ⟨g4, o4 + 4, none⟩ = some (.bool false) ∧ (w10.alloc (.cells #[.int .i64 1, .slice A5 1 q5, .slice (some ⟨g6, o6, none⟩) 3 q6] 25)).cell? ⟨g6, o6, none⟩ = some (.int .i64 1) ∧ (w10.alloc (.cells #[.int .i64 1, .slice A5 1 q5, .slice (some ⟨g6, o6, none⟩) 3 q6] 25)).cell? ⟨g6, o6 + 1, none⟩ = some (.int .i64 0) ∧ (w10.alloc (.cells #[.int .i64 1, .slice A5 1 q5, .slice (some ⟨g6, o6, none⟩) 3 q6] 25)).cell? ⟨g6, o6 + 2, none⟩ = some (.int .i64 0) ∧ (w10.alloc (.cells #[.int .i64 1, .slice A5 1 q5, .slice (some ⟨g6, o6, none⟩) 3 q6] 25)).cell? ⟨g6, o6 + 3, none⟩ = some (.int .i64 0) ∧ (w10.alloc (.cells #[.int .i64 1, .slice A5 1 q5, .slice (some ⟨g6, o6, none⟩) 3 q6] 25)).cell? ⟨g6, o6 + 4, none⟩ = some (.bool false) ∧ (w10.alloc (.cells #[.int .i64 1, .slice A5 1 q5, .slice (some ⟨g6, o6, none⟩) 3 q6] 25)).cell? ⟨g6, o6 + 5, none⟩ = some (.int .i64 1) ∧ (w10.alloc (.cells #[.int .i64 1, .slice A5 1 q5, .slice (some ⟨g6, o6, none⟩) 3 q6] 25)).cell? ⟨g6, o6 + 6, none⟩ = some (.int .i64 8) ∧ (w10.alloc (.cells #[.int .i64 1, .slice A5 1 q5, .slice (some ⟨g6, o6, none⟩) 3 q6] 25)).cell? ⟨g6, o6 + 7, none⟩ = some (.int .i64 0) ∧ (w10.alloc (.cells #[.int .i64 1, .slice A5 1 q5, .slice (some ⟨g6, o6, none⟩) 3 q6] 25)).cell? ⟨g6, o6 + 8, none⟩ = some (.int .i64 0) ∧ (w10.alloc (.cells #[.int .i64 1, .slice A5 1 q5, .slice (some ⟨g6, o6, none⟩) 3 q6] 25)).cell? ⟨g6, o6 + 9, none⟩ = some (.bool false) ∧ (w10.alloc (.cells #[.int .i64 1, .slice A5 1 q5, .slice (some ⟨g6, o6, none⟩) 3 q6] 25)).cell? ⟨g6, o6 + 10, none⟩ = some (.int .i64 1) ∧ (w10.alloc (.cells #[.int .i64 1, .slice A5 1 q5, .slice (some ⟨g6, o6, none⟩) 3 q6] 25)).cell? ⟨g6, o6 + 11, none⟩ = some (.int .i64 9) ∧ (w10.alloc (.cells #[.int .i64 1, .slice A5 1 q5, .slice (some ⟨g6, o6, none⟩) 3 q6] 25)).cell? ⟨g6, o6 + 12, none⟩ = some (.int .i64 0) ∧ (w10.alloc (.cells #[.int .i64 1, .slice A5 1 q5, .slice (some ⟨g6, o6, none⟩) 3 q6] 25)).cell? ⟨g6, o6 + 13, none⟩ = some (.int .i64 0) ∧ (w10.alloc (.cells #[.int .i64 1, .slice A5 1 q5, .slice (some ⟨g6, o6, none⟩) 3 q6] 25)).cell? ⟨g6, o6 + 14, none⟩ = some (.bool false) := by
  have hb := bA (Below.refl w10.heap.size w10) (.cells #[.int .i64 1, .slice A5 1 q5, .slice (some ⟨g6, o6, none⟩) 3 q6] 25)
  refine ⟨bS hB hb, cB hb ?_, ?_, cB hb x0, cB hb x1, cB hb x2, cB hb x3, cB hb x4, cB hb y0, cB hb y1, cB hb y2, cB hb y3, cB hb y4, cB hb y5, cB hb y6, cB hb y7, cB hb y8, cB hb y9, cB hb y10, cB hb y11, cB hb y12, cB hb y13, cB hb y14⟩
  ·rw [kC HG.out]; rfl
  ·rw [hgc, kC (heap_alloc_new _ _)]; rfl
 rw [← hgb, ← hgc]
 generalize (w10.alloc (.cells #[.int .i64 1, .slice A5 1 q5, .slice (some ⟨g6, o6, none⟩) 3 q6] 25)) = W0 at hS ⊢
 clear HG hgb hgc HV2 HV6 hB x0 x1 x2 x3 x4 y0 y1 y2 y3 y4 y5 y6 y7 y8 y9 y10 y11 y12 y13 y14 hq4 hq6
 go_region_held3 (fun w' => Below w.heap.size w w' ∧ w'.cell? ⟨gb, 2, none⟩ = some (.slice (some ⟨g4, o4, none⟩) 3 q4) ∧ w'.cell? ⟨gc, 2, none⟩ = some (.slice (some ⟨g6, o6, none⟩) 3 q6) ∧ w'.cell? ⟨g4, o4, none⟩ = some (.int .i64 1) ∧ w'.cell? ⟨g4, o4 + 1, none⟩ = some (.int .i64 8) ∧ w'.cell? ⟨g4, o4 + 2, none⟩ = some (.int .i64 0) ∧ w'.cell? ⟨g4, o4 + 3, none⟩ = some (.int .i64 0) ∧ w'.cell? ⟨g4, o4 + 4, none⟩ = some (.bool false) ∧ w'.cell? ⟨g6, o6, none⟩ = some (.int .i64 1) ∧ w'.cell? ⟨g6, o6 + 1, none⟩ = some (.int .i64 0) ∧ w'.cell? ⟨g6, o6 + 2, none⟩ = some (.int .i64 0) ∧ w'.cell? ⟨g6, o6 + 3, none⟩ = some (.int .i64 0) ∧ w'.cell? ⟨g6, o6 + 4, none⟩ = some (.bool false) ∧ w'.cell? ⟨g6, o6 + 5, none⟩ = some (.int .i64 1) ∧ w'.cell? ⟨g6, o6 + 6, none⟩ = some (.int .i64 8) ∧ w'.cell? ⟨g6, o6 + 7, none⟩ = some (.int .i64 0) ∧ w'.cell? ⟨g6, o6 + 8, none⟩ = some (.int .i64 0) ∧ w'.cell? ⟨g6, o6 + 9, none⟩ = some (.bool false) ∧ w'.cell? ⟨g6, o6 + 10, none⟩ = some (.int .i64 1) ∧ w'.cell? ⟨g6, o6 + 11, none⟩ = some (.int .i64 9) ∧ w'.cell? ⟨g6, o6 + 12, none⟩ = some (.int .i64 0) ∧ w'.cell? ⟨g6, o6 + 13, none⟩ = some (.int .i64 0) ∧ w'.cell? ⟨g6, o6 + 14, none⟩ = some (.bool false))
  (first | exact keepS (by assumption) (by assumption) | exact hS | exact ⟨below_drew hS.1, hS.2⟩)
  (first | (go_at_call 26; refine (int_c _ _).mono ?_; rintro e w8 ⟨rfl, hb⟩))
 (try rename_i hHeld)
 have hF := hHeld.1
 clear hHeld hS
 go_wp2
 go_ret
 exact ⟨rfl, hF⟩
def manorboylaw08_sanity.f : Option (Bool) := some true
theorem manorboylaw08_sanity.calls (r : Bool) (w : World) (h : manorboylaw08_sanity.f = some r) :
  Calls Tryz.prog 6 #[] w fun e w' => e = .returned (.bool r) ∧ Below w.heap.size w w' := by
 cases h
 exact sanity_walk w
end Go.Proofs.Q
end
section
namespace Go.Proofs.Q
open RowKit Rf Pw Pl Pm
theorem badF_total (t : Int) (x : S38) : ∃ b, badF t x = some b := by
 unfold badF
 split
 ·have : ∃ b, validO x = some b := by
   unfold validO value_Valid.f value_ofInt.f value_ofReal.f value_ofBool.f integer_Valid.f real_Valid.f
   simp only [Option.bind_some]
   repeat' split
   all_goals first | exact ⟨_, rfl⟩ | (simp only [Option.bind_some]; exact ⟨_, rfl⟩)
  obtain ⟨b, hb⟩ := this
  exact ⟨!b, by rw [hb]; rfl⟩
 ·exact ⟨true, rfl⟩
theorem firstBad_word (t : Int) : ∀ (es : List S38) (i : Int), 0 ≤ i → ∃ r, firstBad t es i = some r ∧ (r < 0 ↔ ∀ x ∈ es, badF t x = some false)
 | [], i, hi => ⟨-1, rfl, by simp⟩
 | x :: es, i, hi => by
  obtain ⟨b, hb⟩ := badF_total t x
  cases b with
  | true =>
   refine ⟨i, by simp [firstBad, hb], ?_⟩
   constructor
   ·intro h; omega
   ·intro h; have := h x (by simp); rw [hb] at this; cases this
  | false =>
   obtain ⟨r, h1, h2⟩ := firstBad_word t es (i + 1) (by omega)
   refine ⟨r, by simp [firstBad, hb, h1], h2.trans ?_⟩
   simp [hb]
/-- what a valid array is -/
def Fine (t : Int) (ds : List S54) (es : List S38) : Prop := isTy t = true ∧ errOf ds = 0 ∧ (es.length : Int) = prodL ds ∧ ∀ x ∈ es, badF t x = some false
theorem check_word (t : Int) (ds : List S54) (es : List S38) : ∃ r, checkF t ds es = some r ∧ (r = 0 ↔ Fine t ds es) := by
 unfold checkF Fine
 by_cases h1 : isTy t = true
 ·by_cases h2 : errOf ds = 0
  ·by_cases h3 : (es.length : Int) = prodL ds
   ·obtain ⟨r, h4, h5⟩ := firstBad_word t es 0 (Int.le_refl _)
    rw [if_pos h1, if_pos h2, if_pos h3, h4]
    refine ⟨_, rfl, ?_⟩
    simp only [h1, h2, h3, true_and]
    rw [← h5]
    constructor
    ·intro h
     by_cases h0 : 0 ≤ r
     ·simp only [if_pos h0] at h; cases h
     ·omega
    ·intro h; rw [if_neg (by omega)]
   ·rw [if_pos h1, if_pos h2, if_neg h3]; exact ⟨1, rfl, by simp [h3]⟩
  ·rw [if_pos h1, if_neg h2]; exact ⟨1, rfl, by simp [h2]⟩
 ·rw [if_neg h1]; exact ⟨1, rfl, by simp [h1]⟩
theorem check_fine {t : Int} {ds : List S54} {es : List S38} (h : Fine t ds es) : checkF t ds es = some 0 := by
 obtain ⟨r, h1, h2⟩ := check_word t ds es
 rw [h1, h2.2 h]
theorem subsAt_plc : ∀ (l : List S54) (s : List Int), (∀ d ∈ l, 1 ≤ ext d) → inB l s = true → 0 ≤ plc l s ∧ plc l s < prodL l ∧ subsAt l (plc l s) = s
 | [], [], _, _ => ⟨by simp [plc], by simp [plc, prodL], rfl⟩
 | [], _ :: _, _, h => by simp [inB] at h
 | _ :: _, [], _, h => by simp [inB] at h
 | d :: r, k :: s, hp, h => by
  simp only [inB, Bool.and_eq_true, decide_eq_true_eq] at h
  have hr : ∀ d ∈ r, 1 ≤ ext d := fun e he => hp e (by simp [he])
  obtain ⟨i0, i1, i2⟩ := subsAt_plc r s hr h.2
  have hP := prodL_pos r hr
  have e1 : plc (d :: r) (k :: s) / prodL r = k - d.f0 := by
   simp only [plc]
   rw [Int.add_comm, Int.add_mul_ediv_left _ _ (by omega), Int.ediv_eq_zero_of_lt i0 i1]; omega
  have e2 : plc (d :: r) (k :: s) % prodL r = plc r s := by
   simp only [plc]
   rw [Int.add_comm, Int.add_mul_emod_self_left, Int.emod_eq_of_lt i0 i1]
  have he : ext d = d.f1 - d.f0 + 1 := rfl
  refine ⟨?_, ?_, ?_⟩
  ·simp only [plc]
   have := Int.mul_nonneg (show 0 ≤ prodL r by omega) (show 0 ≤ k - d.f0 by omega)
   omega
  ·simp only [plc, prodL]
   have := Int.mul_le_mul_of_nonneg_left (show k - d.f0 + 1 ≤ ext d by omega) (show 0 ≤ prodL r by omega)
   rw [Int.mul_add, Int.mul_comm (prodL r) (ext d)] at this
   omega
  ·simp only [subsAt, e1, e2, i2]
   congr 1
   omega
theorem allS_in {l : List S54} (h : ∀ d ∈ l, 1 ≤ ext d) {s : List Int} (hs : s ∈ allS l) : inB l s = true := by
 obtain ⟨i, hi⟩ := List.mem_iff_getElem?.1 hs
 have hlt : (i : Int) < prodL l := by
  rw [← allS_len2 l h]
  have := (List.getElem?_eq_some_iff.1 hi).1
  omega
 rw [allS_get l h i hlt] at hi
 rw [← Option.some.inj hi]
 exact inB_subs l h i (by omega) hlt
theorem allS_at {l : List S54} (h : ∀ d ∈ l, 1 ≤ ext d) {s : List Int} (hs : inB l s = true) : (allS l)[(plc l s).toNat]? = some s := by
 obtain ⟨h0, h1, h2⟩ := subsAt_plc l s h hs
 have := allS_get l h (plc l s).toNat (by omega)
 rw [Int.toNat_of_nonneg h0, h2] at this
 exact this
/-- the element at a subscript list -/
def vAt (ds : List S54) (es : List S38) (s : List Int) : Option S38 := if inB ds s = true then es[(plc ds s).toNat]? else none
theorem look_zip (s : List Int) (h4 : s.length ≤ 4) : ∀ (K : List (List Int)) (es : List S38), (∀ k ∈ K, k.length = s.length) → K.Pairwise (· ≠ ·) → K.length = es.length →
  (∀ i : Nat, K[i]? = some s → lookL (K.zip es) s = es[i]?) ∧ (s ∉ K → lookL (K.zip es) s = none)
 | [], es, _, _, _ => ⟨fun i h => by simp at h, fun _ => rfl⟩
 | k :: K, [], _, _, hl => by simp at hl
 | k :: K, x :: es, hk, hn, hl => by
  have ih := look_zip s h4 K es (fun k' h' => hk k' (by simp [h'])) (List.pairwise_cons.1 hn).2 (by simpa using hl)
  have hks := hk k (by simp)
  simp only [List.zip_cons_cons, lookL]
  by_cases hs : same4 s k = true
  ·have he : s = k := same4_inj s k hks.symm h4 hs
   rw [if_pos hs]
   refine ⟨fun i hi => ?_, fun hm => absurd (by rw [he]; simp) hm⟩
   cases i with
   | zero => rfl
   | succ i =>
    have hm : s ∈ K := List.mem_of_getElem? (by simpa using hi)
    exact absurd he.symm ((List.pairwise_cons.1 hn).1 s hm)
  ·rw [if_neg hs]
   have hne : ¬ k = s := by
    rintro rfl
    apply hs
    simp [same4]
   refine ⟨fun i hi => ?_, fun hm => ih.2 (fun h' => hm (by simp [h']))⟩
   cases i with
   | zero => simp at hi; exact absurd hi hne
   | succ i => simpa using ih.1 i (by simpa using hi)
theorem look_vAt {ds : List S54} {es : List S38} (hp : ∀ d ∈ ds, 1 ≤ ext d) (hl : (es.length : Int) = prodL ds) {s : List Int} (hs : s.length = ds.length) (h4 : ds.length ≤ 4) : lookL ((allS ds).zip es) s = vAt ds es s := by
 have h := look_zip s (by omega) (allS ds) es (fun k hk => by rw [allS_length ds k hk, hs]) (allS_nodup ds) (by have := allS_len2 ds hp; omega)
 unfold vAt
 by_cases hb : inB ds s = true
 ·rw [if_pos hb]; exact h.1 _ (allS_at hp hb)
 ·rw [if_neg hb]; exact h.2 (fun hm => hb (allS_in hp hm))
theorem resL_eq {t : Int} {ds : List S54} {es : List S38} (hp : ∀ d ∈ ds, 1 ≤ ext d) (hl : (es.length : Int) = prodL ds) (h4 : ds.length ≤ 4) {l1 : List S54} (hn : l1.length = ds.length) : resL t ds es l1 = (allS l1).map fun s => (vAt ds es s).getD (z38t t) := by
 unfold resL
 apply List.map_congr_left
 intro s hs
 rw [look_vAt hp hl (by rw [allS_length l1 s hs, hn]) h4]
theorem vAt_some {ds : List S54} {es : List S38} (hp : ∀ d ∈ ds, 1 ≤ ext d) (hl : (es.length : Int) = prodL ds) {s : List Int} (hb : inB ds s = true) : ∃ x, vAt ds es s = some x ∧ x ∈ es ∧ x = rd_T38 es (plc ds s) ∧ 0 ≤ plc ds s ∧ plc ds s < (es.length : Int) := by
 obtain ⟨h0, h1, _⟩ := subsAt_plc ds s hp hb
 have hlt : (plc ds s).toNat < es.length := by omega
 refine ⟨es[(plc ds s).toNat], by unfold vAt; rw [if_pos hb]; exact List.getElem?_eq_getElem hlt, List.getElem_mem hlt, ?_, h0, by omega⟩
 simp [rd_T38, List.getD, hlt]
theorem allSame_eq : ∀ (l m : List S54), l.length = m.length → allSame l m = true → l = m
 | [], [], _, _ => rfl
 | x :: r, y :: s, hl, h => by
  simp only [allSame] at h
  split at h
  ·rename_i he
   rw [allSame_eq r s (by simpa using hl) h]
   congr 1
   simp only [s40eq, Bool.and_eq_true, beq_iff_eq] at he
   obtain ⟨a, b⟩ := x
   obtain ⟨a', b'⟩ := y
   simp only at he
   rw [he.1, he.2]
  ·cases h
theorem resL_self {t : Int} {ds : List S54} {es : List S38} (h : Fine t ds es) : resL t ds es ds = es := by
 obtain ⟨a, b, c, d⟩ := h
 have hp := ext_pos (errOf_zero b).2.1
 have h4 := (errOf_zero b).2.2.2.2
 rw [resL_eq hp c h4 rfl]
 apply List.ext_getElem?
 intro i
 rw [List.getElem?_map]
 by_cases hi : i < es.length
 ·rw [allS_get ds hp i (by omega)]
  have hin := inB_subs ds hp i (by omega) (by omega)
  obtain ⟨x, hx, _, _⟩ := vAt_some hp c hin
  simp only [Option.map_some, hx, Option.getD_some]
  unfold vAt at hx
  rw [if_pos hin, plc_subs ds hp i (by omega) (by omega), Int.toNat_natCast] at hx
  exact hx.symm
 ·have hal := allS_len2 ds hp
  rw [List.getElem?_eq_none (by omega), List.getElem?_eq_none (by omega)]; rfl
end Go.Proofs.Q
namespace Go.Proofs.Q
open RowKit Rf Pw Pl Pm
end Go.Proofs.Q
namespace Go.Proofs.Q
open RowKit Shelf Rf Pw Pl Pm
/-- an array lies here -/
def Arr (W : World) (A : Option Addr) (n c : Nat) (ds : List S54) (B : Option Addr) (m d : Nat) (es : List S38) : Prop := Kd.C k54 W A n ds ∧ n ≤ c ∧ Kd.C k38 W B m es ∧ m ≤ d
theorem Arr.below {W W' : World} {A : Option Addr} {n c : Nat} {ds : List S54} {B : Option Addr} {m d : Nat} {es : List S38} (h : Arr W A n c ds B m d es) (hb : Below W.heap.size W W') : Arr W' A n c ds B m d es :=
 ⟨Kd.C_below h.1 hb, h.2.1, Kd.C_below h.2.2.1 hb, h.2.2.2⟩
theorem Arr.len {W : World} {A : Option Addr} {n c : Nat} {ds : List S54} {B : Option Addr} {m d : Nat} {es : List S38} (h : Arr W A n c ds B m d es) : ds.length = n ∧ es.length = m := ⟨h.1.1, h.2.2.1.1⟩
/-- Resize, of a valid array -/
theorem rz_ok {t : Int} {ds l1 : List S54} {es : List S38} (F : Fine t ds es) (h1 : errOf l1 = 0) (hn : l1.length = ds.length) (A1 A2 A3 : Option Addr) (c1 c2 c3 n m : Nat) (w : World) (hr : Arr w A1 n c1 ds A2 m c2 es) (hr3 : Kd.C k54 w A3 n l1) (hc3 : n ≤ c3) :
  Calls Tryz.prog 7 #[.agg #[.int .i64 t, .slice A1 n c1, .slice A2 m c2], .slice A3 n c3] w fun e w' => ∃ B1 q1 B2 q2 k, e = .returned (.tuple #[.agg #[.int .i64 t, .slice B1 n q1, .slice B2 k q2], .int .i64 0]) ∧ Arr w' B1 n q1 l1 B2 k q2 (resL t ds es l1) ∧ Below w.heap.size w w' := by
 obtain ⟨rfl, rfl⟩ := hr.len
 obtain ⟨r1, hc1, r2, hc2⟩ := hr
 obtain ⟨ht, hd, hl, hv⟩ := F
 obtain ⟨_, hp, _, hl1, hl4⟩ := errOf_zero hd
 have hp1 := hp.pos
 have hp2 := hp.2.2
 obtain ⟨ad1, rfl⟩ := C_some r1 hl1
 obtain ⟨ad2, rfl⟩ := C_some r2 (by omega)
 obtain ⟨ad3, rfl⟩ := C_some hr3 (by omega)
 have hk := check_fine ⟨ht, hd, hl, hv⟩
 have fin : ∀ (xs : List S54) (ys : List S38), xs = l1 → ys = resL t ds es l1 → ∀ e w', ResizePost t xs ys w e w' → ∃ B1 q1 B2 q2 k, e = .returned (.tuple #[.agg #[.int .i64 t, .slice B1 ds.length q1, .slice B2 k q2], .int .i64 0]) ∧ Arr w' B1 ds.length q1 l1 B2 k q2 (resL t ds es l1) ∧ Below w.heap.size w w' := by
  rintro xs ys rfl rfl e w' ⟨v1, v2, rfl, h1, h2, hb⟩
  obtain ⟨B1, q1, rfl, g1, g2⟩ := Kd.R_reads h1
  obtain ⟨B2, q2, rfl, g3, g4⟩ := Kd.R_reads h2
  rw [hn] at g1 g2 ⊢
  exact ⟨B1, q1, B2, q2, _, rfl, ⟨g2, g1, g4, g3⟩, hb⟩
 by_cases hs : allSame l1 ds = true
 ·obtain rfl := allSame_eq l1 ds hn hs
  refine ((callsIn_wide (n := 0)).1 (resize_same t ad1 ad2 (some ad3) c1 c2 c3 l1.length es.length l1 l1 es w r1 hc1 r2 hc2 hr3 hc3 hk hd h1 hs (by omega))).mono ?_
  exact fin l1 es rfl (resL_self ⟨ht, hd, hl, hv⟩).symm
 ·refine ((callsIn_wide (n := 0)).1 (resize_walk t ad1 ad2 ad3 c1 c2 c3 ds.length es.length ds l1 es w r1 hc1 r2 hc2 hr3 hc3 ht hk hd h1 (by simpa using hs) hl)).mono ?_
  exact fin l1 _ rfl rfl
/-- the error of a list of dimensions, for arrays of n -/
def errN (n : Nat) (l1 : List S54) : Int := if errOf l1 = 0 then if l1.length = n then 0 else 10 else errOf l1
theorem rz_no {t : Int} {ds l1 : List S54} {es : List S38} (F : Fine t ds es) (A1 A2 A3 : Option Addr) (c1 c2 c3 n m n3 : Nat) (hx : errN n l1 ≠ 0) (w : World) (hr : Arr w A1 n c1 ds A2 m c2 es) (hr3 : Kd.C k54 w A3 n3 l1) (hc3 : n3 ≤ c3) :
  Calls Tryz.prog 7 #[.agg #[.int .i64 t, .slice A1 n c1, .slice A2 m c2], .slice A3 n3 c3] w fun e w' => e = .returned (.tuple #[.agg #[.int .i64 0, .slice none 0 0, .slice none 0 0], .int .i64 (errN n l1)]) ∧ Below w.heap.size w w' := by
 obtain ⟨rfl, rfl⟩ := hr.len
 obtain ⟨r1, hc1, r2, hc2⟩ := hr
 have hk := check_fine F
 obtain ⟨ht, hd, hl, hv⟩ := F
 obtain ⟨_, hp, _, hl1, hl4⟩ := errOf_zero hd
 have hp1 := hp.pos
 obtain ⟨ad1, rfl⟩ := C_some r1 hl1
 obtain ⟨ad2, rfl⟩ := C_some r2 (by omega)
 have h3 := hr3.1
 unfold errN at hx ⊢
 by_cases he : errOf l1 = 0
 ·rw [if_pos he] at hx ⊢
  by_cases hn : l1.length = ds.length
  ·rw [if_pos hn] at hx; exact absurd rfl hx
  ·rw [if_neg hn]
   exact (callsIn_wide (n := 0)).1 (resize_kind t ad1 ad2 A3 c1 c2 c3 ds.length es.length n3 ds l1 es w r1 hc1 r2 hc2 hr3 hc3 hk he (by omega))
 ·rw [if_neg he]
  exact (callsIn_wide (n := 0)).1 (resize_bad t ad1 ad2 A3 c1 c2 c3 ds.length es.length n3 ds l1 es w r1 hc1 r2 hc2 hr3 hc3 hk he)
theorem ck_c {t : Int} {ds : List S54} {es : List S38} (F : Fine t ds es) (A1 A2 : Option Addr) (c1 c2 n m : Nat) (w : World) (hr : Arr w A1 n c1 ds A2 m c2 es) :
  Calls Tryz.prog 18 #[.agg #[.int .i64 t, .slice A1 n c1, .slice A2 m c2]] w fun e w' => e = .returned (.int .i64 0) ∧ Below w.heap.size w w' := by
 obtain ⟨rfl, rfl⟩ := hr.len
 obtain ⟨r1, hc1, r2, hc2⟩ := hr
 exact array_Check.calls t A1 c1 ds A2 c2 es 0 w r1 hc1 r2 hc2 (check_fine F)
end Go.Proofs.Q
end
section
namespace Go.Proofs.Q
open RowKit Shelf Rf Pw Pl Pm
theorem c3_0 {W : World} {g ty : Nat} {x y z : Value} (h : W.heap[g]? = some (.cells #[x, y, z] ty)) : W.cell? ⟨g, 0, none⟩ = some x := by rw [kC h 0]; rfl
theorem c3_1 {W : World} {g ty : Nat} {x y z : Value} (h : W.heap[g]? = some (.cells #[x, y, z] ty)) : W.cell? ⟨g, 1, none⟩ = some y := by rw [kC h 1]; rfl
theorem c3_2 {W : World} {g ty : Nat} {x y z : Value} (h : W.heap[g]? = some (.cells #[x, y, z] ty)) : W.cell? ⟨g, 2, none⟩ = some z := by rw [kC h 2]; rfl
theorem small_c (t : Int) (A1 A2 : Option Addr) (c1 c2 n m : Nat) (ds : List S54) (es : List S38) (w : World) (hr : Arr w A1 n c1 ds A2 m c2 es) :
  Calls Tryz.prog 5 #[.agg #[.int .i64 t, .slice A1 n c1, .slice A2 m c2]] w fun e w' => e = .returned (.bool (decide (n ≤ 6) && decide (m ≤ 1010))) ∧ Below w.heap.size w w' := by
 obtain ⟨rfl, rfl⟩ := hr.len
 obtain ⟨r1, hc1, r2, hc2⟩ := hr
 refine manorboylaw08_small.calls t A1 c1 ds A2 c2 es _ w r1 hc1 r2 hc2 ?_
 unfold manorboylaw08_small.f
 by_cases h : ds.length ≤ 6
 ·rw [if_pos (by omega)]
  simp only [h, decide_true, Bool.true_and, Option.some.injEq]
  by_cases h' : es.length ≤ 1010
  ·rw [decide_eq_true h', decide_eq_true (by omega)]
  ·rw [decide_eq_false h', decide_eq_false (by omega)]
 ·rw [if_neg (by omega)]; simp [h]
end Go.Proofs.Q
end
