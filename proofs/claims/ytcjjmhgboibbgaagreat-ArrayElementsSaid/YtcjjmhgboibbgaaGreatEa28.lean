/-
 Texts of the proof, in build order: words that the walks use, contracts of functions, plain facts.
-/
import Derived.Test.YtcjjmhgboibbgaaGreatEa4
import Derived.Test.YtcjjmhgboibbgaaGreatEa15
import Derived.Test.YtcjjmhgboibbgaaGreatEa17
import Derived.Test.YtcjjmhgboibbgaaGreatEa22
import Derived.Test.YtcjjmhgboibbgaaGreatEa27
set_option maxHeartbeats 40000000
set_option maxRecDepth 100000
set_option linter.unusedVariables false
set_option linter.unusedSimpArgs false
section
namespace Go.Proofs.Q
open RowKit Shelf Rf Pw Pl Pm
theorem aset_bad (t : Int) (A1 A2 A3 : Option Addr) (c1 c2 c3 n3 : Nat) (ds : List S54) (es : List S38) (x : S38) (w : World) (HK : Hid (∀ W, Below w.heap.size w W → Calls Tryz.prog 18 #[.agg #[.int .i64 t, .slice A1 ds.length c1, .slice A2 es.length c2]] W (AI 1 W))) : Calls Tryz.prog 15 #[.agg #[.int .i64 t, .slice A1 ds.length c1, .slice A2 es.length c2], .slice A3 n3 c3, .agg #[.int .i64 x.f0, .int .i64 x.f1, .int .i64 x.f2.f0, .int .i64 x.f2.f1, .bool x.f3]] w (ResizeNo 1 w) := by
 have hA : (((w.alloc (.cells #[.int .i64 t, .slice A1 ds.length c1, .slice A2 es.length c2] 25)).alloc (.cells #[.int .i64 x.f0, .int .i64 x.f1, .int .i64 x.f2.f0, .int .i64 x.f2.f1, .bool x.f3] 38)).alloc (.cells #[.int .i64 0, .slice none 0 0, .slice none 0 0] 25)).heap[w.heap.size]? = some (.cells #[.int .i64 t, .slice A1 ds.length c1, .slice A2 es.length c2] 25) := kA (kA (heap_alloc_new w _) _) _
 have hX : (((w.alloc (.cells #[.int .i64 t, .slice A1 ds.length c1, .slice A2 es.length c2] 25)).alloc (.cells #[.int .i64 x.f0, .int .i64 x.f1, .int .i64 x.f2.f0, .int .i64 x.f2.f1, .bool x.f3] 38)).alloc (.cells #[.int .i64 0, .slice none 0 0, .slice none 0 0] 25)).heap[w.heap.size + 1]? = some (.cells #[.int .i64 x.f0, .int .i64 x.f1, .int .i64 x.f2.f0, .int .i64 x.f2.f1, .bool x.f3] 38) := newC w _ _ _
 have hZ : (((w.alloc (.cells #[.int .i64 t, .slice A1 ds.length c1, .slice A2 es.length c2] 25)).alloc (.cells #[.int .i64 x.f0, .int .i64 x.f1, .int .i64 x.f2.f0, .int .i64 x.f2.f1, .bool x.f3] 38)).alloc (.cells #[.int .i64 0, .slice none 0 0, .slice none 0 0] 25)).heap[w.heap.size + 1 + 1]? = some (.cells #[.int .i64 0, .slice none 0 0, .slice none 0 0] 25) := newD w _ _ _
 have hB : Below w.heap.size w (((w.alloc (.cells #[.int .i64 t, .slice A1 ds.length c1, .slice A2 es.length c2] 25)).alloc (.cells #[.int .i64 x.f0, .int .i64 x.f1, .int .i64 x.f2.f0, .int .i64 x.f2.f1, .bool x.f3] 38)).alloc (.cells #[.int .i64 0, .slice none 0 0, .slice none 0 0] 25)) := bA (bA (bA (Below.refl _ _) _) _) _
 have hz : w.heap.size ≤ w.heap.size + 1 + 1 := by omega
 obtain ⟨⟨x0, x1, x2⟩, xl, _, _, _⟩ := c3_of hA
 go_enter Tryz.func15, Tryz.ntmps15
 go_wp2_with (first
  | (go_at_call 18; refine (HK.out _ hB).mono ?_; rintro e w1 ⟨rfl, hb⟩; clear x0 x1 x2 xl; (replace hA := kB hA hb); (replace hX := kB hX hb); (replace hZ := kB hZ hb); (replace hB := bS hB hb); (obtain ⟨⟨z0, z1, z2⟩, zl, zf0, zf1, zf2⟩ := c3_of hZ); clear hb))
 refine bodyPost_ret (v := .tuple #[.agg #[.int .i64 0, .slice none 0 0, .slice none 0 0], .int .i64 1]) (by clear hZ hA hX; simp [results, Tryz.results15, go_sem, z0, z1, z2, zl]) rfl ⟨rfl, below_set3 hB hz⟩
theorem rset_no1 (t : Int) (A1 A2 A3 : Option Addr) (c1 c2 c3 n3 : Nat) (ds : List S54) (es : List S38) (x : S38) (w : World) (HK : Hid (∀ W, Below w.heap.size w W → Calls Tryz.prog 16 #[.agg #[.int .i64 t, .slice A1 ds.length c1, .slice A2 es.length c2]] W (Bq false W))) : Calls Tryz.prog 20 #[.agg #[.int .i64 t, .slice A1 ds.length c1, .slice A2 es.length c2], .slice A3 n3 c3, .agg #[.int .i64 x.f0, .int .i64 x.f1, .int .i64 x.f2.f0, .int .i64 x.f2.f1, .bool x.f3]] w (ResizeNo 1 w) := by
 have hA : (((w.alloc (.cells #[.int .i64 t, .slice A1 ds.length c1, .slice A2 es.length c2] 25)).alloc (.cells #[.int .i64 x.f0, .int .i64 x.f1, .int .i64 x.f2.f0, .int .i64 x.f2.f1, .bool x.f3] 38)).alloc (.cells #[.int .i64 0, .slice none 0 0, .slice none 0 0] 25)).heap[w.heap.size]? = some (.cells #[.int .i64 t, .slice A1 ds.length c1, .slice A2 es.length c2] 25) := kA (kA (heap_alloc_new w _) _) _
 have hX : (((w.alloc (.cells #[.int .i64 t, .slice A1 ds.length c1, .slice A2 es.length c2] 25)).alloc (.cells #[.int .i64 x.f0, .int .i64 x.f1, .int .i64 x.f2.f0, .int .i64 x.f2.f1, .bool x.f3] 38)).alloc (.cells #[.int .i64 0, .slice none 0 0, .slice none 0 0] 25)).heap[w.heap.size + 1]? = some (.cells #[.int .i64 x.f0, .int .i64 x.f1, .int .i64 x.f2.f0, .int .i64 x.f2.f1, .bool x.f3] 38) := newC w _ _ _
 have hZ : (((w.alloc (.cells #[.int .i64 t, .slice A1 ds.length c1, .slice A2 es.length c2] 25)).alloc (.cells #[.int .i64 x.f0, .int .i64 x.f1, .int .i64 x.f2.f0, .int .i64 x.f2.f1, .bool x.f3] 38)).alloc (.cells #[.int .i64 0, .slice none 0 0, .slice none 0 0] 25)).heap[w.heap.size + 1 + 1]? = some (.cells #[.int .i64 0, .slice none 0 0, .slice none 0 0] 25) := newD w _ _ _
 have hB : Below w.heap.size w (((w.alloc (.cells #[.int .i64 t, .slice A1 ds.length c1, .slice A2 es.length c2] 25)).alloc (.cells #[.int .i64 x.f0, .int .i64 x.f1, .int .i64 x.f2.f0, .int .i64 x.f2.f1, .bool x.f3] 38)).alloc (.cells #[.int .i64 0, .slice none 0 0, .slice none 0 0] 25)) := bA (bA (bA (Below.refl _ _) _) _) _
 have hz : w.heap.size ≤ w.heap.size + 1 + 1 := by omega
 obtain ⟨⟨x0, x1, x2⟩, xl, _, _, _⟩ := c3_of hA
 go_enter Tryz.func20, Tryz.ntmps20
 go_wp2_with (first
  | (go_at_call 16; refine (HK.out _ hB).mono ?_; rintro e w1 ⟨rfl, hb⟩; clear x0 x1 x2 xl; (replace hA := kB hA hb); (replace hX := kB hX hb); (replace hZ := kB hZ hb); (replace hB := bS hB hb); (obtain ⟨⟨z0, z1, z2⟩, zl, zf0, zf1, zf2⟩ := c3_of hZ); clear hb))
 refine bodyPost_ret (v := .tuple #[.agg #[.int .i64 0, .slice none 0 0, .slice none 0 0], .int .i64 1]) (by clear hZ hA hX; simp [results, Tryz.results20, go_sem, z0, z1, z2, zl]) rfl ⟨rfl, below_set3 hB hz⟩
theorem rset_no2 (t : Int) (A1 A2 A3 : Option Addr) (c1 c2 c3 n3 : Nat) (ds : List S54) (es : List S38) (x : S38) (w : World) (HK : Hid (∀ W, Below w.heap.size w W → Calls Tryz.prog 16 #[.agg #[.int .i64 t, .slice A1 ds.length c1, .slice A2 es.length c2]] W (Bq true W))) (v : Int) (hv : v ≠ 0) (HE : Hid (∀ W, Below w.heap.size w W → Calls Tryz.prog 56 #[.slice A1 ds.length c1, .slice A3 n3 c3] W (AI v W))) : Calls Tryz.prog 20 #[.agg #[.int .i64 t, .slice A1 ds.length c1, .slice A2 es.length c2], .slice A3 n3 c3, .agg #[.int .i64 x.f0, .int .i64 x.f1, .int .i64 x.f2.f0, .int .i64 x.f2.f1, .bool x.f3]] w (ResizeNo v w) := by
 have vb : (v != 0) = true := by simpa using hv
 clear hv
 have hA : (((w.alloc (.cells #[.int .i64 t, .slice A1 ds.length c1, .slice A2 es.length c2] 25)).alloc (.cells #[.int .i64 x.f0, .int .i64 x.f1, .int .i64 x.f2.f0, .int .i64 x.f2.f1, .bool x.f3] 38)).alloc (.cells #[.int .i64 0, .slice none 0 0, .slice none 0 0] 25)).heap[w.heap.size]? = some (.cells #[.int .i64 t, .slice A1 ds.length c1, .slice A2 es.length c2] 25) := kA (kA (heap_alloc_new w _) _) _
 have hX : (((w.alloc (.cells #[.int .i64 t, .slice A1 ds.length c1, .slice A2 es.length c2] 25)).alloc (.cells #[.int .i64 x.f0, .int .i64 x.f1, .int .i64 x.f2.f0, .int .i64 x.f2.f1, .bool x.f3] 38)).alloc (.cells #[.int .i64 0, .slice none 0 0, .slice none 0 0] 25)).heap[w.heap.size + 1]? = some (.cells #[.int .i64 x.f0, .int .i64 x.f1, .int .i64 x.f2.f0, .int .i64 x.f2.f1, .bool x.f3] 38) := newC w _ _ _
 have hZ : (((w.alloc (.cells #[.int .i64 t, .slice A1 ds.length c1, .slice A2 es.length c2] 25)).alloc (.cells #[.int .i64 x.f0, .int .i64 x.f1, .int .i64 x.f2.f0, .int .i64 x.f2.f1, .bool x.f3] 38)).alloc (.cells #[.int .i64 0, .slice none 0 0, .slice none 0 0] 25)).heap[w.heap.size + 1 + 1]? = some (.cells #[.int .i64 0, .slice none 0 0, .slice none 0 0] 25) := newD w _ _ _
 have hB : Below w.heap.size w (((w.alloc (.cells #[.int .i64 t, .slice A1 ds.length c1, .slice A2 es.length c2] 25)).alloc (.cells #[.int .i64 x.f0, .int .i64 x.f1, .int .i64 x.f2.f0, .int .i64 x.f2.f1, .bool x.f3] 38)).alloc (.cells #[.int .i64 0, .slice none 0 0, .slice none 0 0] 25)) := bA (bA (bA (Below.refl _ _) _) _) _
 have hz : w.heap.size ≤ w.heap.size + 1 + 1 := by omega
 obtain ⟨⟨x0, x1, x2⟩, xl, _, _, _⟩ := c3_of hA
 go_enter Tryz.func20, Tryz.ntmps20
 go_wp2_with (first
  | (go_at_call 16; refine (HK.out _ hB).mono ?_; rintro e w1 ⟨rfl, hb⟩; clear x0 x1 x2 xl; (replace hA := kB hA hb); (replace hX := kB hX hb); (replace hZ := kB hZ hb); (replace hB := bS hB hb); (obtain ⟨⟨x0, x1, x2⟩, xl, xf0, xf1, xf2⟩ := c3_of hA); clear hb)
  | (go_at_call 56; refine (HE.out _ hB).mono ?_; rintro e w2 ⟨rfl, hb⟩; clear x0 x1 x2 xl; (replace hA := kB hA hb); (replace hX := kB hX hb); (replace hZ := kB hZ hb); (replace hB := bS hB hb); (obtain ⟨⟨z0, z1, z2⟩, zl, zf0, zf1, zf2⟩ := c3_of hZ); clear hb))
 refine bodyPost_ret (v := .tuple #[.agg #[.int .i64 0, .slice none 0 0, .slice none 0 0], .int .i64 v]) (by clear hZ hA hX; simp [results, Tryz.results20, go_sem, z0, z1, z2, zl]) rfl ⟨rfl, below_set3 hB hz⟩
theorem rset_no3 (t : Int) (A1 A2 A3 : Option Addr) (c1 c2 c3 n3 : Nat) (ds : List S54) (es : List S38) (x : S38) (w : World) (HK : Hid (∀ W, Below w.heap.size w W → Calls Tryz.prog 16 #[.agg #[.int .i64 t, .slice A1 ds.length c1, .slice A2 es.length c2]] W (Bq true W))) (HE : Hid (∀ W, Below w.heap.size w W → Calls Tryz.prog 56 #[.slice A1 ds.length c1, .slice A3 n3 c3] W (AI 0 W))) (HV : Hid (∀ W, Calls Tryz.prog 50 #[.agg #[.int .i64 x.f0, .int .i64 x.f1, .int .i64 x.f2.f0, .int .i64 x.f2.f1, .bool x.f3]] W (Bq false W))) : Calls Tryz.prog 20 #[.agg #[.int .i64 t, .slice A1 ds.length c1, .slice A2 es.length c2], .slice A3 n3 c3, .agg #[.int .i64 x.f0, .int .i64 x.f1, .int .i64 x.f2.f0, .int .i64 x.f2.f1, .bool x.f3]] w (ResizeNo 1 w) := by
 have hA : (((w.alloc (.cells #[.int .i64 t, .slice A1 ds.length c1, .slice A2 es.length c2] 25)).alloc (.cells #[.int .i64 x.f0, .int .i64 x.f1, .int .i64 x.f2.f0, .int .i64 x.f2.f1, .bool x.f3] 38)).alloc (.cells #[.int .i64 0, .slice none 0 0, .slice none 0 0] 25)).heap[w.heap.size]? = some (.cells #[.int .i64 t, .slice A1 ds.length c1, .slice A2 es.length c2] 25) := kA (kA (heap_alloc_new w _) _) _
 have hX : (((w.alloc (.cells #[.int .i64 t, .slice A1 ds.length c1, .slice A2 es.length c2] 25)).alloc (.cells #[.int .i64 x.f0, .int .i64 x.f1, .int .i64 x.f2.f0, .int .i64 x.f2.f1, .bool x.f3] 38)).alloc (.cells #[.int .i64 0, .slice none 0 0, .slice none 0 0] 25)).heap[w.heap.size + 1]? = some (.cells #[.int .i64 x.f0, .int .i64 x.f1, .int .i64 x.f2.f0, .int .i64 x.f2.f1, .bool x.f3] 38) := newC w _ _ _
 have hZ : (((w.alloc (.cells #[.int .i64 t, .slice A1 ds.length c1, .slice A2 es.length c2] 25)).alloc (.cells #[.int .i64 x.f0, .int .i64 x.f1, .int .i64 x.f2.f0, .int .i64 x.f2.f1, .bool x.f3] 38)).alloc (.cells #[.int .i64 0, .slice none 0 0, .slice none 0 0] 25)).heap[w.heap.size + 1 + 1]? = some (.cells #[.int .i64 0, .slice none 0 0, .slice none 0 0] 25) := newD w _ _ _
 have hB : Below w.heap.size w (((w.alloc (.cells #[.int .i64 t, .slice A1 ds.length c1, .slice A2 es.length c2] 25)).alloc (.cells #[.int .i64 x.f0, .int .i64 x.f1, .int .i64 x.f2.f0, .int .i64 x.f2.f1, .bool x.f3] 38)).alloc (.cells #[.int .i64 0, .slice none 0 0, .slice none 0 0] 25)) := bA (bA (bA (Below.refl _ _) _) _) _
 have hz : w.heap.size ≤ w.heap.size + 1 + 1 := by omega
 obtain ⟨⟨x0, x1, x2⟩, xl, _, _, _⟩ := c3_of hA
 go_enter Tryz.func20, Tryz.ntmps20
 go_wp2_with (first
  | (go_at_call 16; refine (HK.out _ hB).mono ?_; rintro e w1 ⟨rfl, hb⟩; clear x0 x1 x2 xl; (replace hA := kB hA hb); (replace hX := kB hX hb); (replace hZ := kB hZ hb); (replace hB := bS hB hb); (obtain ⟨⟨x0, x1, x2⟩, xl, xf0, xf1, xf2⟩ := c3_of hA); clear hb)
  | (go_at_call 56; refine (HE.out _ hB).mono ?_; rintro e w2 ⟨rfl, hb⟩; clear x0 x1 x2 xl; (replace hA := kB hA hb); (replace hX := kB hX hb); (replace hZ := kB hZ hb); (replace hB := bS hB hb); (obtain ⟨⟨v0, v1, v2, v3, v4⟩, vl, _, _, _, _, _⟩ := rc5 hX); clear hb)
  | (go_at_call 50; refine (HV.out _).mono ?_; rintro e w3 ⟨rfl, hb⟩; clear v0 v1 v2 v3 v4 vl; (replace hA := kB hA hb); (replace hX := kB hX hb); (replace hZ := kB hZ hb); (replace hB := bS hB hb); (obtain ⟨⟨z0, z1, z2⟩, zl, zf0, zf1, zf2⟩ := c3_of hZ); clear hb))
 refine bodyPost_ret (v := .tuple #[.agg #[.int .i64 0, .slice none 0 0, .slice none 0 0], .int .i64 1]) (by clear hZ hA hX; simp [results, Tryz.results20, go_sem, z0, z1, z2, zl]) rfl ⟨rfl, below_set3 hB hz⟩
theorem rset_no4 (t : Int) (A1 A2 A3 : Option Addr) (c1 c2 c3 n3 : Nat) (ds : List S54) (es : List S38) (x : S38) (w : World) (HK : Hid (∀ W, Below w.heap.size w W → Calls Tryz.prog 16 #[.agg #[.int .i64 t, .slice A1 ds.length c1, .slice A2 es.length c2]] W (Bq true W))) (HE : Hid (∀ W, Below w.heap.size w W → Calls Tryz.prog 56 #[.slice A1 ds.length c1, .slice A3 n3 c3] W (AI 0 W))) (HV : Hid (∀ W, Calls Tryz.prog 50 #[.agg #[.int .i64 x.f0, .int .i64 x.f1, .int .i64 x.f2.f0, .int .i64 x.f2.f1, .bool x.f3]] W (Bq true W))) (y : S38) (v : Int) (hv : v ≠ 0) (HC : Hid (∀ W, Calls Tryz.prog 43 #[.int .i64 t, .agg #[.int .i64 x.f0, .int .i64 x.f1, .int .i64 x.f2.f0, .int .i64 x.f2.f1, .bool x.f3]] W (VE y v W))) : Calls Tryz.prog 20 #[.agg #[.int .i64 t, .slice A1 ds.length c1, .slice A2 es.length c2], .slice A3 n3 c3, .agg #[.int .i64 x.f0, .int .i64 x.f1, .int .i64 x.f2.f0, .int .i64 x.f2.f1, .bool x.f3]] w (ResizeNo v w) := by
 have vb : (v != 0) = true := by simpa using hv
 clear hv
 have hA : (((w.alloc (.cells #[.int .i64 t, .slice A1 ds.length c1, .slice A2 es.length c2] 25)).alloc (.cells #[.int .i64 x.f0, .int .i64 x.f1, .int .i64 x.f2.f0, .int .i64 x.f2.f1, .bool x.f3] 38)).alloc (.cells #[.int .i64 0, .slice none 0 0, .slice none 0 0] 25)).heap[w.heap.size]? = some (.cells #[.int .i64 t, .slice A1 ds.length c1, .slice A2 es.length c2] 25) := kA (kA (heap_alloc_new w _) _) _
 have hX : (((w.alloc (.cells #[.int .i64 t, .slice A1 ds.length c1, .slice A2 es.length c2] 25)).alloc (.cells #[.int .i64 x.f0, .int .i64 x.f1, .int .i64 x.f2.f0, .int .i64 x.f2.f1, .bool x.f3] 38)).alloc (.cells #[.int .i64 0, .slice none 0 0, .slice none 0 0] 25)).heap[w.heap.size + 1]? = some (.cells #[.int .i64 x.f0, .int .i64 x.f1, .int .i64 x.f2.f0, .int .i64 x.f2.f1, .bool x.f3] 38) := newC w _ _ _
 have hZ : (((w.alloc (.cells #[.int .i64 t, .slice A1 ds.length c1, .slice A2 es.length c2] 25)).alloc (.cells #[.int .i64 x.f0, .int .i64 x.f1, .int .i64 x.f2.f0, .int .i64 x.f2.f1, .bool x.f3] 38)).alloc (.cells #[.int .i64 0, .slice none 0 0, .slice none 0 0] 25)).heap[w.heap.size + 1 + 1]? = some (.cells #[.int .i64 0, .slice none 0 0, .slice none 0 0] 25) := newD w _ _ _
 have hB : Below w.heap.size w (((w.alloc (.cells #[.int .i64 t, .slice A1 ds.length c1, .slice A2 es.length c2] 25)).alloc (.cells #[.int .i64 x.f0, .int .i64 x.f1, .int .i64 x.f2.f0, .int .i64 x.f2.f1, .bool x.f3] 38)).alloc (.cells #[.int .i64 0, .slice none 0 0, .slice none 0 0] 25)) := bA (bA (bA (Below.refl _ _) _) _) _
 have hz : w.heap.size ≤ w.heap.size + 1 + 1 := by omega
 obtain ⟨⟨x0, x1, x2⟩, xl, _, _, _⟩ := c3_of hA
 go_enter Tryz.func20, Tryz.ntmps20
 go_upto_region 9 with (first
  | (go_at_call 16; refine (HK.out _ hB).mono ?_; rintro e w1 ⟨rfl, hb⟩; clear x0 x1 x2 xl; (replace hA := kB hA hb); (replace hX := kB hX hb); (replace hZ := kB hZ hb); (replace hB := bS hB hb); (obtain ⟨⟨x0, x1, x2⟩, xl, xf0, xf1, xf2⟩ := c3_of hA); clear hb)
  | (go_at_call 56; refine (HE.out _ hB).mono ?_; rintro e w2 ⟨rfl, hb⟩; clear x0 x1 x2 xl; (replace hA := kB hA hb); (replace hX := kB hX hb); (replace hZ := kB hZ hb); (replace hB := bS hB hb); (obtain ⟨⟨v0, v1, v2, v3, v4⟩, vl, _, _, _, _, _⟩ := rc5 hX); clear hb)
  | (go_at_call 50; refine (HV.out _).mono ?_; rintro e w3 ⟨rfl, hb⟩; clear v0 v1 v2 v3 v4 vl; (replace hA := kB hA hb); (replace hX := kB hX hb); (replace hZ := kB hZ hb); (replace hB := bS hB hb); (obtain ⟨⟨x0, x1, x2⟩, xl, xf0, xf1, xf2⟩ := c3_of hA); (obtain ⟨⟨v0, v1, v2, v3, v4⟩, vl, _, _, _, _, _⟩ := rc5 hX); clear hb)
  | (go_at_call 43; refine (HC.out _).mono ?_; rintro e w4 ⟨rfl, hb⟩; clear x0 x1 x2 xl v0 v1 v2 v3 v4 vl; (replace hA := kB hA hb); (replace hX := kB hX hb); (replace hZ := kB hZ hb); (replace hB := bS hB hb); skip; clear hb))
 replace hZ := kA hZ (.cells #[.int .i64 y.f0, .int .i64 y.f1, .int .i64 y.f2.f0, .int .i64 y.f2.f1, .bool y.f3] 38)
 replace hB := bA hB (.cells #[.int .i64 y.f0, .int .i64 y.f1, .int .i64 y.f2.f0, .int .i64 y.f2.f1, .bool y.f3] 38)
 obtain ⟨⟨z0, z1, z2⟩, zl, zf0, zf1, zf2⟩ := c3_of hZ
 generalize w4.alloc (.cells #[.int .i64 y.f0, .int .i64 y.f1, .int .i64 y.f2.f0, .int .i64 y.f2.f1, .bool y.f3] 38) = w5 at *
 go_wp2
 refine bodyPost_ret (v := .tuple #[.agg #[.int .i64 0, .slice none 0 0, .slice none 0 0], .int .i64 v]) (by clear hZ hA hX; simp [results, Tryz.results20, go_sem, z0, z1, z2, zl]) rfl ⟨rfl, below_set3 hB hz⟩
theorem isTy_of2 {k : Int} : isTy k = true ↔ k = 1 ∨ k = 2 ∨ k = 3 := by simp [isTy]; omega
def stT : Bool × List (List Nat × List Nat) := (true, [([], []), ([0], [0]), ([], []), ([2], [2]), ([], []), ([3, 4], [3, 4]), ([], []), ([1, 5, 0, 1, 2, 3, 4, 5, 6], [1, 5]), ([7, 6, 5, 0, 1, 2, 3, 4, 5, 6], [6, 7])])
def stB : List Nat := [0, 1, 0, 4, 0, 28, 0, 127, 255]
theorem st_tab : rtab .any (opsOf Tryz.f20 12) = stT := by kernel_rfl
theorem st_bits : waitsOk stT.2 stB = true := by kernel_rfl
theorem rset_ok (t : Int) (A1 A2 A3 : Option Addr) (c1 c2 c3 n3 : Nat) (ds : List S54) (es : List S38) (x : S38) (w : World) (HK : Hid (∀ W, Below w.heap.size w W → Calls Tryz.prog 16 #[.agg #[.int .i64 t, .slice A1 ds.length c1, .slice A2 es.length c2]] W (Bq true W))) (HE : Hid (∀ W, Below w.heap.size w W → Calls Tryz.prog 56 #[.slice A1 ds.length c1, .slice A3 n3 c3] W (AI 0 W))) (HV : Hid (∀ W, Calls Tryz.prog 50 #[.agg #[.int .i64 x.f0, .int .i64 x.f1, .int .i64 x.f2.f0, .int .i64 x.f2.f1, .bool x.f3]] W (Bq true W))) (y : S38) (HC : Hid (∀ W, Calls Tryz.prog 43 #[.int .i64 t, .agg #[.int .i64 x.f0, .int .i64 x.f1, .int .i64 x.f2.f0, .int .i64 x.f2.f1, .bool x.f3]] W (VE y 0 W))) (R1 : Hid (Kd.C k54 w A1 ds.length ds)) (hc1 : ds.length ≤ c1) (R2 : Hid (Kd.C k38 w A2 es.length es)) (hl : es.length ≤ 1000000) (q : Int) (h0 : 0 ≤ q) (h1 : q < es.length) (HP : Hid (∀ W, Below w.heap.size w W → Calls Tryz.prog 41 #[.slice A1 ds.length c1, .slice A3 n3 c3] W (AI q W))) : Calls Tryz.prog 20 #[.agg #[.int .i64 t, .slice A1 ds.length c1, .slice A2 es.length c2], .slice A3 n3 c3, .agg #[.int .i64 x.f0, .int .i64 x.f1, .int .i64 x.f2.f0, .int .i64 x.f2.f1, .bool x.f3]] w (UP (0, t, ds, es.set q.toNat y) w) := by
 have hpos : 0 < es.length := by omega
 have hA : (((w.alloc (.cells #[.int .i64 t, .slice A1 ds.length c1, .slice A2 es.length c2] 25)).alloc (.cells #[.int .i64 x.f0, .int .i64 x.f1, .int .i64 x.f2.f0, .int .i64 x.f2.f1, .bool x.f3] 38)).alloc (.cells #[.int .i64 0, .slice none 0 0, .slice none 0 0] 25)).heap[w.heap.size]? = some (.cells #[.int .i64 t, .slice A1 ds.length c1, .slice A2 es.length c2] 25) := kA (kA (heap_alloc_new w _) _) _
 have hX : (((w.alloc (.cells #[.int .i64 t, .slice A1 ds.length c1, .slice A2 es.length c2] 25)).alloc (.cells #[.int .i64 x.f0, .int .i64 x.f1, .int .i64 x.f2.f0, .int .i64 x.f2.f1, .bool x.f3] 38)).alloc (.cells #[.int .i64 0, .slice none 0 0, .slice none 0 0] 25)).heap[w.heap.size + 1]? = some (.cells #[.int .i64 x.f0, .int .i64 x.f1, .int .i64 x.f2.f0, .int .i64 x.f2.f1, .bool x.f3] 38) := newC w _ _ _
 have hZ : (((w.alloc (.cells #[.int .i64 t, .slice A1 ds.length c1, .slice A2 es.length c2] 25)).alloc (.cells #[.int .i64 x.f0, .int .i64 x.f1, .int .i64 x.f2.f0, .int .i64 x.f2.f1, .bool x.f3] 38)).alloc (.cells #[.int .i64 0, .slice none 0 0, .slice none 0 0] 25)).heap[w.heap.size + 1 + 1]? = some (.cells #[.int .i64 0, .slice none 0 0, .slice none 0 0] 25) := newD w _ _ _
 have hB : Below w.heap.size w (((w.alloc (.cells #[.int .i64 t, .slice A1 ds.length c1, .slice A2 es.length c2] 25)).alloc (.cells #[.int .i64 x.f0, .int .i64 x.f1, .int .i64 x.f2.f0, .int .i64 x.f2.f1, .bool x.f3] 38)).alloc (.cells #[.int .i64 0, .slice none 0 0, .slice none 0 0] 25)) := bA (bA (bA (Below.refl _ _) _) _) _
 have hz : w.heap.size ≤ w.heap.size + 1 + 1 := by omega
 obtain ⟨⟨x0, x1, x2⟩, xl, _, _, _⟩ := c3_of hA
 go_enter Tryz.func20, Tryz.ntmps20
 go_upto_region 9 with (first
  | (go_at_call 16; refine (HK.out _ hB).mono ?_; rintro e w1 ⟨rfl, hb⟩; clear x0 x1 x2 xl; (replace hA := kB hA hb); (replace hX := kB hX hb); (replace hZ := kB hZ hb); (replace hB := bS hB hb); (obtain ⟨⟨x0, x1, x2⟩, xl, xf0, xf1, xf2⟩ := c3_of hA); clear hb)
  | (go_at_call 56; refine (HE.out _ hB).mono ?_; rintro e w2 ⟨rfl, hb⟩; clear x0 x1 x2 xl; (replace hA := kB hA hb); (replace hX := kB hX hb); (replace hZ := kB hZ hb); (replace hB := bS hB hb); (obtain ⟨⟨v0, v1, v2, v3, v4⟩, vl, _, _, _, _, _⟩ := rc5 hX); clear hb)
  | (go_at_call 50; refine (HV.out _).mono ?_; rintro e w3 ⟨rfl, hb⟩; clear v0 v1 v2 v3 v4 vl; (replace hA := kB hA hb); (replace hX := kB hX hb); (replace hZ := kB hZ hb); (replace hB := bS hB hb); (obtain ⟨⟨x0, x1, x2⟩, xl, xf0, xf1, xf2⟩ := c3_of hA); (obtain ⟨⟨v0, v1, v2, v3, v4⟩, vl, _, _, _, _, _⟩ := rc5 hX); clear hb)
  | (go_at_call 43; refine (HC.out _).mono ?_; rintro e w4 ⟨rfl, hb⟩; clear x0 x1 x2 xl v0 v1 v2 v3 v4 vl; (replace hA := kB hA hb); (replace hX := kB hX hb); (replace hZ := kB hZ hb); (replace hB := bS hB hb); skip; clear hb))
 have hY := heap_alloc_new w4 (.cells #[.int .i64 y.f0, .int .i64 y.f1, .int .i64 y.f2.f0, .int .i64 y.f2.f1, .bool y.f3] 38)
 have hEw : w4.heap.size ≠ w.heap.size := Nat.ne_of_gt (blk_lt hA)
 have hEz : w.heap.size + 1 + 1 ≠ w.heap.size := by omega
 replace hA := kA hA (.cells #[.int .i64 y.f0, .int .i64 y.f1, .int .i64 y.f2.f0, .int .i64 y.f2.f1, .bool y.f3] 38)
 replace hZ := kA hZ (.cells #[.int .i64 y.f0, .int .i64 y.f1, .int .i64 y.f2.f0, .int .i64 y.f2.f1, .bool y.f3] 38)
 replace hB := bA hB (.cells #[.int .i64 y.f0, .int .i64 y.f1, .int .i64 y.f2.f0, .int .i64 y.f2.f1, .bool y.f3] 38)
 clear hX HK HE HV HC
 obtain ⟨⟨x0, x1, x2⟩, xl, xf0, xf1, xf2⟩ := c3_of hA
 generalize w4.alloc (.cells #[.int .i64 y.f0, .int .i64 y.f1, .int .i64 y.f2.f0, .int .i64 y.f2.f1, .bool y.f3] 38) = w9 at *
 generalize w4.heap.size = E at *
 go_upto_region 12 with (first
  | ((with_reducible refine gD (N := 38) rfl ?_); refine Kd.R_lit k38 _ 38 ?hg (N := 38) ?hd (xs := ([] : List S38)) (inner := []) (ok := fun _ => True) (okp := fun _ => True) ?hr ?hp (fun _ hk => hk) trivial (Below.refl _ _) (Nat.le_refl _) (by simp) ?_; (case hd => rfl); (case hg => rfl); (case hr => first | (go_simp; done) | (go_simp; rfl)); (case hp => exact (Reps.none _ _)); intro v38 w11 ho hb hg_ hnew_; clear hg_ hnew_ x0 x1 x2 xl xf0 xf1 xf2; (have HO := Lib.hid ho); (have H9 := Lib.hid hb); (obtain ⟨⟨x0, x1, x2⟩, xl, xf0, xf1, xf2⟩ := c3_of (kB hA hb)); clear ho hb)
  | ((with_reducible refine gB (b := .append) (xs := #[.tmp 38, .tmp 40]) rfl ?_); at_builtin; refine Kd.R_append_rows k38 (w0 := w9) w9.heap.size rfl (.tmp 38) (.tmp 40) 23 38 (.agg #[(.int .i64 0), (.int .i64 0), (.int .i64 0), (.int .i64 0), (.bool false)]) 40 rfl Tryz.underlying23 info38 rfl (by decide) (by omega) v38 [] es _ _ _ (fun _ => True) (fun _ => False) rfl rfl ?aO ?aR (fun _ _ h => h) (fun _ h => h.elim) ?aF ?aB ?aS ?aL ?_; (case aR => exact Kd.C_below R2.out (bS hB H9.out)); (case aB => exact H9.out); (case aF => exact (fun _ _ => trivial)); (case aO => exact HO.out); (case aS => exact H9.out.size); (case aL => simp; omega); intro v1 w13 ho hb hg hat; clear HO H9 x0 x1 x2 xl xf0 xf1 xf2 hg hat; rw [List.nil_append] at ho; (obtain ⟨go, e2, hv, hgo1, hgo2, cgo, hgo3⟩ := Kd.R_form ho hpos); subst hv; (have HO := Lib.hid (Kd.R_lower ho (bZ hB))); (replace hA := kB hA hb); (replace hZ := kB hZ hb); (replace hY := kB hY hb); (replace hB := bS hB hb); clear ho hb hgo1 hgo2 hgo3; (obtain ⟨⟨x0, x1, x2⟩, xl, xf0, xf1, xf2⟩ := c3_of hA)))
 clear x0 x1 x2 xl xf0 xf1 xf2
 replace HO := Lib.hid (Kd.R_set HO.out hA (by decide) 2 (.slice (some ⟨go, 0, none⟩) es.length e2))
 replace hA := kP hA 2 (.slice (some ⟨go, 0, none⟩) es.length e2) rfl
 replace hZ := blk_far (p := ⟨w.heap.size, 2, none⟩) hZ hEz (.slice (some ⟨go, 0, none⟩) es.length e2)
 replace hY := blk_far (p := ⟨w.heap.size, 2, none⟩) hY hEw (.slice (some ⟨go, 0, none⟩) es.length e2)
 replace hB := bT (g := w.heap.size) (j := 2) (v := .slice (some ⟨go, 0, none⟩) es.length e2) hB (Nat.le_refl _)
 generalize w13.setCell ⟨w.heap.size, 2, none⟩ (.slice (some ⟨go, 0, none⟩) es.length e2) = w14 at *
 replace hA : w14.heap[w.heap.size]? = some (.cells #[.int .i64 t, .slice A1 ds.length c1, .slice (some ⟨go, 0, none⟩) es.length e2] 25) := hA
 have p1 := eq_true h0
 have q1 := eq_true h1
 refine start_ (n := 9) (S := fun w' => w'.cell? ⟨w.heap.size, 0, none⟩ = some (.int .i64 t) ∧ w'.cell? ⟨w.heap.size, 1, none⟩ = some (.slice A1 ds.length c1) ∧ w'.cell? ⟨w.heap.size, 2, none⟩ = some (.slice (some ⟨go, 0, none⟩) es.length e2) ∧ w'.cell? ⟨E, 0, none⟩ = some (.int .i64 y.f0) ∧ w'.cell? ⟨E, 1, none⟩ = some (.int .i64 y.f1) ∧ w'.cell? ⟨E, 2, none⟩ = some (.int .i64 y.f2.f0) ∧ w'.cell? ⟨E, 3, none⟩ = some (.int .i64 y.f2.f1) ∧ w'.cell? ⟨E, 4, none⟩ = some (.bool y.f3)) (ds := [8]) (lq 9 0) (by kernel_rfl) rfl (by kernel_rfl) ⟨(c3_of (kD hA)).1.1, (c3_of (kD hA)).1.2.1, (c3_of (kD hA)).1.2.2, (rc5 (kD hY)).1.1, (rc5 (kD hY)).1.2.1, (rc5 (kD hY)).1.2.2.1, (rc5 (kD hY)).1.2.2.2.1, (rc5 (kD hY)).1.2.2.2.2⟩ (fun hHeld => ?_); refine with_tabW st_tab st_bits (fun HT_ HW_ => ?_)
 refine pv 0 43 9 1 HT_ ?_
 refine pv 2 45 9 5 HT_ ?_
 refine pv 4 47 9 21 HT_ ?_
 refine tv 1 44 9 23 HT_ HW_ hHeld ?_
 refine tv 3 46 9 31 HT_ HW_ hHeld ?_
 refine tv 6 49 9 95 HT_ HW_ hHeld ?_
 refine one_ (i := 5) (N := some 48) (lq 9 127) rfl rfl (one_of HT_.out (by kernel_rfl)) (by decide) (fun K hK => ?_)
 refine gs Tryz.func41 #[.slice A1 ds.length c1, .slice A3 n3 c3] ?_
 refine (HP.out _ (below_drew hB)).mono ?_
 rintro e w15 ⟨rfl, hb⟩
 replace hA := kB (kD hA) hb
 replace hZ := kB (kD hZ) hb
 replace hY := kB (kD hY) hb
 replace HO := Lib.hid (Kd.R_below (Kd.R_drew HO.out) hb)
 replace hB := bS (below_drew hB) hb
 clear hb
 obtain ⟨ce, hcl, hM, hcc, hfr⟩ := Kd.R_elem HO.out z38 q h0 h1
 obtain rfl := k38_openM hM
 have r0 : World.cell? _ ⟨go, q.toNat * 5, none⟩ = _ := hcc 0 _ rfl
 have r1 : World.cell? _ ⟨go, q.toNat * 5 + 1, none⟩ = _ := hcc 1 _ rfl
 have r2 : World.cell? _ ⟨go, q.toNat * 5 + 2, none⟩ = _ := hcc 2 _ rfl
 have r3 : World.cell? _ ⟨go, q.toNat * 5 + 3, none⟩ = _ := hcc 3 _ rfl
 have r4 : World.cell? _ ⟨go, q.toNat * 5 + 4, none⟩ = _ := hcc 4 _ rfl
 have f0 : World.frozen? _ ⟨go, q.toNat * 5, none⟩ = false := hfr 0
 have f1 : World.frozen? _ ⟨go, q.toNat * 5 + 1, none⟩ = false := hfr 1
 have f2 : World.frozen? _ ⟨go, q.toNat * 5 + 2, none⟩ = false := hfr 2
 have f3 : World.frozen? _ ⟨go, q.toNat * 5 + 3, none⟩ = false := hfr 3
 have f4 : World.frozen? _ ⟨go, q.toNat * 5 + 4, none⟩ = false := hfr 4
 obtain ⟨HP2, hg⟩ := Kd.R_seg HO.out q h0 h1 (seg := [.int .i64 y.f0, .int .i64 y.f1, .int .i64 y.f2.f0, .int .i64 y.f2.f1, .bool y.f3]) (j := 0) hcl hcc (show 5 ≤ 5 from by decide) (x' := y) (k38_mkM _ _ _ y) (fun _ hk => hk)
 clear hcl hcc hfr hM
 refine ⟨_, rfl, hK.out _ _ ⟨(c3_of hA).1.1, (c3_of hA).1.2.1, (c3_of hA).1.2.2, (rc5 hY).1.1, (rc5 hY).1.2.1, (rc5 hY).1.2.2.1, (rc5 hY).1.2.2.2.1, (rc5 hY).1.2.2.2.2⟩ (fun hHeld => ?_)⟩; clear hK K
 refine ng 48 ?_
 refine pv 7 50 9 255 HT_ ?_
 refine last_ (i := 8) (N := none) (lq 9 511) rfl rfl (one_of HT_.out (by kernel_rfl)) (by decide) (fun K hK => ?_)
 refine skip_ (w1 := ?_) (by rfl) rfl ?_ ?_
 rotate_left
 ·go_simp
  rfl
 refine hK.out _ _ ?_
 clear hK K
 refine done_ (done_of HT_.out (by kernel_rfl)) ?_
 clear HT_ HW_ hHeld r0 r1 r2 r3 r4 f0 f1 f2 f3 f4 hY p1 q1
 have hgb := Kd.R_base HO.out go rfl
 replace hB : Below w.heap.size w (((((w15.setCell ⟨go, q.toNat * 5, none⟩ (.int .i64 y.f0)).setCell ⟨go, q.toNat * 5 + 1, none⟩ (.int .i64 y.f1)).setCell ⟨go, q.toNat * 5 + 2, none⟩ (.int .i64 y.f2.f0)).setCell ⟨go, q.toNat * 5 + 3, none⟩ (.int .i64 y.f2.f1)).setCell ⟨go, q.toNat * 5 + 4, none⟩ (.bool y.f3)) := bT (bT (bT (bT (bT hB hgb) hgb) hgb) hgb) hgb
 replace hA : (((((w15.setCell ⟨go, q.toNat * 5, none⟩ (.int .i64 y.f0)).setCell ⟨go, q.toNat * 5 + 1, none⟩ (.int .i64 y.f1)).setCell ⟨go, q.toNat * 5 + 2, none⟩ (.int .i64 y.f2.f0)).setCell ⟨go, q.toNat * 5 + 3, none⟩ (.int .i64 y.f2.f1)).setCell ⟨go, q.toNat * 5 + 4, none⟩ (.bool y.f3)).heap[w.heap.size]? = some (.cells #[.int .i64 t, .slice A1 ds.length c1, .slice (some ⟨go, 0, none⟩) es.length e2] 25) := blk_grown hA hg (Kd.R_ne HO.out hA (by decide))
 replace hZ : (((((w15.setCell ⟨go, q.toNat * 5, none⟩ (.int .i64 y.f0)).setCell ⟨go, q.toNat * 5 + 1, none⟩ (.int .i64 y.f1)).setCell ⟨go, q.toNat * 5 + 2, none⟩ (.int .i64 y.f2.f0)).setCell ⟨go, q.toNat * 5 + 3, none⟩ (.int .i64 y.f2.f1)).setCell ⟨go, q.toNat * 5 + 4, none⟩ (.bool y.f3)).heap[w.heap.size + 1 + 1]? = some (.cells #[.int .i64 0, .slice none 0 0, .slice none 0 0] 25) := blk_grown hZ hg (Kd.R_ne HO.out hZ (by decide))
 replace HO : Hid (Kd.R k38 38 (((((w15.setCell ⟨go, q.toNat * 5, none⟩ (.int .i64 y.f0)).setCell ⟨go, q.toNat * 5 + 1, none⟩ (.int .i64 y.f1)).setCell ⟨go, q.toNat * 5 + 2, none⟩ (.int .i64 y.f2.f0)).setCell ⟨go, q.toNat * 5 + 3, none⟩ (.int .i64 y.f2.f1)).setCell ⟨go, q.toNat * 5 + 4, none⟩ (.bool y.f3)) w.heap.size (fun _ => True) (.slice (some ⟨go, 0, none⟩) es.length e2) (es.set q.toNat y)) := Lib.hid HP2
 clear HP2 hg
 generalize (((((w15.setCell ⟨go, q.toNat * 5, none⟩ (.int .i64 y.f0)).setCell ⟨go, q.toNat * 5 + 1, none⟩ (.int .i64 y.f1)).setCell ⟨go, q.toNat * 5 + 2, none⟩ (.int .i64 y.f2.f0)).setCell ⟨go, q.toNat * 5 + 3, none⟩ (.int .i64 y.f2.f1)).setCell ⟨go, q.toNat * 5 + 4, none⟩ (.bool y.f3)) = w16 at *
 obtain ⟨⟨x0, x1, x2⟩, xl, xf0, xf1, xf2⟩ := c3_of hA
 obtain ⟨⟨z0, z1, z2⟩, zl, zf0, zf1, zf2⟩ := c3_of hZ
 go_wp2
 have hBf := below_set3 (x0 := .int .i64 t) (x1 := .slice A1 ds.length c1) (x2 := .slice (some ⟨go, 0, none⟩) es.length e2) hB hz
 obtain ⟨g1, g2, g3⟩ := Kd.R_reads' (s3_R (x := .int .i64 t) (y := .slice A1 ds.length c1) (z := .slice (some ⟨go, 0, none⟩) es.length e2) HO.out hZ (by decide))
 refine bodyPost_ret (v := .tuple #[.agg #[.int .i64 t, .slice A1 ds.length c1, .slice (some ⟨go, 0, none⟩) es.length e2], .int .i64 0]) (by clear hZ hA; simp [results, Tryz.results20, go_sem, z0, z1, z2, zl]) rfl ⟨A1, ds.length, c1, some ⟨go, 0, none⟩, es.length, e2, rfl, ⟨Kd.C_below R1.out hBf, hc1, ?_, g2⟩, hBf⟩
 rw [← g1] at g3
 exact g3
theorem cvF_bad {t : Int} {x : S38} (h : (cvF t x).2 ≠ 0) : (cvF t x).1 = zv := by
 unfold cvF at h ⊢
 split
 ·rename_i g; rw [if_pos g] at h; exact absurd rfl h
 ·rename_i g
  rw [if_neg g] at h
  split
  ·rfl
  ·rename_i g2
   rw [if_neg g2] at h
   split
   ·rename_i g3; rw [if_pos g3] at h; exact absurd rfl h
   ·rename_i g3
    rw [if_neg g3] at h
    split
    ·rename_i g4; rw [if_pos g4] at h; exact absurd rfl h
    ·rfl
/-- Set, on both sides -/
theorem st_both (t : Int) (ds : List S54) (es : List S38) (ks : List Int) (x : S38) (h6 : ∀ x ∈ es, I6 x.f2.f0) (hx6 : I6 x.f2.f0) (hl : es.length ≤ 1010) : ∃ p : Int × Int × List S54 × List S38, (p.2.2.1.length ≤ 1000 ∧ p.2.2.2.length ≤ 1000000) ∧ ∀ (A1 A2 A3 : Option Addr) (c1 c2 c3 n m n3 : Nat) (w : World), Arr w A1 n c1 ds A2 m c2 es → Kd.C (Kd.int .i64) w A3 n3 ks → n3 ≤ c3 → Calls Tryz.prog 15 #[.agg #[.int .i64 t, .slice A1 n c1, .slice A2 m c2], .slice A3 n3 c3, .agg #[.int .i64 x.f0, .int .i64 x.f1, .int .i64 x.f2.f0, .int .i64 x.f2.f1, .bool x.f3]] w (UP p w) ∧ Calls Tryz.prog 20 #[.agg #[.int .i64 t, .slice A1 n c1, .slice A2 m c2], .slice A3 n3 c3, .agg #[.int .i64 x.f0, .int .i64 x.f1, .int .i64 x.f2.f0, .int .i64 x.f2.f1, .bool x.f3]] w (UP p w) := by
 by_cases F : Fine t ds es
 ·have hp1 : ∀ d ∈ ds, 1 ≤ ext d := fun d hd => ((errOf_zero F.2.1).2.1.2.1 d hd).1
  have h4 := (errOf_zero F.2.1).2.2.2.2
  have HK : ∀ {A1 A2 : Option Addr} {c1 c2 n m : Nat} {w : World}, Arr w A1 n c1 ds A2 m c2 es → Hid (∀ W, Below w.heap.size w W → Calls Tryz.prog 16 #[.agg #[.int .i64 t, .slice A1 n c1, .slice A2 m c2]] W (Bq true W)) := fun hr => Lib.hid fun W hb => rck_yes F h6 _ _ _ _ _ _ W (hr.below hb) (by omega)
  have HE : ∀ {A1 A3 : Option Addr} {c1 c3 : Nat} {w : World}, Kd.C k54 w A1 ds.length ds → ds.length ≤ c1 → Kd.C (Kd.int .i64) w A3 ks.length ks → ks.length ≤ c3 → Hid (∀ W, Below w.heap.size w W → Calls Tryz.prog 56 #[.slice A1 ds.length c1, .slice A3 ks.length c3] W (AI (getE ds ks) W)) := fun h1 h2 h3 h4' => Lib.hid fun W hb => rchecked_w h4 ks _ _ _ _ W (Kd.C_below h1 hb) h2 (Kd.C_below h3 hb) h4'
  by_cases he : getE ds ks = 0
  ·have hb : inB ds ks = true := by
    unfold getE at he
    split at he
    ·split at he
     ·assumption
     ·cases he
    ·cases he
   obtain ⟨_, _, _, _, g0, g1⟩ := vAt_some hp1 F.2.2.1 hb
   rw [he] at HE
   have hv := fun W => vd_w x.f0 x.f1 x.f2.f0 x.f2.f1 x.f3 hx6.1 hx6.2 W
   have hq := vdB_eq (a := x.f0) (b := x.f1) (d := x.f2.f1) (f := x.f3) hx6.1 hx6.2
   cases hvd : vdB x.f0 x.f1 x.f2.f0 x.f2.f1 x.f3 with
   | false =>
    rw [hvd] at hv hq
    refine ⟨(1, 0, [], []), ⟨Nat.zero_le _, Nat.zero_le _⟩, fun A1 A2 A3 c1 c2 c3 n m n3 w hr h3 hc3 => ⟨(set_no2 F ks _ _ _ _ _ he hq A1 A2 A3 c1 c2 c3 n m n3 w hr h3 hc3).mono fun e w' h => up_no h, ?_⟩⟩
    obtain ⟨rfl, rfl⟩ := hr.len
    obtain rfl := h3.1
    exact (rset_no3 t A1 A2 A3 c1 c2 c3 _ ds es x w (HK hr) (HE hr.1 hr.2.1 h3 hc3) (Lib.hid hv)).mono fun e w' h => up_no h
   | true =>
    rw [hvd] at hv hq
    have ht3 := isTy_of2.1 F.1
    have hb0 : badF x.f0 x = some false := bad_of_valid hq
    have hcc := (cv_call t x.f0 x ht3 hb0).1
    have hcr : ∀ W, Calls Tryz.prog 43 #[.int .i64 t, .agg #[.int .i64 x.f0, .int .i64 x.f1, .int .i64 x.f2.f0, .int .i64 x.f2.f1, .bool x.f3]] W (VE (cvF t x).1 (cvF t x).2 W) := fun W => by
     have := rcv_w t x hx6.1 hx6.2 W
     unfold cvR at this
     rwa [if_pos ⟨by omega, hvd⟩] at this
    by_cases hc : (cvF t x).2 = 0
    ·rw [hc] at hcc hcr
     refine ⟨(0, t, ds, es.set (plc ds ks).toNat (cvF t x).1), ⟨by show ds.length ≤ _; omega, by show (es.set _ _).length ≤ _; simp; omega⟩, fun A1 A2 A3 c1 c2 c3 n m n3 w hr h3 hc3 => ⟨(set_ok F ks _ _ _ _ _ _ hb hq hcc A1 A2 A3 c1 c2 c3 n m n3 w hr h3 hc3).mono ?_, ?_⟩⟩
     ·rintro e w' ⟨B1, q1, B2, q2, rfl, hS, hb⟩
      exact ⟨_, _, _, _, _, _, rfl, hS, hb⟩
     ·obtain ⟨rfl, rfl⟩ := hr.len
      obtain rfl := h3.1
      exact rset_ok t A1 A2 A3 c1 c2 c3 _ ds es x w (HK hr) (HE hr.1 hr.2.1 h3 hc3) (Lib.hid hv) _ (Lib.hid hcr) (Lib.hid hr.1) hr.2.1 (Lib.hid hr.2.2.1) (by omega) _ g0 g1 (Lib.hid fun W hb2 => rplace_w F.2.1 ks hb A1 A3 c1 c3 W (Kd.C_below hr.1 hb2) hr.2.1 (Kd.C_below h3 hb2) hc3)
    ·have hz := cvF_bad hc
     rw [hz] at hcc hcr
     refine ⟨((cvF t x).2, 0, [], []), ⟨Nat.zero_le _, Nat.zero_le _⟩, fun A1 A2 A3 c1 c2 c3 n m n3 w hr h3 hc3 => ⟨(set_no3 F ks _ _ _ _ _ he hq _ hc hcc A1 A2 A3 c1 c2 c3 n m n3 w hr h3 hc3).mono fun e w' h => up_no h, ?_⟩⟩
     obtain ⟨rfl, rfl⟩ := hr.len
     obtain rfl := h3.1
     exact (rset_no4 t A1 A2 A3 c1 c2 c3 _ ds es x w (HK hr) (HE hr.1 hr.2.1 h3 hc3) (Lib.hid hv) _ _ hc (Lib.hid hcr)).mono fun e w' h => up_no h
  ·refine ⟨(getE ds ks, 0, [], []), ⟨Nat.zero_le _, Nat.zero_le _⟩, fun A1 A2 A3 c1 c2 c3 n m n3 w hr h3 hc3 => ⟨(set_no1 F ks _ _ _ _ _ he A1 A2 A3 c1 c2 c3 n m n3 w hr h3 hc3).mono fun e w' h => up_no h, ?_⟩⟩
   obtain ⟨rfl, rfl⟩ := hr.len
   obtain rfl := h3.1
   exact (rset_no2 t A1 A2 A3 c1 c2 c3 _ ds es x w (HK hr) _ he (HE hr.1 hr.2.1 h3 hc3)).mono fun e w' h => up_no h
 ·refine ⟨(1, 0, [], []), ⟨Nat.zero_le _, Nat.zero_le _⟩, fun A1 A2 A3 c1 c2 c3 n m n3 w hr h3 hc3 => ?_⟩
  obtain ⟨rfl, rfl⟩ := hr.len
  exact ⟨(aset_bad t A1 A2 A3 c1 c2 c3 n3 ds es x w (Lib.hid fun W hb => ck_no F _ _ _ _ _ _ W (hr.below hb))).mono fun e w' h => up_no h, (rset_no1 t A1 A2 A3 c1 c2 c3 n3 ds es x w (Lib.hid fun W hb => rck_not F h6 _ _ _ _ _ _ W (hr.below hb) (by omega))).mono fun e w' h => up_no h⟩
end Go.Proofs.Q
end
section
namespace Go.Proofs.Q
open RowKit Shelf Rf Pw Pl Pm
theorem eq5_ne {x y : S38} (h : x ≠ y) : (x.f0 == y.f0 && (x.f1 == y.f1 && ((x.f2.f0 == y.f2.f0 && (x.f2.f1 == y.f2.f1)) && (x.f3 == y.f3)))) = false := by
 rw [Bool.eq_false_iff]
 intro g
 simp only [Bool.and_eq_true, beq_iff_eq] at g
 obtain ⟨a, b, ⟨c, d⟩, f⟩ := x
 obtain ⟨a', b', ⟨c', d'⟩, f'⟩ := y
 simp only at g
 obtain ⟨rfl, rfl, ⟨rfl, rfl⟩, rfl⟩ := g
 exact h rfl
theorem val_ne_l (a b : List S38) (h4 : a.length ≤ 2000) (hl : a.length = b.length) : ∀ (r r' : List S38) (j : Nat), a.drop j = r → b.drop j = r' → r ≠ r' → Ev (fun k => api_Value_52.l0 k a b (a.length : Int) (j : Int)) false := by
 intro r
 induction r with
 | nil =>
  intro r' j h h' hne
  have h1 := List.drop_eq_nil_iff.1 h
  exact absurd (h' ▸ (List.drop_eq_nil_iff.2 (by omega)).symm) hne
 | cons d r ih =>
  intro r' j h h' hne
  have hj := lt_drop h
  cases r' with
  | nil => have := List.drop_eq_nil_iff.1 h'; omega
  | cons d' r' =>
   have c1 : (j : Int) < (a.length : Int) := by omega
   have c2 : (0 : Int) ≤ (j : Int) := by omega
   have c3 : (j : Int) < (b.length : Int) := by omega
   by_cases hd : d = d'
   ·subst hd
    refine Ev.succ (ih r' (j + 1) (drop_next h) (drop_next h') (fun e => hne (by rw [e]))) fun k => ?_
    simp only [api_Value_52.l0, if_pos c1, if_pos c2, if_pos c3, rdV_drop h, rdV_drop h', wrap_next (j := j) (by omega)]
    simp
   ·refine Ev.one fun k => ?_
    have h5 := eq5_ne hd
    simp only [api_Value_52.l0, if_pos c1, if_pos c2, if_pos c3, rdV_drop h, rdV_drop h']
    rw [if_pos]
    revert h5
    cases (d.f0 == d'.f0) <;> cases (d.f1 == d'.f1) <;> cases (d.f2.f0 == d'.f2.f0) <;> cases (d.f2.f1 == d'.f2.f1) <;> cases (d.f3 == d'.f3) <;> simp
/-- Same of two arrays whose dimensions, if both are valid, are alike -/
theorem sm_any (t t' : Int) (ds ds' : List S54) (es es' : List S38) (hds : Fine t ds es → Fine t' ds' es' → ds' = ds) : ∃ b, (b = true ↔ Fine t ds es ∧ Fine t' ds' es' ∧ t = t' ∧ es = es') ∧ ∀ (A1 A2 B1 B2 : Option Addr) (c1 c2 d1 d2 n m n' m' : Nat) (w : World), Arr w A1 n c1 ds A2 m c2 es → Arr w B1 n' d1 ds' B2 m' d2 es' →
  Calls Tryz.prog 17 #[.agg #[.int .i64 t, .slice A1 n c1, .slice A2 m c2], .agg #[.int .i64 t', .slice B1 n' d1, .slice B2 m' d2]] w (Bq b w) := by
 have key : ∀ b k, array_Same.f k t ds es t' ds' es' = some b → ∀ (A1 A2 B1 B2 : Option Addr) (c1 c2 d1 d2 n m n' m' : Nat) (w : World), Arr w A1 n c1 ds A2 m c2 es → Arr w B1 n' d1 ds' B2 m' d2 es' → Calls Tryz.prog 17 #[.agg #[.int .i64 t, .slice A1 n c1, .slice A2 m c2], .agg #[.int .i64 t', .slice B1 n' d1, .slice B2 m' d2]] w (Bq b w) := by
  intro b k hk A1 A2 B1 B2 c1 c2 d1 d2 n m n' m' w hr hr'
  obtain ⟨rfl, rfl⟩ := hr.len
  obtain ⟨rfl, rfl⟩ := hr'.len
  obtain ⟨r1, hc1, r2, hc2⟩ := hr
  obtain ⟨s1, hd1, s2, hd2⟩ := hr'
  exact array_Same.calls k t A1 c1 ds A2 c2 es t' B1 d1 ds' B2 d2 es' b w r1 hc1 r2 hc2 s1 hd1 s2 hd2 hk
 by_cases F : Fine t ds es
 ·by_cases F' : Fine t' ds' es'
  ·by_cases ht : t = t'
   ·obtain rfl := hds F F'
    subst ht
    have hle : es.length = es'.length := by have := F.2.2.1; have := F'.2.2.1; omega
    have hl2 : es.length ≤ 2000 := by have := (errOf_zero F.2.1).2.1.2.2; have := F.2.2.1; omega
    by_cases he : es = es'
    ·subst he
     obtain ⟨k, hk⟩ := same_self F
     exact ⟨true, ⟨fun _ => ⟨F, F', rfl, rfl⟩, fun _ => rfl⟩, key true k hk⟩
    ·refine ⟨false, ⟨fun h => by simp at h, fun h => absurd h.2.2.2 he⟩, ?_⟩
     obtain ⟨K1, h1⟩ := dim_same_l ds' (by have := (errOf_zero F.2.1).2.2.2.2; omega) ds' 0 rfl
     obtain ⟨K2, h2⟩ := val_ne_l es es' hl2 hle es es' 0 rfl rfl he
     have a1 : api_Dim_51.l0 (K1 + K2) ds' ds' (ds'.length : Int) 0 = some true := h1 _ (by omega)
     have a2 : api_Value_52.l0 (K1 + K2) es es' (es.length : Int) 0 = some false := h2 _ (by omega)
     have hle2 : (es.length : Int) = (es'.length : Int) := by omega
     refine key false (K1 + K2) ?_
     simp only [array_Same.f, array_Check.f, check_fine F, check_fine F', Option.bind_some, if_true, api_Dim_51.f, api_Value_52.f, a1, if_pos hle2, a2]
   ·refine ⟨false, ⟨fun h => by simp at h, fun h => absurd h.2.2.1 ht⟩, key false 0 ?_⟩
    simp only [array_Same.f, array_Check.f, check_fine F, check_fine F', Option.bind_some, if_true, if_neg ht]
  ·refine ⟨false, ⟨fun h => by simp at h, fun h => absurd h.2.1 F'⟩, key false 0 ?_⟩
   simp only [array_Same.f, array_Check.f, check_fine F, check_not F', Option.bind_some, if_true]
   rfl
 ·refine ⟨false, ⟨fun h => by simp at h, fun h => absurd h.1 F⟩, key false 0 ?_⟩
  simp only [array_Same.f, array_Check.f, check_not F, Option.bind_some]
  rfl
attribute [local go_sem high] eqA38
theorem requ_t (t t' : Int) (ds : List S54) (es es' : List S38) (A1 A2 B1 B2 : Option Addr) (c1 c2 d1 d2 : Nat) (w : World) (ht : t ≠ t') : Calls Tryz.prog 11 #[.agg #[.int .i64 t, .slice A1 ds.length c1, .slice A2 es.length c2], .agg #[.int .i64 t', .slice B1 ds.length d1, .slice B2 es'.length d2]] w (Bq false w) := by
 have hb : (t != t') = true := by simpa using ht
 clear ht
 have hA : ((w.alloc (.cells #[.int .i64 t, .slice A1 ds.length c1, .slice A2 es.length c2] 25)).alloc (.cells #[.int .i64 t', .slice B1 ds.length d1, .slice B2 es'.length d2] 25)).heap[w.heap.size]? = some (.cells #[.int .i64 t, .slice A1 ds.length c1, .slice A2 es.length c2] 25) := kA (heap_alloc_new w _) _
 have hC : ((w.alloc (.cells #[.int .i64 t, .slice A1 ds.length c1, .slice A2 es.length c2] 25)).alloc (.cells #[.int .i64 t', .slice B1 ds.length d1, .slice B2 es'.length d2] 25)).heap[w.heap.size + 1]? = some (.cells #[.int .i64 t', .slice B1 ds.length d1, .slice B2 es'.length d2] 25) := nB w _ _
 have hB : Below w.heap.size w ((w.alloc (.cells #[.int .i64 t, .slice A1 ds.length c1, .slice A2 es.length c2] 25)).alloc (.cells #[.int .i64 t', .slice B1 ds.length d1, .slice B2 es'.length d2] 25)) := bA (bA (Below.refl _ _) _) _
 obtain ⟨⟨x0, x1, x2⟩, xl, _, _, _⟩ := c3_of hA
 obtain ⟨⟨y0, y1, y2⟩, yl, _, _, _⟩ := c3_of hC
 go_enter Tryz.func11, Tryz.ntmps11
 go_wp2
 go_ret
 exact ⟨rfl, hB⟩
theorem requ_e (t : Int) (ds : List S54) (es es' : List S38) (A1 A2 B1 B2 : Option Addr) (c1 c2 d1 d2 : Nat) (w : World) (hd : ds.length ≤ 1000) (hl : es.length ≤ 1000000) (hll : es.length = es'.length) (HNE : Hid (es ≠ es')) (HD : Hid (∀ W, Below w.heap.size w W → Calls Tryz.prog 44 #[.slice A1 ds.length c1, .slice B1 ds.length d1] W (Bq true W))) (R2 : Hid (Kd.C k38 w A2 es.length es)) (G2 : Hid (Kd.C k38 w B2 es'.length es')) : Calls Tryz.prog 11 #[.agg #[.int .i64 t, .slice A1 ds.length c1, .slice A2 es.length c2], .agg #[.int .i64 t, .slice B1 ds.length d1, .slice B2 es'.length d2]] w (Bq false w) := by
 have HLL := Lib.hid hll
 rw [← hll] at G2 ⊢
 clear hll
 have hA : ((w.alloc (.cells #[.int .i64 t, .slice A1 ds.length c1, .slice A2 es.length c2] 25)).alloc (.cells #[.int .i64 t, .slice B1 ds.length d1, .slice B2 es.length d2] 25)).heap[w.heap.size]? = some (.cells #[.int .i64 t, .slice A1 ds.length c1, .slice A2 es.length c2] 25) := kA (heap_alloc_new w _) _
 have hC : ((w.alloc (.cells #[.int .i64 t, .slice A1 ds.length c1, .slice A2 es.length c2] 25)).alloc (.cells #[.int .i64 t, .slice B1 ds.length d1, .slice B2 es.length d2] 25)).heap[w.heap.size + 1]? = some (.cells #[.int .i64 t, .slice B1 ds.length d1, .slice B2 es.length d2] 25) := nB w _ _
 have hB : Below w.heap.size w ((w.alloc (.cells #[.int .i64 t, .slice A1 ds.length c1, .slice A2 es.length c2] 25)).alloc (.cells #[.int .i64 t, .slice B1 ds.length d1, .slice B2 es.length d2] 25)) := bA (bA (Below.refl _ _) _) _
 obtain ⟨⟨x0, x1, x2⟩, xl, _, _, _⟩ := c3_of hA
 obtain ⟨⟨y0, y1, y2⟩, yl, _, _, _⟩ := c3_of hC
 go_enter Tryz.func11, Tryz.ntmps11
 go_wp2_with (first
  | (go_at_call 44; refine (HD.out _ hB).mono ?_; rintro e w1 ⟨rfl, hb⟩; clear x0 x1 x2 y0 y1 y2 xl yl; (replace hA := kB hA hb); (replace hC := kB hC hb); (replace hB := bS hB hb); (obtain ⟨⟨x0, x1, x2⟩, xl, _, _, _⟩ := c3_of hA); (obtain ⟨⟨y0, y1, y2⟩, yl, _, _, _⟩ := c3_of hC); clear hb))
 have hX := Lib.hid (And.intro x2 y2)
 replace hB := Lib.hid hB
 clear x0 x1 x2 y0 y1 y2 xl yl hA hC HD
 go_loopw [5] (fun v wr => ∃ i : Int, v = .int .i64 i ∧ 0 ≤ i ∧ i ≤ (es.length : Int) ∧ Hid (es.drop i.toNat ≠ es'.drop i.toNat) ∧ Hid (wr.cell? ⟨w.heap.size, 2, none⟩ = some (.slice A2 es.length c2) ∧ wr.cell? ⟨w.heap.size + 1, 2, none⟩ = some (.slice B2 es.length d2)) ∧ Hid (Below w.heap.size w wr)) (fun v _ => ((es.length : Int) - intOf v).toNat)
 case atStart => exact ⟨0, rfl, by decide, by omega, HNE, hX, hB⟩
 case round =>
  clear hX hB HNE
  obtain ⟨i, rfl, h0, h1, HNE, HS, HB⟩ := hrel
  obtain ⟨x2, y2⟩ := HS.out
  by_cases hp : i < (es.length : Int)
  ·have hp2 : i < (es'.length : Int) := by have := HLL.out; omega
   have hne := HNE.out
   rw [drop_rd h0 hp, drop_rd h0 hp2] at hne
   obtain ⟨ad, rfl, hx0, hx1, hx2, hx3, hx4⟩ := at_T38 R2.out i h0 hp
   obtain ⟨bd, rfl, hy0, hy1, hy2, hy3, hy4⟩ := at_T38 G2.out i h0 hp
   clear hp2
   replace hx0 := (HB.out.cell (World.block_lt_of_cell? w _ hx0)).trans hx0
   replace hx1 := (HB.out.cell (World.block_lt_of_cell? w _ hx1)).trans hx1
   replace hx2 := (HB.out.cell (World.block_lt_of_cell? w _ hx2)).trans hx2
   replace hx3 := (HB.out.cell (World.block_lt_of_cell? w _ hx3)).trans hx3
   replace hx4 := (HB.out.cell (World.block_lt_of_cell? w _ hx4)).trans hx4
   replace hy0 := (HB.out.cell (World.block_lt_of_cell? w _ hy0)).trans hy0
   replace hy1 := (HB.out.cell (World.block_lt_of_cell? w _ hy1)).trans hy1
   replace hy2 := (HB.out.cell (World.block_lt_of_cell? w _ hy2)).trans hy2
   replace hy3 := (HB.out.cell (World.block_lt_of_cell? w _ hy3)).trans hy3
   replace hy4 := (HB.out.cell (World.block_lt_of_cell? w _ hy4)).trans hy4
   generalize rd_T38 es i = x at hx0 hx1 hx2 hx3 hx4 hne
   generalize rd_T38 es' i = y at hy0 hy1 hy2 hy3 hy4 hne
   have p0 := eq_true h0
   have q0 := eq_true hp
   by_cases hxy : x = y
   ·subst hxy
    have HNE2 : Hid (es.drop (i + 1).toNat ≠ es'.drop (i + 1).toNat) := Lib.hid fun e => hne (by rw [e])
    clear hne HNE
    go_wp2
    go_quiet (fail)
    go_wp2
    go_roundw
    case rel => exact ⟨i + 1, rfl, by omega, by omega, HNE2, HS, Lib.hid (bN HB.out _)⟩
    case measure => simp [intOf]; omega
   ·have h5 := eq5_ne hxy
    clear hne HNE hxy
    go_wp2
    go_quiet (fail)
    go_wp2
    go_ret
    exact ⟨rfl, bN HB.out _⟩
  ·exfalso
   refine HNE.out ?_
   have := HLL.out
   rw [List.drop_eq_nil_iff.2 (by omega), List.drop_eq_nil_iff.2 (by omega)]
/-- ref08.Equal of arrays with the same dimensions and lengths -/
theorem eq_any (t t' : Int) (ds : List S54) (es es' : List S38) (hd : ds.length ≤ 1000) (hl : es.length ≤ 1000000) (hll : es.length = es'.length) : ∃ b, (b = true ↔ t = t' ∧ es = es') ∧ ∀ (A1 A2 B1 B2 : Option Addr) (c1 c2 d1 d2 n m n' m' : Nat) (w : World), Arr w A1 n c1 ds A2 m c2 es → Arr w B1 n' d1 ds B2 m' d2 es' →
  Calls Tryz.prog 11 #[.agg #[.int .i64 t, .slice A1 n c1, .slice A2 m c2], .agg #[.int .i64 t', .slice B1 n' d1, .slice B2 m' d2]] w (Bq b w) := by
 by_cases ht : t = t'
 ·subst ht
  by_cases he : es = es'
  ·subst he
   exact ⟨true, ⟨fun _ => ⟨rfl, rfl⟩, fun _ => rfl⟩, fun A1 A2 B1 B2 c1 c2 d1 d2 n m n' m' w hr hr' => requal_w t ds es hd hl A1 A2 B1 B2 c1 c2 d1 d2 n m n' m' w hr hr'⟩
  ·refine ⟨false, ⟨fun h => by simp at h, fun h => absurd h.2 he⟩, fun A1 A2 B1 B2 c1 c2 d1 d2 n m n' m' w hr hr' => ?_⟩
   obtain ⟨rfl, rfl⟩ := hr.len
   obtain ⟨rfl, rfl⟩ := hr'.len
   exact requ_e t ds es es' A1 A2 B1 B2 c1 c2 d1 d2 w hd hl hll (Lib.hid he) (Lib.hid fun W hb => rdims_w ds hd A1 B1 c1 d1 W (Kd.C_below hr.1 hb) hr.2.1 (Kd.C_below hr'.1 hb) hr'.2.1) (Lib.hid hr.2.2.1) (Lib.hid hr'.2.2.1)
 ·refine ⟨false, ⟨fun h => by simp at h, fun h => absurd h.1 ht⟩, fun A1 A2 B1 B2 c1 c2 d1 d2 n m n' m' w hr hr' => ?_⟩
  obtain ⟨rfl, rfl⟩ := hr.len
  obtain ⟨rfl, rfl⟩ := hr'.len
  exact requ_t t t' ds es es' A1 A2 B1 B2 c1 c2 d1 d2 w ht
end Go.Proofs.Q
end
section
namespace Go.Proofs.Q
open RowKit Shelf Rf Pw Pl Pm
attribute [local go_sem high] eqA38
theorem elm_main (t k : Int) (ds : List S54) (es : List S38) (ks : List Int) (x : S38) (A1 A2 A3 : Option Addr) (c1 c2 c3 n m n3 : Nat) (w : World)
  (hr : Arr w A1 n c1 ds A2 m c2 es) (h3 : Kd.C (Kd.int .i64) w A3 n3 ks) (hc3 : n3 ≤ c3) (hn : n ≤ 6) (hm : m ≤ 1010) (hn3 : n3 ≤ 6)
  (vb b2 : Bool) (r ev tn : Int) (dn : List S54) (en : List S38) (y : S38) (gv sv ts : Int) (dS : List S54) (eS : List S38)
  (LN : dn.length ≤ 1000 ∧ en.length ≤ 1000000) (LS : dS.length ≤ 1000 ∧ eS.length ≤ 1000000)
  (HNW : Hid (∀ (A : Option Addr) (c n : Nat) (w : World), Kd.C k54 w A n ds → n ≤ c → Calls Tryz.prog 12 #[.int .i64 k, .slice A n c] w (UP (ev, tn, dn, en) w) ∧ Calls Tryz.prog 13 #[.int .i64 k, .slice A n c] w (UP (ev, tn, dn, en) w)))
  (HGT : Hid (∀ (A1 A2 A3 : Option Addr) (c1 c2 c3 n m n3 : Nat) (w : World), Arr w A1 n c1 ds A2 m c2 es → Kd.C (Kd.int .i64) w A3 n3 ks → n3 ≤ c3 → Calls Tryz.prog 14 #[.agg #[.int .i64 t, .slice A1 n c1, .slice A2 m c2], .slice A3 n3 c3] w (VE y gv w) ∧ Calls Tryz.prog 19 #[.agg #[.int .i64 t, .slice A1 n c1, .slice A2 m c2], .slice A3 n3 c3] w (VE y gv w)))
  (HST : Hid (∀ (A1 A2 A3 : Option Addr) (c1 c2 c3 n m n3 : Nat) (w : World), Arr w A1 n c1 ds A2 m c2 es → Kd.C (Kd.int .i64) w A3 n3 ks → n3 ≤ c3 → Calls Tryz.prog 15 #[.agg #[.int .i64 t, .slice A1 n c1, .slice A2 m c2], .slice A3 n3 c3, .agg #[.int .i64 x.f0, .int .i64 x.f1, .int .i64 x.f2.f0, .int .i64 x.f2.f1, .bool x.f3]] w (UP (sv, ts, dS, eS) w) ∧ Calls Tryz.prog 20 #[.agg #[.int .i64 t, .slice A1 n c1, .slice A2 m c2], .slice A3 n3 c3, .agg #[.int .i64 x.f0, .int .i64 x.f1, .int .i64 x.f2.f0, .int .i64 x.f2.f1, .bool x.f3]] w (UP (sv, ts, dS, eS) w)))
  (HCK : Hid (∀ (A1 A2 : Option Addr) (c1 c2 n m : Nat) (w : World), Arr w A1 n c1 ds A2 m c2 es → Calls Tryz.prog 16 #[.agg #[.int .i64 t, .slice A1 n c1, .slice A2 m c2]] w (Bq vb w)))
  (HC8 : Hid (∀ (A1 A2 : Option Addr) (c1 c2 n m : Nat) (w : World), Arr w A1 n c1 ds A2 m c2 es → Calls Tryz.prog 18 #[.agg #[.int .i64 t, .slice A1 n c1, .slice A2 m c2]] w (AI r w)))
  (HS1 : Hid (∀ (A1 A2 : Option Addr) (c1 c2 n m : Nat) (w : World), Arr w A1 n c1 ds A2 m c2 es → Calls Tryz.prog 17 #[.agg #[.int .i64 t, .slice A1 n c1, .slice A2 m c2], .agg #[.int .i64 t, .slice A1 n c1, .slice A2 m c2]] w (Bq vb w)))
  (HS2 : Hid (∀ (A1 A2 B1 B2 : Option Addr) (c1 c2 d1 d2 n m n' m' : Nat) (w : World), Arr w A1 n c1 ds A2 m c2 es → Arr w B1 n' d1 dn B2 m' d2 en → Calls Tryz.prog 17 #[.agg #[.int .i64 t, .slice A1 n c1, .slice A2 m c2], .agg #[.int .i64 tn, .slice B1 n' d1, .slice B2 m' d2]] w (Bq b2 w)))
  (hcase : (vb = true ∧ r = 0 ∧ ev = 0 ∧ Hid (∀ (A1 A2 B1 B2 : Option Addr) (c1 c2 d1 d2 n m n' m' : Nat) (w : World), Arr w A1 n c1 ds A2 m c2 es → Arr w B1 n' d1 dn B2 m' d2 en → Calls Tryz.prog 11 #[.agg #[.int .i64 t, .slice A1 n c1, .slice A2 m c2], .agg #[.int .i64 tn, .slice B1 n' d1, .slice B2 m' d2]] w (Bq b2 w))) ∨ (vb = true ∧ r = 0 ∧ (ev == 0) = false ∧ b2 = false) ∨ (vb = false ∧ r = 1 ∧ True ∧ b2 = false)) : Calls Tryz.prog 4 #[.agg #[.int .i64 t, .slice A1 n c1, .slice A2 m c2], .slice A3 n3 c3, .agg #[.int .i64 x.f0, .int .i64 x.f1, .int .i64 x.f2.f0, .int .i64 x.f2.f1, .bool x.f3], .int .i64 k] w (SanPost w) := by
 have q1 : (6 : Int) < (n3 : Int) ↔ False := by simp; omega
 have q5 : decide (n ≤ 6) = true := decide_eq_true hn
 have q6 : decide (m ≤ 1010) = true := decide_eq_true hm
 have q7 : (ev != ev) = false := by simp
 have q8 : (gv == gv) = true := by simp
 have q9 : (sv == sv) = true := by simp
 have HR := Lib.hid hr
 have H3 := Lib.hid h3
 clear hr h3 hn hm hn3
 have hA : ((w.alloc (.cells #[.int .i64 t, .slice A1 n c1, .slice A2 m c2] 25)).alloc (.cells #[.int .i64 x.f0, .int .i64 x.f1, .int .i64 x.f2.f0, .int .i64 x.f2.f1, .bool x.f3] 38)).heap[w.heap.size]? = some (.cells #[.int .i64 t, .slice A1 n c1, .slice A2 m c2] 25) := kA (heap_alloc_new w _) _
 have hV : ((w.alloc (.cells #[.int .i64 t, .slice A1 n c1, .slice A2 m c2] 25)).alloc (.cells #[.int .i64 x.f0, .int .i64 x.f1, .int .i64 x.f2.f0, .int .i64 x.f2.f1, .bool x.f3] 38)).heap[w.heap.size + 1]? = some (.cells #[.int .i64 x.f0, .int .i64 x.f1, .int .i64 x.f2.f0, .int .i64 x.f2.f1, .bool x.f3] 38) := nB w _ _
 have hB : Below w.heap.size w ((w.alloc (.cells #[.int .i64 t, .slice A1 n c1, .slice A2 m c2] 25)).alloc (.cells #[.int .i64 x.f0, .int .i64 x.f1, .int .i64 x.f2.f0, .int .i64 x.f2.f1, .bool x.f3] 38)) := bA (bA (Below.refl _ _) _) _
 have M1 := Lib.hid trivial
 rcases hcase with ⟨rfl, rfl, rfl, HEQ⟩ | ⟨rfl, rfl, he, rfl⟩ | ⟨rfl, rfl, -, rfl⟩
 all_goals
  go_enter Tryz.func4, Tryz.ntmps4
  go_wp2_with (first
   | (go_at_call 5; refine (small_c t _ _ _ _ _ _ ds es _ (HR.out.below hB)).mono ?_; rintro e w1 ⟨rfl, hb⟩; rw [q5, q6]; (replace hB := bS (by first | exact hB | exact bA hB _) hb); (replace hA := kB (by first | exact hA | exact kA hA _) hb); (replace hV := kB (by first | exact hV | exact kA hV _) hb); clear hb; (have aq0 := c3_0 hA); (have aq1 := c3_1 hA); (have aq2 := c3_2 hA); (have aql := blk_lt hA); (obtain ⟨vq0, vq1, vq2, vq3, vq4, vql⟩ := c5_of hV))
   | (go_at_call 12; refine ((HNW.out _ _ _ _ (Kd.C_below HR.out.1 (by first | exact hB | exact bA hB _)) HR.out.2.1).1).mono ?_; rintro e w2 ⟨B1, n1, k1, C1, m1, j1, rfl, hS, hb⟩; (have KN := Lib.hid hS); clear hS; (replace hB := bS (by first | exact hB | exact bA hB _) hb); (replace hA := kB (by first | exact hA | exact kA hA _) hb); (replace hV := kB (by first | exact hV | exact kA hV _) hb); clear hb aq0 aq1 aq2 aql vq0 vq1 vq2 vq3 vq4 vql; (have aq0 := c3_0 hA); (have aq1 := c3_1 hA); (have aq2 := c3_2 hA); (have aql := blk_lt hA); (obtain ⟨vq0, vq1, vq2, vq3, vq4, vql⟩ := c5_of hV))
   | (go_at_call 13; refine ((HNW.out _ _ _ _ (Kd.C_below HR.out.1 (by first | exact hB | exact bA hB _)) HR.out.2.1).2).mono ?_; rintro e w3 ⟨B2, n2, k2, C2, m2, j2, rfl, hS, hb⟩; (have KR := Lib.hid hS); clear hS; (replace hB := bS (by first | exact hB | exact bA hB _) hb); (replace hA := kB (by first | exact hA | exact kA hA _) hb); (replace hV := kB (by first | exact hV | exact kA hV _) hb); (have hN := kB (heap_alloc_new _ _) hb); (replace KN := Lib.hid (KN.out.below (bS (by first | exact Below.refl _ _ | exact bA (Below.refl _ _) _) hb))); clear hb aq0 aq1 aq2 aql vq0 vq1 vq2 vq3 vq4 vql; (have aq0 := c3_0 hA); (have aq1 := c3_1 hA); (have aq2 := c3_2 hA); (have aql := blk_lt hA); (obtain ⟨vq0, vq1, vq2, vq3, vq4, vql⟩ := c5_of hV); (have nq0 := c3_0 hN); (have nq1 := c3_1 hN); (have nq2 := c3_2 hN); (have nql := blk_lt hN))
   | (go_at_call 11; (have M := M1); clear M M1; refine (requal_w _ _ _ LN.1 LN.2 _ _ _ _ _ _ _ _ _ _ _ _ _ (KN.out.below (by first | exact Below.refl _ _ | exact bA (Below.refl _ _) _)) (KR.out.below (by first | exact Below.refl _ _ | exact bA (Below.refl _ _) _))).mono ?_; rintro e w4 ⟨rfl, hb⟩; (replace hB := bS (by first | exact hB | exact bA hB _) hb); (replace hA := kB (by first | exact hA | exact kA hA _) hb); (replace hV := kB (by first | exact hV | exact kA hV _) hb); (replace hN := kB (by first | exact hN | exact kA hN _) hb); (replace KN := Lib.hid (KN.out.below (bS (by first | exact Below.refl _ _ | exact bA (Below.refl _ _) _) hb))); clear hb KR aq0 aq1 aq2 aql vq0 vq1 vq2 vq3 vq4 vql nq0 nq1 nq2 nql; (have aq0 := c3_0 hA); (have aq1 := c3_1 hA); (have aq2 := c3_2 hA); (have aql := blk_lt hA); (obtain ⟨vq0, vq1, vq2, vq3, vq4, vql⟩ := c5_of hV); (have nq0 := c3_0 hN); (have nq1 := c3_1 hN); (have nq2 := c3_2 hN); (have nql := blk_lt hN); (have M2 := Lib.hid trivial))
   | (go_at_call 14; refine ((HGT.out _ _ _ _ _ _ _ _ _ _ (HR.out.below (by first | exact hB | exact bA hB _)) (Kd.C_below H3.out (by first | exact hB | exact bA hB _)) hc3).1).mono ?_; rintro e w5 ⟨rfl, hb⟩; (replace hB := bS (by first | exact hB | exact bA hB _) hb); (replace hA := kB (by first | exact hA | exact kA hA _) hb); (replace hV := kB (by first | exact hV | exact kA hV _) hb); (replace hN := kB (by first | exact hN | exact kA hN _) hb); (replace KN := Lib.hid (KN.out.below (bS (by first | exact Below.refl _ _ | exact bA (Below.refl _ _) _) hb))); clear hb aq0 aq1 aq2 aql vq0 vq1 vq2 vq3 vq4 vql nq0 nq1 nq2 nql; (have aq0 := c3_0 hA); (have aq1 := c3_1 hA); (have aq2 := c3_2 hA); (have aql := blk_lt hA); (obtain ⟨vq0, vq1, vq2, vq3, vq4, vql⟩ := c5_of hV); (have nq0 := c3_0 hN); (have nq1 := c3_1 hN); (have nq2 := c3_2 hN); (have nql := blk_lt hN))
   | (go_at_call 15; refine ((HST.out _ _ _ _ _ _ _ _ _ _ (HR.out.below (by first | exact hB | exact bA hB _)) (Kd.C_below H3.out (by first | exact hB | exact bA hB _)) hc3).1).mono ?_; rintro e w6 ⟨B3, n3, k3, C3, m3, j3, rfl, hS, hb⟩; (have KS := Lib.hid hS); clear hS; (replace hB := bS (by first | exact hB | exact bA hB _) hb); (replace hA := kB (by first | exact hA | exact kA hA _) hb); (replace hV := kB (by first | exact hV | exact kA hV _) hb); (replace hN := kB (by first | exact hN | exact kA hN _) hb); (have hG := kB (heap_alloc_new _ _) hb); (replace KN := Lib.hid (KN.out.below (bS (by first | exact Below.refl _ _ | exact bA (Below.refl _ _) _) hb))); clear hb aq0 aq1 aq2 aql vq0 vq1 vq2 vq3 vq4 vql nq0 nq1 nq2 nql; (have aq0 := c3_0 hA); (have aq1 := c3_1 hA); (have aq2 := c3_2 hA); (have aql := blk_lt hA); (obtain ⟨vq0, vq1, vq2, vq3, vq4, vql⟩ := c5_of hV); (have nq0 := c3_0 hN); (have nq1 := c3_1 hN); (have nq2 := c3_2 hN); (have nql := blk_lt hN))
   | (go_at_call 16; refine (HCK.out _ _ _ _ _ _ _ (HR.out.below (by first | exact hB | exact bA hB _))).mono ?_; rintro e w7 ⟨rfl, hb⟩; (replace hB := bS (by first | exact hB | exact bA hB _) hb); (replace hA := kB (by first | exact hA | exact kA hA _) hb); (replace hV := kB (by first | exact hV | exact kA hV _) hb); (replace hN := kB (by first | exact hN | exact kA hN _) hb); (replace hG := kB (by first | exact hG | exact kA hG _) hb); (have hS := kB (heap_alloc_new _ _) hb); (replace KN := Lib.hid (KN.out.below (bS (by first | exact Below.refl _ _ | exact bA (Below.refl _ _) _) hb))); (replace KS := Lib.hid (KS.out.below (bS (by first | exact Below.refl _ _ | exact bA (Below.refl _ _) _) hb))); clear hb aq0 aq1 aq2 aql vq0 vq1 vq2 vq3 vq4 vql nq0 nq1 nq2 nql; (have aq0 := c3_0 hA); (have aq1 := c3_1 hA); (have aq2 := c3_2 hA); (have aql := blk_lt hA); (obtain ⟨vq0, vq1, vq2, vq3, vq4, vql⟩ := c5_of hV); (have nq0 := c3_0 hN); (have nq1 := c3_1 hN); (have nq2 := c3_2 hN); (have nql := blk_lt hN); (have M5 := Lib.hid trivial))
   | (go_at_call 17; (have M := M5); clear M M5; refine (HS1.out _ _ _ _ _ _ _ (HR.out.below (by first | exact hB | exact bA hB _))).mono ?_; rintro e w8 ⟨rfl, hb⟩; (replace hB := bS (by first | exact hB | exact bA hB _) hb); (replace hA := kB (by first | exact hA | exact kA hA _) hb); (replace hV := kB (by first | exact hV | exact kA hV _) hb); (replace hN := kB (by first | exact hN | exact kA hN _) hb); (replace hG := kB (by first | exact hG | exact kA hG _) hb); (replace hS := kB (by first | exact hS | exact kA hS _) hb); (replace KN := Lib.hid (KN.out.below (bS (by first | exact Below.refl _ _ | exact bA (Below.refl _ _) _) hb))); (replace KS := Lib.hid (KS.out.below (bS (by first | exact Below.refl _ _ | exact bA (Below.refl _ _) _) hb))); clear hb aq0 aq1 aq2 aql vq0 vq1 vq2 vq3 vq4 vql nq0 nq1 nq2 nql; (have aq0 := c3_0 hA); (have aq1 := c3_1 hA); (have aq2 := c3_2 hA); (have aql := blk_lt hA); (obtain ⟨vq0, vq1, vq2, vq3, vq4, vql⟩ := c5_of hV); (have nq0 := c3_0 hN); (have nq1 := c3_1 hN); (have nq2 := c3_2 hN); (have nql := blk_lt hN); (have M6 := Lib.hid trivial))
   | (go_at_call 17; (have M := M6); clear M M6; refine (HS2.out _ _ _ _ _ _ _ _ _ _ _ _ _ (HR.out.below (by first | exact hB | exact bA hB _)) (KN.out.below (by first | exact Below.refl _ _ | exact bA (Below.refl _ _) _))).mono ?_; rintro e w9 ⟨rfl, hb⟩; (replace hB := bS (by first | exact hB | exact bA hB _) hb); (replace hA := kB (by first | exact hA | exact kA hA _) hb); (replace hV := kB (by first | exact hV | exact kA hV _) hb); (replace hN := kB (by first | exact hN | exact kA hN _) hb); (replace hG := kB (by first | exact hG | exact kA hG _) hb); (replace hS := kB (by first | exact hS | exact kA hS _) hb); (replace KN := Lib.hid (KN.out.below (bS (by first | exact Below.refl _ _ | exact bA (Below.refl _ _) _) hb))); (replace KS := Lib.hid (KS.out.below (bS (by first | exact Below.refl _ _ | exact bA (Below.refl _ _) _) hb))); clear hb aq0 aq1 aq2 aql vq0 vq1 vq2 vq3 vq4 vql nq0 nq1 nq2 nql; (have aq0 := c3_0 hA); (have aq1 := c3_1 hA); (have aq2 := c3_2 hA); (have aql := blk_lt hA); (obtain ⟨vq0, vq1, vq2, vq3, vq4, vql⟩ := c5_of hV); (have nq0 := c3_0 hN); (have nq1 := c3_1 hN); (have nq2 := c3_2 hN); (have nql := blk_lt hN))
   | (go_at_call 11; (have M := M2); clear M M2; refine (HEQ.out _ _ _ _ _ _ _ _ _ _ _ _ _ (HR.out.below (by first | exact hB | exact bA hB _)) (KN.out.below (by first | exact Below.refl _ _ | exact bA (Below.refl _ _) _))).mono ?_; rintro e w10 ⟨rfl, hb⟩; (replace hB := bS (by first | exact hB | exact bA hB _) hb); (replace hA := kB (by first | exact hA | exact kA hA _) hb); (replace hV := kB (by first | exact hV | exact kA hV _) hb); (replace hN := kB (by first | exact hN | exact kA hN _) hb); (replace hG := kB (by first | exact hG | exact kA hG _) hb); (replace hS := kB (by first | exact hS | exact kA hS _) hb); (replace KN := Lib.hid (KN.out.below (bS (by first | exact Below.refl _ _ | exact bA (Below.refl _ _) _) hb))); (replace KS := Lib.hid (KS.out.below (bS (by first | exact Below.refl _ _ | exact bA (Below.refl _ _) _) hb))); clear hb aq0 aq1 aq2 aql vq0 vq1 vq2 vq3 vq4 vql nq0 nq1 nq2 nql; (have aq0 := c3_0 hA); (have aq1 := c3_1 hA); (have aq2 := c3_2 hA); (have aql := blk_lt hA); (obtain ⟨vq0, vq1, vq2, vq3, vq4, vql⟩ := c5_of hV); (have nq0 := c3_0 hN); (have nq1 := c3_1 hN); (have nq2 := c3_2 hN); (have nql := blk_lt hN))
   | (go_at_call 18; refine (HC8.out _ _ _ _ _ _ _ (HR.out.below (by first | exact hB | exact bA hB _))).mono ?_; rintro e w11 ⟨rfl, hb⟩; (replace hB := bS (by first | exact hB | exact bA hB _) hb); (replace hA := kB (by first | exact hA | exact kA hA _) hb); (replace hV := kB (by first | exact hV | exact kA hV _) hb); (replace hN := kB (by first | exact hN | exact kA hN _) hb); (replace hG := kB (by first | exact hG | exact kA hG _) hb); (replace hS := kB (by first | exact hS | exact kA hS _) hb); (replace KN := Lib.hid (KN.out.below (bS (by first | exact Below.refl _ _ | exact bA (Below.refl _ _) _) hb))); (replace KS := Lib.hid (KS.out.below (bS (by first | exact Below.refl _ _ | exact bA (Below.refl _ _) _) hb))); clear hb aq0 aq1 aq2 aql vq0 vq1 vq2 vq3 vq4 vql nq0 nq1 nq2 nql; (have aq0 := c3_0 hA); (have aq1 := c3_1 hA); (have aq2 := c3_2 hA); (have aql := blk_lt hA); (obtain ⟨vq0, vq1, vq2, vq3, vq4, vql⟩ := c5_of hV); (have nq0 := c3_0 hN); (have nq1 := c3_1 hN); (have nq2 := c3_2 hN); (have nql := blk_lt hN))
   | (go_at_call 19; refine ((HGT.out _ _ _ _ _ _ _ _ _ _ (HR.out.below (by first | exact hB | exact bA hB _)) (Kd.C_below H3.out (by first | exact hB | exact bA hB _)) hc3).2).mono ?_; rintro e w13 ⟨rfl, hb⟩; (replace hB := bS (by first | exact hB | exact bA hB _) hb); (replace hA := kB (by first | exact hA | exact kA hA _) hb); (replace hV := kB (by first | exact hV | exact kA hV _) hb); clear hN; (replace hG := kB (by first | exact hG | exact kA hG _) hb); (replace hS := kB (by first | exact hS | exact kA hS _) hb); (replace KN := Lib.hid (KN.out.below (bS (by first | exact Below.refl _ _ | exact bA (Below.refl _ _) _) hb))); (replace KS := Lib.hid (KS.out.below (bS (by first | exact Below.refl _ _ | exact bA (Below.refl _ _) _) hb))); clear hb KN aq0 aq1 aq2 aql vq0 vq1 vq2 vq3 vq4 vql nq0 nq1 nq2 nql; (have aq0 := c3_0 hA); (have aq1 := c3_1 hA); (have aq2 := c3_2 hA); (have aql := blk_lt hA); (obtain ⟨vq0, vq1, vq2, vq3, vq4, vql⟩ := c5_of hV))
   | (go_at_call 20; refine ((HST.out _ _ _ _ _ _ _ _ _ _ (HR.out.below (by first | exact hB | exact bA hB _)) (Kd.C_below H3.out (by first | exact hB | exact bA hB _)) hc3).2).mono ?_; rintro e w14 ⟨B4, n4, k4, C4, m4, j4, rfl, hS, hb⟩; (have KT := Lib.hid hS); clear hS; (replace hB := bS (by first | exact hB | exact bA hB _) hb); (replace hA := kB (by first | exact hA | exact kA hA _) hb); (replace hV := kB (by first | exact hV | exact kA hV _) hb); (replace hG := kB (by first | exact hG | exact kA hG _) hb); (replace hS := kB (by first | exact hS | exact kA hS _) hb); (have hH := kB (heap_alloc_new _ _) hb); (replace KS := Lib.hid (KS.out.below (bS (by first | exact Below.refl _ _ | exact bA (Below.refl _ _) _) hb))); clear hb aq0 aq1 aq2 aql vq0 vq1 vq2 vq3 vq4 vql; (have aq0 := c3_0 hA); (have aq1 := c3_1 hA); (have aq2 := c3_2 hA); (have aql := blk_lt hA); (obtain ⟨vq0, vq1, vq2, vq3, vq4, vql⟩ := c5_of hV))
   | (go_at_call 6; refine (manorboylaw08_sanity.calls true _ rfl).mono ?_; rintro e w15 ⟨rfl, hb⟩; (replace hB := bS (by first | exact hB | exact bA hB _) hb); clear hA; clear hV; (replace hG := kB (by first | exact hG | exact kA hG _) hb); (replace hS := kB (by first | exact hS | exact kA hS _) hb); (replace hH := kB (by first | exact hH | exact kA hH _) hb); (have hT := kB (heap_alloc_new _ _) hb); (replace KS := Lib.hid (KS.out.below (bS (by first | exact Below.refl _ _ | exact bA (Below.refl _ _) _) hb))); (replace KT := Lib.hid (KT.out.below (bS (by first | exact Below.refl _ _ | exact bA (Below.refl _ _) _) hb))); clear hb aq0 aq1 aq2 aql vq0 vq1 vq2 vq3 vq4 vql; (obtain ⟨gq0, gq1, gq2, gq3, gq4, gql⟩ := c5_of hG); (obtain ⟨hq0, hq1, hq2, hq3, hq4, hql⟩ := c5_of hH); (have sq0 := c3_0 hS); (have sq1 := c3_1 hS); (have sq2 := c3_2 hS); (have sql := blk_lt hS); (have tq0 := c3_0 hT); (have tq1 := c3_1 hT); (have tq2 := c3_2 hT); (have tql := blk_lt hT); (have M3 := Lib.hid trivial))
   | (go_at_call 11; (have M := M3); clear M M3; refine (requal_w _ _ _ LS.1 LS.2 _ _ _ _ _ _ _ _ _ _ _ _ _ KS.out KT.out).mono ?_; rintro e w16 ⟨rfl, hb⟩; (replace hB := bS (by first | exact hB | exact bA hB _) hb); clear hG; clear hS; clear hH; clear hT; (replace KS := Lib.hid (KS.out.below (bS (by first | exact Below.refl _ _ | exact bA (Below.refl _ _) _) hb))); (replace KT := Lib.hid (KT.out.below (bS (by first | exact Below.refl _ _ | exact bA (Below.refl _ _) _) hb))); clear hb gq0 gq1 gq2 gq3 gq4 gql hq0 hq1 hq2 hq3 hq4 hql sq0 sq1 sq2 sql tq0 tq1 tq2 tql))
  go_ret
  exact ⟨rfl, hB⟩
theorem elm_bad (t k : Int) (ds : List S54) (es : List S38) (x : S38) (A1 A2 A3 : Option Addr) (c1 c2 c3 n m n3 : Nat) (w : World) (hr : Arr w A1 n c1 ds A2 m c2 es) (hbad : ¬ (n ≤ 6 ∧ m ≤ 1010 ∧ n3 ≤ 6)) : Calls Tryz.prog 4 #[.agg #[.int .i64 t, .slice A1 n c1, .slice A2 m c2], .slice A3 n3 c3, .agg #[.int .i64 x.f0, .int .i64 x.f1, .int .i64 x.f2.f0, .int .i64 x.f2.f1, .bool x.f3], .int .i64 k] w (SanPost w) := by
 have HR := Lib.hid hr
 clear hr
 have hA : ((w.alloc (.cells #[.int .i64 t, .slice A1 n c1, .slice A2 m c2] 25)).alloc (.cells #[.int .i64 x.f0, .int .i64 x.f1, .int .i64 x.f2.f0, .int .i64 x.f2.f1, .bool x.f3] 38)).heap[w.heap.size]? = some (.cells #[.int .i64 t, .slice A1 n c1, .slice A2 m c2] 25) := kA (heap_alloc_new w _) _
 have hV : ((w.alloc (.cells #[.int .i64 t, .slice A1 n c1, .slice A2 m c2] 25)).alloc (.cells #[.int .i64 x.f0, .int .i64 x.f1, .int .i64 x.f2.f0, .int .i64 x.f2.f1, .bool x.f3] 38)).heap[w.heap.size + 1]? = some (.cells #[.int .i64 x.f0, .int .i64 x.f1, .int .i64 x.f2.f0, .int .i64 x.f2.f1, .bool x.f3] 38) := nB w _ _
 have hB : Below w.heap.size w ((w.alloc (.cells #[.int .i64 t, .slice A1 n c1, .slice A2 m c2] 25)).alloc (.cells #[.int .i64 x.f0, .int .i64 x.f1, .int .i64 x.f2.f0, .int .i64 x.f2.f1, .bool x.f3] 38)) := bA (bA (Below.refl _ _) _) _
 obtain ⟨sm, hsm⟩ : ∃ b, b = (decide (n ≤ 6) && decide (m ≤ 1010)) := ⟨_, rfl⟩
 have HSM := Lib.hid hsm
 cases sm with
 | false =>
  clear hsm hbad
  go_enter Tryz.func4, Tryz.ntmps4
  go_wp2_with (first
   | (go_at_call 5; refine (small_c t _ _ _ _ _ _ ds es _ (HR.out.below hB)).mono ?_; rintro e w1 ⟨rfl, hb⟩; rw [← HSM.out]; (replace hB := bS hB hb); clear hb)
   | (go_at_call 6; refine (manorboylaw08_sanity.calls true _ rfl).mono ?_; rintro e w20 ⟨rfl, hb⟩; (replace hB := bS (by first | exact hB | exact bA hB _) hb); clear hb))
  go_ret
  exact ⟨rfl, hB⟩
 | true =>
  have hs2 : n ≤ 6 ∧ m ≤ 1010 := by simpa using hsm.symm
  clear hsm
  have q1 : (6 : Int) < (n3 : Int) ↔ True := by simp; omega
  clear hbad hs2
  go_enter Tryz.func4, Tryz.ntmps4
  go_wp2_with (first
   | (go_at_call 5; refine (small_c t _ _ _ _ _ _ ds es _ (HR.out.below hB)).mono ?_; rintro e w1 ⟨rfl, hb⟩; rw [← HSM.out]; (replace hB := bS hB hb); clear hb)
   | (go_at_call 6; refine (manorboylaw08_sanity.calls true _ rfl).mono ?_; rintro e w20 ⟨rfl, hb⟩; (replace hB := bS (by first | exact hB | exact bA hB _) hb); clear hb))
  go_ret
  exact ⟨rfl, hB⟩
/-- The law, for every input. -/
theorem elm_calls (t k : Int) (ds : List S54) (es : List S38) (ks : List Int) (x : S38) (A1 A2 A3 : Option Addr) (c1 c2 c3 : Nat) (w : World)
  (hr1 : Kd.C k54 w A1 ds.length ds) (hc1 : ds.length ≤ c1) (hr2 : Kd.C k38 w A2 es.length es) (hc2 : es.length ≤ c2) (h6 : ∀ x ∈ es, I6 x.f2.f0) (h3 : Kd.C (Kd.int .i64) w A3 ks.length ks) (hc3 : ks.length ≤ c3) (hx6 : I6 x.f2.f0) :
  Calls Tryz.prog 4 #[.agg #[.int .i64 t, .slice A1 ds.length c1, .slice A2 es.length c2], .slice A3 ks.length c3, .agg #[.int .i64 x.f0, .int .i64 x.f1, .int .i64 x.f2.f0, .int .i64 x.f2.f1, .bool x.f3], .int .i64 k] w (SanPost w) := by
 have hr : Arr w A1 ds.length c1 ds A2 es.length c2 es := ⟨hr1, hc1, hr2, hc2⟩
 by_cases hg : ds.length ≤ 6 ∧ es.length ≤ 1010 ∧ ks.length ≤ 6
 ·obtain ⟨⟨ev, tn, dn, en⟩, LN, hp0, hp1, hp⟩ := nw_both k ds
  obtain ⟨y, gv, hgt⟩ := gt_both t ds es ks h6 hg.2.1
  obtain ⟨⟨sv, ts, dS, eS⟩, LS, hst⟩ := st_both t ds es ks x h6 hx6 hg.2.1
  simp only at hp0 hp1
  have hdn : Fine t ds es → Fine tn dn en → dn = ds := fun F F' => by
   by_cases he : ev = 0
   ·obtain ⟨_, _, e⟩ := hp0 he
    injection e with _ e; injection e with _ e; injection e with e _
   ·have e := hp1 he
    injection e with _ e; injection e with e1 e2
    have := F'.2.1
    rw [e1] at this
    exact absurd this (by decide)
  obtain ⟨b2, hb2, hs2⟩ := sm_any t tn ds dn es en hdn
  obtain ⟨b1, hb1, hs1⟩ := sm_any t t ds ds es es (fun _ _ => rfl)
  by_cases F : Fine t ds es
  ·obtain rfl : b1 = true := hb1.2 ⟨F, F, rfl, rfl⟩
   have HCK : ∀ (A1 A2 : Option Addr) (c1 c2 n m : Nat) (w : World), Arr w A1 n c1 ds A2 m c2 es → Calls Tryz.prog 16 #[.agg #[.int .i64 t, .slice A1 n c1, .slice A2 m c2]] w (Bq true w) := fun A1 A2 c1 c2 n m w hr => rck_yes F h6 A1 A2 n m c1 c2 w hr (by omega)
   refine elm_main t k ds es ks x A1 A2 A3 c1 c2 c3 _ _ _ w hr h3 hc3 hg.1 hg.2.1 hg.2.2 true b2 0 ev tn dn en y gv sv ts dS eS LN LS (Lib.hid hp) (Lib.hid hgt) (Lib.hid hst) (Lib.hid HCK) (Lib.hid fun A1 A2 c1 c2 n m w hr => ck_c F A1 A2 c1 c2 n m w hr) (Lib.hid fun A1 A2 c1 c2 n m w hr => hs1 A1 A2 A1 A2 c1 c2 c1 c2 n m n m w hr hr) (Lib.hid hs2) ?_
   by_cases he : ev = 0
   ·refine .inl ⟨rfl, rfl, he, ?_⟩
    obtain ⟨hk, he2, e⟩ := hp0 he
    obtain ⟨e1, e2, e3, e4⟩ : ev = 0 ∧ tn = k ∧ dn = ds ∧ en = List.replicate (prodL ds).toNat (z38t k) := by
     injection e with e1 e; injection e with e2 e; injection e with e3 e4
     exact ⟨e1, e2, e3, e4⟩
    subst e1 e2 e3 e4
    have hpr := (errOf_zero he2).2.1
    have hpp := hpr.pos
    have F' : Fine tn dn (List.replicate (prodL dn).toNat (z38t tn)) := ⟨hk, he2, by rw [List.length_replicate]; omega, fun z hz => by rw [(List.mem_replicate.1 hz).2]; exact badF_zero hk⟩
    obtain ⟨b3, hb3, hs3⟩ := eq_any t tn dn es (List.replicate (prodL dn).toNat (z38t tn)) LN.1 (by omega) (by rw [List.length_replicate]; have := F.2.2.1; omega)
    obtain rfl : b3 = b2 := by
     rw [Bool.eq_iff_iff, hb3, hb2]
     exact ⟨fun h => ⟨F, F', h.1, h.2⟩, fun h => ⟨h.2.2.1, h.2.2.2⟩⟩
    exact Lib.hid hs3
   ·refine .inr (.inl ⟨rfl, rfl, by simpa using he, ?_⟩)
    have e := hp1 he
    injection e with _ e; injection e with e1 e2
    rw [Bool.eq_false_iff]
    intro hb
    have := (hb2.1 hb).2.1.2.1
    rw [e1] at this
    exact absurd this (by decide)
  ·obtain rfl : b1 = false := by rw [Bool.eq_false_iff]; exact fun hb => F (hb1.1 hb).1
   obtain rfl : b2 = false := by rw [Bool.eq_false_iff]; exact fun hb => F (hb2.1 hb).1
   exact elm_main t k ds es ks x A1 A2 A3 c1 c2 c3 _ _ _ w hr h3 hc3 hg.1 hg.2.1 hg.2.2 false false 1 ev tn dn en y gv sv ts dS eS LN LS (Lib.hid hp) (Lib.hid hgt) (Lib.hid hst) (Lib.hid fun A1 A2 c1 c2 n m w hr => rck_not F h6 A1 A2 n m c1 c2 w hr (by omega)) (Lib.hid fun A1 A2 c1 c2 n m w hr => ck_no F A1 A2 c1 c2 n m w hr) (Lib.hid fun A1 A2 c1 c2 n m w hr => hs1 A1 A2 A1 A2 c1 c2 c1 c2 n m n m w hr hr) (Lib.hid hs2) (.inr (.inr ⟨rfl, rfl, trivial, rfl⟩))
 ·exact elm_bad t k ds es x A1 A2 A3 c1 c2 c3 _ _ _ w hr hg
end Go.Proofs.Q
end
section
namespace Go.Proofs.Q
open RowKit ChangeShapes WideShapes ChangeAt Deep Joins
/-- A value that came in. -/
theorem open_value {H : Type} {enc : TypeId × Value → H} {W : World} {base : Nat} {spare : Nat → Bool} {held : Bool} {r : Reach} {b0 : Nat} {v : Value} {d : DataW H} {p : List MemPlace} (hv : Value.okWide Tryz.prog W r b0 38 v) (h : DataW.Trod enc Tryz.prog W base spare held 38 v d p) :
  ∃ s : S38, v = .agg #[.int .i64 s.f0, .int .i64 s.f1, .int .i64 s.f2.f0, .int .i64 s.f2.f1, .bool s.f3] ∧ (-9223372036854775808 ≤ s.f2.f0 ∧ s.f2.f0 ≤ 9223372036854775807) := by
 obtain ⟨cs, rfl, hsz⟩ := okWide_struct Tryz.underlying38 hv
 obtain ⟨fuel, hf⟩ := h
 obtain ⟨s, hs, h6⟩ := one_value hf
 refine ⟨s, congrArg Value.agg (Array.ext' ?_), h6⟩
 simpa only [Value.cells] using hs
end Go.Proofs.Q
end
