/-
 Texts of the proof, in build order: words that the walks use, contracts of functions, plain facts.
-/
import Derived.Test.YtcjjmhgboibbgaaGreatEa4
import Derived.Test.YtcjjmhgboibbgaaGreatEa22
import Derived.Test.YtcjjmhgboibbgaaGreatEa24
import Derived.Test.YtcjjmhgboibbgaaGreatEa25
set_option maxHeartbeats 40000000
set_option maxRecDepth 100000
set_option linter.unusedVariables false
set_option linter.unusedSimpArgs false
section
namespace Go.Proofs.Q
open RowKit Shelf Pw Pl Pm
theorem vdB_eq {a b c d : Int} {f : Bool} (h0 : -9223372036854775808 ≤ c) (h1 : c ≤ 9223372036854775807) : value_Valid.f a b c d f = some (vdB a b c d f) := by
 unfold vdB
 by_cases ha : a = 1
 ·subst ha
  simp only [value_Valid.f, value_ofInt.f, if_true, Option.bind_some, integer_Valid.f, ivB]
  by_cases hc : c = 0 ∧ d = 0 ∧ f = false
  ·obtain ⟨rfl, rfl, rfl⟩ := hc
   by_cases hb : -2147483647 ≤ b
   ·simp [hb]
   ·simp [hb]
  ·rw [if_neg (by simp; intro a1 a2; cases f; exact absurd ⟨a1, a2, rfl⟩ hc; rfl)]
   simp [hc]
 ·rw [if_neg ha]
  by_cases ha : a = 2
  ·subst ha
   simp only [value_Valid.f, value_ofReal.f, show ¬ (2 : Int) = 1 by decide, if_false, if_true, Option.bind_some]
   by_cases hc : b = 0 ∧ f = false
   ·obtain ⟨rfl, rfl⟩ := hc
    obtain ⟨r, hr⟩ := real_total c d
    have hi := rvB_real (d := d) h0 h1
    rw [hr] at hi ⊢
    cases r <;> cases hx : rvB c d <;> simp_all
   ·rw [if_neg (by simp; intro a1; cases f; exact absurd ⟨a1, rfl⟩ hc; rfl)]
    simp [hc]
  ·rw [if_neg ha]
   by_cases ha : a = 3
   ·subst ha
    simp only [value_Valid.f, value_ofBool.f, show ¬ (3 : Int) = 1 by decide, show ¬ (3 : Int) = 2 by decide, if_false, if_true, Option.bind_some]
    by_cases hb : b = 0 <;> by_cases hc : c = 0 <;> by_cases hd : d = 0 <;> simp [hb, hc, hd]
   ·rename_i h1' h2'
    simp only [value_Valid.f, if_neg h1', if_neg h2', if_neg ha]
theorem kind_w (t : Int) (w : World) : Calls Tryz.prog 67 #[.int .i64 t] w (Bq (decide (1 ≤ t ∧ t ≤ 3)) w) := by
 by_cases h1 : 1 ≤ t
 ·by_cases h2 : t ≤ 3
  ·rw [show decide (1 ≤ t ∧ t ≤ 3) = true by simp [h1, h2]]
   go_enter Tryz.func67, Tryz.ntmps67
   go_wp2
   go_ret
   exact ⟨rfl, Below.refl _ _⟩
  ·rw [show decide (1 ≤ t ∧ t ≤ 3) = false by simp [h2]]
   go_enter Tryz.func67, Tryz.ntmps67
   go_wp2
   go_ret
   exact ⟨rfl, Below.refl _ _⟩
 ·rw [show decide (1 ≤ t ∧ t ≤ 3) = false by simp [h1]]
  go_enter Tryz.func67, Tryz.ntmps67
  go_wp2
  go_ret
  exact ⟨rfl, Below.refl _ _⟩
def P2 (p : Int × Int) (w : World) (en : Ending) (w' : World) : Prop := en = .returned (.agg #[.int .i64 p.1, .int .i64 p.2]) ∧ Below w.heap.size w w'
theorem fr2_w (b : Int) (h0 : -2147483647 ≤ b) (h1 : b ≤ 2147483647) (w : World) : Calls Tryz.prog 90 #[.int .i64 b] w (P2 (frI b) w) := by
 refine (fromInt_w b h0 h1 w).mono ?_
 rintro e w1 ⟨lo, lo', hR, rfl, hb⟩
 rw [frI_rd b (by omega) (by omega) hR]
 exact ⟨rfl, hb⟩
theorem asreal1 (b c d : Int) (f : Bool) (h0 : -2147483647 ≤ b) (h1 : b ≤ 2147483647) (w : World) : Calls Tryz.prog 69 #[.agg #[.int .i64 1, .int .i64 b, .int .i64 c, .int .i64 d, .bool f]] w (P2 (frI b) w) := by
 have hA : ((w.alloc (.cells #[.int .i64 1, .int .i64 b, .int .i64 c, .int .i64 d, .bool f] 38)).alloc (.cells #[.int .i64 0, .int .i64 0] 36)).heap[w.heap.size]? = some (.cells #[.int .i64 1, .int .i64 b, .int .i64 c, .int .i64 d, .bool f] 38) := kA (heap_alloc_new w _) _
 have hZ : ((w.alloc (.cells #[.int .i64 1, .int .i64 b, .int .i64 c, .int .i64 d, .bool f] 38)).alloc (.cells #[.int .i64 0, .int .i64 0] 36)).heap[w.heap.size + 1]? = some (.cells #[.int .i64 0, .int .i64 0] 36) := nB w _ _
 have hB : Below w.heap.size w ((w.alloc (.cells #[.int .i64 1, .int .i64 b, .int .i64 c, .int .i64 d, .bool f] 38)).alloc (.cells #[.int .i64 0, .int .i64 0] 36)) := bA (bA (Below.refl _ _) _) _
 have hz : w.heap.size ≤ w.heap.size + 1 := Nat.le_succ _
 have a0 := (kC hA 0).trans (show _ = some (Value.int .i64 1) from rfl)
 have a1 := (kC hA 1).trans (show _ = some (Value.int .i64 b) from rfl)
 clear hA
 have HF := Lib.hid (fr2_w b h0 h1)
 clear h0 h1
 obtain ⟨p, hp⟩ : ∃ p, p = frI b := ⟨_, rfl⟩
 rw [← hp] at HF ⊢
 clear hp
 obtain ⟨m, x⟩ := p
 go_enter Tryz.func69, Tryz.ntmps69
 go_wp2_with (first
  | (go_at_call 90; refine (HF.out _).mono ?_; rintro e w1 ⟨rfl, hb⟩; dsimp only; (replace hZ := kB hZ hb); (replace hB := bS hB hb); (obtain ⟨z0, z1, zl, zf0, zf1⟩ := c2_of hZ); clear hb a0 a1))
 refine bodyPost_ret (v := .agg #[.int .i64 m, .int .i64 x]) (by clear hZ; simp [results, Tryz.results69, go_sem, z0, z1, zl]) rfl ⟨rfl, bT (bT hB hz) hz⟩
/-- two results: a value, an error -/
def VE (y : S38) (v : Int) (w : World) (e : Ending) (w' : World) : Prop := e = .returned (.tuple #[.agg #[.int .i64 y.f0, .int .i64 y.f1, .int .i64 y.f2.f0, .int .i64 y.f2.f1, .bool y.f3], .int .i64 v]) ∧ Below w.heap.size w w'
theorem rc5 {W : World} {g ty : Nat} {a b c d e : Value} (h : W.heap[g]? = some (.cells #[a, b, c, d, e] ty)) : (W.cell? ⟨g, 0, none⟩ = some a ∧ W.cell? ⟨g, 1, none⟩ = some b ∧ W.cell? ⟨g, 2, none⟩ = some c ∧ W.cell? ⟨g, 3, none⟩ = some d ∧ W.cell? ⟨g, 4, none⟩ = some e) ∧ g < W.heap.size ∧ W.frozen? ⟨g, 0, none⟩ = false ∧ W.frozen? ⟨g, 1, none⟩ = false ∧ W.frozen? ⟨g, 2, none⟩ = false ∧ W.frozen? ⟨g, 3, none⟩ = false ∧ W.frozen? ⟨g, 4, none⟩ = false :=
 ⟨⟨by rw [kC h 0]; rfl, by rw [kC h 1]; rfl, by rw [kC h 2]; rfl, by rw [kC h 3]; rfl, by rw [kC h 4]; rfl⟩, blk_lt h, kF h 0, kF h 1, kF h 2, kF h 3, kF h 4⟩
theorem below_set5 {b : Nat} {w W : World} {x0 x1 x2 x3 x4 : Value} (h : Below w.heap.size w W) (hg : w.heap.size ≤ b) : Below w.heap.size w (((((W.setCell ⟨b, 0, none⟩ x0).setCell ⟨b, 1, none⟩ x1).setCell ⟨b, 2, none⟩ x2).setCell ⟨b, 3, none⟩ x3).setCell ⟨b, 4, none⟩ x4) :=
 bT (bT (bT (bT (bT h hg) hg) hg) hg) hg
theorem rwhole_bad (n v : Int) (hv : (v != 0) = true) (w : World) : Calls Tryz.prog 70 #[.agg #[.int .i64 n, .int .i64 v]] w (VE zv v w) := by
 go_enter Tryz.func70, Tryz.ntmps70
 go_wp2
 go_region
 go_wp2
 refine bodyPost_ret (v := .tuple #[.agg #[.int .i64 0, .int .i64 0, .int .i64 0, .int .i64 0, .bool false], .int .i64 v]) (by simp [results, Tryz.results70, go_sem]) rfl ⟨rfl, ?_⟩
 repeat (first | exact Below.refl _ _ | refine below_drew ?_ | refine bA ?_ _)
theorem rwhole_ok (n : Int) (w : World) : Calls Tryz.prog 70 #[.agg #[.int .i64 n, .int .i64 0]] w (VE ⟨1, n, z36, false⟩ 0 w) := by
 have hA : ((w.alloc (.cells #[.int .i64 n, .int .i64 0] 107)).alloc (.cells #[.int .i64 0, .int .i64 0, .int .i64 0, .int .i64 0, .bool false] 38)).heap[w.heap.size]? = some (.cells #[.int .i64 n, .int .i64 0] 107) := kA (heap_alloc_new w _) _
 have hZ : ((w.alloc (.cells #[.int .i64 n, .int .i64 0] 107)).alloc (.cells #[.int .i64 0, .int .i64 0, .int .i64 0, .int .i64 0, .bool false] 38)).heap[w.heap.size + 1]? = some (.cells #[.int .i64 0, .int .i64 0, .int .i64 0, .int .i64 0, .bool false] 38) := nB w _ _
 have hB : Below w.heap.size w ((w.alloc (.cells #[.int .i64 n, .int .i64 0] 107)).alloc (.cells #[.int .i64 0, .int .i64 0, .int .i64 0, .int .i64 0, .bool false] 38)) := bA (bA (Below.refl _ _) _) _
 have hz : w.heap.size ≤ w.heap.size + 1 := Nat.le_succ _
 have a0 := (kC hA 0).trans (show _ = some (Value.int .i64 n) from rfl)
 have a1 := (kC hA 1).trans (show _ = some (Value.int .i64 0) from rfl)
 clear hA
 go_enter Tryz.func70, Tryz.ntmps70
 go_wp2_with (first
  | (go_at_call 77; refine (rint n _).mono ?_; rintro e w1 ⟨rfl, hb⟩; (replace hZ := kB hZ hb); (replace hB := bS hB hb); (obtain ⟨⟨z0, z1, z2, z3, z4⟩, zl, zf0, zf1, zf2, zf3, zf4⟩ := rc5 hZ); clear hb a0 a1))
 refine bodyPost_ret (v := .tuple #[.agg #[.int .i64 1, .int .i64 n, .int .i64 0, .int .i64 0, .bool false], .int .i64 0]) (by clear hZ; simp [results, Tryz.results70, go_sem, z0, z1, z2, z3, z4, zl]) rfl ⟨rfl, below_set5 hB hz⟩
end Go.Proofs.Q
end
section
namespace Go.Proofs.Q
open RowKit Shelf Pw Pl Pm
theorem rcv_kind (t a b c d : Int) (f : Bool) (w : World) (HK : Hid (∀ W, Calls Tryz.prog 67 #[.int .i64 t] W (Bq false W))) : Calls Tryz.prog 43 #[.int .i64 t, .agg #[.int .i64 a, .int .i64 b, .int .i64 c, .int .i64 d, .bool f]] w (VE zv 1 w) := by
 have hA : ((w.alloc (.cells #[.int .i64 a, .int .i64 b, .int .i64 c, .int .i64 d, .bool f] 38)).alloc (.cells #[.int .i64 0, .int .i64 0, .int .i64 0, .int .i64 0, .bool false] 38)).heap[w.heap.size]? = some (.cells #[.int .i64 a, .int .i64 b, .int .i64 c, .int .i64 d, .bool f] 38) := kA (heap_alloc_new w _) _
 have hZ : ((w.alloc (.cells #[.int .i64 a, .int .i64 b, .int .i64 c, .int .i64 d, .bool f] 38)).alloc (.cells #[.int .i64 0, .int .i64 0, .int .i64 0, .int .i64 0, .bool false] 38)).heap[w.heap.size + 1]? = some (.cells #[.int .i64 0, .int .i64 0, .int .i64 0, .int .i64 0, .bool false] 38) := nB w _ _
 have hB : Below w.heap.size w ((w.alloc (.cells #[.int .i64 a, .int .i64 b, .int .i64 c, .int .i64 d, .bool f] 38)).alloc (.cells #[.int .i64 0, .int .i64 0, .int .i64 0, .int .i64 0, .bool false] 38)) := bA (bA (Below.refl _ _) _) _
 have hz : w.heap.size ≤ w.heap.size + 1 := Nat.le_succ _
 go_enter Tryz.func43, Tryz.ntmps43
 go_wp2_with (first
  | (go_at_call 67; refine (HK.out _).mono ?_; rintro e w1 ⟨rfl, hb⟩; (replace hA := kB hA hb); (replace hZ := kB hZ hb); (replace hB := bS hB hb); (obtain ⟨⟨x0, x1, x2, x3, x4⟩, xl, xf0, xf1, xf2, xf3, xf4⟩ := rc5 hA); (obtain ⟨⟨z0, z1, z2, z3, z4⟩, zl, zf0, zf1, zf2, zf3, zf4⟩ := rc5 hZ); clear hb))
 refine bodyPost_ret (v := .tuple #[.agg #[.int .i64 0, .int .i64 0, .int .i64 0, .int .i64 0, .bool false], .int .i64 1]) (by clear hZ hA; simp [results, Tryz.results43, go_sem, z0, z1, z2, z3, z4, zl]) rfl ⟨rfl, below_set5 hB hz⟩
theorem rcv_val (t a b c d : Int) (f : Bool) (w : World) (HK : Hid (∀ W, Calls Tryz.prog 67 #[.int .i64 t] W (Bq true W))) (HV : Hid (∀ W, Calls Tryz.prog 50 #[.agg #[.int .i64 a, .int .i64 b, .int .i64 c, .int .i64 d, .bool f]] W (Bq false W))) : Calls Tryz.prog 43 #[.int .i64 t, .agg #[.int .i64 a, .int .i64 b, .int .i64 c, .int .i64 d, .bool f]] w (VE zv 1 w) := by
 have hA : ((w.alloc (.cells #[.int .i64 a, .int .i64 b, .int .i64 c, .int .i64 d, .bool f] 38)).alloc (.cells #[.int .i64 0, .int .i64 0, .int .i64 0, .int .i64 0, .bool false] 38)).heap[w.heap.size]? = some (.cells #[.int .i64 a, .int .i64 b, .int .i64 c, .int .i64 d, .bool f] 38) := kA (heap_alloc_new w _) _
 have hZ : ((w.alloc (.cells #[.int .i64 a, .int .i64 b, .int .i64 c, .int .i64 d, .bool f] 38)).alloc (.cells #[.int .i64 0, .int .i64 0, .int .i64 0, .int .i64 0, .bool false] 38)).heap[w.heap.size + 1]? = some (.cells #[.int .i64 0, .int .i64 0, .int .i64 0, .int .i64 0, .bool false] 38) := nB w _ _
 have hB : Below w.heap.size w ((w.alloc (.cells #[.int .i64 a, .int .i64 b, .int .i64 c, .int .i64 d, .bool f] 38)).alloc (.cells #[.int .i64 0, .int .i64 0, .int .i64 0, .int .i64 0, .bool false] 38)) := bA (bA (Below.refl _ _) _) _
 have hz : w.heap.size ≤ w.heap.size + 1 := Nat.le_succ _
 go_enter Tryz.func43, Tryz.ntmps43
 go_wp2_with (first
  | (go_at_call 67; refine (HK.out _).mono ?_; rintro e w1 ⟨rfl, hb⟩; (replace hA := kB hA hb); (replace hZ := kB hZ hb); (replace hB := bS hB hb); (obtain ⟨⟨x0, x1, x2, x3, x4⟩, xl, xf0, xf1, xf2, xf3, xf4⟩ := rc5 hA); (obtain ⟨⟨z0, z1, z2, z3, z4⟩, zl, zf0, zf1, zf2, zf3, zf4⟩ := rc5 hZ); clear hb)
  | (go_at_call 50; refine (HV.out _).mono ?_; rintro e w2 ⟨rfl, hb⟩; clear x0 x1 x2 x3 x4 xl xf0 xf1 xf2 xf3 xf4 z0 z1 z2 z3 z4 zl zf0 zf1 zf2 zf3 zf4; (replace hA := kB hA hb); (replace hZ := kB hZ hb); (replace hB := bS hB hb); (obtain ⟨⟨x0, x1, x2, x3, x4⟩, xl, xf0, xf1, xf2, xf3, xf4⟩ := rc5 hA); (obtain ⟨⟨z0, z1, z2, z3, z4⟩, zl, zf0, zf1, zf2, zf3, zf4⟩ := rc5 hZ); clear hb))
 refine bodyPost_ret (v := .tuple #[.agg #[.int .i64 0, .int .i64 0, .int .i64 0, .int .i64 0, .bool false], .int .i64 1]) (by clear hZ hA; simp [results, Tryz.results43, go_sem, z0, z1, z2, z3, z4, zl]) rfl ⟨rfl, below_set5 hB hz⟩
theorem rcv_ty1 (t a b c d : Int) (f : Bool) (w : World) (HK : Hid (∀ W, Calls Tryz.prog 67 #[.int .i64 t] W (Bq true W))) (HV : Hid (∀ W, Calls Tryz.prog 50 #[.agg #[.int .i64 a, .int .i64 b, .int .i64 c, .int .i64 d, .bool f]] W (Bq true W))) (h1 : (t == 3) = true) (h2 : (a == 3) = false) : Calls Tryz.prog 43 #[.int .i64 t, .agg #[.int .i64 a, .int .i64 b, .int .i64 c, .int .i64 d, .bool f]] w (VE zv 11 w) := by
 have hA : ((w.alloc (.cells #[.int .i64 a, .int .i64 b, .int .i64 c, .int .i64 d, .bool f] 38)).alloc (.cells #[.int .i64 0, .int .i64 0, .int .i64 0, .int .i64 0, .bool false] 38)).heap[w.heap.size]? = some (.cells #[.int .i64 a, .int .i64 b, .int .i64 c, .int .i64 d, .bool f] 38) := kA (heap_alloc_new w _) _
 have hZ : ((w.alloc (.cells #[.int .i64 a, .int .i64 b, .int .i64 c, .int .i64 d, .bool f] 38)).alloc (.cells #[.int .i64 0, .int .i64 0, .int .i64 0, .int .i64 0, .bool false] 38)).heap[w.heap.size + 1]? = some (.cells #[.int .i64 0, .int .i64 0, .int .i64 0, .int .i64 0, .bool false] 38) := nB w _ _
 have hB : Below w.heap.size w ((w.alloc (.cells #[.int .i64 a, .int .i64 b, .int .i64 c, .int .i64 d, .bool f] 38)).alloc (.cells #[.int .i64 0, .int .i64 0, .int .i64 0, .int .i64 0, .bool false] 38)) := bA (bA (Below.refl _ _) _) _
 have hz : w.heap.size ≤ w.heap.size + 1 := Nat.le_succ _
 go_enter Tryz.func43, Tryz.ntmps43
 go_wp2_with (first
  | (go_at_call 67; refine (HK.out _).mono ?_; rintro e w1 ⟨rfl, hb⟩; (replace hA := kB hA hb); (replace hZ := kB hZ hb); (replace hB := bS hB hb); (obtain ⟨⟨x0, x1, x2, x3, x4⟩, xl, xf0, xf1, xf2, xf3, xf4⟩ := rc5 hA); (obtain ⟨⟨z0, z1, z2, z3, z4⟩, zl, zf0, zf1, zf2, zf3, zf4⟩ := rc5 hZ); clear hb)
  | (go_at_call 50; refine (HV.out _).mono ?_; rintro e w2 ⟨rfl, hb⟩; clear x0 x1 x2 x3 x4 xl xf0 xf1 xf2 xf3 xf4 z0 z1 z2 z3 z4 zl zf0 zf1 zf2 zf3 zf4; (replace hA := kB hA hb); (replace hZ := kB hZ hb); (replace hB := bS hB hb); (obtain ⟨⟨x0, x1, x2, x3, x4⟩, xl, xf0, xf1, xf2, xf3, xf4⟩ := rc5 hA); (obtain ⟨⟨z0, z1, z2, z3, z4⟩, zl, zf0, zf1, zf2, zf3, zf4⟩ := rc5 hZ); clear hb))
 refine bodyPost_ret (v := .tuple #[.agg #[.int .i64 0, .int .i64 0, .int .i64 0, .int .i64 0, .bool false], .int .i64 11]) (by clear hZ hA; simp [results, Tryz.results43, go_sem, z0, z1, z2, z3, z4, zl]) rfl ⟨rfl, below_set5 hB hz⟩
theorem rcv_ty2 (t a b c d : Int) (f : Bool) (w : World) (HK : Hid (∀ W, Calls Tryz.prog 67 #[.int .i64 t] W (Bq true W))) (HV : Hid (∀ W, Calls Tryz.prog 50 #[.agg #[.int .i64 a, .int .i64 b, .int .i64 c, .int .i64 d, .bool f]] W (Bq true W))) (h1 : (t == 3) = false) (h2 : (a == 3) = true) : Calls Tryz.prog 43 #[.int .i64 t, .agg #[.int .i64 a, .int .i64 b, .int .i64 c, .int .i64 d, .bool f]] w (VE zv 11 w) := by
 have hA : ((w.alloc (.cells #[.int .i64 a, .int .i64 b, .int .i64 c, .int .i64 d, .bool f] 38)).alloc (.cells #[.int .i64 0, .int .i64 0, .int .i64 0, .int .i64 0, .bool false] 38)).heap[w.heap.size]? = some (.cells #[.int .i64 a, .int .i64 b, .int .i64 c, .int .i64 d, .bool f] 38) := kA (heap_alloc_new w _) _
 have hZ : ((w.alloc (.cells #[.int .i64 a, .int .i64 b, .int .i64 c, .int .i64 d, .bool f] 38)).alloc (.cells #[.int .i64 0, .int .i64 0, .int .i64 0, .int .i64 0, .bool false] 38)).heap[w.heap.size + 1]? = some (.cells #[.int .i64 0, .int .i64 0, .int .i64 0, .int .i64 0, .bool false] 38) := nB w _ _
 have hB : Below w.heap.size w ((w.alloc (.cells #[.int .i64 a, .int .i64 b, .int .i64 c, .int .i64 d, .bool f] 38)).alloc (.cells #[.int .i64 0, .int .i64 0, .int .i64 0, .int .i64 0, .bool false] 38)) := bA (bA (Below.refl _ _) _) _
 have hz : w.heap.size ≤ w.heap.size + 1 := Nat.le_succ _
 go_enter Tryz.func43, Tryz.ntmps43
 go_wp2_with (first
  | (go_at_call 67; refine (HK.out _).mono ?_; rintro e w1 ⟨rfl, hb⟩; (replace hA := kB hA hb); (replace hZ := kB hZ hb); (replace hB := bS hB hb); (obtain ⟨⟨x0, x1, x2, x3, x4⟩, xl, xf0, xf1, xf2, xf3, xf4⟩ := rc5 hA); (obtain ⟨⟨z0, z1, z2, z3, z4⟩, zl, zf0, zf1, zf2, zf3, zf4⟩ := rc5 hZ); clear hb)
  | (go_at_call 50; refine (HV.out _).mono ?_; rintro e w2 ⟨rfl, hb⟩; clear x0 x1 x2 x3 x4 xl xf0 xf1 xf2 xf3 xf4 z0 z1 z2 z3 z4 zl zf0 zf1 zf2 zf3 zf4; (replace hA := kB hA hb); (replace hZ := kB hZ hb); (replace hB := bS hB hb); (obtain ⟨⟨x0, x1, x2, x3, x4⟩, xl, xf0, xf1, xf2, xf3, xf4⟩ := rc5 hA); (obtain ⟨⟨z0, z1, z2, z3, z4⟩, zl, zf0, zf1, zf2, zf3, zf4⟩ := rc5 hZ); clear hb))
 refine bodyPost_ret (v := .tuple #[.agg #[.int .i64 0, .int .i64 0, .int .i64 0, .int .i64 0, .bool false], .int .i64 11]) (by clear hZ hA; simp [results, Tryz.results43, go_sem, z0, z1, z2, z3, z4, zl]) rfl ⟨rfl, below_set5 hB hz⟩
theorem rcv_same (t b c d : Int) (f : Bool) (w : World) (HK : Hid (∀ W, Calls Tryz.prog 67 #[.int .i64 t] W (Bq true W))) (HV : Hid (∀ W, Calls Tryz.prog 50 #[.agg #[.int .i64 t, .int .i64 b, .int .i64 c, .int .i64 d, .bool f]] W (Bq true W))) : Calls Tryz.prog 43 #[.int .i64 t, .agg #[.int .i64 t, .int .i64 b, .int .i64 c, .int .i64 d, .bool f]] w (VE ⟨t, b, ⟨c, d⟩, f⟩ 0 w) := by
 have hA : ((w.alloc (.cells #[.int .i64 t, .int .i64 b, .int .i64 c, .int .i64 d, .bool f] 38)).alloc (.cells #[.int .i64 0, .int .i64 0, .int .i64 0, .int .i64 0, .bool false] 38)).heap[w.heap.size]? = some (.cells #[.int .i64 t, .int .i64 b, .int .i64 c, .int .i64 d, .bool f] 38) := kA (heap_alloc_new w _) _
 have hZ : ((w.alloc (.cells #[.int .i64 t, .int .i64 b, .int .i64 c, .int .i64 d, .bool f] 38)).alloc (.cells #[.int .i64 0, .int .i64 0, .int .i64 0, .int .i64 0, .bool false] 38)).heap[w.heap.size + 1]? = some (.cells #[.int .i64 0, .int .i64 0, .int .i64 0, .int .i64 0, .bool false] 38) := nB w _ _
 have hB : Below w.heap.size w ((w.alloc (.cells #[.int .i64 t, .int .i64 b, .int .i64 c, .int .i64 d, .bool f] 38)).alloc (.cells #[.int .i64 0, .int .i64 0, .int .i64 0, .int .i64 0, .bool false] 38)) := bA (bA (Below.refl _ _) _) _
 have hz : w.heap.size ≤ w.heap.size + 1 := Nat.le_succ _
 go_enter Tryz.func43, Tryz.ntmps43
 go_wp2_with (first
  | (go_at_call 67; refine (HK.out _).mono ?_; rintro e w1 ⟨rfl, hb⟩; (replace hA := kB hA hb); (replace hZ := kB hZ hb); (replace hB := bS hB hb); (obtain ⟨⟨x0, x1, x2, x3, x4⟩, xl, xf0, xf1, xf2, xf3, xf4⟩ := rc5 hA); (obtain ⟨⟨z0, z1, z2, z3, z4⟩, zl, zf0, zf1, zf2, zf3, zf4⟩ := rc5 hZ); clear hb)
  | (go_at_call 50; refine (HV.out _).mono ?_; rintro e w2 ⟨rfl, hb⟩; clear x0 x1 x2 x3 x4 xl xf0 xf1 xf2 xf3 xf4 z0 z1 z2 z3 z4 zl zf0 zf1 zf2 zf3 zf4; (replace hA := kB hA hb); (replace hZ := kB hZ hb); (replace hB := bS hB hb); (obtain ⟨⟨x0, x1, x2, x3, x4⟩, xl, xf0, xf1, xf2, xf3, xf4⟩ := rc5 hA); (obtain ⟨⟨z0, z1, z2, z3, z4⟩, zl, zf0, zf1, zf2, zf3, zf4⟩ := rc5 hZ); clear hb))
 refine bodyPost_ret (v := .tuple #[.agg #[.int .i64 t, .int .i64 b, .int .i64 c, .int .i64 d, .bool f], .int .i64 0]) (by clear hZ hA; simp [results, Tryz.results43, go_sem, z0, z1, z2, z3, z4, zl]) rfl ⟨rfl, below_set5 hB hz⟩
theorem rcv_real (b c d : Int) (f : Bool) (w : World) (HK : Hid (∀ W, Calls Tryz.prog 67 #[.int .i64 2] W (Bq true W))) (HV : Hid (∀ W, Calls Tryz.prog 50 #[.agg #[.int .i64 1, .int .i64 b, .int .i64 c, .int .i64 d, .bool f]] W (Bq true W))) (m x : Int) (HF : Hid (∀ W, Calls Tryz.prog 69 #[.agg #[.int .i64 1, .int .i64 b, .int .i64 c, .int .i64 d, .bool f]] W (P2 (m, x) W))) : Calls Tryz.prog 43 #[.int .i64 2, .agg #[.int .i64 1, .int .i64 b, .int .i64 c, .int .i64 d, .bool f]] w (VE ⟨2, 0, ⟨m, x⟩, false⟩ 0 w) := by
 have hA : ((w.alloc (.cells #[.int .i64 1, .int .i64 b, .int .i64 c, .int .i64 d, .bool f] 38)).alloc (.cells #[.int .i64 0, .int .i64 0, .int .i64 0, .int .i64 0, .bool false] 38)).heap[w.heap.size]? = some (.cells #[.int .i64 1, .int .i64 b, .int .i64 c, .int .i64 d, .bool f] 38) := kA (heap_alloc_new w _) _
 have hZ : ((w.alloc (.cells #[.int .i64 1, .int .i64 b, .int .i64 c, .int .i64 d, .bool f] 38)).alloc (.cells #[.int .i64 0, .int .i64 0, .int .i64 0, .int .i64 0, .bool false] 38)).heap[w.heap.size + 1]? = some (.cells #[.int .i64 0, .int .i64 0, .int .i64 0, .int .i64 0, .bool false] 38) := nB w _ _
 have hB : Below w.heap.size w ((w.alloc (.cells #[.int .i64 1, .int .i64 b, .int .i64 c, .int .i64 d, .bool f] 38)).alloc (.cells #[.int .i64 0, .int .i64 0, .int .i64 0, .int .i64 0, .bool false] 38)) := bA (bA (Below.refl _ _) _) _
 have hz : w.heap.size ≤ w.heap.size + 1 := Nat.le_succ _
 go_enter Tryz.func43, Tryz.ntmps43
 go_wp2_with (first
  | (go_at_call 67; refine (HK.out _).mono ?_; rintro e w1 ⟨rfl, hb⟩; (replace hA := kB hA hb); (replace hZ := kB hZ hb); (replace hB := bS hB hb); (obtain ⟨⟨x0, x1, x2, x3, x4⟩, xl, xf0, xf1, xf2, xf3, xf4⟩ := rc5 hA); (obtain ⟨⟨z0, z1, z2, z3, z4⟩, zl, zf0, zf1, zf2, zf3, zf4⟩ := rc5 hZ); clear hb)
  | (go_at_call 50; refine (HV.out _).mono ?_; rintro e w2 ⟨rfl, hb⟩; clear x0 x1 x2 x3 x4 xl xf0 xf1 xf2 xf3 xf4 z0 z1 z2 z3 z4 zl zf0 zf1 zf2 zf3 zf4; (replace hA := kB hA hb); (replace hZ := kB hZ hb); (replace hB := bS hB hb); (obtain ⟨⟨x0, x1, x2, x3, x4⟩, xl, xf0, xf1, xf2, xf3, xf4⟩ := rc5 hA); (obtain ⟨⟨z0, z1, z2, z3, z4⟩, zl, zf0, zf1, zf2, zf3, zf4⟩ := rc5 hZ); clear hb)
  | (go_at_call 69; refine (HF.out _).mono ?_; rintro e w3 ⟨rfl, hb⟩; clear x0 x1 x2 x3 x4 xl xf0 xf1 xf2 xf3 xf4 z0 z1 z2 z3 z4 zl zf0 zf1 zf2 zf3 zf4; (replace hA := kB hA hb); (replace hZ := kB hZ hb); (replace hB := bS hB hb); (obtain ⟨⟨x0, x1, x2, x3, x4⟩, xl, xf0, xf1, xf2, xf3, xf4⟩ := rc5 hA); (obtain ⟨⟨z0, z1, z2, z3, z4⟩, zl, zf0, zf1, zf2, zf3, zf4⟩ := rc5 hZ); clear hb)
  | (go_at_call 68; refine (rreal m x _).mono ?_; rintro e w4 ⟨rfl, hb⟩; clear x0 x1 x2 x3 x4 xl xf0 xf1 xf2 xf3 xf4 z0 z1 z2 z3 z4 zl zf0 zf1 zf2 zf3 zf4; (replace hA := kB hA hb); (replace hZ := kB hZ hb); (replace hB := bS hB hb); (obtain ⟨⟨x0, x1, x2, x3, x4⟩, xl, xf0, xf1, xf2, xf3, xf4⟩ := rc5 hA); (obtain ⟨⟨z0, z1, z2, z3, z4⟩, zl, zf0, zf1, zf2, zf3, zf4⟩ := rc5 hZ); clear hb))
 refine bodyPost_ret (v := .tuple #[.agg #[.int .i64 2, .int .i64 0, .int .i64 m, .int .i64 x, .bool false], .int .i64 0]) (by clear hZ hA; simp [results, Tryz.results43, go_sem, z0, z1, z2, z3, z4, zl]) rfl ⟨rfl, below_set5 hB hz⟩
theorem rcv_int (b c d : Int) (f : Bool) (w : World) (HK : Hid (∀ W, Calls Tryz.prog 67 #[.int .i64 1] W (Bq true W))) (HV : Hid (∀ W, Calls Tryz.prog 50 #[.agg #[.int .i64 2, .int .i64 b, .int .i64 c, .int .i64 d, .bool f]] W (Bq true W))) (n e : Int) (y : S38) (HR : Hid (∀ W, Calls Tryz.prog 71 #[.agg #[.int .i64 c, .int .i64 d]] W (MdP (n, e) W))) (HW : Hid (∀ W, Calls Tryz.prog 70 #[.agg #[.int .i64 n, .int .i64 e]] W (VE y e W))) : Calls Tryz.prog 43 #[.int .i64 1, .agg #[.int .i64 2, .int .i64 b, .int .i64 c, .int .i64 d, .bool f]] w (VE y e w) := by
 have hA : ((w.alloc (.cells #[.int .i64 2, .int .i64 b, .int .i64 c, .int .i64 d, .bool f] 38)).alloc (.cells #[.int .i64 0, .int .i64 0, .int .i64 0, .int .i64 0, .bool false] 38)).heap[w.heap.size]? = some (.cells #[.int .i64 2, .int .i64 b, .int .i64 c, .int .i64 d, .bool f] 38) := kA (heap_alloc_new w _) _
 have hZ : ((w.alloc (.cells #[.int .i64 2, .int .i64 b, .int .i64 c, .int .i64 d, .bool f] 38)).alloc (.cells #[.int .i64 0, .int .i64 0, .int .i64 0, .int .i64 0, .bool false] 38)).heap[w.heap.size + 1]? = some (.cells #[.int .i64 0, .int .i64 0, .int .i64 0, .int .i64 0, .bool false] 38) := nB w _ _
 have hB : Below w.heap.size w ((w.alloc (.cells #[.int .i64 2, .int .i64 b, .int .i64 c, .int .i64 d, .bool f] 38)).alloc (.cells #[.int .i64 0, .int .i64 0, .int .i64 0, .int .i64 0, .bool false] 38)) := bA (bA (Below.refl _ _) _) _
 have hz : w.heap.size ≤ w.heap.size + 1 := Nat.le_succ _
 go_enter Tryz.func43, Tryz.ntmps43
 go_wp2_with (first
  | (go_at_call 67; refine (HK.out _).mono ?_; rintro e w1 ⟨rfl, hb⟩; (replace hA := kB hA hb); (replace hZ := kB hZ hb); (replace hB := bS hB hb); (obtain ⟨⟨x0, x1, x2, x3, x4⟩, xl, xf0, xf1, xf2, xf3, xf4⟩ := rc5 hA); (obtain ⟨⟨z0, z1, z2, z3, z4⟩, zl, zf0, zf1, zf2, zf3, zf4⟩ := rc5 hZ); clear hb)
  | (go_at_call 50; refine (HV.out _).mono ?_; rintro e w2 ⟨rfl, hb⟩; clear x0 x1 x2 x3 x4 xl xf0 xf1 xf2 xf3 xf4 z0 z1 z2 z3 z4 zl zf0 zf1 zf2 zf3 zf4; (replace hA := kB hA hb); (replace hZ := kB hZ hb); (replace hB := bS hB hb); (obtain ⟨⟨x0, x1, x2, x3, x4⟩, xl, xf0, xf1, xf2, xf3, xf4⟩ := rc5 hA); (obtain ⟨⟨z0, z1, z2, z3, z4⟩, zl, zf0, zf1, zf2, zf3, zf4⟩ := rc5 hZ); clear hb)
  | (go_at_call 71; refine (HR.out _).mono ?_; rintro e w3 ⟨rfl, hb⟩; clear x0 x1 x2 x3 x4 xl xf0 xf1 xf2 xf3 xf4 z0 z1 z2 z3 z4 zl zf0 zf1 zf2 zf3 zf4; (replace hA := kB hA hb); (replace hZ := kB hZ hb); (replace hB := bS hB hb); (obtain ⟨⟨x0, x1, x2, x3, x4⟩, xl, xf0, xf1, xf2, xf3, xf4⟩ := rc5 hA); (obtain ⟨⟨z0, z1, z2, z3, z4⟩, zl, zf0, zf1, zf2, zf3, zf4⟩ := rc5 hZ); clear hb)
  | (go_at_call 70; refine (HW.out _).mono ?_; rintro e w4 ⟨rfl, hb⟩; clear x0 x1 x2 x3 x4 xl xf0 xf1 xf2 xf3 xf4 z0 z1 z2 z3 z4 zl zf0 zf1 zf2 zf3 zf4; (replace hA := kB hA hb); (replace hZ := kB hZ hb); (replace hB := bS hB hb); (obtain ⟨⟨x0, x1, x2, x3, x4⟩, xl, xf0, xf1, xf2, xf3, xf4⟩ := rc5 hA); (obtain ⟨⟨z0, z1, z2, z3, z4⟩, zl, zf0, zf1, zf2, zf3, zf4⟩ := rc5 hZ); clear hb))
 refine bodyPost_ret (v := .tuple #[.agg #[.int .i64 y.f0, .int .i64 y.f1, .int .i64 y.f2.f0, .int .i64 y.f2.f1, .bool y.f3], .int .i64 e]) (by clear hZ hA; simp [results, Tryz.results43, go_sem, z0, z1, z2, z3, z4, zl]) rfl ⟨rfl, below_set5 hB hz⟩
end Go.Proofs.Q
end
section
namespace Go.Proofs.Q
open RowKit Shelf Pw Pl Pm
/-- what the reference's Convert returns -/
def cvR (t : Int) (x : S38) : S38 × Int := if (1 ≤ t ∧ t ≤ 3) ∧ vdB x.f0 x.f1 x.f2.f0 x.f2.f1 x.f3 = true then cvF t x else (zv, 1)
theorem rcv_w (t : Int) (x : S38) (h0 : -9223372036854775808 ≤ x.f2.f0) (h1 : x.f2.f0 ≤ 9223372036854775807) (w : World) :
  Calls Tryz.prog 43 #[.int .i64 t, .agg #[.int .i64 x.f0, .int .i64 x.f1, .int .i64 x.f2.f0, .int .i64 x.f2.f1, .bool x.f3]] w (VE (cvR t x).1 (cvR t x).2 w) := by
 obtain ⟨a, b, ⟨c, d⟩, f⟩ := x
 simp only at h0 h1 ⊢
 have hk := fun W => kind_w t W
 have hv := fun W => vd_w a b c d f h0 h1 W
 have hq := vdB_eq (a := a) (b := b) (d := d) (f := f) h0 h1
 unfold cvR
 simp only
 by_cases ht : 1 ≤ t ∧ t ≤ 3
 ·simp only [decide_eq_true ht] at hk
  cases hb : vdB a b c d f with
  | false =>
   rw [hb] at hv
   rw [if_neg (by simp)]
   exact rcv_val t a b c d f w (Lib.hid hk) (Lib.hid hv)
  | true =>
   rw [hb] at hv hq
   rw [if_pos ⟨ht, rfl⟩]
   have ha := valid_kind a b c d f hq
   unfold cvF
   simp only
   by_cases hat : a = t
   ·subst hat
    rw [if_pos rfl]
    exact rcv_same a b c d f w (Lib.hid hk) (Lib.hid hv)
   ·rw [if_neg hat]
    by_cases h3 : t = 3
    ·subst h3
     rw [if_pos (.inl rfl)]
     exact rcv_ty1 3 a b c d f w (Lib.hid hk) (Lib.hid hv) rfl (beq_eq_false_iff_ne.mpr hat)
    ·by_cases h4 : a = 3
     ·subst h4
      rw [if_pos (.inr rfl)]
      exact rcv_ty2 t 3 b c d f w (Lib.hid hk) (Lib.hid hv) (beq_eq_false_iff_ne.mpr h3) rfl
     ·rw [if_neg (by simp [h3, h4])]
      by_cases h2 : t = 2
      ·subst h2
       rw [if_pos rfl]
       obtain rfl : a = 1 := by omega
       obtain ⟨g0, g1, _⟩ := valid_int b c d f hq
       exact rcv_real b c d f w (Lib.hid hk) (Lib.hid hv) (frI b).1 (frI b).2 (Lib.hid (fun W => asreal1 b c d f g0 g1 W))
      ·rw [if_neg h2]
       obtain rfl : t = 1 := by omega
       obtain rfl : a = 2 := by omega
       have hr := valid_real b c d f hq
       have hbd := valid_bd h0 hr
       have hrn := rn_eq h0 hr
       have hR : ∀ W, Calls Tryz.prog 71 #[.agg #[.int .i64 c, .int .i64 d]] W (MdP (rnd c d) W) := fun W => hrn ▸ rounds_w c d (by omega) (by omega) (by omega) (by omega) W
       generalize rnd c d = p at hR ⊢
       obtain ⟨n, e⟩ := p
       simp only
       by_cases he : e = 0
       ·subst he
        rw [if_pos rfl]
        exact rcv_int b c d f w (Lib.hid hk) (Lib.hid hv) n 0 ⟨1, n, z36, false⟩ (Lib.hid hR) (Lib.hid (fun W => rwhole_ok n W))
       ·rw [if_neg he]
        exact rcv_int b c d f w (Lib.hid hk) (Lib.hid hv) n e zv (Lib.hid hR) (Lib.hid (fun W => rwhole_bad n e (by simpa using he) W))
 ·rw [if_neg (fun h => ht h.1)]
  simp only [decide_eq_false ht] at hk
  exact rcv_kind t a b c d f w (Lib.hid hk)
end Go.Proofs.Q
end
section
namespace Go.Proofs.Q
open RowKit Shelf Rf Pw Pl Pm
def ck_T1 : Bool × List (List Nat × List Nat) := (true, [([], []), ([0], [0]), ([1], [1]), ([2], [2]), ([3, 2], [3]), ([4], [4]), ([5, 4], [4, 5]), ([6, 4, 4], [4, 6]), ([7, 4], [4, 7]), ([4, 8], [4, 8]), ([9, 7], [9]), ([10], [10]), ([11, 10], [10, 11]), ([12, 10], [10, 12]), ([10], [10]), ([14, 10], [10, 14]), ([15, 10, 10], [10, 15]), ([13, 16, 10], [10, 13, 16]), ([10, 17], [10, 17])])
def ck_B1 : List Nat := [0, 1, 3, 7, 15, 31, 63, 127, 255, 511, 1023, 2047, 4095, 8191, 2047, 18431, 51199, 131071, 262143]
theorem ck_tab1 : rtab .any (opsOf Tryz.f16 1) = ck_T1 := by kernel_rfl
theorem ck_bits1 : waitsOk ck_T1.2 ck_B1 = true := by kernel_rfl
def ck_T6 : Bool × List (List Nat × List Nat) := (true, [([], []), ([0], [0]), ([], []), ([1, 2], [1, 2]), ([3], [3]), ([4], [4]), ([5], [5]), ([6, 5], [6]), ([7], [7]), ([8, 7], [7, 8]), ([7], [7]), ([9, 10, 7], [7, 9, 10]), ([11, 7], [7, 11]), ([12, 7], [7, 12]), ([7], [7]), ([14, 7], [7, 14]), ([13, 15, 7], [7, 13, 15]), ([7, 16], [7, 16])])
def ck_B6 : List Nat := [0, 1, 0, 7, 15, 31, 63, 127, 255, 511, 255, 2047, 4095, 8191, 255, 16639, 65535, 131071]
theorem ck_tab6 : rtab .any (opsOf Tryz.f16 6) = ck_T6 := by kernel_rfl
theorem ck_bits6 : waitsOk ck_T6.2 ck_B6 = true := by kernel_rfl
theorem rck_no1 (t : Int) (A1 A2 : Option Addr) (c1 c2 : Nat) (ds : List S54) (es : List S38) (w : World) (HT : Hid (∀ W, Calls Tryz.prog 42 #[.int .i64 t] W (Bq false W))) : Calls Tryz.prog 16 #[.agg #[.int .i64 t, .slice A1 ds.length c1, .slice A2 es.length c2]] w (Bq false w) := by
 go_enter Tryz.func16, Tryz.ntmps16
 go_wp2
 have hs0 := (c3_of (heap_alloc_new w (.cells #[.int .i64 t, .slice A1 ds.length c1, .slice A2 es.length c2] 25))).1
 have hB0 : Below w.heap.size w (w.alloc (.cells #[.int .i64 t, .slice A1 ds.length c1, .slice A2 es.length c2] 25)).drew := below_drew (bA (Below.refl _ _) _)
 generalize hg : w.heap.size = g at hs0 ⊢
 replace hs0 : ((w.alloc (.cells #[.int .i64 t, .slice A1 ds.length c1, .slice A2 es.length c2] 25)).drew.cell? ⟨g, 0, none⟩ = some (.int .i64 t) ∧ (w.alloc (.cells #[.int .i64 t, .slice A1 ds.length c1, .slice A2 es.length c2] 25)).drew.cell? ⟨g, 1, none⟩ = some (.slice A1 ds.length c1) ∧ (w.alloc (.cells #[.int .i64 t, .slice A1 ds.length c1, .slice A2 es.length c2] 25)).drew.cell? ⟨g, 2, none⟩ = some (.slice A2 es.length c2)) := hs0
 refine start_ (n := 19) (S := fun w' => w'.cell? ⟨g, 0, none⟩ = some (.int .i64 t) ∧ w'.cell? ⟨g, 1, none⟩ = some (.slice A1 ds.length c1) ∧ w'.cell? ⟨g, 2, none⟩ = some (.slice A2 es.length c2)) (ds := []) (lq 19 0) (by kernel_rfl) rfl (by kernel_rfl) ⟨hs0.1, hs0.2.1, hs0.2.2⟩ (fun hHeld => ?_); refine with_tabW ck_tab1 ck_bits1 (fun HT_ HW_ => ?_)
 refine pv 0 4 19 1 HT_ ?_
 refine tv 1 5 19 3 HT_ HW_ hHeld ?_
 refine one_ (i := 2) (N := some 6) (lq 19 7) rfl rfl (one_of HT_.out (by kernel_rfl)) (by decide) (fun K hK => ?_)
 refine gs Tryz.func42 #[.int .i64 t] ?_
 refine (HT.out _).mono ?_
 rintro e w1 ⟨rfl, hb⟩
 have hB1 := bS hB0 hb
 have hs1 : _ ∧ _ ∧ _ := ⟨cB hb hs0.1, cB hb hs0.2.1, cB hb hs0.2.2⟩
 clear hb
 refine ⟨_, rfl, hK.out _ _ ⟨hs1.1, hs1.2.1, hs1.2.2⟩ (fun hHeld => ?_)⟩; clear hK K
 refine ng 6 ?_
 refine pv 3 7 19 15 HT_ ?_
 refine pv 4 8 19 31 HT_ ?_
 refine uv 5 9 19 63 HT_ ?_
 refine uv 6 10 19 127 HT_ ?_
 refine uv 7 11 19 255 HT_ ?_
 refine uv 8 12 19 511 HT_ ?_
 refine pv 9 13 19 1023 HT_ ?_
 refine pv 10 14 19 2047 HT_ ?_
 refine uv 11 15 19 4095 HT_ ?_
 refine uv 12 16 19 8191 HT_ ?_
 refine uv 13 17 19 16383 HT_ ?_
 refine uv 14 18 19 32767 HT_ ?_
 refine uv 15 19 19 65535 HT_ ?_
 refine uv 16 20 19 131071 HT_ ?_
 refine uv 17 21 19 262143 HT_ ?_
 refine pv 18 22 19 524287 HT_ ?_
 refine done_ (done_of HT_.out (by kernel_rfl)) ?_
 go_wp2
 go_ret
 exact ⟨rfl, hg ▸ hB1⟩
theorem rck_no2 (t : Int) (A1 A2 : Option Addr) (c1 c2 : Nat) (ds : List S54) (es : List S38) (w : World) (x : Int) (HT : Hid (∀ W, Calls Tryz.prog 42 #[.int .i64 t] W (Bq true W))) (HE : Hid (∀ W, Kd.C k54 W A1 ds.length ds → Calls Tryz.prog 45 #[.slice A1 ds.length c1] W (AI x W))) (hx : (x != 0) = true) (HR : Hid (Kd.C k54 w A1 ds.length ds)) : Calls Tryz.prog 16 #[.agg #[.int .i64 t, .slice A1 ds.length c1, .slice A2 es.length c2]] w (Bq false w) := by
 go_enter Tryz.func16, Tryz.ntmps16
 go_wp2
 have hs0 := (c3_of (heap_alloc_new w (.cells #[.int .i64 t, .slice A1 ds.length c1, .slice A2 es.length c2] 25))).1
 have hB0 : Below w.heap.size w (w.alloc (.cells #[.int .i64 t, .slice A1 ds.length c1, .slice A2 es.length c2] 25)).drew := below_drew (bA (Below.refl _ _) _)
 generalize hg : w.heap.size = g at hs0 ⊢
 replace hs0 : ((w.alloc (.cells #[.int .i64 t, .slice A1 ds.length c1, .slice A2 es.length c2] 25)).drew.cell? ⟨g, 0, none⟩ = some (.int .i64 t) ∧ (w.alloc (.cells #[.int .i64 t, .slice A1 ds.length c1, .slice A2 es.length c2] 25)).drew.cell? ⟨g, 1, none⟩ = some (.slice A1 ds.length c1) ∧ (w.alloc (.cells #[.int .i64 t, .slice A1 ds.length c1, .slice A2 es.length c2] 25)).drew.cell? ⟨g, 2, none⟩ = some (.slice A2 es.length c2)) := hs0
 refine start_ (n := 19) (S := fun w' => w'.cell? ⟨g, 0, none⟩ = some (.int .i64 t) ∧ w'.cell? ⟨g, 1, none⟩ = some (.slice A1 ds.length c1) ∧ w'.cell? ⟨g, 2, none⟩ = some (.slice A2 es.length c2)) (ds := []) (lq 19 0) (by kernel_rfl) rfl (by kernel_rfl) ⟨hs0.1, hs0.2.1, hs0.2.2⟩ (fun hHeld => ?_); refine with_tabW ck_tab1 ck_bits1 (fun HT_ HW_ => ?_)
 refine pv 0 4 19 1 HT_ ?_
 refine tv 1 5 19 3 HT_ HW_ hHeld ?_
 refine one_ (i := 2) (N := some 6) (lq 19 7) rfl rfl (one_of HT_.out (by kernel_rfl)) (by decide) (fun K hK => ?_)
 refine gs Tryz.func42 #[.int .i64 t] ?_
 refine (HT.out _).mono ?_
 rintro e w1 ⟨rfl, hb⟩
 have hB1 := bS hB0 hb
 have hs1 : _ ∧ _ ∧ _ := ⟨cB hb hs0.1, cB hb hs0.2.1, cB hb hs0.2.2⟩
 clear hb
 refine ⟨_, rfl, hK.out _ _ ⟨hs1.1, hs1.2.1, hs1.2.2⟩ (fun hHeld => ?_)⟩; clear hK K
 refine ng 6 ?_
 refine pv 3 7 19 15 HT_ ?_
 refine pv 4 8 19 31 HT_ ?_
 refine pv 5 9 19 63 HT_ ?_
 refine tv 6 10 19 127 HT_ HW_ hHeld ?_
 refine one_ (i := 7) (N := some 11) (lq 19 255) rfl rfl (one_of HT_.out (by kernel_rfl)) (by decide) (fun K hK => ?_)
 refine gs Tryz.func45 #[.slice A1 ds.length c1] ?_
 refine (HE.out _ (Kd.C_below HR.out (hg ▸ hB1))).mono ?_
 rintro e w2 ⟨rfl, hb⟩
 have hB2 := bS hB1 hb
 have hs2 : _ ∧ _ ∧ _ := ⟨cB hb hs1.1, cB hb hs1.2.1, cB hb hs1.2.2⟩
 clear hb
 refine ⟨_, rfl, hK.out _ _ ⟨hs2.1, hs2.2.1, hs2.2.2⟩ (fun hHeld => ?_)⟩; clear hK K
 refine ng 11 ?_
 refine pv 8 12 19 511 HT_ ?_
 refine pv 9 13 19 1023 HT_ ?_
 refine pv 10 14 19 2047 HT_ ?_
 refine uv 11 15 19 4095 HT_ ?_
 refine uv 12 16 19 8191 HT_ ?_
 refine uv 13 17 19 16383 HT_ ?_
 refine uv 14 18 19 32767 HT_ ?_
 refine uv 15 19 19 65535 HT_ ?_
 refine uv 16 20 19 131071 HT_ ?_
 refine uv 17 21 19 262143 HT_ ?_
 refine pv 18 22 19 524287 HT_ ?_
 refine done_ (done_of HT_.out (by kernel_rfl)) ?_
 go_wp2
 go_ret
 exact ⟨rfl, hg ▸ hB2⟩
theorem rck_no3 (t : Int) (A1 A2 : Option Addr) (c1 c2 : Nat) (ds : List S54) (es : List S38) (w : World) (z : Int) (HT : Hid (∀ W, Calls Tryz.prog 42 #[.int .i64 t] W (Bq true W))) (HE : Hid (∀ W, Kd.C k54 W A1 ds.length ds → Calls Tryz.prog 45 #[.slice A1 ds.length c1] W (AI 0 W))) (HZ : Hid (∀ W, Kd.C k54 W A1 ds.length ds → Calls Tryz.prog 46 #[.slice A1 ds.length c1] W (AI z W))) (hz : ((es.length : Int) != z) = true) (HR : Hid (Kd.C k54 w A1 ds.length ds)) : Calls Tryz.prog 16 #[.agg #[.int .i64 t, .slice A1 ds.length c1, .slice A2 es.length c2]] w (Bq false w) := by
 go_enter Tryz.func16, Tryz.ntmps16
 go_wp2
 have hs0 := (c3_of (heap_alloc_new w (.cells #[.int .i64 t, .slice A1 ds.length c1, .slice A2 es.length c2] 25))).1
 have hB0 : Below w.heap.size w (w.alloc (.cells #[.int .i64 t, .slice A1 ds.length c1, .slice A2 es.length c2] 25)).drew := below_drew (bA (Below.refl _ _) _)
 generalize hg : w.heap.size = g at hs0 ⊢
 replace hs0 : ((w.alloc (.cells #[.int .i64 t, .slice A1 ds.length c1, .slice A2 es.length c2] 25)).drew.cell? ⟨g, 0, none⟩ = some (.int .i64 t) ∧ (w.alloc (.cells #[.int .i64 t, .slice A1 ds.length c1, .slice A2 es.length c2] 25)).drew.cell? ⟨g, 1, none⟩ = some (.slice A1 ds.length c1) ∧ (w.alloc (.cells #[.int .i64 t, .slice A1 ds.length c1, .slice A2 es.length c2] 25)).drew.cell? ⟨g, 2, none⟩ = some (.slice A2 es.length c2)) := hs0
 refine start_ (n := 19) (S := fun w' => w'.cell? ⟨g, 0, none⟩ = some (.int .i64 t) ∧ w'.cell? ⟨g, 1, none⟩ = some (.slice A1 ds.length c1) ∧ w'.cell? ⟨g, 2, none⟩ = some (.slice A2 es.length c2)) (ds := []) (lq 19 0) (by kernel_rfl) rfl (by kernel_rfl) ⟨hs0.1, hs0.2.1, hs0.2.2⟩ (fun hHeld => ?_); refine with_tabW ck_tab1 ck_bits1 (fun HT_ HW_ => ?_)
 refine pv 0 4 19 1 HT_ ?_
 refine tv 1 5 19 3 HT_ HW_ hHeld ?_
 refine one_ (i := 2) (N := some 6) (lq 19 7) rfl rfl (one_of HT_.out (by kernel_rfl)) (by decide) (fun K hK => ?_)
 refine gs Tryz.func42 #[.int .i64 t] ?_
 refine (HT.out _).mono ?_
 rintro e w1 ⟨rfl, hb⟩
 have hB1 := bS hB0 hb
 have hs1 : _ ∧ _ ∧ _ := ⟨cB hb hs0.1, cB hb hs0.2.1, cB hb hs0.2.2⟩
 clear hb
 refine ⟨_, rfl, hK.out _ _ ⟨hs1.1, hs1.2.1, hs1.2.2⟩ (fun hHeld => ?_)⟩; clear hK K
 refine ng 6 ?_
 refine pv 3 7 19 15 HT_ ?_
 refine pv 4 8 19 31 HT_ ?_
 refine pv 5 9 19 63 HT_ ?_
 refine tv 6 10 19 127 HT_ HW_ hHeld ?_
 refine one_ (i := 7) (N := some 11) (lq 19 255) rfl rfl (one_of HT_.out (by kernel_rfl)) (by decide) (fun K hK => ?_)
 refine gs Tryz.func45 #[.slice A1 ds.length c1] ?_
 refine (HE.out _ (Kd.C_below HR.out (hg ▸ hB1))).mono ?_
 rintro e w2 ⟨rfl, hb⟩
 have hB2 := bS hB1 hb
 have hs2 : _ ∧ _ ∧ _ := ⟨cB hb hs1.1, cB hb hs1.2.1, cB hb hs1.2.2⟩
 clear hb
 refine ⟨_, rfl, hK.out _ _ ⟨hs2.1, hs2.2.1, hs2.2.2⟩ (fun hHeld => ?_)⟩; clear hK K
 refine ng 11 ?_
 refine pv 8 12 19 511 HT_ ?_
 refine pv 9 13 19 1023 HT_ ?_
 refine pv 10 14 19 2047 HT_ ?_
 refine pv 11 15 19 4095 HT_ ?_
 refine tv 12 16 19 8191 HT_ HW_ hHeld ?_
 refine pv 13 17 19 16383 HT_ ?_
 refine pv 14 18 19 32767 HT_ ?_
 refine tv 15 19 19 65535 HT_ HW_ hHeld ?_
 refine one_ (i := 16) (N := some 20) (lq 19 131071) rfl rfl (one_of HT_.out (by kernel_rfl)) (by decide) (fun K hK => ?_)
 refine gs Tryz.func46 #[.slice A1 ds.length c1] ?_
 refine (HZ.out _ (Kd.C_below HR.out (hg ▸ hB2))).mono ?_
 rintro e w3 ⟨rfl, hb⟩
 have hB3 := bS hB2 hb
 have hs3 : _ ∧ _ ∧ _ := ⟨cB hb hs2.1, cB hb hs2.2.1, cB hb hs2.2.2⟩
 clear hb
 refine ⟨_, rfl, hK.out _ _ ⟨hs3.1, hs3.2.1, hs3.2.2⟩ (fun hHeld => ?_)⟩; clear hK K
 refine ng 20 ?_
 refine pv 17 21 19 262143 HT_ ?_
 refine pv 18 22 19 524287 HT_ ?_
 refine done_ (done_of HT_.out (by kernel_rfl)) ?_
 go_wp2
 go_ret
 exact ⟨rfl, hg ▸ hB3⟩
end Go.Proofs.Q
end
section
namespace Go.Proofs.Q
open RowKit Shelf Rf Pw Pl Pm
def okB (t : Int) (x : S38) : Bool := vdB x.f0 x.f1 x.f2.f0 x.f2.f1 x.f3 && (x.f0 == t)
def I6 (n : Int) : Prop := -9223372036854775808 ≤ n ∧ n ≤ 9223372036854775807
theorem drop_rd {es : List S38} {i : Int} (h0 : 0 ≤ i) (h1 : i < es.length) : es.drop i.toNat = rd_T38 es i :: es.drop (i + 1).toNat := by
 have hl : i.toNat < es.length := by omega
 rw [show (i + 1).toNat = i.toNat + 1 by omega, List.drop_eq_getElem_cons hl]
 simp [rd_T38, List.getD, hl]
theorem rd_mem {es : List S38} {i : Int} (h0 : 0 ≤ i) (h1 : i < es.length) : rd_T38 es i ∈ es := by
 have hl : i.toNat < es.length := by omega
 have : rd_T38 es i = es[i.toNat] := by simp [rd_T38, List.getD, hl]
 rw [this]; exact List.getElem_mem hl
theorem rck_go (t : Int) (A1 A2 : Option Addr) (c1 c2 : Nat) (ds : List S54) (es : List S38) (w : World) (z : Int) (HT : Hid (∀ W, Calls Tryz.prog 42 #[.int .i64 t] W (Bq true W))) (HE : Hid (∀ W, Kd.C k54 W A1 ds.length ds → Calls Tryz.prog 45 #[.slice A1 ds.length c1] W (AI 0 W))) (HZ : Hid (∀ W, Kd.C k54 W A1 ds.length ds → Calls Tryz.prog 46 #[.slice A1 ds.length c1] W (AI z W))) (hz : ((es.length : Int) != z) = false) (HR : Hid (Kd.C k54 w A1 ds.length ds)) (HR2 : Hid (Kd.C k38 w A2 es.length es)) (HI6 : Hid (∀ x ∈ es, I6 x.f2.f0)) (hl : es.length ≤ 1000000) (r : Bool) (HQ : Hid (es.all (okB t) = r)) : Calls Tryz.prog 16 #[.agg #[.int .i64 t, .slice A1 ds.length c1, .slice A2 es.length c2]] w (Bq r w) := by
 go_enter Tryz.func16, Tryz.ntmps16
 go_wp2
 have hs0 := (c3_of (heap_alloc_new w (.cells #[.int .i64 t, .slice A1 ds.length c1, .slice A2 es.length c2] 25))).1
 have hB0 : Below w.heap.size w (w.alloc (.cells #[.int .i64 t, .slice A1 ds.length c1, .slice A2 es.length c2] 25)).drew := below_drew (bA (Below.refl _ _) _)
 generalize hg : w.heap.size = g at hs0 ⊢
 replace hs0 : ((w.alloc (.cells #[.int .i64 t, .slice A1 ds.length c1, .slice A2 es.length c2] 25)).drew.cell? ⟨g, 0, none⟩ = some (.int .i64 t) ∧ (w.alloc (.cells #[.int .i64 t, .slice A1 ds.length c1, .slice A2 es.length c2] 25)).drew.cell? ⟨g, 1, none⟩ = some (.slice A1 ds.length c1) ∧ (w.alloc (.cells #[.int .i64 t, .slice A1 ds.length c1, .slice A2 es.length c2] 25)).drew.cell? ⟨g, 2, none⟩ = some (.slice A2 es.length c2)) := hs0
 refine start_ (n := 19) (S := fun w' => w'.cell? ⟨g, 0, none⟩ = some (.int .i64 t) ∧ w'.cell? ⟨g, 1, none⟩ = some (.slice A1 ds.length c1) ∧ w'.cell? ⟨g, 2, none⟩ = some (.slice A2 es.length c2)) (ds := []) (lq 19 0) (by kernel_rfl) rfl (by kernel_rfl) ⟨hs0.1, hs0.2.1, hs0.2.2⟩ (fun hHeld => ?_); refine with_tabW ck_tab1 ck_bits1 (fun HT_ HW_ => ?_)
 refine pv 0 4 19 1 HT_ ?_
 refine tv 1 5 19 3 HT_ HW_ hHeld ?_
 refine one_ (i := 2) (N := some 6) (lq 19 7) rfl rfl (one_of HT_.out (by kernel_rfl)) (by decide) (fun K hK => ?_)
 refine gs Tryz.func42 #[.int .i64 t] ?_
 refine (HT.out _).mono ?_
 rintro e w1 ⟨rfl, hb⟩
 have hB1 := bS hB0 hb
 have hs1 : _ ∧ _ ∧ _ := ⟨cB hb hs0.1, cB hb hs0.2.1, cB hb hs0.2.2⟩
 clear hb
 refine ⟨_, rfl, hK.out _ _ ⟨hs1.1, hs1.2.1, hs1.2.2⟩ (fun hHeld => ?_)⟩; clear hK K
 refine ng 6 ?_
 refine pv 3 7 19 15 HT_ ?_
 refine pv 4 8 19 31 HT_ ?_
 refine pv 5 9 19 63 HT_ ?_
 refine tv 6 10 19 127 HT_ HW_ hHeld ?_
 refine one_ (i := 7) (N := some 11) (lq 19 255) rfl rfl (one_of HT_.out (by kernel_rfl)) (by decide) (fun K hK => ?_)
 refine gs Tryz.func45 #[.slice A1 ds.length c1] ?_
 refine (HE.out _ (Kd.C_below HR.out (hg ▸ hB1))).mono ?_
 rintro e w2 ⟨rfl, hb⟩
 have hB2 := bS hB1 hb
 have hs2 : _ ∧ _ ∧ _ := ⟨cB hb hs1.1, cB hb hs1.2.1, cB hb hs1.2.2⟩
 clear hb
 refine ⟨_, rfl, hK.out _ _ ⟨hs2.1, hs2.2.1, hs2.2.2⟩ (fun hHeld => ?_)⟩; clear hK K
 refine ng 11 ?_
 refine pv 8 12 19 511 HT_ ?_
 refine pv 9 13 19 1023 HT_ ?_
 refine pv 10 14 19 2047 HT_ ?_
 refine pv 11 15 19 4095 HT_ ?_
 refine tv 12 16 19 8191 HT_ HW_ hHeld ?_
 refine pv 13 17 19 16383 HT_ ?_
 refine pv 14 18 19 32767 HT_ ?_
 refine tv 15 19 19 65535 HT_ HW_ hHeld ?_
 refine one_ (i := 16) (N := some 20) (lq 19 131071) rfl rfl (one_of HT_.out (by kernel_rfl)) (by decide) (fun K hK => ?_)
 refine gs Tryz.func46 #[.slice A1 ds.length c1] ?_
 refine (HZ.out _ (Kd.C_below HR.out (hg ▸ hB2))).mono ?_
 rintro e w3 ⟨rfl, hb⟩
 have hB3 := bS hB2 hb
 have hs3 : _ ∧ _ ∧ _ := ⟨cB hb hs2.1, cB hb hs2.2.1, cB hb hs2.2.2⟩
 clear hb
 refine ⟨_, rfl, hK.out _ _ ⟨hs3.1, hs3.2.1, hs3.2.2⟩ (fun hHeld => ?_)⟩; clear hK K
 refine ng 20 ?_
 refine pv 17 21 19 262143 HT_ ?_
 refine pv 18 22 19 524287 HT_ ?_
 refine done_ (done_of HT_.out (by kernel_rfl)) ?_
 clear HT_ HW_ HT HE HZ HR hB0 hB1 hB2 hs0 hs1 hs2 hHeld
 replace hB3 := Lib.hid (hg ▸ hB3)
 replace hg := Lib.hid hg
 go_wp2
 go_loopw [3] (fun v wr => ∃ i : Int, v = .int .i64 i ∧ 0 ≤ i ∧ i ≤ (es.length : Int) ∧ Hid (es.all (okB t) = (es.drop i.toNat).all (okB t)) ∧ Hid (wr.cell? ⟨g, 0, none⟩ = some (.int .i64 t) ∧ wr.cell? ⟨g, 1, none⟩ = some (.slice A1 ds.length c1) ∧ wr.cell? ⟨g, 2, none⟩ = some (.slice A2 es.length c2)) ∧ Hid (Below w.heap.size w wr)) (fun v _ => ((es.length : Int) - intOf v).toNat)
 case atStart => exact ⟨0, rfl, by decide, by omega, Lib.hid rfl, Lib.hid ⟨hs3.1, hs3.2.1, hs3.2.2⟩, Lib.hid (hg.out ▸ hB3.out)⟩
 case round =>
  clear hs3 hB3
  obtain ⟨i, rfl, h0, h1, HI, HS, HB⟩ := hrel
  obtain ⟨s0, s1, s2⟩ := HS.out
  by_cases hp : i < (es.length : Int)
  ·obtain ⟨ad, rfl, hx0, hx1, hx2, hx3, hx4⟩ := at_T38 HR2.out i h0 hp
   replace hx0 := (HB.out.cell (World.block_lt_of_cell? w _ hx0)).trans hx0
   replace hx1 := (HB.out.cell (World.block_lt_of_cell? w _ hx1)).trans hx1
   replace hx2 := (HB.out.cell (World.block_lt_of_cell? w _ hx2)).trans hx2
   replace hx3 := (HB.out.cell (World.block_lt_of_cell? w _ hx3)).trans hx3
   replace hx4 := (HB.out.cell (World.block_lt_of_cell? w _ hx4)).trans hx4
   have hd := drop_rd h0 hp
   have h6 := HI6.out _ (rd_mem h0 hp)
   generalize rd_T38 es i = x at hx0 hx1 hx2 hx3 hx4 hd h6
   have hv := fun W => vd_w x.f0 x.f1 x.f2.f0 x.f2.f1 x.f3 h6.1 h6.2 W
   have HD := Lib.hid hd
   clear hd h6
   have hs := And.intro s0 (And.intro s1 (And.intro s2 (And.intro hx0 (And.intro hx1 (And.intro hx2 (And.intro hx3 hx4))))))
   have hB3 := below_drew HB.out
   have p0 := eq_true h0
   have q0 := eq_true hp
   cases hb0 : vdB x.f0 x.f1 x.f2.f0 x.f2.f1 x.f3 with
   | false =>
    rw [hb0] at hv
    have HV := Lib.hid hv
    have hr : r = false := by rw [← HQ.out, HI.out, HD.out, List.all_cons, show okB t x = false by simp [okB, hb0], Bool.false_and]
    subst hr
    clear hv HS hb0
    go_wp2
    replace hs : (wr.drew.cell? ⟨g, 0, none⟩ = some (.int .i64 t) ∧ wr.drew.cell? ⟨g, 1, none⟩ = some (.slice A1 ds.length c1) ∧ wr.drew.cell? ⟨g, 2, none⟩ = some (.slice (some ad) es.length c2) ∧ wr.drew.cell? (ad.add (i.toNat * 5)) = some (.int .i64 x.f0) ∧ wr.drew.cell? ⟨(ad.add (i.toNat * 5)).block, (ad.add (i.toNat * 5)).off + 1, none⟩ = some (.int .i64 x.f1) ∧ wr.drew.cell? ⟨(ad.add (i.toNat * 5)).block, (ad.add (i.toNat * 5)).off + 2, none⟩ = some (.int .i64 x.f2.f0) ∧ wr.drew.cell? ⟨(ad.add (i.toNat * 5)).block, (ad.add (i.toNat * 5)).off + 3, none⟩ = some (.int .i64 x.f2.f1) ∧ wr.drew.cell? ⟨(ad.add (i.toNat * 5)).block, (ad.add (i.toNat * 5)).off + 4, none⟩ = some (.bool x.f3)) := hs
    refine start_ (n := 18) (S := fun w' => w'.cell? ⟨g, 0, none⟩ = some (.int .i64 t) ∧ w'.cell? ⟨g, 1, none⟩ = some (.slice A1 ds.length c1) ∧ w'.cell? ⟨g, 2, none⟩ = some (.slice (some ad) es.length c2) ∧ w'.cell? (ad.add (i.toNat * 5)) = some (.int .i64 x.f0) ∧ w'.cell? ⟨(ad.add (i.toNat * 5)).block, (ad.add (i.toNat * 5)).off + 1, none⟩ = some (.int .i64 x.f1) ∧ w'.cell? ⟨(ad.add (i.toNat * 5)).block, (ad.add (i.toNat * 5)).off + 2, none⟩ = some (.int .i64 x.f2.f0) ∧ w'.cell? ⟨(ad.add (i.toNat * 5)).block, (ad.add (i.toNat * 5)).off + 3, none⟩ = some (.int .i64 x.f2.f1) ∧ w'.cell? ⟨(ad.add (i.toNat * 5)).block, (ad.add (i.toNat * 5)).off + 4, none⟩ = some (.bool x.f3)) (ds := []) (lq 18 0) (by kernel_rfl) rfl (by kernel_rfl) ⟨hs.1, hs.2.1, hs.2.2.1, hs.2.2.2.1, hs.2.2.2.2.1, hs.2.2.2.2.2.1, hs.2.2.2.2.2.2.1, hs.2.2.2.2.2.2.2⟩ (fun hHeld => ?_); refine with_tabW ck_tab6 ck_bits6 (fun HT_ HW_ => ?_)
    refine pv 0 30 18 1 HT_ ?_
    refine pv 2 32 18 5 HT_ ?_
    refine tv 1 31 18 7 HT_ HW_ hHeld ?_
    refine pv 3 33 18 15 HT_ ?_
    refine tv 4 34 18 31 HT_ HW_ hHeld ?_
    refine one_ (i := 5) (N := some 35) (lq 18 63) rfl rfl (one_of HT_.out (by kernel_rfl)) (by decide) (fun K hK => ?_)
    refine gs Tryz.func50 #[.agg #[.int .i64 x.f0, .int .i64 x.f1, .int .i64 x.f2.f0, .int .i64 x.f2.f1, .bool x.f3]] ?_
    refine (HV.out _).mono ?_
    rintro e w4 ⟨rfl, hb⟩
    have hB4 := bS hB3 hb
    have hs4 : _ ∧ _ ∧ _ ∧ _ ∧ _ ∧ _ ∧ _ ∧ _ := ⟨cB hb hs.1, cB hb hs.2.1, cB hb hs.2.2.1, cB hb hs.2.2.2.1, cB hb hs.2.2.2.2.1, cB hb hs.2.2.2.2.2.1, cB hb hs.2.2.2.2.2.2.1, cB hb hs.2.2.2.2.2.2.2⟩
    clear hb
    refine ⟨_, rfl, hK.out _ _ ⟨hs4.1, hs4.2.1, hs4.2.2.1, hs4.2.2.2.1, hs4.2.2.2.2.1, hs4.2.2.2.2.2.1, hs4.2.2.2.2.2.2.1, hs4.2.2.2.2.2.2.2⟩ (fun hHeld => ?_)⟩; clear hK K
    refine ng 35 ?_
    refine pv 6 36 18 127 HT_ ?_
    refine pv 7 37 18 255 HT_ ?_
    refine uv 8 38 18 511 HT_ ?_
    refine uv 9 39 18 1023 HT_ ?_
    refine uv 10 40 18 2047 HT_ ?_
    refine uv 11 41 18 4095 HT_ ?_
    refine uv 12 42 18 8191 HT_ ?_
    refine uv 13 43 18 16383 HT_ ?_
    refine uv 14 44 18 32767 HT_ ?_
    refine uv 15 45 18 65535 HT_ ?_
    refine uv 16 46 18 131071 HT_ ?_
    refine pv 17 47 18 262143 HT_ ?_
    refine done_ (done_of HT_.out (by kernel_rfl)) ?_
    go_wp2
    go_ret
    exact ⟨rfl, hB4⟩
   | true =>
    rw [hb0] at hv
    have HV := Lib.hid hv
    clear hv HS
    by_cases ht : x.f0 = t
    ·have b1 : (x.f0 != t) = false := by simpa using ht
     have HN := Lib.hid (show es.all (okB t) = (es.drop (i + 1).toNat).all (okB t) by rw [HI.out, HD.out, List.all_cons, show okB t x = true by (unfold okB; rw [hb0]; simpa using ht), Bool.true_and])
     clear hb0 HI ht
     go_wp2
     replace hs : (wr.drew.cell? ⟨g, 0, none⟩ = some (.int .i64 t) ∧ wr.drew.cell? ⟨g, 1, none⟩ = some (.slice A1 ds.length c1) ∧ wr.drew.cell? ⟨g, 2, none⟩ = some (.slice (some ad) es.length c2) ∧ wr.drew.cell? (ad.add (i.toNat * 5)) = some (.int .i64 x.f0) ∧ wr.drew.cell? ⟨(ad.add (i.toNat * 5)).block, (ad.add (i.toNat * 5)).off + 1, none⟩ = some (.int .i64 x.f1) ∧ wr.drew.cell? ⟨(ad.add (i.toNat * 5)).block, (ad.add (i.toNat * 5)).off + 2, none⟩ = some (.int .i64 x.f2.f0) ∧ wr.drew.cell? ⟨(ad.add (i.toNat * 5)).block, (ad.add (i.toNat * 5)).off + 3, none⟩ = some (.int .i64 x.f2.f1) ∧ wr.drew.cell? ⟨(ad.add (i.toNat * 5)).block, (ad.add (i.toNat * 5)).off + 4, none⟩ = some (.bool x.f3)) := hs
     refine start_ (n := 18) (S := fun w' => w'.cell? ⟨g, 0, none⟩ = some (.int .i64 t) ∧ w'.cell? ⟨g, 1, none⟩ = some (.slice A1 ds.length c1) ∧ w'.cell? ⟨g, 2, none⟩ = some (.slice (some ad) es.length c2) ∧ w'.cell? (ad.add (i.toNat * 5)) = some (.int .i64 x.f0) ∧ w'.cell? ⟨(ad.add (i.toNat * 5)).block, (ad.add (i.toNat * 5)).off + 1, none⟩ = some (.int .i64 x.f1) ∧ w'.cell? ⟨(ad.add (i.toNat * 5)).block, (ad.add (i.toNat * 5)).off + 2, none⟩ = some (.int .i64 x.f2.f0) ∧ w'.cell? ⟨(ad.add (i.toNat * 5)).block, (ad.add (i.toNat * 5)).off + 3, none⟩ = some (.int .i64 x.f2.f1) ∧ w'.cell? ⟨(ad.add (i.toNat * 5)).block, (ad.add (i.toNat * 5)).off + 4, none⟩ = some (.bool x.f3)) (ds := []) (lq 18 0) (by kernel_rfl) rfl (by kernel_rfl) ⟨hs.1, hs.2.1, hs.2.2.1, hs.2.2.2.1, hs.2.2.2.2.1, hs.2.2.2.2.2.1, hs.2.2.2.2.2.2.1, hs.2.2.2.2.2.2.2⟩ (fun hHeld => ?_); refine with_tabW ck_tab6 ck_bits6 (fun HT_ HW_ => ?_)
     refine pv 0 30 18 1 HT_ ?_
     refine pv 2 32 18 5 HT_ ?_
     refine tv 1 31 18 7 HT_ HW_ hHeld ?_
     refine pv 3 33 18 15 HT_ ?_
     refine tv 4 34 18 31 HT_ HW_ hHeld ?_
     refine one_ (i := 5) (N := some 35) (lq 18 63) rfl rfl (one_of HT_.out (by kernel_rfl)) (by decide) (fun K hK => ?_)
     refine gs Tryz.func50 #[.agg #[.int .i64 x.f0, .int .i64 x.f1, .int .i64 x.f2.f0, .int .i64 x.f2.f1, .bool x.f3]] ?_
     refine (HV.out _).mono ?_
     rintro e w4 ⟨rfl, hb⟩
     have hB4 := bS hB3 hb
     have hs4 : _ ∧ _ ∧ _ ∧ _ ∧ _ ∧ _ ∧ _ ∧ _ := ⟨cB hb hs.1, cB hb hs.2.1, cB hb hs.2.2.1, cB hb hs.2.2.2.1, cB hb hs.2.2.2.2.1, cB hb hs.2.2.2.2.2.1, cB hb hs.2.2.2.2.2.2.1, cB hb hs.2.2.2.2.2.2.2⟩
     clear hb
     refine ⟨_, rfl, hK.out _ _ ⟨hs4.1, hs4.2.1, hs4.2.2.1, hs4.2.2.2.1, hs4.2.2.2.2.1, hs4.2.2.2.2.2.1, hs4.2.2.2.2.2.2.1, hs4.2.2.2.2.2.2.2⟩ (fun hHeld => ?_)⟩; clear hK K
     refine ng 35 ?_
     refine pv 6 36 18 127 HT_ ?_
     refine pv 7 37 18 255 HT_ ?_
     refine pv 8 38 18 511 HT_ ?_
     refine tv 9 39 18 1023 HT_ HW_ hHeld ?_
     refine pv 10 40 18 2047 HT_ ?_
     refine pv 11 41 18 4095 HT_ ?_
     refine pv 12 42 18 8191 HT_ ?_
     refine tv 13 43 18 16383 HT_ HW_ hHeld ?_
     refine pv 14 44 18 32767 HT_ ?_
     refine tv 15 45 18 65535 HT_ HW_ hHeld ?_
     refine pv 16 46 18 131071 HT_ ?_
     refine pv 17 47 18 262143 HT_ ?_
     refine done_ (done_of HT_.out (by kernel_rfl)) ?_
     go_wp2
     go_roundw
     case rel => exact ⟨i + 1, rfl, by omega, by omega, HN, Lib.hid ⟨hs4.1, hs4.2.1, hs4.2.2.1⟩, Lib.hid hB4⟩
     case measure => simp [intOf]; omega
    ·have b1 : (x.f0 != t) = true := by simpa using ht
     have hr : r = false := by rw [← HQ.out, HI.out, HD.out, List.all_cons, show okB t x = false by simp [okB, ht], Bool.false_and]
     subst hr
     clear hb0 HI ht
     go_wp2
     replace hs : (wr.drew.cell? ⟨g, 0, none⟩ = some (.int .i64 t) ∧ wr.drew.cell? ⟨g, 1, none⟩ = some (.slice A1 ds.length c1) ∧ wr.drew.cell? ⟨g, 2, none⟩ = some (.slice (some ad) es.length c2) ∧ wr.drew.cell? (ad.add (i.toNat * 5)) = some (.int .i64 x.f0) ∧ wr.drew.cell? ⟨(ad.add (i.toNat * 5)).block, (ad.add (i.toNat * 5)).off + 1, none⟩ = some (.int .i64 x.f1) ∧ wr.drew.cell? ⟨(ad.add (i.toNat * 5)).block, (ad.add (i.toNat * 5)).off + 2, none⟩ = some (.int .i64 x.f2.f0) ∧ wr.drew.cell? ⟨(ad.add (i.toNat * 5)).block, (ad.add (i.toNat * 5)).off + 3, none⟩ = some (.int .i64 x.f2.f1) ∧ wr.drew.cell? ⟨(ad.add (i.toNat * 5)).block, (ad.add (i.toNat * 5)).off + 4, none⟩ = some (.bool x.f3)) := hs
     refine start_ (n := 18) (S := fun w' => w'.cell? ⟨g, 0, none⟩ = some (.int .i64 t) ∧ w'.cell? ⟨g, 1, none⟩ = some (.slice A1 ds.length c1) ∧ w'.cell? ⟨g, 2, none⟩ = some (.slice (some ad) es.length c2) ∧ w'.cell? (ad.add (i.toNat * 5)) = some (.int .i64 x.f0) ∧ w'.cell? ⟨(ad.add (i.toNat * 5)).block, (ad.add (i.toNat * 5)).off + 1, none⟩ = some (.int .i64 x.f1) ∧ w'.cell? ⟨(ad.add (i.toNat * 5)).block, (ad.add (i.toNat * 5)).off + 2, none⟩ = some (.int .i64 x.f2.f0) ∧ w'.cell? ⟨(ad.add (i.toNat * 5)).block, (ad.add (i.toNat * 5)).off + 3, none⟩ = some (.int .i64 x.f2.f1) ∧ w'.cell? ⟨(ad.add (i.toNat * 5)).block, (ad.add (i.toNat * 5)).off + 4, none⟩ = some (.bool x.f3)) (ds := []) (lq 18 0) (by kernel_rfl) rfl (by kernel_rfl) ⟨hs.1, hs.2.1, hs.2.2.1, hs.2.2.2.1, hs.2.2.2.2.1, hs.2.2.2.2.2.1, hs.2.2.2.2.2.2.1, hs.2.2.2.2.2.2.2⟩ (fun hHeld => ?_); refine with_tabW ck_tab6 ck_bits6 (fun HT_ HW_ => ?_)
     refine pv 0 30 18 1 HT_ ?_
     refine pv 2 32 18 5 HT_ ?_
     refine tv 1 31 18 7 HT_ HW_ hHeld ?_
     refine pv 3 33 18 15 HT_ ?_
     refine tv 4 34 18 31 HT_ HW_ hHeld ?_
     refine one_ (i := 5) (N := some 35) (lq 18 63) rfl rfl (one_of HT_.out (by kernel_rfl)) (by decide) (fun K hK => ?_)
     refine gs Tryz.func50 #[.agg #[.int .i64 x.f0, .int .i64 x.f1, .int .i64 x.f2.f0, .int .i64 x.f2.f1, .bool x.f3]] ?_
     refine (HV.out _).mono ?_
     rintro e w4 ⟨rfl, hb⟩
     have hB4 := bS hB3 hb
     have hs4 : _ ∧ _ ∧ _ ∧ _ ∧ _ ∧ _ ∧ _ ∧ _ := ⟨cB hb hs.1, cB hb hs.2.1, cB hb hs.2.2.1, cB hb hs.2.2.2.1, cB hb hs.2.2.2.2.1, cB hb hs.2.2.2.2.2.1, cB hb hs.2.2.2.2.2.2.1, cB hb hs.2.2.2.2.2.2.2⟩
     clear hb
     refine ⟨_, rfl, hK.out _ _ ⟨hs4.1, hs4.2.1, hs4.2.2.1, hs4.2.2.2.1, hs4.2.2.2.2.1, hs4.2.2.2.2.2.1, hs4.2.2.2.2.2.2.1, hs4.2.2.2.2.2.2.2⟩ (fun hHeld => ?_)⟩; clear hK K
     refine ng 35 ?_
     refine pv 6 36 18 127 HT_ ?_
     refine pv 7 37 18 255 HT_ ?_
     refine pv 8 38 18 511 HT_ ?_
     refine tv 9 39 18 1023 HT_ HW_ hHeld ?_
     refine pv 10 40 18 2047 HT_ ?_
     refine pv 11 41 18 4095 HT_ ?_
     refine pv 12 42 18 8191 HT_ ?_
     refine tv 13 43 18 16383 HT_ HW_ hHeld ?_
     refine pv 14 44 18 32767 HT_ ?_
     refine tv 15 45 18 65535 HT_ HW_ hHeld ?_
     refine pv 16 46 18 131071 HT_ ?_
     refine pv 17 47 18 262143 HT_ ?_
     refine done_ (done_of HT_.out (by kernel_rfl)) ?_
     go_wp2
     go_ret
     exact ⟨rfl, hB4⟩
  ·have hr : r = true := by rw [← HQ.out, HI.out, List.drop_eq_nil_of_le (by omega)]; rfl
   subst hr
   clear HI
   go_wp2
   go_ret
   exact ⟨rfl, HB.out⟩
end Go.Proofs.Q
end
section
namespace Go.Proofs.Q
open RowKit Shelf Rf Pw Pl Pm
theorem okB_bad {t : Int} {x : S38} (h : I6 x.f2.f0) : okB t x = true ↔ badF t x = some false := by
 have e := vdB_eq (a := x.f0) (b := x.f1) (d := x.f2.f1) (f := x.f3) h.1 h.2
 unfold okB
 constructor
 ·intro g
  simp only [Bool.and_eq_true, beq_iff_eq] at g
  rw [g.1] at e
  have := bad_of_valid e
  rwa [g.2] at this
 ·intro g
  have hk := bad_kind g
  have hv := valid_bad g
  rw [hv] at e
  simp only [Bool.and_eq_true, beq_iff_eq]
  exact ⟨(Option.some.inj e).symm, hk⟩
theorem ok_all {t : Int} {es : List S38} (h : ∀ x ∈ es, I6 x.f2.f0) : es.all (okB t) = true ↔ ∀ x ∈ es, badF t x = some false := by
 rw [List.all_eq_true]
 exact ⟨fun g x hx => (okB_bad (h x hx)).1 (g x hx), fun g x hx => (okB_bad (h x hx)).2 (g x hx)⟩
/-- ref08.Check -/
theorem rck_w (t : Int) (A1 A2 : Option Addr) (n m c1 c2 : Nat) (ds : List S54) (es : List S38) (w : World) (hr : Arr w A1 n c1 ds A2 m c2 es) (h6 : ∀ x ∈ es, I6 x.f2.f0) (hl : es.length ≤ 1000000) :
  ∃ b, (b = true ↔ Fine t ds es) ∧ Calls Tryz.prog 16 #[.agg #[.int .i64 t, .slice A1 n c1, .slice A2 m c2]] w (Bq b w) := by
 obtain ⟨hr1, hc1, hr2, hc2⟩ := hr
 obtain rfl := hr1.1
 obtain rfl := hr2.1
 have hT : ∀ W, Calls Tryz.prog 42 #[.int .i64 t] W (Bq (isTy t) W) := rtype_w t
 have hE : ∀ W, Kd.C k54 W A1 ds.length ds → Calls Tryz.prog 45 #[.slice A1 ds.length c1] W (AI (errOf ds) W) := fun W h => rerr_w ds A1 c1 W h hc1
 by_cases t0 : isTy t = true
 ·rw [t0] at hT
  by_cases e0 : errOf ds = 0
  ·have hZ : ∀ W, Kd.C k54 W A1 ds.length ds → Calls Tryz.prog 46 #[.slice A1 ds.length c1] W (AI (prodL ds) W) := fun W h => rsize_w e0 A1 c1 W h hc1
   rw [e0] at hE
   by_cases z0 : (es.length : Int) = prodL ds
   ·refine ⟨_, ?_, rck_go t A1 A2 c1 c2 ds es w _ (Lib.hid hT) (Lib.hid hE) (Lib.hid hZ) (by simpa using z0) (Lib.hid hr1) (Lib.hid hr2) (Lib.hid h6) hl _ (Lib.hid rfl)⟩
    rw [ok_all h6]
    exact ⟨fun g => ⟨t0, e0, z0, g⟩, fun g => g.2.2.2⟩
   ·exact ⟨false, ⟨fun h => by simp at h, fun g => absurd g.2.2.1 z0⟩, rck_no3 t A1 A2 c1 c2 ds es w _ (Lib.hid hT) (Lib.hid hE) (Lib.hid hZ) (by simpa using z0) (Lib.hid hr1)⟩
  ·exact ⟨false, ⟨fun h => by simp at h, fun g => absurd g.2.1 e0⟩, rck_no2 t A1 A2 c1 c2 ds es w _ (Lib.hid hT) (Lib.hid hE) (by simpa using e0) (Lib.hid hr1)⟩
 ·rw [Bool.eq_false_iff.mpr t0] at hT
  exact ⟨false, ⟨fun h => by simp at h, fun g => absurd g.1 t0⟩, rck_no1 t A1 A2 c1 c2 ds es w (Lib.hid hT)⟩
theorem rck_yes {t : Int} {ds : List S54} {es : List S38} (F : Fine t ds es) (h6 : ∀ x ∈ es, I6 x.f2.f0) (A1 A2 : Option Addr) (n m c1 c2 : Nat) (w : World) (hr : Arr w A1 n c1 ds A2 m c2 es) (hl : es.length ≤ 1000000) : Calls Tryz.prog 16 #[.agg #[.int .i64 t, .slice A1 n c1, .slice A2 m c2]] w (Bq true w) := by
 obtain ⟨b, hb, h⟩ := rck_w t A1 A2 n m c1 c2 ds es w hr h6 hl
 rwa [hb.2 F] at h
theorem rck_not {t : Int} {ds : List S54} {es : List S38} (F : ¬ Fine t ds es) (h6 : ∀ x ∈ es, I6 x.f2.f0) (A1 A2 : Option Addr) (n m c1 c2 : Nat) (w : World) (hr : Arr w A1 n c1 ds A2 m c2 es) (hl : es.length ≤ 1000000) : Calls Tryz.prog 16 #[.agg #[.int .i64 t, .slice A1 n c1, .slice A2 m c2]] w (Bq false w) := by
 obtain ⟨b, hb, h⟩ := rck_w t A1 A2 n m c1 c2 ds es w hr h6 hl
 cases b with
 | false => exact h
 | true => exact absurd (hb.1 rfl) F
end Go.Proofs.Q
end
