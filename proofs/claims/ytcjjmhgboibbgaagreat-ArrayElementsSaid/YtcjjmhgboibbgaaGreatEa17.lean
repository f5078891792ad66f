/-
 Texts of the proof, in build order: words that the walks use, contracts of functions, plain facts.
-/
import Derived.Deep.RegionHeld3
import Derived.Test.YtcjjmhgboibbgaaGreatEa5
import Derived.Test.YtcjjmhgboibbgaaGreatEa7
import Derived.Test.YtcjjmhgboibbgaaGreatEa9
import Derived.Test.YtcjjmhgboibbgaaGreatEa10
import Derived.Test.YtcjjmhgboibbgaaGreatEa14
import Derived.Test.YtcjjmhgboibbgaaGreatEa15
import Derived.Test.YtcjjmhgboibbgaaGreatEa16
set_option maxHeartbeats 40000000
set_option maxRecDepth 100000
set_option linter.unusedVariables false
set_option linter.unusedSimpArgs false
section
namespace Go.Proofs.Q
open RowKit Shelf Rf Pw Pl Pm
def planeL : List S54 := [⟨1, 2⟩, ⟨0, 2⟩]
theorem plane_c (w : World) : Calls Tryz.prog 22 #[] w fun e w' => ∃ A c, e = .returned (.slice A 2 c) ∧ (2 ≤ c ∧ Kd.C k54 w' A 2 planeL ∧ Kd.V k54 54 w' w'.heap.size (fun _ => True) (.slice A 2 c) planeL) ∧ Below w.heap.size w w' := by
 refine (manorboylaw08_plane.calls planeL w (by rfl)).mono ?_
 rintro e w' ⟨v, rfl, hr, hb⟩
 have hv := Kd.R_V (base' := w'.heap.size) hr
 obtain ⟨A, c, rfl, hc, hC⟩ := Kd.R_reads hr
 exact ⟨A, c, rfl, ⟨hc, hC, hv⟩, hb⟩
theorem off_c (A : Option Addr) (c : Nat) (A1 : Option Addr) (c1 : Nat) (s : List Int) (r1 r2 : Int) (w : World) (hc : 2 ≤ c) (hC : Kd.C k54 w A 2 planeL) (hs : s.length = 2) (hc1 : 2 ≤ c1) (hC1 : Kd.C (Kd.int .i64) w A1 2 s) (h : array_Offset.f planeL s = some (r1, r2)) :
  Calls Tryz.prog 21 #[.slice A 2 c, .slice A1 2 c1] w fun e w' => e = .returned (.tuple #[.int .i64 r1, .int .i64 r2]) ∧ Below w.heap.size w w' := by
 have := array_Offset.calls A c planeL A1 c1 s r1 r2 w hC hc (by rw [hs]; exact hC1) (by rw [hs]; exact hc1) h
 rw [hs] at this
 exact this
theorem t1 : array_Offset.f planeL [1, 2] = some (2, 0) := by decide +kernel
theorem t2 : array_Offset.f planeL [2, 0] = some (3, 0) := by decide +kernel
theorem t3 : array_Offset.f planeL [3, 0] = some (0, 3) := by decide +kernel
theorem t4 : array_Strides.f planeL = some ([3, 1], -3, 0) := by decide +kernel
theorem t5 : array_Subscripts.f 1000 planeL 5 = some ([2, 2], 0) := by decide +kernel
theorem t6 : array_Resize.f 1 [⟨1, 3⟩] [⟨1, 7, z36, false⟩, ⟨1, 8, z36, false⟩, ⟨1, 9, z36, false⟩] [⟨2, 4⟩] = some (1, [⟨2, 4⟩], [⟨1, 8, z36, false⟩, ⟨1, 9, z36, false⟩, ⟨1, 0, z36, false⟩], 0) := by kernel_rfl
theorem t7 : array_Resize.f 1 [⟨2, 4⟩] [⟨1, 8, z36, false⟩, ⟨1, 9, z36, false⟩, ⟨1, 0, z36, false⟩] [⟨1, 3⟩] = some (1, [⟨1, 3⟩], [⟨1, 0, z36, false⟩, ⟨1, 8, z36, false⟩, ⟨1, 9, z36, false⟩], 0) := by kernel_rfl
theorem subs_c (A : Option Addr) (c : Nat) (w : World) (hV : Kd.V k54 54 w w.heap.size (fun _ => True) (.slice A 2 c) planeL) :
  Calls Tryz.prog 23 #[.slice A 2 c, .int .i64 5] w fun e w' => ∃ A1 c1, e = .returned (.tuple #[.slice A1 2 c1, .int .i64 0]) ∧ (2 ≤ c1 ∧ Kd.C (Kd.int .i64) w' A1 2 [2, 2]) ∧ Below w.heap.size w w' := by
 refine (array_Subscripts.calls 1000 (fun _ => True) A c planeL 5 [2, 2] 0 w hV t5).mono ?_
 rintro e w' ⟨v, rfl, hr, hb⟩
 obtain ⟨A1, c1, rfl, hc, hC⟩ := Kd.R_reads hr
 exact ⟨A1, c1, rfl, ⟨hc, hC⟩, hb⟩
theorem str_c (A : Option Addr) (c : Nat) (w : World) (hc : 2 ≤ c) (hC : Kd.C k54 w A 2 planeL) :
  Calls Tryz.prog 24 #[.slice A 2 c] w fun e w' => ∃ A1 c1, e = .returned (.tuple #[.slice A1 2 c1, .int .i64 (-3), .int .i64 0]) ∧ (2 ≤ c1 ∧ Kd.C (Kd.int .i64) w' A1 2 [3, 1]) ∧ Below w.heap.size w w' := by
 refine (array_Strides.calls A c planeL [3, 1] (-3) 0 w hC hc t4).mono ?_
 rintro e w' ⟨v, rfl, hr, hb⟩
 obtain ⟨A1, c1, rfl, hc, hC⟩ := Kd.R_reads hr
 exact ⟨A1, c1, rfl, ⟨hc, hC⟩, hb⟩
theorem C_two_ints (W : World) (a b : Int) : Kd.C (Kd.int .i64) (W.alloc (.cells #[.int .i64 a, .int .i64 b] 3)) (some ⟨W.heap.size, 0, none⟩) 2 [a, b] := by
 refine Kd.C_of_reads (d := 0) ⟨rfl, by omega, fun _ => ⟨_, rfl, fun j hj => ?_⟩⟩
 rw [add_at, kC (heap_alloc_new W _)]
 match j, hj with
 | 0, _ => rfl
 | 1, _ => rfl
theorem same_c (A : Option Addr) (c : Nat) (A1 : Option Addr) (c1 : Nat) (s : List Int) (w : World) (hs : s.length = 2) (hc : 2 ≤ c) (hC : Kd.C (Kd.int .i64) w A 2 s) (hc1 : 2 ≤ c1) (hC1 : Kd.C (Kd.int .i64) w A1 2 s) (h : manorboylaw08_sameInts.f 1000 s s = some true) :
  Calls Tryz.prog 25 #[.slice A 2 c, .slice A1 2 c1] w fun e w' => e = .returned (.bool true) ∧ Below w.heap.size w w' := by
 have := manorboylaw08_sameInts.calls 1000 A c s A1 c1 s true w (by rw [hs]; exact hC) (by rw [hs]; exact hc) (by rw [hs]; exact hC1) (by rw [hs]; exact hc1) h
 rw [hs] at this
 refine this.mono ?_
 rintro e w' ⟨rfl, ⟨n, rfl⟩⟩
 exact ⟨rfl, ⟨rfl, rfl, rfl, Nat.le_refl _, fun _ _ => rfl⟩⟩
theorem t8 : manorboylaw08_sameInts.f 1000 [2, 2] [2, 2] = some true := by decide +kernel
theorem t9 : manorboylaw08_sameInts.f 1000 [3, 1] [3, 1] = some true := by decide +kernel
theorem int_c (n : Int) (w : World) : Calls Tryz.prog 26 #[.int .i64 n] w fun e w' => e = .returned (.agg #[.int .i64 1, .int .i64 n, .int .i64 0, .int .i64 0, .bool false]) ∧ Below w.heap.size w w' := manorboylaw08_integer.calls n 1 n 0 0 false w rfl
theorem C_c40 (x : S54) {W : World} {g : Nat} (hg : W.heap[g]? = some (.cells #[.int .i64 x.f0, .int .i64 x.f1] 54)) : Kd.C k54 W (some ⟨g, 0, none⟩) 1 [x] := by
 refine ⟨rfl, by omega, fun _ => ⟨⟨g, 0, none⟩, rfl, fun j p hj => ?_⟩⟩
 cases j with
 | succ j => simp at hj
 | zero =>
  simp at hj; subst hj
  refine ⟨[.int .i64 x.f0, .int .i64 x.f1], rfl, k54_mk W x, fun i u hu => ?_⟩
  rw [Nat.zero_mul, add_at, Nat.zero_add, Nat.zero_add, cell_of_row W g i _ 54 (0, 0) hg]
  simpa using hu
theorem C_flat (L : List S38) {W : World} {g : Nat} (hl : L.length ≤ 1000) (hg : W.heap[g]? = some (.cells (flat59 L).toArray 38)) : Kd.C k38 W (some ⟨g, 0, none⟩) L.length L := by
 refine ⟨rfl, by omega, fun _ => ⟨⟨g, 0, none⟩, rfl, fun j p hj => ?_⟩⟩
 refine ⟨c59 p, rfl, k38_mk W p, fun i u hu => ?_⟩
 rw [add_at, Nat.zero_add, cell_of_row W g _ _ 38 (0, 0) hg]
 have h5 := flat_chunk L j p hj
 rw [← h5, List.getElem?_take] at hu
 split at hu
 ·simpa [show k38.sz = 5 from rfl] using hu
 ·cases hu
theorem C_three {W : World} {g : Nat} (a b c : Int) (hg : W.heap[g]? = some (.cells #[.int .i64 1, .int .i64 a, .int .i64 0, .int .i64 0, .bool false, .int .i64 1, .int .i64 b, .int .i64 0, .int .i64 0, .bool false, .int .i64 1, .int .i64 c, .int .i64 0, .int .i64 0, .bool false] 38)) : Kd.C k38 W (some ⟨g, 0, none⟩) 3 [⟨1, a, z36, false⟩, ⟨1, b, z36, false⟩, ⟨1, c, z36, false⟩] :=
 C_flat [⟨1, a, z36, false⟩, ⟨1, b, z36, false⟩, ⟨1, c, z36, false⟩] (by simp) hg
theorem new2 (W : World) (a b c : Obj) : (((W.alloc a).alloc b).alloc c).heap[W.heap.size + 1 + 1]? = some c := by
 have := heap_alloc_new ((W.alloc a).alloc b) c
 rwa [World.size_alloc, World.size_alloc] at this
theorem new1 (W : World) (a b : Obj) : ((W.alloc a).alloc b).heap[W.heap.size + 1]? = some b := by
 have := heap_alloc_new (W.alloc a) b
 rwa [World.size_alloc] at this
def SanPost (w : World) (e : Ending) (w' : World) : Prop := e = .returned (.bool true) ∧ Below w.heap.size w w'
theorem cells1 {W : World} {A : Option Addr} {a b c : Int} (h : k38.C W A 3 [⟨1, a, z36, false⟩, ⟨1, b, z36, false⟩, ⟨1, c, z36, false⟩]) : ∃ g o, A = some ⟨g, o, none⟩ ∧ W.cell? ⟨g, o, none⟩ = some (.int .i64 1) ∧ W.cell? ⟨g, o + 1, none⟩ = some (.int .i64 a) ∧ W.cell? ⟨g, o + 2, none⟩ = some (.int .i64 0) ∧ W.cell? ⟨g, o + 3, none⟩ = some (.int .i64 0) ∧ W.cell? ⟨g, o + 4, none⟩ = some (.bool false) ∧ W.cell? ⟨g, o + 5, none⟩ = some (.int .i64 1) ∧ W.cell? ⟨g, o + 6, none⟩ = some (.int .i64 b) ∧ W.cell? ⟨g, o + 7, none⟩ = some (.int .i64 0) ∧ W.cell? ⟨g, o + 8, none⟩ = some (.int .i64 0) ∧ W.cell? ⟨g, o + 9, none⟩ = some (.bool false) ∧ W.cell? ⟨g, o + 10, none⟩ = some (.int .i64 1) ∧ W.cell? ⟨g, o + 11, none⟩ = some (.int .i64 c) ∧ W.cell? ⟨g, o + 12, none⟩ = some (.int .i64 0) ∧ W.cell? ⟨g, o + 13, none⟩ = some (.int .i64 0) ∧ W.cell? ⟨g, o + 14, none⟩ = some (.bool false) := by
 obtain ⟨ad, rfl, a0, a1, a2, a3, a4⟩ := at_T38 h 0 (by omega) (by omega)
 obtain ⟨_, e, b0, b1, b2, b3, b4⟩ := at_T38 h 1 (by omega) (by omega)
 cases e
 obtain ⟨_, e, c0, c1, c2, c3, c4⟩ := at_T38 h 2 (by omega) (by omega)
 cases e
 obtain ⟨g, o, rfl⟩ : ∃ g o, ad = ⟨g, o, none⟩ := by
  obtain ⟨b, o, s⟩ := ad
  cases s with
  | none => exact ⟨b, o, rfl⟩
  | some s =>
   exfalso
   obtain ⟨b', o', e'⟩ := addr_of a0
   unfold Addr.add at e'
   split at e' <;> simp_all
 simp only [add_at] at a0 a1 a2 a3 a4 b0 b1 b2 b3 b4 c0 c1 c2 c3 c4
 exact ⟨g, o, rfl, a0, a1, a2, a3, a4, b0, b1, b2, b3, b4, c0, c1, c2, c3, c4⟩
theorem keepS {w W W' : World} {p0 p1 p2 p3 p4 p5 p6 p7 p8 p9 p10 p11 p12 p13 p14 p15 p16 p17 p18 p19 p20 p21 : Addr} {v0 v1 v2 v3 v4 v5 v6 v7 v8 v9 v10 v11 v12 v13 v14 v15 v16 v17 v18 v19 v20 v21 : Value} (h : Below w.heap.size w W ∧ W.cell? p0 = some v0 ∧ W.cell? p1 = some v1 ∧ W.cell? p2 = some v2 ∧ W.cell? p3 = some v3 ∧ W.cell? p4 = some v4 ∧ W.cell? p5 = some v5 ∧ W.cell? p6 = some v6 ∧ W.cell? p7 = some v7 ∧ W.cell? p8 = some v8 ∧ W.cell? p9 = some v9 ∧ W.cell? p10 = some v10 ∧ W.cell? p11 = some v11 ∧ W.cell? p12 = some v12 ∧ W.cell? p13 = some v13 ∧ W.cell? p14 = some v14 ∧ W.cell? p15 = some v15 ∧ W.cell? p16 = some v16 ∧ W.cell? p17 = some v17 ∧ W.cell? p18 = some v18 ∧ W.cell? p19 = some v19 ∧ W.cell? p20 = some v20 ∧ W.cell? p21 = some v21) (hb : Below W.heap.size W W') : Below w.heap.size w W' ∧ W'.cell? p0 = some v0 ∧ W'.cell? p1 = some v1 ∧ W'.cell? p2 = some v2 ∧ W'.cell? p3 = some v3 ∧ W'.cell? p4 = some v4 ∧ W'.cell? p5 = some v5 ∧ W'.cell? p6 = some v6 ∧ W'.cell? p7 = some v7 ∧ W'.cell? p8 = some v8 ∧ W'.cell? p9 = some v9 ∧ W'.cell? p10 = some v10 ∧ W'.cell? p11 = some v11 ∧ W'.cell? p12 = some v12 ∧ W'.cell? p13 = some v13 ∧ W'.cell? p14 = some v14 ∧ W'.cell? p15 = some v15 ∧ W'.cell? p16 = some v16 ∧ W'.cell? p17 = some v17 ∧ W'.cell? p18 = some v18 ∧ W'.cell? p19 = some v19 ∧ W'.cell? p20 = some v20 ∧ W'.cell? p21 = some v21 :=
 let ⟨h0, c0, c1, c2, c3, c4, c5, c6, c7, c8, c9, c10, c11, c12, c13, c14, c15, c16, c17, c18, c19, c20, c21⟩ := h
 ⟨bS h0 hb, cB hb c0, cB hb c1, cB hb c2, cB hb c3, cB hb c4, cB hb c5, cB hb c6, cB hb c7, cB hb c8, cB hb c9, cB hb c10, cB hb c11, cB hb c12, cB hb c13, cB hb c14, cB hb c15, cB hb c16, cB hb c17, cB hb c18, cB hb c19, cB hb c20, cB hb c21⟩
theorem sanity_walk (w : World) : Calls Tryz.prog 6 #[] w (SanPost w) := by
 have hB := Below.refl w.heap.size w
 go_enter Tryz.func6, Tryz.ntmps6
 go_wp2_with (first
  | (go_at_call 22; refine (plane_c _).mono ?_; rintro e w1 ⟨A, c, rfl, ⟨hc, hC, hV⟩, hb⟩; (replace hB := bS hB hb); (have HC := Lib.hid hC); (have HV := Lib.hid hV); (try replace hT := bS hT hb); (try replace hX := bS hX hb); clear hC hV hb)
  | (go_at_call 21; refine (off_c A c _ _ [1, 2] 2 0 _ hc (Kd.C_below HC.out (bA (Below.refl _ _) _)) rfl (Nat.le_refl _) (C_two_ints _ _ _) t1).mono ?_; rintro e w2 ⟨rfl, hb⟩; (replace hB := bS (bA hB _) hb); clear hb HC HV hc)
  | (go_at_call 21; refine (off_c A c _ _ [2, 0] 3 0 _ hc (Kd.C_below HC.out (bA (Below.refl _ _) _)) rfl (Nat.le_refl _) (C_two_ints _ _ _) t2).mono ?_; rintro e w2 ⟨rfl, hb⟩; (replace hB := bS (bA hB _) hb); clear hb HC HV hc)
  | (go_at_call 21; refine (off_c A c _ _ [3, 0] 0 3 _ hc (Kd.C_below HC.out (bA (Below.refl _ _) _)) rfl (Nat.le_refl _) (C_two_ints _ _ _) t3).mono ?_; rintro e w5 ⟨rfl, hb⟩; (replace hB := bS (bA hB _) hb); (replace hT := bS (bA hT _) hb); (replace hX := bS (bA hX _) hb); clear hb HC HV hc)
  | (go_at_call 23; refine (subs_c A c _ HV.out).mono ?_; rintro e w3 ⟨A1, c1, rfl, ⟨hc1, hS⟩, hb⟩; (replace hB := bS hB hb); (have S3 := Lib.hid hS); (have hT := Below.refl w3.heap.size w3); clear hS hb HC HV hc)
  | (go_at_call 24; refine (str_c A c _ hc HC.out).mono ?_; rintro e w4 ⟨A2, c2, rfl, ⟨hc2, hU⟩, hb⟩; (replace hB := bS hB hb); (have U4 := Lib.hid hU); (replace hT := bS hT hb); (have hX := Below.refl w4.heap.size w4); clear hU hb HC HV hc)
  | (go_at_call 25; go_loud (refine (same_c _ _ _ _ [2, 2] _ ?hl ?hc ?hC ?hd ?hD ?hf).mono ?_); go_loud (case hl => rfl); go_loud (case hc => exact hc1); go_loud (case hC => exact Kd.C_below S3.out (bA hT _)); go_loud (case hd => exact Nat.le_refl _); go_loud (case hD => exact C_two_ints _ _ _); go_loud (case hf => exact t8); rintro e w6 ⟨rfl, hb⟩; (replace hB := bS (bA hB _) hb); (replace hX := bS (bA hX _) hb); clear hb S3 hT hc1)
  | (go_at_call 25; go_loud (refine (same_c _ _ _ _ [3, 1] _ ?hl ?hc ?hC ?hd ?hD ?hf).mono ?_); go_loud (case hl => rfl); go_loud (case hc => exact hc2); go_loud (case hC => exact Kd.C_below U4.out (bA hX _)); go_loud (case hd => exact Nat.le_refl _); go_loud (case hD => exact C_two_ints _ _ _); go_loud (case hf => exact t9); rintro e w7 ⟨rfl, hb⟩; (replace hB := bS (bA hB _) hb); clear hb hX U4 hc2)
  | (go_at_call 26; refine (int_c _ _).mono ?_; rintro e w8 ⟨rfl, hb⟩; (first | (replace hD := kB hD hb) | (have hD : w8.heap[w7.heap.size]? = some (.cells #[.int .i64 1, .int .i64 3] 54) := kB (heap_alloc_new _ _) hb)); (replace hB : Below w.heap.size w w8 := bS (by first | exact hB | exact bA hB _) hb); clear hb)
  | (go_at_call 7; (have hD0 := hD); clear hD0; refine (array_Resize.calls 1 _ 1 [⟨1, 3⟩] _ 3 [⟨1, 7, z36, false⟩, ⟨1, 8, z36, false⟩, ⟨1, 9, z36, false⟩] _ 1 [⟨2, 4⟩] _ _ _ _ _ ?h1 (Nat.le_refl _) ?h2 (Nat.le_refl _) ?h3 (Nat.le_refl _) t6).mono ?_; go_loud (case h1 => exact C_c40 ⟨1, 3⟩ (kA (kA (kA hD _) _) _)); go_loud (case h2 => exact C_three _ _ _ (kA (kA (heap_alloc_new _ _) _) _)); go_loud (case h3 => exact C_c40 ⟨2, 4⟩ (new2 _ _ _ _)); rintro e w9 ⟨v1, v2, rfl, h1, h2, hb⟩; obtain ⟨A3, q3, rfl⟩ := Kd.R_slice h1; obtain ⟨A4, q4, rfl⟩ := Kd.R_slice h2; (replace hB := bS (bA (bA (bA hB _) _) _) hb); obtain ⟨_, _, eq1, hq3, hC3⟩ := Kd.R_reads h1; cases eq1; obtain ⟨_, _, eq1, hq4, hC4⟩ := Kd.R_reads h2; cases eq1; (have HV1 := Lib.hid hC3); (have HV2 := Lib.hid hC4); clear h1 h2 hb hC3 hC4 hD)
  | (go_at_call 7; (have hV0 := HV2); clear hV0; refine (array_Resize.calls 1 A3 q3 [⟨2, 4⟩] A4 q4 [⟨1, 8, z36, false⟩, ⟨1, 9, z36, false⟩, ⟨1, 0, z36, false⟩] _ 1 [⟨1, 3⟩] _ _ _ _ _ ?k1 hq3 ?k2 hq4 ?k3 (Nat.le_refl _) t7).mono ?_; go_loud (case k1 => exact Kd.C_below HV1.out (bA (bA (Below.refl _ _) _) _)); go_loud (case k2 => exact Kd.C_below HV2.out (bA (bA (Below.refl _ _) _) _)); go_loud (case k3 => exact C_c40 ⟨1, 3⟩ (new1 _ _ _)); rintro e w10 ⟨v1, v2, rfl, h1, h2, hb⟩; obtain ⟨A5, q5, rfl⟩ := Kd.R_slice h1; obtain ⟨A6, q6, rfl⟩ := Kd.R_slice h2; (have hG := kB (kA (heap_alloc_new _ _) _) hb); (replace HV2 := Lib.hid (Kd.C_below HV2.out (bS (bA (bA (Below.refl _ _) _) _) hb))); (replace hB := bS (bA (bA hB _) _) hb); obtain ⟨_, _, eq1, hq6, hC6⟩ := Kd.R_reads h2; cases eq1; (have HV6 := Lib.hid hC6); (have HG := Lib.hid hG); clear h1 h2 hb hC6 HV1 hq3 hG))
 obtain ⟨g4, o4, rfl, x0, x1, x2, x3, x4, -⟩ := cells1 HV2.out
 obtain ⟨g6, o6, rfl, y0, y1, y2, y3, y4, y5, y6, y7, y8, y9, y10, y11, y12, y13, y14⟩ := cells1 HV6.out
 obtain ⟨gb, hgb⟩ : ∃ gb, gb = w9.heap.size := ⟨_, rfl⟩
 obtain ⟨gc, hgc⟩ : ∃ gc, gc = w10.heap.size := ⟨_, rfl⟩
 rw [← hgb] at HG
 have hS : Below w.heap.size w (w10.alloc (.cells #[.int .i64 1, .slice A5 1 q5, .slice (some ⟨g6, o6, none⟩) 3 q6] 25)) ∧ (w10.alloc (.cells #[.int .i64 1, .slice A5 1 q5, .slice (some ⟨g6, o6, none⟩) 3 q6] 25)).cell? ⟨gb, 2, none⟩ = some (.slice (some ⟨g4, o4, none⟩) 3 q4) ∧ (w10.alloc (.cells #[.int .i64 1, .slice A5 1 q5, .slice (some ⟨g6, o6, none⟩) 3 q6] 25)).cell? ⟨gc, 2, none⟩ = some (.slice (some ⟨g6, o6, none⟩) 3 q6) ∧ (w10.alloc (.cells #[.int .i64 1, .slice A5 1 q5, .slice (some ⟨g6, o6, none⟩) 3 q6] 25)).cell? ⟨g4, o4, none⟩ = some (.int .i64 1) ∧ (w10.alloc (.cells #[.int .i64 1, .slice A5 1 q5, .slice (some ⟨g6, o6, none⟩) 3 q6] 25)).cell? ⟨g4, o4 + 1, none⟩ = some (.int .i64 8) ∧ (w10.alloc (.cells #[.int .i64 1, .slice A5 1 q5, .slice (some ⟨g6, o6, none⟩) 3 q6] 25)).cell? ⟨g4, o4 + 2, none⟩ = some (.int .i64 0) ∧ (w10.alloc (.cells #[.int .i64 1, .slice A5 1 q5, .slice (some ⟨g6, o6, none⟩) 3 q6] 25)).cell? ⟨g4, o4 + 3, none⟩ = some (.int .i64 0) ∧ (w10.alloc (.cells #[.int .i64 1, .slice A5 1 q5, .slice (some ⟨g6, o6, none⟩) 3 q6] 25)).cell? ⟨g4, o4 + 4, none⟩ = some (.bool false) ∧ (w10.alloc (.cells #[.int .i64 1, .slice A5 1 q5, .slice (some ⟨g6, o6, none⟩) 3 q6] 25)).cell? ⟨g6, o6, none⟩ = some (.int .i64 1) ∧ (w10.alloc (.cells #[.int .i64 1, .slice A5 1 q5, .slice (some ⟨g6, o6, none⟩) 3 q6] 25)).cell? ⟨g6, o6 + 1, none⟩ = some (.int .i64 0) ∧ (w10.alloc (.cells #[.int .i64 1, .slice A5 1 q5, .slice (some ⟨g6, o6, none⟩) 3 q6] 25)).cell? ⟨g6, o6 + 2, none⟩ = some (.int .i64 0) ∧ (w10.alloc (.cells #[.int .i64 1, .slice A5 1 q5, .slice (some ⟨g6, o6, none⟩) 3 q6] 25)).cell? ⟨g6, o6 + 3, none⟩ = some (.int .i64 0) ∧ (w10.alloc (.cells #[.int .i64 1, .slice A5 1 q5, .slice (some ⟨g6, o6, none⟩) 3 q6] 25)).cell? ⟨g6, o6 + 4, none⟩ = some (.bool false) ∧ (w10.alloc (.cells #[.int .i64 1, .slice A5 1 q5, .slice (some ⟨g6, o6, none⟩) 3 q6] 25)).cell? ⟨g6, o6 + 5, none⟩ = some (.int .i64 1) ∧ (w10.alloc (.cells #[.int .i64 1, .slice A5 1 q5, .slice (some ⟨g6, o6, none⟩) 3 q6] 25)).cell? ⟨g6, o6 + 6, none⟩ = some (.int .i64 8) ∧ (w10.alloc (.cells #[.int .i64 1, .slice A5 1 q5, .slice (some ⟨g6, o6, none⟩) 3 q6] 25)).cell? ⟨g6, o6 + 7, none⟩ = some (.int .i64 0) ∧ (w10.alloc (.cells #[.int .i64 1, .slice A5 1 q5, .slice (some ⟨g6, o6, none⟩) 3 q6] 25)).cell? ⟨g6, o6 + 8, none⟩ = some (.int .i64 0) ∧ (w10.alloc (.cells #[.int .i64 1, .slice A5 1 q5, .slice (some ⟨g6, o6, none⟩) 3 q6] 25)).cell? ⟨g6, o6 + 9, none⟩ = some (.bool false) ∧ (w10.alloc (.cells #[.int .i64 1, .slice A5 1 q5, .slice (some ⟨g6, o6, none⟩) 3 q6] 25)).cell? ⟨g6, o6 + 10, none⟩ = some (.int .i64 1) ∧ (w10.alloc (.cells #[.int .i64 1, .slice A5 1 q5, .slice (some ⟨g6, o6, none⟩) 3 q6] 25)).cell? ⟨g6, o6 + 11, none⟩ = some (.int .i64 9) ∧ (w10.alloc (.cells #[.int .i64 1, .slice A5 1 q5, .slice (some ⟨g6, o6, none⟩) 3 q6] 25)).cell? ⟨g6, o6 + 12, none⟩ = some (.int .i64 0) ∧ (w10.alloc (.cells #[.int .i64 1, .slice A5 1 q5, .slice (some ⟨g6, o6, none⟩) 3 q6] 25)).cell? ⟨g6, o6 + 13, none⟩ = some (.int .i64 0) ∧ (w10.alloc (.cells #[.int .i64 1, .slice A5 1 q5, .slice (some ⟨g6, o6, none⟩) 3 q6] 25)).cell? ⟨g6, o6 + 14, none⟩ = some (.bool false) := by
  have hb := bA (Below.refl w10.heap.size w10) (.cells #[.int .i64 1, .slice A5 1 q5, .slice (some ⟨g6, o6, none⟩) 3 q6] 25)
  refine ⟨bS hB hb, cB hb ?_, ?_, cB hb x0, cB hb x1, cB hb x2, cB hb x3, cB hb x4, cB hb y0, cB hb y1, cB hb y2, cB hb y3, cB hb y4, cB hb y5, cB hb y6, cB hb y7, cB hb y8, cB hb y9, cB hb y10, cB hb y11, cB hb y12, cB hb y13, cB hb y14⟩
  ·rw [kC HG.out]; rfl
  ·rw [hgc, kC (heap_alloc_new _ _)]; rfl
 rw [← hgb, ← hgc]
 generalize (w10.alloc (.cells #[.int .i64 1, .slice A5 1 q5, .slice (some ⟨g6, o6, none⟩) 3 q6] 25)) = W0 at hS ⊢
 clear HG hgb hgc HV2 HV6 hB x0 x1 x2 x3 x4 y0 y1 y2 y3 y4 y5 y6 y7 y8 y9 y10 y11 y12 y13 y14 hq4 hq6
 go_region_held3 (fun w' => Below w.heap.size w w' ∧ w'.cell? ⟨gb, 2, none⟩ = some (.slice (some ⟨g4, o4, none⟩) 3 q4) ∧ w'.cell? ⟨gc, 2, none⟩ = some (.slice (some ⟨g6, o6, none⟩) 3 q6) ∧ w'.cell? ⟨g4, o4, none⟩ = some (.int .i64 1) ∧ w'.cell? ⟨g4, o4 + 1, none⟩ = some (.int .i64 8) ∧ w'.cell? ⟨g4, o4 + 2, none⟩ = some (.int .i64 0) ∧ w'.cell? ⟨g4, o4 + 3, none⟩ = some (.int .i64 0) ∧ w'.cell? ⟨g4, o4 + 4, none⟩ = some (.bool false) ∧ w'.cell? ⟨g6, o6, none⟩ = some (.int .i64 1) ∧ w'.cell? ⟨g6, o6 + 1, none⟩ = some (.int .i64 0) ∧ w'.cell? ⟨g6, o6 + 2, none⟩ = some (.int .i64 0) ∧ w'.cell? ⟨g6, o6 + 3, none⟩ = some (.int .i64 0) ∧ w'.cell? ⟨g6, o6 + 4, none⟩ = some (.bool false) ∧ w'.cell? ⟨g6, o6 + 5, none⟩ = some (.int .i64 1) ∧ w'.cell? ⟨g6, o6 + 6, none⟩ = some (.int .i64 8) ∧ w'.cell? ⟨g6, o6 + 7, none⟩ = some (.int .i64 0) ∧ w'.cell? ⟨g6, o6 + 8, none⟩ = some (.int .i64 0) ∧ w'.cell? ⟨g6, o6 + 9, none⟩ = some (.bool false) ∧ w'.cell? ⟨g6, o6 + 10, none⟩ = some (.int .i64 1) ∧ w'.cell? ⟨g6, o6 + 11, none⟩ = some (.int .i64 9) ∧ w'.cell? ⟨g6, o6 + 12, none⟩ = some (.int .i64 0) ∧ w'.cell? ⟨g6, o6 + 13, none⟩ = some (.int .i64 0) ∧ w'.cell? ⟨g6, o6 + 14, none⟩ = some (.bool false))
  (first | exact keepS (by assumption) (by assumption) | exact hS | exact ⟨below_drew hS.1, hS.2⟩)
  (first | (go_at_call 26; refine (int_c _ _).mono ?_; rintro e w8 ⟨rfl, hb⟩))
 (try rename_i hHeld)
 have hF := hHeld.1
 clear hHeld hS
 go_wp2
 go_ret
 exact ⟨rfl, hF⟩
def manorboylaw08_sanity.f : Option (Bool) := some true
theorem manorboylaw08_sanity.calls (r : Bool) (w : World) (h : manorboylaw08_sanity.f = some r) :
  Calls Tryz.prog 6 #[] w fun e w' => e = .returned (.bool r) ∧ Below w.heap.size w w' := by
 cases h
 exact sanity_walk w
end Go.Proofs.Q
end
section
namespace Go.Proofs.Q
open RowKit Rf Pw Pl Pm
theorem badF_total (t : Int) (x : S38) : ∃ b, badF t x = some b := by
 unfold badF
 split
 ·have : ∃ b, validO x = some b := by
   unfold validO value_Valid.f value_ofInt.f value_ofReal.f value_ofBool.f integer_Valid.f real_Valid.f
   simp only [Option.bind_some]
   repeat' split
   all_goals first | exact ⟨_, rfl⟩ | (simp only [Option.bind_some]; exact ⟨_, rfl⟩)
  obtain ⟨b, hb⟩ := this
  exact ⟨!b, by rw [hb]; rfl⟩
 ·exact ⟨true, rfl⟩
theorem firstBad_word (t : Int) : ∀ (es : List S38) (i : Int), 0 ≤ i → ∃ r, firstBad t es i = some r ∧ (r < 0 ↔ ∀ x ∈ es, badF t x = some false)
 | [], i, hi => ⟨-1, rfl, by simp⟩
 | x :: es, i, hi => by
  obtain ⟨b, hb⟩ := badF_total t x
  cases b with
  | true =>
   refine ⟨i, by simp [firstBad, hb], ?_⟩
   constructor
   ·intro h; omega
   ·intro h; have := h x (by simp); rw [hb] at this; cases this
  | false =>
   obtain ⟨r, h1, h2⟩ := firstBad_word t es (i + 1) (by omega)
   refine ⟨r, by simp [firstBad, hb, h1], h2.trans ?_⟩
   simp [hb]
/-- what a valid array is -/
def Fine (t : Int) (ds : List S54) (es : List S38) : Prop := isTy t = true ∧ errOf ds = 0 ∧ (es.length : Int) = prodL ds ∧ ∀ x ∈ es, badF t x = some false
theorem check_word (t : Int) (ds : List S54) (es : List S38) : ∃ r, checkF t ds es = some r ∧ (r = 0 ↔ Fine t ds es) := by
 unfold checkF Fine
 by_cases h1 : isTy t = true
 ·by_cases h2 : errOf ds = 0
  ·by_cases h3 : (es.length : Int) = prodL ds
   ·obtain ⟨r, h4, h5⟩ := firstBad_word t es 0 (Int.le_refl _)
    rw [if_pos h1, if_pos h2, if_pos h3, h4]
    refine ⟨_, rfl, ?_⟩
    simp only [h1, h2, h3, true_and]
    rw [← h5]
    constructor
    ·intro h
     by_cases h0 : 0 ≤ r
     ·simp only [if_pos h0] at h; cases h
     ·omega
    ·intro h; rw [if_neg (by omega)]
   ·rw [if_pos h1, if_pos h2, if_neg h3]; exact ⟨1, rfl, by simp [h3]⟩
  ·rw [if_pos h1, if_neg h2]; exact ⟨1, rfl, by simp [h2]⟩
 ·rw [if_neg h1]; exact ⟨1, rfl, by simp [h1]⟩
theorem check_fine {t : Int} {ds : List S54} {es : List S38} (h : Fine t ds es) : checkF t ds es = some 0 := by
 obtain ⟨r, h1, h2⟩ := check_word t ds es
 rw [h1, h2.2 h]
theorem badF_zero {t : Int} (h : isTy t = true) : badF t (z38t t) = some false := by
 have : t = 1 ∨ t = 2 ∨ t = 3 := by simp [isTy] at h; omega
 rcases this with rfl | rfl | rfl <;> decide +kernel
theorem subsAt_plc : ∀ (l : List S54) (s : List Int), (∀ d ∈ l, 1 ≤ ext d) → inB l s = true → 0 ≤ plc l s ∧ plc l s < prodL l ∧ subsAt l (plc l s) = s
 | [], [], _, _ => ⟨by simp [plc], by simp [plc, prodL], rfl⟩
 | [], _ :: _, _, h => by simp [inB] at h
 | _ :: _, [], _, h => by simp [inB] at h
 | d :: r, k :: s, hp, h => by
  simp only [inB, Bool.and_eq_true, decide_eq_true_eq] at h
  have hr : ∀ d ∈ r, 1 ≤ ext d := fun e he => hp e (by simp [he])
  obtain ⟨i0, i1, i2⟩ := subsAt_plc r s hr h.2
  have hP := prodL_pos r hr
  have e1 : plc (d :: r) (k :: s) / prodL r = k - d.f0 := by
   simp only [plc]
   rw [Int.add_comm, Int.add_mul_ediv_left _ _ (by omega), Int.ediv_eq_zero_of_lt i0 i1]; omega
  have e2 : plc (d :: r) (k :: s) % prodL r = plc r s := by
   simp only [plc]
   rw [Int.add_comm, Int.add_mul_emod_self_left, Int.emod_eq_of_lt i0 i1]
  have he : ext d = d.f1 - d.f0 + 1 := rfl
  refine ⟨?_, ?_, ?_⟩
  ·simp only [plc]
   have := Int.mul_nonneg (show 0 ≤ prodL r by omega) (show 0 ≤ k - d.f0 by omega)
   omega
  ·simp only [plc, prodL]
   have := Int.mul_le_mul_of_nonneg_left (show k - d.f0 + 1 ≤ ext d by omega) (show 0 ≤ prodL r by omega)
   rw [Int.mul_add, Int.mul_comm (prodL r) (ext d)] at this
   omega
  ·simp only [subsAt, e1, e2, i2]
   congr 1
   omega
/-- the element at a subscript list -/
def vAt (ds : List S54) (es : List S38) (s : List Int) : Option S38 := if inB ds s = true then es[(plc ds s).toNat]? else none
theorem vAt_some {ds : List S54} {es : List S38} (hp : ∀ d ∈ ds, 1 ≤ ext d) (hl : (es.length : Int) = prodL ds) {s : List Int} (hb : inB ds s = true) : ∃ x, vAt ds es s = some x ∧ x ∈ es ∧ x = rd_T38 es (plc ds s) ∧ 0 ≤ plc ds s ∧ plc ds s < (es.length : Int) := by
 obtain ⟨h0, h1, _⟩ := subsAt_plc ds s hp hb
 have hlt : (plc ds s).toNat < es.length := by omega
 refine ⟨es[(plc ds s).toNat], by unfold vAt; rw [if_pos hb]; exact List.getElem?_eq_getElem hlt, List.getElem_mem hlt, ?_, h0, by omega⟩
 simp [rd_T38, List.getD, hlt]
theorem dim_same_l (a : List S54) (h4 : a.length ≤ 1000) : ∀ (r : List S54) (j : Nat), a.drop j = r → Ev (fun k => api_Dim_51.l0 k a a (a.length : Int) (j : Int)) true := by
 intro r
 induction r with
 | nil =>
  intro j h
  refine Ev.one fun k => ?_
  simp only [api_Dim_51.l0, if_neg (not_lt_nil h)]
 | cons d r ih =>
  intro j h
  have hj := lt_drop h
  have c1 : (j : Int) < (a.length : Int) := by omega
  have c2 : (0 : Int) ≤ (j : Int) := by omega
  refine Ev.succ (ih (j + 1) (drop_next h)) fun k => ?_
  simp only [api_Dim_51.l0, if_pos c1, if_pos c2, rdT_drop h, wrap_next (j := j) (by omega)]
  simp
theorem rdV_drop {l r : List S38} {d : S38} {j : Nat} (h : l.drop j = d :: r) : rd_T38 l (j : Int) = d := by
 have : l[j]? = some d := by
  have := congrArg (fun x => x[0]?) h
  simpa using this
 simp [rd_T38, List.getD, this]
theorem val_same_l (a : List S38) (h4 : a.length ≤ 2000) : ∀ (r : List S38) (j : Nat), a.drop j = r → Ev (fun k => api_Value_52.l0 k a a (a.length : Int) (j : Int)) true := by
 intro r
 induction r with
 | nil =>
  intro j h
  refine Ev.one fun k => ?_
  simp only [api_Value_52.l0, if_neg (not_lt_nil h)]
 | cons d r ih =>
  intro j h
  have hj := lt_drop h
  have c1 : (j : Int) < (a.length : Int) := by omega
  have c2 : (0 : Int) ≤ (j : Int) := by omega
  refine Ev.succ (ih (j + 1) (drop_next h)) fun k => ?_
  simp only [api_Value_52.l0, if_pos c1, if_pos c2, rdV_drop h, wrap_next (j := j) (by omega)]
  simp
theorem same_self {t : Int} {ds : List S54} {es : List S38} (h : Fine t ds es) : ∃ k, array_Same.f k t ds es t ds es = some true := by
 have hc := check_fine h
 obtain ⟨K1, h1⟩ := dim_same_l ds (by have := (errOf_zero h.2.1).2.2.2.2; omega) ds 0 rfl
 obtain ⟨K2, h2⟩ := val_same_l es (by have := (errOf_zero h.2.1).2.1.2.2; have := h.2.2.1; omega) es 0 rfl
 refine ⟨K1 + K2, ?_⟩
 have a1 : api_Dim_51.l0 (K1 + K2) ds ds (ds.length : Int) 0 = some true := h1 _ (by omega)
 have a2 : api_Value_52.l0 (K1 + K2) es es (es.length : Int) 0 = some true := h2 _ (by omega)
 simp only [array_Same.f, array_Check.f, hc, Option.bind_some, if_true, api_Dim_51.f, api_Value_52.f, a1, a2]
theorem get_off_l (l : List S54) (ks : List Int) (hp : Proper l) (h4 : l.length ≤ 4) : ∀ (r : List S54) (s : List Int) (j : Nat) (n : Int), l.drop j = r → ks.drop j = s → ks.length = l.length → -2147483647000 * (4 + (j : Int)) ≤ n → n ≤ 2147483647000 * (4 + (j : Int)) →
  Ev (fun k => array_offset.l0 k l (strL l) n ks (ks.length : Int) (j : Int)) (offGo r (strL r) s n) := by
 intro r
 induction r with
 | nil =>
  intro s j n h hs hl hlo hhi
  have hj := List.drop_eq_nil_iff.1 h
  have hs2 : s = [] := by rw [← hs]; exact List.drop_eq_nil_iff.2 (by omega)
  subst hs2
  refine Ev.one fun k => ?_
  simp only [array_offset.l0, if_neg (not_lt_nil hs), strL, offGo]
 | cons d r ih =>
  intro s j n h hs hl hlo hhi
  have hj := lt_drop h
  cases s with
  | nil => have := List.drop_eq_nil_iff.1 hs; omega
  | cons x s =>
   have c1 : (j : Int) < (l.length : Int) := by omega
   have c2 : (0 : Int) ≤ (j : Int) := by omega
   have c3 : (j : Int) < (ks.length : Int) := by omega
   have c4 : (j : Int) < ((strL l).length : Int) := by rw [strL_length]; exact c1
   have hpr : Proper r := by rw [← drop_next h]; exact hp.drop _
   have hn := hp.1 d (mem_drop h)
   unfold near at hn
   by_cases b1 : x < d.f0
   ·refine Ev.one fun k => ?_
    simp only [array_offset.l0, if_pos c1, if_pos c2, if_pos c3, rdT_drop h, rd_drop hs, if_pos b1, strL, offGo]
   ·by_cases b2 : x > d.f1
    ·refine Ev.one fun k => ?_
     simp only [array_offset.l0, if_pos c1, if_pos c2, if_pos c3, rdT_drop h, rd_drop hs, if_neg b1, if_pos b2, strL, offGo, if_pos (show d.f1 < x from b2)]
    ·have hm := mul_bd (prodL r) x hpr.pos hpr.2.2 (by omega) (by omega)
     have w1 : wrap64 (prodL r * x) = prodL r * x := wrap64_id (by omega) (by omega)
     have w2 : wrap64 (n + prodL r * x) = n + prodL r * x := wrap64_id (by omega) (by omega)
     have e : offGo (d :: r) (strL (d :: r)) (x :: s) n = offGo r (strL r) s (n + prodL r * x) := by
      simp only [strL, offGo, if_neg b1, if_neg (show ¬ d.f1 < x from b2)]
     rw [e]
     refine Ev.succ (ih s (j + 1) (n + prodL r * x) (drop_next h) (drop_next hs) hl (by push_cast; omega) (by push_cast; omega)) fun k => ?_
     simp only [array_offset.l0, if_pos c1, if_pos c2, if_pos c3, rdT_drop h, rd_drop hs, if_neg b1, if_neg b2, if_pos c4, strL_rd h, w1, w2, wrap_next (j := j) (by omega)]
/-- Get's word, of a valid array -/
theorem get_ev {t : Int} {ds : List S54} {es : List S38} (h : Fine t ds es) (ks : List Int) : ∃ k, array_Get.f k t ds es ks = some (if ks.length = ds.length then (if inB ds ks = true then ((rd_T38 es (plc ds ks)).f0, (rd_T38 es (plc ds ks)).f1, (rd_T38 es (plc ds ks)).f2.f0, (rd_T38 es (plc ds ks)).f2.f1, (rd_T38 es (plc ds ks)).f3, 0) else (0, 0, 0, 0, false, 3)) else (0, 0, 0, 0, false, 10)) := by
 have hc := check_fine h
 obtain ⟨a, b, c, d⟩ := h
 obtain ⟨_, hp, _, hl1, hl4⟩ := errOf_zero b
 have hs : array_strides.f ds = some (strL ds, fstL ds) := by rw [array_strides.f, if_pos b]
 by_cases hl : ks.length = ds.length
 ·have hf := fstL_bd ds hp
  obtain ⟨K, hK⟩ := get_off_l ds ks hp hl4 ds ks 0 (fstL ds) rfl rfl hl (by simp; omega) (by simp; omega)
  have a1 : array_offset.l0 K ds (strL ds) (fstL ds) ks (ks.length : Int) 0 = _ := hK K (Nat.le_refl _)
  have a2 : array_offset.f K ds ks = some (if inB ds ks = true then (plc ds ks, 0) else (0, 3)) := by
   unfold array_offset.f
   rw [if_pos (by omega), hs]
   simp only [Option.bind_some]
   rw [a1]
   cases hb : inB ds ks with
   | true => rw [offGo_in ds ks _ hb, if_pos rfl]; simp only [Option.some.injEq, Prod.mk.injEq, and_true]; omega
   | false => rw [offGo_out ds _ ks _ (strL_length ds) hl hb]; simp
  refine ⟨K, ?_⟩
  rw [if_pos hl]
  simp only [array_Get.f, array_Check.f, hc, Option.bind_some, if_true, a2]
  cases hb : inB ds ks with
  | true =>
   obtain ⟨x, _, _, _, g0, g1⟩ := vAt_some (ext_pos hp) c hb
   simp only [if_true]
   rw [if_pos g0, if_pos g1]
  | false => simp
 ·refine ⟨0, ?_⟩
  rw [if_neg hl]
  have a2 : array_offset.f 0 ds ks = some (0, 10) := by unfold array_offset.f; rw [if_neg (by omega)]
  simp only [array_Get.f, array_Check.f, hc, Option.bind_some, if_true, a2]
  simp
end Go.Proofs.Q
namespace Go.Proofs.Q
open RowKit Rf Pw Pl Pm
end Go.Proofs.Q
namespace Go.Proofs.Q
open RowKit Shelf Rf Pw Pl Pm
/-- an array lies here -/
def Arr (W : World) (A : Option Addr) (n c : Nat) (ds : List S54) (B : Option Addr) (m d : Nat) (es : List S38) : Prop := Kd.C k54 W A n ds ∧ n ≤ c ∧ Kd.C k38 W B m es ∧ m ≤ d
theorem Arr.below {W W' : World} {A : Option Addr} {n c : Nat} {ds : List S54} {B : Option Addr} {m d : Nat} {es : List S38} (h : Arr W A n c ds B m d es) (hb : Below W.heap.size W W') : Arr W' A n c ds B m d es :=
 ⟨Kd.C_below h.1 hb, h.2.1, Kd.C_below h.2.2.1 hb, h.2.2.2⟩
theorem Arr.len {W : World} {A : Option Addr} {n c : Nat} {ds : List S54} {B : Option Addr} {m d : Nat} {es : List S38} (h : Arr W A n c ds B m d es) : ds.length = n ∧ es.length = m := ⟨h.1.1, h.2.2.1.1⟩
theorem ck_c {t : Int} {ds : List S54} {es : List S38} (F : Fine t ds es) (A1 A2 : Option Addr) (c1 c2 n m : Nat) (w : World) (hr : Arr w A1 n c1 ds A2 m c2 es) :
  Calls Tryz.prog 18 #[.agg #[.int .i64 t, .slice A1 n c1, .slice A2 m c2]] w fun e w' => e = .returned (.int .i64 0) ∧ Below w.heap.size w w' := by
 obtain ⟨rfl, rfl⟩ := hr.len
 obtain ⟨r1, hc1, r2, hc2⟩ := hr
 exact array_Check.calls t A1 c1 ds A2 c2 es 0 w r1 hc1 r2 hc2 (check_fine F)
/-- what Get returns -/
def getV (t : Int) (ds : List S54) (es : List S38) (ks : List Int) : S38 := if ks.length = ds.length then if inB ds ks = true then rd_T38 es (plc ds ks) else ⟨0, 0, z36, false⟩ else ⟨0, 0, z36, false⟩
def getE (ds : List S54) (ks : List Int) : Int := if ks.length = ds.length then if inB ds ks = true then 0 else 3 else 10
theorem get_c {t : Int} {ds : List S54} {es : List S38} (F : Fine t ds es) (ks : List Int) (A1 A2 A3 : Option Addr) (c1 c2 c3 n m n3 : Nat) (w : World) (hr : Arr w A1 n c1 ds A2 m c2 es) (hr3 : Kd.C (Kd.int .i64) w A3 n3 ks) (hc3 : n3 ≤ c3) :
  Calls Tryz.prog 14 #[.agg #[.int .i64 t, .slice A1 n c1, .slice A2 m c2], .slice A3 n3 c3] w fun e w' => e = .returned (.tuple #[.agg #[.int .i64 (getV t ds es ks).f0, .int .i64 (getV t ds es ks).f1, .int .i64 (getV t ds es ks).f2.f0, .int .i64 (getV t ds es ks).f2.f1, .bool (getV t ds es ks).f3], .int .i64 (getE ds ks)]) ∧ Below w.heap.size w w' := by
 obtain ⟨rfl, rfl⟩ := hr.len
 obtain ⟨r1, hc1, r2, hc2⟩ := hr
 have h3 := hr3.1
 subst h3
 obtain ⟨k, hk⟩ := get_ev F ks
 refine array_Get.calls k t A1 c1 ds A2 c2 es A3 c3 ks _ _ _ _ _ _ w r1 hc1 r2 hc2 hr3 hc3 ?_
 rw [hk]
 unfold getV getE
 split
 ·split <;> rfl
 ·rfl
end Go.Proofs.Q
end
section
namespace Go.Proofs.Q
open RowKit Shelf Rf Pw Pl Pm
theorem c3_0 {W : World} {g ty : Nat} {x y z : Value} (h : W.heap[g]? = some (.cells #[x, y, z] ty)) : W.cell? ⟨g, 0, none⟩ = some x := by rw [kC h 0]; rfl
theorem c3_1 {W : World} {g ty : Nat} {x y z : Value} (h : W.heap[g]? = some (.cells #[x, y, z] ty)) : W.cell? ⟨g, 1, none⟩ = some y := by rw [kC h 1]; rfl
theorem c3_2 {W : World} {g ty : Nat} {x y z : Value} (h : W.heap[g]? = some (.cells #[x, y, z] ty)) : W.cell? ⟨g, 2, none⟩ = some z := by rw [kC h 2]; rfl
theorem small_c (t : Int) (A1 A2 : Option Addr) (c1 c2 n m : Nat) (ds : List S54) (es : List S38) (w : World) (hr : Arr w A1 n c1 ds A2 m c2 es) :
  Calls Tryz.prog 5 #[.agg #[.int .i64 t, .slice A1 n c1, .slice A2 m c2]] w fun e w' => e = .returned (.bool (decide (n ≤ 6) && decide (m ≤ 1010))) ∧ Below w.heap.size w w' := by
 obtain ⟨rfl, rfl⟩ := hr.len
 obtain ⟨r1, hc1, r2, hc2⟩ := hr
 refine manorboylaw08_small.calls t A1 c1 ds A2 c2 es _ w r1 hc1 r2 hc2 ?_
 unfold manorboylaw08_small.f
 by_cases h : ds.length ≤ 6
 ·rw [if_pos (by omega)]
  simp only [h, decide_true, Bool.true_and, Option.some.injEq]
  by_cases h' : es.length ≤ 1010
  ·rw [decide_eq_true h', decide_eq_true (by omega)]
  ·rw [decide_eq_false h', decide_eq_false (by omega)]
 ·rw [if_neg (by omega)]; simp [h]
theorem c5_of {W : World} {g ty : Nat} {a b c d e : Value} (h : W.heap[g]? = some (.cells #[a, b, c, d, e] ty)) : W.cell? ⟨g, 0, none⟩ = some a ∧ W.cell? ⟨g, 1, none⟩ = some b ∧ W.cell? ⟨g, 2, none⟩ = some c ∧ W.cell? ⟨g, 3, none⟩ = some d ∧ W.cell? ⟨g, 4, none⟩ = some e ∧ g < W.heap.size :=
 ⟨by rw [kC h 0]; rfl, by rw [kC h 1]; rfl, by rw [kC h 2]; rfl, by rw [kC h 3]; rfl, by rw [kC h 4]; rfl, blk_lt h⟩
end Go.Proofs.Q
end
