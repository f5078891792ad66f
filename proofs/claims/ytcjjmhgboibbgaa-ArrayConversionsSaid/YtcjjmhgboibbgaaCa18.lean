/-
  Texts of the proof, in build order: words that the walks use, contracts of functions, plain facts.
-/
import Derived.Deep.RegionHeld3
import Derived.Test.YtcjjmhgboibbgaaCa5
import Derived.Test.YtcjjmhgboibbgaaCa7
import Derived.Test.YtcjjmhgboibbgaaCa9
import Derived.Test.YtcjjmhgboibbgaaCa11
import Derived.Test.YtcjjmhgboibbgaaCa15
import Derived.Test.YtcjjmhgboibbgaaCa16
import Derived.Test.YtcjjmhgboibbgaaCa17
section
namespace Go.Proofs.Ytcjjmhgboibbgaa.Q
open Go.RowKit Go.Shelf Go.Proofs.Rf Go.Proofs.YtcjjmhgboibbgaaW.PrintWords Go.Proofs.YtcjjmhgboibbgaaW.PrintLast Go.Proofs.YtcjjmhgboibbgaaW.PrintMore
set_option linter.unusedVariables false
set_option linter.unusedSimpArgs false
set_option maxRecDepth 100000
def planeL : List S40 := [⟨1, 2⟩, ⟨0, 2⟩]
theorem plane_c (w : World) : Calls Try.prog 32 #[] w fun e w' => ∃ A c, e = .returned (.slice A 2 c) ∧ (2 ≤ c ∧ Kd.C k40 w' A 2 planeL ∧ Kd.V k40 40 w' w'.heap.size (fun _ => True) (.slice A 2 c) planeL) ∧ Below w.heap.size w w' := by
  refine (manorboylaw08_plane.calls planeL w (by rfl)).mono ?_
  rintro e w' ⟨v, rfl, hr, hb⟩
  have hv := Kd.R_V (base' := w'.heap.size) hr
  obtain ⟨A, c, rfl, hc, hC⟩ := Kd.R_reads hr
  exact ⟨A, c, rfl, ⟨hc, hC, hv⟩, hb⟩
theorem off_c (A : Option Addr) (c : Nat) (A1 : Option Addr) (c1 : Nat) (s : List Int) (r1 r2 : Int) (w : World) (hc : 2 ≤ c) (hC : Kd.C k40 w A 2 planeL) (hs : s.length = 2) (hc1 : 2 ≤ c1) (hC1 : Kd.C (Kd.int .i64) w A1 2 s) (h : array_Offset.f planeL s = some (r1, r2)) :
    Calls Try.prog 13 #[.slice A 2 c, .slice A1 2 c1] w fun e w' => e = .returned (.tuple #[.int .i64 r1, .int .i64 r2]) ∧ Below w.heap.size w w' := by
  have := array_Offset.calls A c planeL A1 c1 s r1 r2 w hC hc (by rw [hs]; exact hC1) (by rw [hs]; exact hc1) h
  rw [hs] at this
  exact this
theorem t1 : array_Offset.f planeL [1, 2] = some (2, 0) := by decide +kernel
theorem t2 : array_Offset.f planeL [2, 0] = some (3, 0) := by decide +kernel
theorem t3 : array_Offset.f planeL [3, 0] = some (0, 3) := by decide +kernel
theorem t4 : array_Strides.f planeL = some ([3, 1], -3, 0) := by decide +kernel
theorem t5 : array_Subscripts.f 1000 planeL 5 = some ([2, 2], 0) := by decide +kernel
theorem t6 : array_Resize.f 1 [⟨1, 3⟩] [⟨1, 7, z57, false⟩, ⟨1, 8, z57, false⟩, ⟨1, 9, z57, false⟩] [⟨2, 4⟩] = some (1, [⟨2, 4⟩], [⟨1, 8, z57, false⟩, ⟨1, 9, z57, false⟩, ⟨1, 0, z57, false⟩], 0) := by kernel_rfl
theorem t7 : array_Resize.f 1 [⟨2, 4⟩] [⟨1, 8, z57, false⟩, ⟨1, 9, z57, false⟩, ⟨1, 0, z57, false⟩] [⟨1, 3⟩] = some (1, [⟨1, 3⟩], [⟨1, 0, z57, false⟩, ⟨1, 8, z57, false⟩, ⟨1, 9, z57, false⟩], 0) := by kernel_rfl
theorem subs_c (A : Option Addr) (c : Nat) (w : World) (hV : Kd.V k40 40 w w.heap.size (fun _ => True) (.slice A 2 c) planeL) :
    Calls Try.prog 14 #[.slice A 2 c, .int .i64 5] w fun e w' => ∃ A1 c1, e = .returned (.tuple #[.slice A1 2 c1, .int .i64 0]) ∧ (2 ≤ c1 ∧ Kd.C (Kd.int .i64) w' A1 2 [2, 2]) ∧ Below w.heap.size w w' := by
  refine (array_Subscripts.calls 1000 (fun _ => True) A c planeL 5 [2, 2] 0 w hV t5).mono ?_
  rintro e w' ⟨v, rfl, hr, hb⟩
  obtain ⟨A1, c1, rfl, hc, hC⟩ := Kd.R_reads hr
  exact ⟨A1, c1, rfl, ⟨hc, hC⟩, hb⟩
theorem str_c (A : Option Addr) (c : Nat) (w : World) (hc : 2 ≤ c) (hC : Kd.C k40 w A 2 planeL) :
    Calls Try.prog 15 #[.slice A 2 c] w fun e w' => ∃ A1 c1, e = .returned (.tuple #[.slice A1 2 c1, .int .i64 (-3), .int .i64 0]) ∧ (2 ≤ c1 ∧ Kd.C (Kd.int .i64) w' A1 2 [3, 1]) ∧ Below w.heap.size w w' := by
  refine (array_Strides.calls A c planeL [3, 1] (-3) 0 w hC hc t4).mono ?_
  rintro e w' ⟨v, rfl, hr, hb⟩
  obtain ⟨A1, c1, rfl, hc, hC⟩ := Kd.R_reads hr
  exact ⟨A1, c1, rfl, ⟨hc, hC⟩, hb⟩
theorem C_two_ints (W : World) (a b : Int) : Kd.C (Kd.int .i64) (W.alloc (.cells #[.int .i64 a, .int .i64 b] 3)) (some ⟨W.heap.size, 0, none⟩) 2 [a, b] := by
  refine Kd.C_of_reads (d := 0) ⟨rfl, by omega, fun _ => ⟨_, rfl, fun j hj => ?_⟩⟩
  rw [add_at, blk_cell (heap_alloc_new W _)]
  match j, hj with
  | 0, _ => rfl
  | 1, _ => rfl
theorem same_c (A : Option Addr) (c : Nat) (A1 : Option Addr) (c1 : Nat) (s : List Int) (w : World) (hs : s.length = 2) (hc : 2 ≤ c) (hC : Kd.C (Kd.int .i64) w A 2 s) (hc1 : 2 ≤ c1) (hC1 : Kd.C (Kd.int .i64) w A1 2 s) (h : manorboylaw08_sameInts.f 1000 s s = some true) :
    Calls Try.prog 19 #[.slice A 2 c, .slice A1 2 c1] w fun e w' => e = .returned (.bool true) ∧ Below w.heap.size w w' := by
  have := manorboylaw08_sameInts.calls 1000 A c s A1 c1 s true w (by rw [hs]; exact hC) (by rw [hs]; exact hc) (by rw [hs]; exact hC1) (by rw [hs]; exact hc1) h
  rw [hs] at this
  refine this.mono ?_
  rintro e w' ⟨rfl, ⟨n, rfl⟩⟩
  exact ⟨rfl, ⟨rfl, rfl, rfl, Nat.le_refl _, fun _ _ => rfl⟩⟩
theorem t8 : manorboylaw08_sameInts.f 1000 [2, 2] [2, 2] = some true := by decide +kernel
theorem t9 : manorboylaw08_sameInts.f 1000 [3, 1] [3, 1] = some true := by decide +kernel
theorem int_c (n : Int) (w : World) : Calls Try.prog 33 #[.int .i64 n] w fun e w' => e = .returned (.agg #[.int .i64 1, .int .i64 n, .int .i64 0, .int .i64 0, .bool false]) ∧ Below w.heap.size w w' := manorboylaw08_integer.calls n 1 n 0 0 false w rfl
theorem C_c40 (x : S40) {W : World} {g : Nat} (hg : W.heap[g]? = some (.cells #[.int .i64 x.f0, .int .i64 x.f1] 40)) : Kd.C k40 W (some ⟨g, 0, none⟩) 1 [x] := by
  refine ⟨rfl, by omega, fun _ => ⟨⟨g, 0, none⟩, rfl, fun j p hj => ?_⟩⟩
  cases j with
  | succ j => simp at hj
  | zero =>
    simp at hj; subst hj
    refine ⟨[.int .i64 x.f0, .int .i64 x.f1], rfl, k40_mk W x, fun i u hu => ?_⟩
    rw [Nat.zero_mul, add_at, Nat.zero_add, Nat.zero_add, cell_of_row W g i _ 40 (0, 0) hg]
    simpa using hu
theorem C_flat (L : List S59) {W : World} {g : Nat} (hl : L.length ≤ 1000) (hg : W.heap[g]? = some (.cells (flat59 L).toArray 59)) : Kd.C k59 W (some ⟨g, 0, none⟩) L.length L := by
  refine ⟨rfl, by omega, fun _ => ⟨⟨g, 0, none⟩, rfl, fun j p hj => ?_⟩⟩
  refine ⟨c59 p, rfl, k59_mk W p, fun i u hu => ?_⟩
  rw [add_at, Nat.zero_add, cell_of_row W g _ _ 59 (0, 0) hg]
  have h5 := flat_chunk L j p hj
  rw [← h5, List.getElem?_take] at hu
  split at hu
  · simpa [show k59.sz = 5 from rfl] using hu
  · cases hu
theorem C_three {W : World} {g : Nat} (a b c : Int) (hg : W.heap[g]? = some (.cells #[.int .i64 1, .int .i64 a, .int .i64 0, .int .i64 0, .bool false, .int .i64 1, .int .i64 b, .int .i64 0, .int .i64 0, .bool false, .int .i64 1, .int .i64 c, .int .i64 0, .int .i64 0, .bool false] 59)) : Kd.C k59 W (some ⟨g, 0, none⟩) 3 [⟨1, a, z57, false⟩, ⟨1, b, z57, false⟩, ⟨1, c, z57, false⟩] :=
  C_flat [⟨1, a, z57, false⟩, ⟨1, b, z57, false⟩, ⟨1, c, z57, false⟩] (by simp) hg
theorem new2 (W : World) (a b c : Obj) : (((W.alloc a).alloc b).alloc c).heap[W.heap.size + 1 + 1]? = some c := by
  have := heap_alloc_new ((W.alloc a).alloc b) c
  rwa [World.size_alloc, World.size_alloc] at this
theorem new1 (W : World) (a b : Obj) : ((W.alloc a).alloc b).heap[W.heap.size + 1]? = some b := by
  have := heap_alloc_new (W.alloc a) b
  rwa [World.size_alloc] at this
def SanPost (w : World) (e : Ending) (w' : World) : Prop := e = .returned (.bool true) ∧ Below w.heap.size w w'
theorem cells1 {W : World} {A : Option Addr} {a b c : Int} (h : k59.C W A 3 [⟨1, a, z57, false⟩, ⟨1, b, z57, false⟩, ⟨1, c, z57, false⟩]) : ∃ g o, A = some ⟨g, o, none⟩ ∧ W.cell? ⟨g, o, none⟩ = some (.int .i64 1) ∧ W.cell? ⟨g, o + 1, none⟩ = some (.int .i64 a) ∧ W.cell? ⟨g, o + 2, none⟩ = some (.int .i64 0) ∧ W.cell? ⟨g, o + 3, none⟩ = some (.int .i64 0) ∧ W.cell? ⟨g, o + 4, none⟩ = some (.bool false) ∧ W.cell? ⟨g, o + 5, none⟩ = some (.int .i64 1) ∧ W.cell? ⟨g, o + 6, none⟩ = some (.int .i64 b) ∧ W.cell? ⟨g, o + 7, none⟩ = some (.int .i64 0) ∧ W.cell? ⟨g, o + 8, none⟩ = some (.int .i64 0) ∧ W.cell? ⟨g, o + 9, none⟩ = some (.bool false) ∧ W.cell? ⟨g, o + 10, none⟩ = some (.int .i64 1) ∧ W.cell? ⟨g, o + 11, none⟩ = some (.int .i64 c) ∧ W.cell? ⟨g, o + 12, none⟩ = some (.int .i64 0) ∧ W.cell? ⟨g, o + 13, none⟩ = some (.int .i64 0) ∧ W.cell? ⟨g, o + 14, none⟩ = some (.bool false) := by
  obtain ⟨ad, rfl, a0, a1, a2, a3, a4⟩ := at_T59 h 0 (by omega) (by omega)
  obtain ⟨_, e, b0, b1, b2, b3, b4⟩ := at_T59 h 1 (by omega) (by omega)
  cases e
  obtain ⟨_, e, c0, c1, c2, c3, c4⟩ := at_T59 h 2 (by omega) (by omega)
  cases e
  obtain ⟨g, o, rfl⟩ : ∃ g o, ad = ⟨g, o, none⟩ := by
    obtain ⟨b, o, s⟩ := ad
    cases s with
    | none => exact ⟨b, o, rfl⟩
    | some s =>
      exfalso
      obtain ⟨b', o', e'⟩ := addr_of a0
      unfold Addr.add at e'
      split at e' <;> simp_all
  simp only [add_at] at a0 a1 a2 a3 a4 b0 b1 b2 b3 b4 c0 c1 c2 c3 c4
  exact ⟨g, o, rfl, a0, a1, a2, a3, a4, b0, b1, b2, b3, b4, c0, c1, c2, c3, c4⟩
theorem keepS {w W W' : World} {p0 p1 p2 p3 p4 p5 p6 p7 p8 p9 p10 p11 p12 p13 p14 p15 p16 p17 p18 p19 p20 p21 : Addr} {v0 v1 v2 v3 v4 v5 v6 v7 v8 v9 v10 v11 v12 v13 v14 v15 v16 v17 v18 v19 v20 v21 : Value} (h : Below w.heap.size w W ∧ W.cell? p0 = some v0 ∧ W.cell? p1 = some v1 ∧ W.cell? p2 = some v2 ∧ W.cell? p3 = some v3 ∧ W.cell? p4 = some v4 ∧ W.cell? p5 = some v5 ∧ W.cell? p6 = some v6 ∧ W.cell? p7 = some v7 ∧ W.cell? p8 = some v8 ∧ W.cell? p9 = some v9 ∧ W.cell? p10 = some v10 ∧ W.cell? p11 = some v11 ∧ W.cell? p12 = some v12 ∧ W.cell? p13 = some v13 ∧ W.cell? p14 = some v14 ∧ W.cell? p15 = some v15 ∧ W.cell? p16 = some v16 ∧ W.cell? p17 = some v17 ∧ W.cell? p18 = some v18 ∧ W.cell? p19 = some v19 ∧ W.cell? p20 = some v20 ∧ W.cell? p21 = some v21) (hb : Below W.heap.size W W') : Below w.heap.size w W' ∧ W'.cell? p0 = some v0 ∧ W'.cell? p1 = some v1 ∧ W'.cell? p2 = some v2 ∧ W'.cell? p3 = some v3 ∧ W'.cell? p4 = some v4 ∧ W'.cell? p5 = some v5 ∧ W'.cell? p6 = some v6 ∧ W'.cell? p7 = some v7 ∧ W'.cell? p8 = some v8 ∧ W'.cell? p9 = some v9 ∧ W'.cell? p10 = some v10 ∧ W'.cell? p11 = some v11 ∧ W'.cell? p12 = some v12 ∧ W'.cell? p13 = some v13 ∧ W'.cell? p14 = some v14 ∧ W'.cell? p15 = some v15 ∧ W'.cell? p16 = some v16 ∧ W'.cell? p17 = some v17 ∧ W'.cell? p18 = some v18 ∧ W'.cell? p19 = some v19 ∧ W'.cell? p20 = some v20 ∧ W'.cell? p21 = some v21 :=
  let ⟨h0, c0, c1, c2, c3, c4, c5, c6, c7, c8, c9, c10, c11, c12, c13, c14, c15, c16, c17, c18, c19, c20, c21⟩ := h
  ⟨below_step h0 hb, pw_cell_below hb c0, pw_cell_below hb c1, pw_cell_below hb c2, pw_cell_below hb c3, pw_cell_below hb c4, pw_cell_below hb c5, pw_cell_below hb c6, pw_cell_below hb c7, pw_cell_below hb c8, pw_cell_below hb c9, pw_cell_below hb c10, pw_cell_below hb c11, pw_cell_below hb c12, pw_cell_below hb c13, pw_cell_below hb c14, pw_cell_below hb c15, pw_cell_below hb c16, pw_cell_below hb c17, pw_cell_below hb c18, pw_cell_below hb c19, pw_cell_below hb c20, pw_cell_below hb c21⟩
set_option maxHeartbeats 40000000 in
theorem sanity_walk (w : World) : Calls Try.prog 11 #[] w (SanPost w) := by
  have hB := Below.refl w.heap.size w
  go_enter Try.func11, Try.ntmps11
  go_wp2_with (first
    | (go_at_call 32; refine (plane_c _).mono ?_; rintro e w1 ⟨A, c, rfl, ⟨hc, hC, hV⟩, hb⟩; (replace hB := below_step hB hb); (have HC := Lib.hid hC); (have HV := Lib.hid hV); (try replace hT := below_step hT hb); (try replace hX := below_step hX hb); clear hC hV hb)
    | (go_at_call 13; refine (off_c A c _ _ [1, 2] 2 0 _ hc (Kd.C_below HC.out (below_alloc (Below.refl _ _) _)) rfl (Nat.le_refl _) (C_two_ints _ _ _) t1).mono ?_; rintro e w2 ⟨rfl, hb⟩; (replace hB := below_step (below_alloc hB _) hb); clear hb HC HV hc)
    | (go_at_call 13; refine (off_c A c _ _ [2, 0] 3 0 _ hc (Kd.C_below HC.out (below_alloc (Below.refl _ _) _)) rfl (Nat.le_refl _) (C_two_ints _ _ _) t2).mono ?_; rintro e w2 ⟨rfl, hb⟩; (replace hB := below_step (below_alloc hB _) hb); clear hb HC HV hc)
    | (go_at_call 13; refine (off_c A c _ _ [3, 0] 0 3 _ hc (Kd.C_below HC.out (below_alloc (Below.refl _ _) _)) rfl (Nat.le_refl _) (C_two_ints _ _ _) t3).mono ?_; rintro e w5 ⟨rfl, hb⟩; (replace hB := below_step (below_alloc hB _) hb); (replace hT := below_step (below_alloc hT _) hb); (replace hX := below_step (below_alloc hX _) hb); clear hb HC HV hc)
    | (go_at_call 14; refine (subs_c A c _ HV.out).mono ?_; rintro e w3 ⟨A1, c1, rfl, ⟨hc1, hS⟩, hb⟩; (replace hB := below_step hB hb); (have S3 := Lib.hid hS); (have hT := Below.refl w3.heap.size w3); clear hS hb HC HV hc)
    | (go_at_call 15; refine (str_c A c _ hc HC.out).mono ?_; rintro e w4 ⟨A2, c2, rfl, ⟨hc2, hU⟩, hb⟩; (replace hB := below_step hB hb); (have U4 := Lib.hid hU); (replace hT := below_step hT hb); (have hX := Below.refl w4.heap.size w4); clear hU hb HC HV hc)
    | (go_at_call 19; go_loud (refine (same_c _ _ _ _ [2, 2] _ ?hl ?hc ?hC ?hd ?hD ?hf).mono ?_); go_loud (case hl => rfl); go_loud (case hc => exact hc1); go_loud (case hC => exact Kd.C_below S3.out (below_alloc hT _)); go_loud (case hd => exact Nat.le_refl _); go_loud (case hD => exact C_two_ints _ _ _); go_loud (case hf => exact t8); rintro e w6 ⟨rfl, hb⟩; (replace hB := below_step (below_alloc hB _) hb); (replace hX := below_step (below_alloc hX _) hb); clear hb S3 hT hc1)
    | (go_at_call 19; go_loud (refine (same_c _ _ _ _ [3, 1] _ ?hl ?hc ?hC ?hd ?hD ?hf).mono ?_); go_loud (case hl => rfl); go_loud (case hc => exact hc2); go_loud (case hC => exact Kd.C_below U4.out (below_alloc hX _)); go_loud (case hd => exact Nat.le_refl _); go_loud (case hD => exact C_two_ints _ _ _); go_loud (case hf => exact t9); rintro e w7 ⟨rfl, hb⟩; (replace hB := below_step (below_alloc hB _) hb); clear hb hX U4 hc2)
    | (go_at_call 33; refine (int_c _ _).mono ?_; rintro e w8 ⟨rfl, hb⟩; (first | (replace hD := blk_below hD hb) | (have hD : w8.heap[w7.heap.size]? = some (.cells #[.int .i64 1, .int .i64 3] 40) := blk_below (heap_alloc_new _ _) hb)); (replace hB : Below w.heap.size w w8 := below_step (by first | exact hB | exact below_alloc hB _) hb); clear hb)
    | (go_at_call 27; (have hD0 := hD); clear hD0; refine (array_Resize.calls 1 _ 1 [⟨1, 3⟩] _ 3 [⟨1, 7, z57, false⟩, ⟨1, 8, z57, false⟩, ⟨1, 9, z57, false⟩] _ 1 [⟨2, 4⟩] _ _ _ _ _ ?h1 (Nat.le_refl _) ?h2 (Nat.le_refl _) ?h3 (Nat.le_refl _) t6).mono ?_; go_loud (case h1 => exact C_c40 ⟨1, 3⟩ (blk_alloc (blk_alloc (blk_alloc hD _) _) _)); go_loud (case h2 => exact C_three _ _ _ (blk_alloc (blk_alloc (heap_alloc_new _ _) _) _)); go_loud (case h3 => exact C_c40 ⟨2, 4⟩ (new2 _ _ _ _)); rintro e w9 ⟨v1, v2, rfl, h1, h2, hb⟩; obtain ⟨A3, q3, rfl⟩ := Kd.R_slice h1; obtain ⟨A4, q4, rfl⟩ := Kd.R_slice h2; (replace hB := below_step (below_alloc (below_alloc (below_alloc hB _) _) _) hb); obtain ⟨_, _, eq1, hq3, hC3⟩ := Kd.R_reads h1; cases eq1; obtain ⟨_, _, eq1, hq4, hC4⟩ := Kd.R_reads h2; cases eq1; (have HV1 := Lib.hid hC3); (have HV2 := Lib.hid hC4); clear h1 h2 hb hC3 hC4 hD)
    | (go_at_call 27; (have hV0 := HV2); clear hV0; refine (array_Resize.calls 1 A3 q3 [⟨2, 4⟩] A4 q4 [⟨1, 8, z57, false⟩, ⟨1, 9, z57, false⟩, ⟨1, 0, z57, false⟩] _ 1 [⟨1, 3⟩] _ _ _ _ _ ?k1 hq3 ?k2 hq4 ?k3 (Nat.le_refl _) t7).mono ?_; go_loud (case k1 => exact Kd.C_below HV1.out (below_alloc (below_alloc (Below.refl _ _) _) _)); go_loud (case k2 => exact Kd.C_below HV2.out (below_alloc (below_alloc (Below.refl _ _) _) _)); go_loud (case k3 => exact C_c40 ⟨1, 3⟩ (new1 _ _ _)); rintro e w10 ⟨v1, v2, rfl, h1, h2, hb⟩; obtain ⟨A5, q5, rfl⟩ := Kd.R_slice h1; obtain ⟨A6, q6, rfl⟩ := Kd.R_slice h2; (have hG := blk_below (blk_alloc (heap_alloc_new _ _) _) hb); (replace HV2 := Lib.hid (Kd.C_below HV2.out (below_step (below_alloc (below_alloc (Below.refl _ _) _) _) hb))); (replace hB := below_step (below_alloc (below_alloc hB _) _) hb); obtain ⟨_, _, eq1, hq6, hC6⟩ := Kd.R_reads h2; cases eq1; (have HV6 := Lib.hid hC6); (have HG := Lib.hid hG); clear h1 h2 hb hC6 HV1 hq3 hG))
  obtain ⟨g4, o4, rfl, x0, x1, x2, x3, x4, -⟩ := cells1 HV2.out
  obtain ⟨g6, o6, rfl, y0, y1, y2, y3, y4, y5, y6, y7, y8, y9, y10, y11, y12, y13, y14⟩ := cells1 HV6.out
  obtain ⟨gb, hgb⟩ : ∃ gb, gb = w9.heap.size := ⟨_, rfl⟩
  obtain ⟨gc, hgc⟩ : ∃ gc, gc = w10.heap.size := ⟨_, rfl⟩
  rw [← hgb] at HG
  have hS : Below w.heap.size w (w10.alloc (.cells #[.int .i64 1, .slice A5 1 q5, .slice (some ⟨g6, o6, none⟩) 3 q6] 50)) ∧ (w10.alloc (.cells #[.int .i64 1, .slice A5 1 q5, .slice (some ⟨g6, o6, none⟩) 3 q6] 50)).cell? ⟨gb, 2, none⟩ = some (.slice (some ⟨g4, o4, none⟩) 3 q4) ∧ (w10.alloc (.cells #[.int .i64 1, .slice A5 1 q5, .slice (some ⟨g6, o6, none⟩) 3 q6] 50)).cell? ⟨gc, 2, none⟩ = some (.slice (some ⟨g6, o6, none⟩) 3 q6) ∧ (w10.alloc (.cells #[.int .i64 1, .slice A5 1 q5, .slice (some ⟨g6, o6, none⟩) 3 q6] 50)).cell? ⟨g4, o4, none⟩ = some (.int .i64 1) ∧ (w10.alloc (.cells #[.int .i64 1, .slice A5 1 q5, .slice (some ⟨g6, o6, none⟩) 3 q6] 50)).cell? ⟨g4, o4 + 1, none⟩ = some (.int .i64 8) ∧ (w10.alloc (.cells #[.int .i64 1, .slice A5 1 q5, .slice (some ⟨g6, o6, none⟩) 3 q6] 50)).cell? ⟨g4, o4 + 2, none⟩ = some (.int .i64 0) ∧ (w10.alloc (.cells #[.int .i64 1, .slice A5 1 q5, .slice (some ⟨g6, o6, none⟩) 3 q6] 50)).cell? ⟨g4, o4 + 3, none⟩ = some (.int .i64 0) ∧ (w10.alloc (.cells #[.int .i64 1, .slice A5 1 q5, .slice (some ⟨g6, o6, none⟩) 3 q6] 50)).cell? ⟨g4, o4 + 4, none⟩ = some (.bool false) ∧ (w10.alloc (.cells #[.int .i64 1, .slice A5 1 q5, .slice (some ⟨g6, o6, none⟩) 3 q6] 50)).cell? ⟨g6, o6, none⟩ = some (.int .i64 1) ∧ (w10.alloc (.cells #[.int .i64 1, .slice A5 1 q5, .slice (some ⟨g6, o6, none⟩) 3 q6] 50)).cell? ⟨g6, o6 + 1, none⟩ = some (.int .i64 0) ∧ (w10.alloc (.cells #[.int .i64 1, .slice A5 1 q5, .slice (some ⟨g6, o6, none⟩) 3 q6] 50)).cell? ⟨g6, o6 + 2, none⟩ = some (.int .i64 0) ∧ (w10.alloc (.cells #[.int .i64 1, .slice A5 1 q5, .slice (some ⟨g6, o6, none⟩) 3 q6] 50)).cell? ⟨g6, o6 + 3, none⟩ = some (.int .i64 0) ∧ (w10.alloc (.cells #[.int .i64 1, .slice A5 1 q5, .slice (some ⟨g6, o6, none⟩) 3 q6] 50)).cell? ⟨g6, o6 + 4, none⟩ = some (.bool false) ∧ (w10.alloc (.cells #[.int .i64 1, .slice A5 1 q5, .slice (some ⟨g6, o6, none⟩) 3 q6] 50)).cell? ⟨g6, o6 + 5, none⟩ = some (.int .i64 1) ∧ (w10.alloc (.cells #[.int .i64 1, .slice A5 1 q5, .slice (some ⟨g6, o6, none⟩) 3 q6] 50)).cell? ⟨g6, o6 + 6, none⟩ = some (.int .i64 8) ∧ (w10.alloc (.cells #[.int .i64 1, .slice A5 1 q5, .slice (some ⟨g6, o6, none⟩) 3 q6] 50)).cell? ⟨g6, o6 + 7, none⟩ = some (.int .i64 0) ∧ (w10.alloc (.cells #[.int .i64 1, .slice A5 1 q5, .slice (some ⟨g6, o6, none⟩) 3 q6] 50)).cell? ⟨g6, o6 + 8, none⟩ = some (.int .i64 0) ∧ (w10.alloc (.cells #[.int .i64 1, .slice A5 1 q5, .slice (some ⟨g6, o6, none⟩) 3 q6] 50)).cell? ⟨g6, o6 + 9, none⟩ = some (.bool false) ∧ (w10.alloc (.cells #[.int .i64 1, .slice A5 1 q5, .slice (some ⟨g6, o6, none⟩) 3 q6] 50)).cell? ⟨g6, o6 + 10, none⟩ = some (.int .i64 1) ∧ (w10.alloc (.cells #[.int .i64 1, .slice A5 1 q5, .slice (some ⟨g6, o6, none⟩) 3 q6] 50)).cell? ⟨g6, o6 + 11, none⟩ = some (.int .i64 9) ∧ (w10.alloc (.cells #[.int .i64 1, .slice A5 1 q5, .slice (some ⟨g6, o6, none⟩) 3 q6] 50)).cell? ⟨g6, o6 + 12, none⟩ = some (.int .i64 0) ∧ (w10.alloc (.cells #[.int .i64 1, .slice A5 1 q5, .slice (some ⟨g6, o6, none⟩) 3 q6] 50)).cell? ⟨g6, o6 + 13, none⟩ = some (.int .i64 0) ∧ (w10.alloc (.cells #[.int .i64 1, .slice A5 1 q5, .slice (some ⟨g6, o6, none⟩) 3 q6] 50)).cell? ⟨g6, o6 + 14, none⟩ = some (.bool false) := by
    have hb := below_alloc (Below.refl w10.heap.size w10) (.cells #[.int .i64 1, .slice A5 1 q5, .slice (some ⟨g6, o6, none⟩) 3 q6] 50)
    refine ⟨below_step hB hb, pw_cell_below hb ?_, ?_, pw_cell_below hb x0, pw_cell_below hb x1, pw_cell_below hb x2, pw_cell_below hb x3, pw_cell_below hb x4, pw_cell_below hb y0, pw_cell_below hb y1, pw_cell_below hb y2, pw_cell_below hb y3, pw_cell_below hb y4, pw_cell_below hb y5, pw_cell_below hb y6, pw_cell_below hb y7, pw_cell_below hb y8, pw_cell_below hb y9, pw_cell_below hb y10, pw_cell_below hb y11, pw_cell_below hb y12, pw_cell_below hb y13, pw_cell_below hb y14⟩
    · rw [blk_cell HG.out]; rfl
    · rw [hgc, blk_cell (heap_alloc_new _ _)]; rfl
  rw [← hgb, ← hgc]
  generalize (w10.alloc (.cells #[.int .i64 1, .slice A5 1 q5, .slice (some ⟨g6, o6, none⟩) 3 q6] 50)) = W0 at hS ⊢
  clear HG hgb hgc HV2 HV6 hB x0 x1 x2 x3 x4 y0 y1 y2 y3 y4 y5 y6 y7 y8 y9 y10 y11 y12 y13 y14 hq4 hq6
  go_region_held3 (fun w' => Below w.heap.size w w' ∧ w'.cell? ⟨gb, 2, none⟩ = some (.slice (some ⟨g4, o4, none⟩) 3 q4) ∧ w'.cell? ⟨gc, 2, none⟩ = some (.slice (some ⟨g6, o6, none⟩) 3 q6) ∧ w'.cell? ⟨g4, o4, none⟩ = some (.int .i64 1) ∧ w'.cell? ⟨g4, o4 + 1, none⟩ = some (.int .i64 8) ∧ w'.cell? ⟨g4, o4 + 2, none⟩ = some (.int .i64 0) ∧ w'.cell? ⟨g4, o4 + 3, none⟩ = some (.int .i64 0) ∧ w'.cell? ⟨g4, o4 + 4, none⟩ = some (.bool false) ∧ w'.cell? ⟨g6, o6, none⟩ = some (.int .i64 1) ∧ w'.cell? ⟨g6, o6 + 1, none⟩ = some (.int .i64 0) ∧ w'.cell? ⟨g6, o6 + 2, none⟩ = some (.int .i64 0) ∧ w'.cell? ⟨g6, o6 + 3, none⟩ = some (.int .i64 0) ∧ w'.cell? ⟨g6, o6 + 4, none⟩ = some (.bool false) ∧ w'.cell? ⟨g6, o6 + 5, none⟩ = some (.int .i64 1) ∧ w'.cell? ⟨g6, o6 + 6, none⟩ = some (.int .i64 8) ∧ w'.cell? ⟨g6, o6 + 7, none⟩ = some (.int .i64 0) ∧ w'.cell? ⟨g6, o6 + 8, none⟩ = some (.int .i64 0) ∧ w'.cell? ⟨g6, o6 + 9, none⟩ = some (.bool false) ∧ w'.cell? ⟨g6, o6 + 10, none⟩ = some (.int .i64 1) ∧ w'.cell? ⟨g6, o6 + 11, none⟩ = some (.int .i64 9) ∧ w'.cell? ⟨g6, o6 + 12, none⟩ = some (.int .i64 0) ∧ w'.cell? ⟨g6, o6 + 13, none⟩ = some (.int .i64 0) ∧ w'.cell? ⟨g6, o6 + 14, none⟩ = some (.bool false))
    (first | exact keepS (by assumption) (by assumption) | exact hS | exact ⟨below_drew hS.1, hS.2⟩)
    (first | (go_at_call 33; refine (int_c _ _).mono ?_; rintro e w8 ⟨rfl, hb⟩))
  (try rename_i hHeld)
  have hF := hHeld.1
  clear hHeld hS
  go_wp2
  go_ret
  exact ⟨rfl, hF⟩
def manorboylaw08_sanity.f : Option (Bool) := some true
theorem manorboylaw08_sanity.calls (r : Bool) (w : World) (h : manorboylaw08_sanity.f = some r) :
    Calls Try.prog 11 #[] w fun e w' => e = .returned (.bool r) ∧ Below w.heap.size w w' := by
  cases h
  exact sanity_walk w
end Go.Proofs.Ytcjjmhgboibbgaa.Q
end
section
namespace Go.Proofs.Ytcjjmhgboibbgaa.Q
open Go.RowKit Go.Proofs.Rf Go.Proofs.YtcjjmhgboibbgaaW.PrintWords Go.Proofs.YtcjjmhgboibbgaaW.PrintLast Go.Proofs.YtcjjmhgboibbgaaW.PrintMore
set_option linter.unusedVariables false
set_option linter.unusedSimpArgs false
theorem badF_total (t : Int) (x : S59) : ∃ b, badF t x = some b := by
  unfold badF
  split
  · have : ∃ b, validO x = some b := by
      unfold validO value_Valid.f value_ofInt.f value_ofReal.f value_ofBool.f integer_Valid.f real_Valid.f
      simp only [Option.bind_some]
      repeat' split
      all_goals first | exact ⟨_, rfl⟩ | (simp only [Option.bind_some]; exact ⟨_, rfl⟩)
    obtain ⟨b, hb⟩ := this
    exact ⟨!b, by rw [hb]; rfl⟩
  · exact ⟨true, rfl⟩
theorem firstBad_word (t : Int) : ∀ (es : List S59) (i : Int), 0 ≤ i → ∃ r, firstBad t es i = some r ∧ (r < 0 ↔ ∀ x ∈ es, badF t x = some false)
  | [], i, hi => ⟨-1, rfl, by simp⟩
  | x :: es, i, hi => by
    obtain ⟨b, hb⟩ := badF_total t x
    cases b with
    | true =>
      refine ⟨i, by simp [firstBad, hb], ?_⟩
      constructor
      · intro h; omega
      · intro h; have := h x (by simp); rw [hb] at this; cases this
    | false =>
      obtain ⟨r, h1, h2⟩ := firstBad_word t es (i + 1) (by omega)
      refine ⟨r, by simp [firstBad, hb, h1], h2.trans ?_⟩
      simp [hb]
/-- what a valid array is -/
def Fine (t : Int) (ds : List S40) (es : List S59) : Prop := isTy t = true ∧ errOf ds = 0 ∧ (es.length : Int) = prodL ds ∧ ∀ x ∈ es, badF t x = some false
theorem check_word (t : Int) (ds : List S40) (es : List S59) : ∃ r, checkF t ds es = some r ∧ (r = 0 ↔ Fine t ds es) := by
  unfold checkF Fine
  by_cases h1 : isTy t = true
  · by_cases h2 : errOf ds = 0
    · by_cases h3 : (es.length : Int) = prodL ds
      · obtain ⟨r, h4, h5⟩ := firstBad_word t es 0 (Int.le_refl _)
        rw [if_pos h1, if_pos h2, if_pos h3, h4]
        refine ⟨_, rfl, ?_⟩
        simp only [h1, h2, h3, true_and]
        rw [← h5]
        constructor
        · intro h
          by_cases h0 : 0 ≤ r
          · simp only [if_pos h0] at h; cases h
          · omega
        · intro h; rw [if_neg (by omega)]
      · rw [if_pos h1, if_pos h2, if_neg h3]; exact ⟨1, rfl, by simp [h3]⟩
    · rw [if_pos h1, if_neg h2]; exact ⟨1, rfl, by simp [h2]⟩
  · rw [if_neg h1]; exact ⟨1, rfl, by simp [h1]⟩
theorem check_fine {t : Int} {ds : List S40} {es : List S59} (h : Fine t ds es) : checkF t ds es = some 0 := by
  obtain ⟨r, h1, h2⟩ := check_word t ds es
  rw [h1, h2.2 h]
theorem badF_zero {t : Int} (h : isTy t = true) : badF t (z59t t) = some false := by
  have : t = 1 ∨ t = 2 ∨ t = 3 := by simp [isTy] at h; omega
  rcases this with rfl | rfl | rfl <;> decide +kernel
theorem subsAt_plc : ∀ (l : List S40) (s : List Int), (∀ d ∈ l, 1 ≤ ext d) → inB l s = true → 0 ≤ plc l s ∧ plc l s < prodL l ∧ subsAt l (plc l s) = s
  | [], [], _, _ => ⟨by simp [plc], by simp [plc, prodL], rfl⟩
  | [], _ :: _, _, h => by simp [inB] at h
  | _ :: _, [], _, h => by simp [inB] at h
  | d :: r, k :: s, hp, h => by
    simp only [inB, Bool.and_eq_true, decide_eq_true_eq] at h
    have hr : ∀ d ∈ r, 1 ≤ ext d := fun e he => hp e (by simp [he])
    obtain ⟨i0, i1, i2⟩ := subsAt_plc r s hr h.2
    have hP := prodL_pos r hr
    have e1 : plc (d :: r) (k :: s) / prodL r = k - d.f0 := by
      simp only [plc]
      rw [Int.add_comm, Int.add_mul_ediv_left _ _ (by omega), Int.ediv_eq_zero_of_lt i0 i1]; omega
    have e2 : plc (d :: r) (k :: s) % prodL r = plc r s := by
      simp only [plc]
      rw [Int.add_comm, Int.add_mul_emod_self_left, Int.emod_eq_of_lt i0 i1]
    have he : ext d = d.f1 - d.f0 + 1 := rfl
    refine ⟨?_, ?_, ?_⟩
    · simp only [plc]
      have := Int.mul_nonneg (show 0 ≤ prodL r by omega) (show 0 ≤ k - d.f0 by omega)
      omega
    · simp only [plc, prodL]
      have := Int.mul_le_mul_of_nonneg_left (show k - d.f0 + 1 ≤ ext d by omega) (show 0 ≤ prodL r by omega)
      rw [Int.mul_add, Int.mul_comm (prodL r) (ext d)] at this
      omega
    · simp only [subsAt, e1, e2, i2]
      congr 1
      omega
theorem allS_in {l : List S40} (h : ∀ d ∈ l, 1 ≤ ext d) {s : List Int} (hs : s ∈ allS l) : inB l s = true := by
  obtain ⟨i, hi⟩ := List.mem_iff_getElem?.1 hs
  have hlt : (i : Int) < prodL l := by
    rw [← allS_len2 l h]
    have := (List.getElem?_eq_some_iff.1 hi).1
    omega
  rw [allS_get l h i hlt] at hi
  rw [← Option.some.inj hi]
  exact inB_subs l h i (by omega) hlt
theorem allS_at {l : List S40} (h : ∀ d ∈ l, 1 ≤ ext d) {s : List Int} (hs : inB l s = true) : (allS l)[(plc l s).toNat]? = some s := by
  obtain ⟨h0, h1, h2⟩ := subsAt_plc l s h hs
  have := allS_get l h (plc l s).toNat (by omega)
  rw [Int.toNat_of_nonneg h0, h2] at this
  exact this
/-- the element at a subscript list -/
def vAt (ds : List S40) (es : List S59) (s : List Int) : Option S59 := if inB ds s = true then es[(plc ds s).toNat]? else none
theorem look_zip (s : List Int) (h4 : s.length ≤ 4) : ∀ (K : List (List Int)) (es : List S59), (∀ k ∈ K, k.length = s.length) → K.Pairwise (· ≠ ·) → K.length = es.length →
    (∀ i : Nat, K[i]? = some s → lookL (K.zip es) s = es[i]?) ∧ (s ∉ K → lookL (K.zip es) s = none)
  | [], es, _, _, _ => ⟨fun i h => by simp at h, fun _ => rfl⟩
  | k :: K, [], _, _, hl => by simp at hl
  | k :: K, x :: es, hk, hn, hl => by
    have ih := look_zip s h4 K es (fun k' h' => hk k' (by simp [h'])) (List.pairwise_cons.1 hn).2 (by simpa using hl)
    have hks := hk k (by simp)
    simp only [List.zip_cons_cons, lookL]
    by_cases hs : same4 s k = true
    · have he : s = k := same4_inj s k hks.symm h4 hs
      rw [if_pos hs]
      refine ⟨fun i hi => ?_, fun hm => absurd (by rw [he]; simp) hm⟩
      cases i with
      | zero => rfl
      | succ i =>
        have hm : s ∈ K := List.mem_of_getElem? (by simpa using hi)
        exact absurd he.symm ((List.pairwise_cons.1 hn).1 s hm)
    · rw [if_neg hs]
      have hne : ¬ k = s := by
        rintro rfl
        apply hs
        simp [same4]
      refine ⟨fun i hi => ?_, fun hm => ih.2 (fun h' => hm (by simp [h']))⟩
      cases i with
      | zero => simp at hi; exact absurd hi hne
      | succ i => simpa using ih.1 i (by simpa using hi)
theorem look_vAt {ds : List S40} {es : List S59} (hp : ∀ d ∈ ds, 1 ≤ ext d) (hl : (es.length : Int) = prodL ds) {s : List Int} (hs : s.length = ds.length) (h4 : ds.length ≤ 4) : lookL ((allS ds).zip es) s = vAt ds es s := by
  have h := look_zip s (by omega) (allS ds) es (fun k hk => by rw [allS_length ds k hk, hs]) (allS_nodup ds) (by have := allS_len2 ds hp; omega)
  unfold vAt
  by_cases hb : inB ds s = true
  · rw [if_pos hb]; exact h.1 _ (allS_at hp hb)
  · rw [if_neg hb]; exact h.2 (fun hm => hb (allS_in hp hm))
theorem resL_eq {t : Int} {ds : List S40} {es : List S59} (hp : ∀ d ∈ ds, 1 ≤ ext d) (hl : (es.length : Int) = prodL ds) (h4 : ds.length ≤ 4) {l1 : List S40} (hn : l1.length = ds.length) : resL t ds es l1 = (allS l1).map fun s => (vAt ds es s).getD (z59t t) := by
  unfold resL
  apply List.map_congr_left
  intro s hs
  rw [look_vAt hp hl (by rw [allS_length l1 s hs, hn]) h4]
theorem vAt_some {ds : List S40} {es : List S59} (hp : ∀ d ∈ ds, 1 ≤ ext d) (hl : (es.length : Int) = prodL ds) {s : List Int} (hb : inB ds s = true) : ∃ x, vAt ds es s = some x ∧ x ∈ es ∧ x = rd_T59 es (plc ds s) ∧ 0 ≤ plc ds s ∧ plc ds s < (es.length : Int) := by
  obtain ⟨h0, h1, _⟩ := subsAt_plc ds s hp hb
  have hlt : (plc ds s).toNat < es.length := by omega
  refine ⟨es[(plc ds s).toNat], by unfold vAt; rw [if_pos hb]; exact List.getElem?_eq_getElem hlt, List.getElem_mem hlt, ?_, h0, by omega⟩
  simp [rd_T59, List.getD, hlt]
theorem fine_res {t : Int} {ds : List S40} {es : List S59} (h : Fine t ds es) {l1 : List S40} (h1 : errOf l1 = 0) (hn : l1.length = ds.length) : Fine t l1 (resL t ds es l1) := by
  obtain ⟨a, b, c, d⟩ := h
  have hp := ext_pos (errOf_zero b).2.1
  have hp1 := ext_pos (errOf_zero h1).2.1
  have h4 := (errOf_zero b).2.2.2.2
  refine ⟨a, h1, ?_, ?_⟩
  · rw [resL_eq hp c h4 hn, List.length_map, allS_len2 l1 hp1]
  · intro x hx
    rw [resL_eq hp c h4 hn] at hx
    obtain ⟨s, hs, rfl⟩ := List.mem_map.1 hx
    cases hv : vAt ds es s with
    | none => exact badF_zero a
    | some y =>
      simp only [Option.getD_some]
      refine d y ?_
      unfold vAt at hv
      split at hv
      · exact List.mem_of_getElem? hv
      · cases hv
theorem allSame_eq : ∀ (l m : List S40), l.length = m.length → allSame l m = true → l = m
  | [], [], _, _ => rfl
  | x :: r, y :: s, hl, h => by
    simp only [allSame] at h
    split at h
    · rename_i he
      rw [allSame_eq r s (by simpa using hl) h]
      congr 1
      simp only [s40eq, Bool.and_eq_true, beq_iff_eq] at he
      obtain ⟨a, b⟩ := x
      obtain ⟨a', b'⟩ := y
      simp only at he
      rw [he.1, he.2]
    · cases h
theorem resL_self {t : Int} {ds : List S40} {es : List S59} (h : Fine t ds es) : resL t ds es ds = es := by
  obtain ⟨a, b, c, d⟩ := h
  have hp := ext_pos (errOf_zero b).2.1
  have h4 := (errOf_zero b).2.2.2.2
  rw [resL_eq hp c h4 rfl]
  apply List.ext_getElem?
  intro i
  rw [List.getElem?_map]
  by_cases hi : i < es.length
  · rw [allS_get ds hp i (by omega)]
    have hin := inB_subs ds hp i (by omega) (by omega)
    obtain ⟨x, hx, _, _⟩ := vAt_some hp c hin
    simp only [Option.map_some, hx, Option.getD_some]
    unfold vAt at hx
    rw [if_pos hin, plc_subs ds hp i (by omega) (by omega), Int.toNat_natCast] at hx
    exact hx.symm
  · have hal := allS_len2 ds hp
    rw [List.getElem?_eq_none (by omega), List.getElem?_eq_none (by omega)]; rfl
theorem dim_same_l (a : List S40) (h4 : a.length ≤ 1000) : ∀ (r : List S40) (j : Nat), a.drop j = r → Ev (fun k => api_Dim_50.l0 k a a (a.length : Int) (j : Int)) true := by
  intro r
  induction r with
  | nil =>
    intro j h
    refine Ev.one fun k => ?_
    simp only [api_Dim_50.l0, if_neg (not_lt_nil h)]
  | cons d r ih =>
    intro j h
    have hj := lt_drop h
    have c1 : (j : Int) < (a.length : Int) := by omega
    have c2 : (0 : Int) ≤ (j : Int) := by omega
    refine Ev.succ (ih (j + 1) (drop_next h)) fun k => ?_
    simp only [api_Dim_50.l0, if_pos c1, if_pos c2, rdT_drop h, wrap_next (j := j) (by omega)]
    simp
theorem rdV_drop {l r : List S59} {d : S59} {j : Nat} (h : l.drop j = d :: r) : rd_T59 l (j : Int) = d := by
  have : l[j]? = some d := by
    have := congrArg (fun x => x[0]?) h
    simpa using this
  simp [rd_T59, List.getD, this]
theorem val_same_l (a : List S59) (h4 : a.length ≤ 2000) : ∀ (r : List S59) (j : Nat), a.drop j = r → Ev (fun k => api_Value_51.l0 k a a (a.length : Int) (j : Int)) true := by
  intro r
  induction r with
  | nil =>
    intro j h
    refine Ev.one fun k => ?_
    simp only [api_Value_51.l0, if_neg (not_lt_nil h)]
  | cons d r ih =>
    intro j h
    have hj := lt_drop h
    have c1 : (j : Int) < (a.length : Int) := by omega
    have c2 : (0 : Int) ≤ (j : Int) := by omega
    refine Ev.succ (ih (j + 1) (drop_next h)) fun k => ?_
    simp only [api_Value_51.l0, if_pos c1, if_pos c2, rdV_drop h, wrap_next (j := j) (by omega)]
    simp
theorem same_self {t : Int} {ds : List S40} {es : List S59} (h : Fine t ds es) : ∃ k, array_Same.f k t ds es t ds es = some true := by
  have hc := check_fine h
  obtain ⟨K1, h1⟩ := dim_same_l ds (by have := (errOf_zero h.2.1).2.2.2.2; omega) ds 0 rfl
  obtain ⟨K2, h2⟩ := val_same_l es (by have := (errOf_zero h.2.1).2.1.2.2; have := h.2.2.1; omega) es 0 rfl
  refine ⟨K1 + K2, ?_⟩
  have a1 : api_Dim_50.l0 (K1 + K2) ds ds (ds.length : Int) 0 = some true := h1 _ (by omega)
  have a2 : api_Value_51.l0 (K1 + K2) es es (es.length : Int) 0 = some true := h2 _ (by omega)
  simp only [array_Same.f, array_Check.f, hc, Option.bind_some, if_true, api_Dim_50.f, api_Value_51.f, a1, a2]
end Go.Proofs.Ytcjjmhgboibbgaa.Q
namespace Go.Proofs.Ytcjjmhgboibbgaa.Q
open Go.RowKit Go.Proofs.Rf Go.Proofs.YtcjjmhgboibbgaaW.PrintWords Go.Proofs.YtcjjmhgboibbgaaW.PrintLast Go.Proofs.YtcjjmhgboibbgaaW.PrintMore
set_option linter.unusedVariables false
set_option linter.unusedSimpArgs false
end Go.Proofs.Ytcjjmhgboibbgaa.Q
namespace Go.Proofs.Ytcjjmhgboibbgaa.Q
open Go.RowKit Go.Shelf Go.Proofs.Rf Go.Proofs.YtcjjmhgboibbgaaW.PrintWords Go.Proofs.YtcjjmhgboibbgaaW.PrintLast Go.Proofs.YtcjjmhgboibbgaaW.PrintMore
set_option linter.unusedVariables false
set_option linter.unusedSimpArgs false
/-- an array lies here -/
def Arr (W : World) (A : Option Addr) (n c : Nat) (ds : List S40) (B : Option Addr) (m d : Nat) (es : List S59) : Prop := Kd.C k40 W A n ds ∧ n ≤ c ∧ Kd.C k59 W B m es ∧ m ≤ d
theorem Arr.below {W W' : World} {A : Option Addr} {n c : Nat} {ds : List S40} {B : Option Addr} {m d : Nat} {es : List S59} (h : Arr W A n c ds B m d es) (hb : Below W.heap.size W W') : Arr W' A n c ds B m d es :=
  ⟨Kd.C_below h.1 hb, h.2.1, Kd.C_below h.2.2.1 hb, h.2.2.2⟩
theorem Arr.len {W : World} {A : Option Addr} {n c : Nat} {ds : List S40} {B : Option Addr} {m d : Nat} {es : List S59} (h : Arr W A n c ds B m d es) : ds.length = n ∧ es.length = m := ⟨h.1.1, h.2.2.1.1⟩
/-- Resize, of a valid array -/
theorem rz_ok {t : Int} {ds l1 : List S40} {es : List S59} (F : Fine t ds es) (h1 : errOf l1 = 0) (hn : l1.length = ds.length) (A1 A2 A3 : Option Addr) (c1 c2 c3 n m : Nat) (w : World) (hr : Arr w A1 n c1 ds A2 m c2 es) (hr3 : Kd.C k40 w A3 n l1) (hc3 : n ≤ c3) :
    Calls Try.prog 27 #[.agg #[.int .i64 t, .slice A1 n c1, .slice A2 m c2], .slice A3 n c3] w fun e w' => ∃ B1 q1 B2 q2 k, e = .returned (.tuple #[.agg #[.int .i64 t, .slice B1 n q1, .slice B2 k q2], .int .i64 0]) ∧ Arr w' B1 n q1 l1 B2 k q2 (resL t ds es l1) ∧ Below w.heap.size w w' := by
  obtain ⟨rfl, rfl⟩ := hr.len
  obtain ⟨r1, hc1, r2, hc2⟩ := hr
  obtain ⟨ht, hd, hl, hv⟩ := F
  obtain ⟨_, hp, _, hl1, hl4⟩ := errOf_zero hd
  have hp1 := hp.pos
  have hp2 := hp.2.2
  obtain ⟨ad1, rfl⟩ := C_some r1 hl1
  obtain ⟨ad2, rfl⟩ := C_some r2 (by omega)
  obtain ⟨ad3, rfl⟩ := C_some hr3 (by omega)
  have hk := check_fine ⟨ht, hd, hl, hv⟩
  have fin : ∀ (xs : List S40) (ys : List S59), xs = l1 → ys = resL t ds es l1 → ∀ e w', ResizePost t xs ys w e w' → ∃ B1 q1 B2 q2 k, e = .returned (.tuple #[.agg #[.int .i64 t, .slice B1 ds.length q1, .slice B2 k q2], .int .i64 0]) ∧ Arr w' B1 ds.length q1 l1 B2 k q2 (resL t ds es l1) ∧ Below w.heap.size w w' := by
    rintro xs ys rfl rfl e w' ⟨v1, v2, rfl, h1, h2, hb⟩
    obtain ⟨B1, q1, rfl, g1, g2⟩ := Kd.R_reads h1
    obtain ⟨B2, q2, rfl, g3, g4⟩ := Kd.R_reads h2
    rw [hn] at g1 g2 ⊢
    exact ⟨B1, q1, B2, q2, _, rfl, ⟨g2, g1, g4, g3⟩, hb⟩
  by_cases hs : allSame l1 ds = true
  · obtain rfl := allSame_eq l1 ds hn hs
    refine ((callsIn_wide (n := 0)).1 (resize_same t ad1 ad2 (some ad3) c1 c2 c3 l1.length es.length l1 l1 es w r1 hc1 r2 hc2 hr3 hc3 hk hd h1 hs (by omega))).mono ?_
    exact fin l1 es rfl (resL_self ⟨ht, hd, hl, hv⟩).symm
  · refine ((callsIn_wide (n := 0)).1 (resize_walk t ad1 ad2 ad3 c1 c2 c3 ds.length es.length ds l1 es w r1 hc1 r2 hc2 hr3 hc3 ht hk hd h1 (by simpa using hs) hl)).mono ?_
    exact fin l1 _ rfl rfl
/-- the error of a list of dimensions, for arrays of n -/
def errN (n : Nat) (l1 : List S40) : Int := if errOf l1 = 0 then if l1.length = n then 0 else 10 else errOf l1
theorem errN_zero {n : Nat} {l1 : List S40} (h : errN n l1 = 0) : errOf l1 = 0 ∧ l1.length = n := by
  unfold errN at h
  split at h
  · split at h
    · exact ⟨by assumption, by assumption⟩
    · cases h
  · contradiction
theorem rz_no {t : Int} {ds l1 : List S40} {es : List S59} (F : Fine t ds es) (A1 A2 A3 : Option Addr) (c1 c2 c3 n m n3 : Nat) (hx : errN n l1 ≠ 0) (w : World) (hr : Arr w A1 n c1 ds A2 m c2 es) (hr3 : Kd.C k40 w A3 n3 l1) (hc3 : n3 ≤ c3) :
    Calls Try.prog 27 #[.agg #[.int .i64 t, .slice A1 n c1, .slice A2 m c2], .slice A3 n3 c3] w fun e w' => e = .returned (.tuple #[.agg #[.int .i64 0, .slice none 0 0, .slice none 0 0], .int .i64 (errN n l1)]) ∧ Below w.heap.size w w' := by
  obtain ⟨rfl, rfl⟩ := hr.len
  obtain ⟨r1, hc1, r2, hc2⟩ := hr
  have hk := check_fine F
  obtain ⟨ht, hd, hl, hv⟩ := F
  obtain ⟨_, hp, _, hl1, hl4⟩ := errOf_zero hd
  have hp1 := hp.pos
  obtain ⟨ad1, rfl⟩ := C_some r1 hl1
  obtain ⟨ad2, rfl⟩ := C_some r2 (by omega)
  have h3 := hr3.1
  unfold errN at hx ⊢
  by_cases he : errOf l1 = 0
  · rw [if_pos he] at hx ⊢
    by_cases hn : l1.length = ds.length
    · rw [if_pos hn] at hx; exact absurd rfl hx
    · rw [if_neg hn]
      exact (callsIn_wide (n := 0)).1 (resize_kind t ad1 ad2 A3 c1 c2 c3 ds.length es.length n3 ds l1 es w r1 hc1 r2 hc2 hr3 hc3 hk he (by omega))
  · rw [if_neg he]
    exact (callsIn_wide (n := 0)).1 (resize_bad t ad1 ad2 A3 c1 c2 c3 ds.length es.length n3 ds l1 es w r1 hc1 r2 hc2 hr3 hc3 hk he)
theorem ck_c {t : Int} {ds : List S40} {es : List S59} (F : Fine t ds es) (A1 A2 : Option Addr) (c1 c2 n m : Nat) (w : World) (hr : Arr w A1 n c1 ds A2 m c2 es) :
    Calls Try.prog 26 #[.agg #[.int .i64 t, .slice A1 n c1, .slice A2 m c2]] w fun e w' => e = .returned (.int .i64 0) ∧ Below w.heap.size w w' := by
  obtain ⟨rfl, rfl⟩ := hr.len
  obtain ⟨r1, hc1, r2, hc2⟩ := hr
  exact array_Check.calls t A1 c1 ds A2 c2 es 0 w r1 hc1 r2 hc2 (check_fine F)
theorem ck_any (t : Int) (ds : List S40) (es : List S59) : ∃ r, (r = 0 ↔ Fine t ds es) ∧ ∀ (A1 A2 : Option Addr) (c1 c2 n m : Nat) (w : World), Arr w A1 n c1 ds A2 m c2 es →
    Calls Try.prog 26 #[.agg #[.int .i64 t, .slice A1 n c1, .slice A2 m c2]] w fun e w' => e = .returned (.int .i64 r) ∧ Below w.heap.size w w' := by
  obtain ⟨r, h1, h2⟩ := check_word t ds es
  refine ⟨r, h2, fun A1 A2 c1 c2 n m w hr => ?_⟩
  obtain ⟨rfl, rfl⟩ := hr.len
  obtain ⟨r1, hc1, r2, hc2⟩ := hr
  exact array_Check.calls t A1 c1 ds A2 c2 es r w r1 hc1 r2 hc2 h1
theorem same_c2 {t : Int} {ds : List S40} {es es' : List S59} (F : Fine t ds es) (he : es' = es) (A1 A2 B1 B2 : Option Addr) (c1 c2 d1 d2 n m n' m' : Nat) (w : World) (hr : Arr w A1 n c1 ds A2 m c2 es) (hr' : Arr w B1 n' d1 ds B2 m' d2 es') :
    Calls Try.prog 28 #[.agg #[.int .i64 t, .slice A1 n c1, .slice A2 m c2], .agg #[.int .i64 t, .slice B1 n' d1, .slice B2 m' d2]] w fun e w' => e = .returned (.bool true) ∧ Below w.heap.size w w' := by
  subst he
  obtain ⟨rfl, rfl⟩ := hr.len
  obtain ⟨rfl, rfl⟩ := hr'.len
  obtain ⟨r1, hc1, r2, hc2⟩ := hr
  obtain ⟨s1, hd1, s2, hd2⟩ := hr'
  obtain ⟨k, hk⟩ := same_self F
  exact (array_Same.calls k t A1 c1 ds A2 c2 es' t B1 d1 ds B2 d2 es' true w r1 hc1 r2 hc2 s1 hd1 s2 hd2 hk)
end Go.Proofs.Ytcjjmhgboibbgaa.Q
end
section
namespace Go.Proofs.Ytcjjmhgboibbgaa.Q
open Go.RowKit Go.Shelf Go.Proofs.Rf Go.Proofs.YtcjjmhgboibbgaaW.PrintWords Go.Proofs.YtcjjmhgboibbgaaW.PrintLast Go.Proofs.YtcjjmhgboibbgaaW.PrintMore
set_option linter.unusedVariables false
set_option linter.unusedSimpArgs false
set_option maxRecDepth 100000
theorem c3_0 {W : World} {g ty : Nat} {x y z : Value} (h : W.heap[g]? = some (.cells #[x, y, z] ty)) : W.cell? ⟨g, 0, none⟩ = some x := by rw [blk_cell h 0]; rfl
theorem c3_1 {W : World} {g ty : Nat} {x y z : Value} (h : W.heap[g]? = some (.cells #[x, y, z] ty)) : W.cell? ⟨g, 1, none⟩ = some y := by rw [blk_cell h 1]; rfl
theorem c3_2 {W : World} {g ty : Nat} {x y z : Value} (h : W.heap[g]? = some (.cells #[x, y, z] ty)) : W.cell? ⟨g, 2, none⟩ = some z := by rw [blk_cell h 2]; rfl
theorem small_c (t : Int) (A1 A2 : Option Addr) (c1 c2 n m : Nat) (ds : List S40) (es : List S59) (w : World) (hr : Arr w A1 n c1 ds A2 m c2 es) :
    Calls Try.prog 25 #[.agg #[.int .i64 t, .slice A1 n c1, .slice A2 m c2]] w fun e w' => e = .returned (.bool (decide (n ≤ 6) && decide (m ≤ 1010))) ∧ Below w.heap.size w w' := by
  obtain ⟨rfl, rfl⟩ := hr.len
  obtain ⟨r1, hc1, r2, hc2⟩ := hr
  refine manorboylaw08_small.calls t A1 c1 ds A2 c2 es _ w r1 hc1 r2 hc2 ?_
  unfold manorboylaw08_small.f
  by_cases h : ds.length ≤ 6
  · rw [if_pos (by omega)]
    simp only [h, decide_true, Bool.true_and, Option.some.injEq]
    by_cases h' : es.length ≤ 1010
    · rw [decide_eq_true h', decide_eq_true (by omega)]
    · rw [decide_eq_false h', decide_eq_false (by omega)]
  · rw [if_neg (by omega)]; simp [h]
end Go.Proofs.Ytcjjmhgboibbgaa.Q
end
