/-
 Texts of the proof, in build order: words that the walks use, contracts of functions, plain facts.
-/
import Derived.WideKeyRuns
import Derived.Test.YtcjjmhgboibbgaaGreatEa11
set_option maxHeartbeats 40000000
set_option maxRecDepth 100000
set_option linter.unusedVariables false
set_option linter.unusedSimpArgs false
section
namespace Go.Proofs.Q
open RowKit Shelf Rf Pw Pl Pm
def z38t (t : Int) : S38 := ⟨t, 0, z36, false⟩
theorem R_stay {α : Type} {d : Kd α} {e base : Nat} {ok : Nat → Prop} {w w1 : World} {v : Value} {xs : List α} (h : d.R e w base ok v xs) (hm : ∀ k, base ≤ k → k < w.heap.size → w1.heap[k]? = w.heap[k]?) : d.R e w1 base (fun _ => True) v xs :=
 Kd.R_mono (Kd.R_step (Kd.R_bound h) (fun k hk _ => hm k hk.2.1 hk.2.2.1)) (fun _ _ => trivial)
theorem below_of_alloc {w w1 : World} {o : Obj} (h : Below (w.alloc o).heap.size (w.alloc o) w1) : Below w.heap.size w w1 := bS (bA (Below.refl _ _) _) h
theorem box5 {W w1 : World} {b : Nat} {x0 x1 x2 x3 x4 : Value} (h : ∀ {a : Addr}, a.block < W.heap.size → w1.cell? a = W.cell? a) (h0 : W.cell? ⟨b, 0, none⟩ = some x0) (h1 : W.cell? ⟨b, 1, none⟩ = some x1) (h2 : W.cell? ⟨b, 2, none⟩ = some x2) (h3 : W.cell? ⟨b, 3, none⟩ = some x3) (h4 : W.cell? ⟨b, 4, none⟩ = some x4) :
  w1.cell? ⟨b, 0, none⟩ = some x0 ∧ w1.cell? ⟨b, 1, none⟩ = some x1 ∧ w1.cell? ⟨b, 2, none⟩ = some x2 ∧ w1.cell? ⟨b, 3, none⟩ = some x3 ∧ w1.cell? ⟨b, 4, none⟩ = some x4 := by
 have hl : b < W.heap.size := World.block_lt_of_cell? W _ h0
 exact ⟨(h hl).trans h0, (h hl).trans h1, (h hl).trans h2, (h hl).trans h3, (h hl).trans h4⟩
theorem box3r {W w1 : World} {b t : Nat} {x0 x1 x2 : Value} (hb : Below W.heap.size W w1) (h : W.heap[b]? = some (.cells #[x0, x1, x2] t)) :
  w1.heap[b]? = some (.cells #[x0, x1, x2] t) ∧ b < w1.heap.size ∧ b < W.heap.size := by
 have hl := (Array.getElem?_eq_some_iff.1 h).1
 exact ⟨(hb.block b hl).trans h, Nat.lt_of_lt_of_le hl hb.size, hl⟩
theorem C_c59 (x : S38) {W : World} {g : Nat} (hg : W.heap[g]? = some (.cells (c59 x).toArray 38)) : Kd.C k38 W (some ⟨g, 0, none⟩) 1 [x] := by
 refine ⟨rfl, by omega, fun _ => ⟨⟨g, 0, none⟩, rfl, fun j p hj => ?_⟩⟩
 cases j with
 | succ j => simp at hj
 | zero =>
  simp at hj; subst hj
  refine ⟨c59 x, rfl, k38_mk W x, fun i u hu => ?_⟩
  rw [Nat.zero_mul, add_at, Nat.zero_add, Nat.zero_add, cell_of_row W g i _ 38 (0, 0) hg]
  simpa using hu
def FreshPost (t : Int) (ds : List S54) (n : Nat) (w : World) (en : Ending) (w' : World) : Prop := ∃ v1 v2, en = .returned (.agg #[.int .i64 t, v1, v2]) ∧ k54.R 54 w' w.heap.size (fun _ => True) v1 ds ∧ k38.R 38 w' w.heap.size (fun _ => True) v2 (List.replicate n (z38t t)) ∧ Below w.heap.size w w'
theorem fresh_calls (t : Int) (ht : isTy t = true) (ad : Addr) (c : Nat) (ds : List S54) (w : World) (hC : Kd.C k54 w (some ad) ds.length ds) (hc : ds.length ≤ c) (he : errOf ds = 0) :
  Calls Tryz.prog 33 #[.int .i64 t, .slice (some ad) ds.length c] w (FreshPost t ds (prodL ds).toNat w) := by
 obtain ⟨_, hp, hq, h1, h4⟩ := errOf_zero he
 have hp1 := hp.pos
 have hp2 := hp.2.2
 have ht3 : t = 1 ∨ t = 2 ∨ t = 3 := by simp [isTy] at ht; omega
 have HT := Lib.hid ht3
 clear ht3 ht he
 obtain ⟨n, hn⟩ : ∃ n : Nat, prodL ds = (n : Int) := ⟨(prodL ds).toNat, by omega⟩
 rw [hn] at hq hp1 hp2 ⊢
 rw [Int.toNat_natCast]
 have HP := Lib.hid hp
 have HQ := Lib.hid hq
 have HR := Lib.hid hC
 clear hp hq hC hn
 go_enter Tryz.func33, Tryz.ntmps33
 go_wp2_with (first
  | (go_at_call 53; refine (sizes_ok _ _ ds _ _ (Kd.C_below HR.out (bA (Below.refl _ _) _)) hc h4 HP.out.1 HQ.out).mono ?_; rintro e w1 ⟨x0, x1, x2, x3, rfl, hb2, hb3⟩; clear hb3)
  | (go_at_call 61; refine (zero_calls t HT.out _).mono ?_; rintro e w3 ⟨rfl, hb3⟩))
 have hB4 : Below w.heap.size w w3 := bS (bA (bS (bA (Below.refl _ _) _) hb2) _) hb3
 have HB : Hid (Below w.heap.size w (w3.alloc (Obj.cells (c59 (z38t t)).toArray 38))) := Lib.hid (bA hB4 _)
 have hres3 : w3.heap[w.heap.size]? = some (.cells #[.int .i64 0, .slice none 0 0, .slice none 0 0] 25) := by
  have h0 := heap_alloc_new w (.cells #[.int .i64 0, .slice none 0 0, .slice none 0 0] 25)
  have h1 := (hb2.block _ (by simp)).trans h0
  exact (hb3.block _ (by have := (Array.getElem?_eq_some_iff.1 h1).1; simp; omega)).trans ((Below.heap_alloc _ _ _ (Array.getElem?_eq_some_iff.1 h1).1).trans h1)
 have hl3 := (Array.getElem?_eq_some_iff.1 hres3).1
 have hres : (w3.alloc (Obj.cells (c59 (z38t t)).toArray 38)).heap[w.heap.size]? = some (.cells #[.int .i64 0, .slice none 0 0, .slice none 0 0] 25) := (Below.heap_alloc _ _ _ hl3).trans hres3
 have s0 : (w3.alloc (Obj.cells (c59 (z38t t)).toArray 38)).cell? ⟨w3.heap.size, 0, none⟩ = some (.int .i64 t) := by simp [go_sem, c59, z38t]
 have s1 : (w3.alloc (Obj.cells (c59 (z38t t)).toArray 38)).cell? ⟨w3.heap.size, 1, none⟩ = some (.int .i64 0) := by simp [go_sem, c59, z38t]
 have s2 : (w3.alloc (Obj.cells (c59 (z38t t)).toArray 38)).cell? ⟨w3.heap.size, 2, none⟩ = some (.int .i64 0) := by simp [go_sem, c59, z38t, z36]
 have s3 : (w3.alloc (Obj.cells (c59 (z38t t)).toArray 38)).cell? ⟨w3.heap.size, 3, none⟩ = some (.int .i64 0) := by simp [go_sem, c59, z38t, z36]
 have s4 : (w3.alloc (Obj.cells (c59 (z38t t)).toArray 38)).cell? ⟨w3.heap.size, 4, none⟩ = some (.bool false) := by simp [go_sem, c59, z38t]
 rw [show (#[Value.int IntKind.i64 t, Value.int IntKind.i64 0, Value.int IntKind.i64 0, Value.int IntKind.i64 0, Value.bool false] : Array Value) = (c59 (z38t t)).toArray from rfl]
 generalize (w3.alloc (Obj.cells (c59 (z38t t)).toArray 38)) = W0 at *
 clear hB4 hres3 hl3 hb2 hb3
 generalize w3.heap.size = b8 at *
 have s0l := World.block_lt_of_cell? _ _ s0
 refine wp_region_any (by kernel_rfl) ?_
 try (change wpAny _ _ _ _ _ _ _ _ (World.drew _))
 refine wpAny_take (i := 0) (v := ?_) rfl (by kernel_rfl) (by kernel_rfl) (by kernel_rfl) (fun _ _ _ h => h) (Or.inl ⟨by rfl, ?_⟩) ?_
 rotate_left
 ·intro w; go_simp <;> rfl
 refine wpAny_take (i := 1) (v := ?_) rfl (by kernel_rfl) (by kernel_rfl) (by kernel_rfl) (fun _ _ _ h => h) (Or.inl ⟨by rfl, ?_⟩) ?_
 rotate_left
 ·intro w; go_simp <;> rfl
 refine wpAny_take (i := 5) (v := ?_) rfl (by kernel_rfl) (by kernel_rfl) (by kernel_rfl) (fun _ _ _ h => h) (Or.inl ⟨by rfl, ?_⟩) ?_
 rotate_left
 ·intro w; go_simp <;> rfl
 refine wpAny_ready (rs := [2, 3]) (by kernel_rfl) (by simp) ?_
 refine AllReady.cons rfl (fun K hK => ?_) ?_
 ·go_simp
  refine (clone40_calls ad ds.length c ds (by omega) _ (Kd.C_below HR.out (by first | exact below_drew HB.out | exact below_drew (bA HB.out _)))).mono ?_
  rintro e wA ⟨v1, rfl, hv1, hbA⟩
  obtain ⟨A1, q1, rfl⟩ := Kd.R_slice hv1
  have hA : Below W0.heap.size W0 wA := bS (by first | exact below_drew (Below.refl _ _) | exact below_drew (bA (Below.refl _ _) _)) hbA
  have HV1 : Hid (k54.R 54 wA W0.heap.size (fun _ => True) (.slice A1 ds.length q1) ds) := Lib.hid (Kd.R_lower hv1 (by simp))
  have HA := Lib.hid hA
  obtain ⟨a0, a1, a2, a3, a4⟩ := box5 (hA.cell) s0 s1 s2 s3 s4
  have hAl := World.block_lt_of_cell? _ _ a0
  clear hv1 hbA hA
  go_simp
  refine hK _ _ ?_; clear hK K
  refine wpAny_ready (rs := [3]) (by kernel_rfl) (by simp) ?_
  refine AllReady.cons rfl (fun K hK => ?_) AllReady.nil
  go_simp
  refine hK _ _ ?_; clear hK K
  refine wpAny_ready (rs := [4]) (by kernel_rfl) (by simp) ?_
  refine AllReady.cons rfl (fun K hK => ?_) AllReady.nil
  go_simp
  refine hK _ _ ?_; clear hK K
  refine wpAny_ready (rs := [6]) (by kernel_rfl) (by simp) ?_
  refine AllReady.cons rfl (fun K hK => ?_) AllReady.nil
  go_simp
  refine (repeat_calls (z38t t) ⟨wA.heap.size, 0, none⟩ 1 n (by omega) (by omega) _ (C_c59 (z38t t) (heap_alloc_new wA _))).mono ?_
  rintro e wB ⟨v2, rfl, hv2, hbB⟩
  obtain ⟨A2, q2, rfl⟩ := Kd.R_slice hv2
  rw [List.length_replicate] at hv2 ⊢
  have hB0 : Below W0.heap.size W0 wB := bS (bA HA.out _) hbB
  have HB0 := Lib.hid hB0
  have HV2 : Hid (k38.R 38 wB W0.heap.size (fun _ => True) (.slice A2 n q2) (List.replicate n (z38t t))) := Lib.hid (Kd.R_lower hv2 (by have := HA.out.size; first | exact this | (simp; omega)))
  have HV1B : Hid (k54.R 54 wB W0.heap.size (fun _ => True) (.slice A1 ds.length q1) ds) := Lib.hid (Kd.R_below HV1.out (below_of_alloc hbB))
  obtain ⟨b0, b1, b2⟩ := box3r (hB0) hres
  have c0 := kC (i := 0) b0
  have c1 := kC (i := 1) b0
  have c2 := kC (i := 2) b0
  have f0 := kF (i := 0) b0
  have f1 := kF (i := 1) b0
  have f2 := kF (i := 2) b0
  clear hv2 hbB hB0
  go_simp
  refine hK _ _ ?_; clear hK K
  refine wpAny_take (i := 7) (v := ?_) rfl (by kernel_rfl) (by kernel_rfl) (by kernel_rfl) (fun _ _ _ h => h) (Or.inl ⟨by rfl, ?_⟩) ?_
  rotate_left
  ·intro w; go_simp <;> rfl
  refine wpAny_ready (rs := [8]) (by kernel_rfl) (by simp) ?_
  refine AllReady.cons rfl (fun K hK => ?_) AllReady.nil
  go_simp
  refine hK _ _ ?_; clear hK K
  refine wpAny_done (by kernel_rfl) ?_ _
  go_wp2
  have hBf : Below w.heap.size w wB := bS HB.out HB0.out
  have hne : ∀ k, W0.heap.size ≤ k → k ≠ w.heap.size := fun k hk e => by omega
  refine bodyPost_ret (v := .agg #[.int .i64 t, .slice A1 ds.length q1, .slice A2 n q2]) ?_ rfl ⟨_, _, rfl, Kd.R_lower (R_stay HV1B.out ?_) HB.out.size, Kd.R_lower (R_stay HV2.out ?_) HB.out.size, bT (bT (bT hBf (Nat.le_refl _)) (Nat.le_refl _)) (Nat.le_refl _)⟩
  ·simp [results, Tryz.results33, go_sem, c0, c1, c2]
  all_goals (intro k hk _; have hkk := hne k hk; rw [Below.heap_setCell _ _ _ k hkk, Below.heap_setCell _ _ _ k hkk, Below.heap_setCell _ _ _ k hkk])
 refine AllReady.cons rfl (fun K hK => ?_) AllReady.nil
 go_simp
 refine hK _ _ ?_; clear hK K
 refine wpAny_ready (rs := [2, 4]) (by kernel_rfl) (by simp) ?_
 refine AllReady.cons rfl (fun K hK => ?_) ?_
 ·go_simp
  refine (clone40_calls ad ds.length c ds (by omega) _ (Kd.C_below HR.out (by first | exact below_drew HB.out | exact below_drew (bA HB.out _)))).mono ?_
  rintro e wA ⟨v1, rfl, hv1, hbA⟩
  obtain ⟨A1, q1, rfl⟩ := Kd.R_slice hv1
  have hA : Below W0.heap.size W0 wA := bS (by first | exact below_drew (Below.refl _ _) | exact below_drew (bA (Below.refl _ _) _)) hbA
  have HV1 : Hid (k54.R 54 wA W0.heap.size (fun _ => True) (.slice A1 ds.length q1) ds) := Lib.hid (Kd.R_lower hv1 (by simp))
  have HA := Lib.hid hA
  obtain ⟨a0, a1, a2, a3, a4⟩ := box5 (hA.cell) s0 s1 s2 s3 s4
  have hAl := World.block_lt_of_cell? _ _ a0
  clear hv1 hbA hA
  go_simp
  refine hK _ _ ?_; clear hK K
  refine wpAny_ready (rs := [4]) (by kernel_rfl) (by simp) ?_
  refine AllReady.cons rfl (fun K hK => ?_) AllReady.nil
  go_simp
  refine hK _ _ ?_; clear hK K
  refine wpAny_ready (rs := [6]) (by kernel_rfl) (by simp) ?_
  refine AllReady.cons rfl (fun K hK => ?_) AllReady.nil
  go_simp
  refine (repeat_calls (z38t t) ⟨wA.heap.size, 0, none⟩ 1 n (by omega) (by omega) _ (C_c59 (z38t t) (heap_alloc_new wA _))).mono ?_
  rintro e wB ⟨v2, rfl, hv2, hbB⟩
  obtain ⟨A2, q2, rfl⟩ := Kd.R_slice hv2
  rw [List.length_replicate] at hv2 ⊢
  have hB0 : Below W0.heap.size W0 wB := bS (bA HA.out _) hbB
  have HB0 := Lib.hid hB0
  have HV2 : Hid (k38.R 38 wB W0.heap.size (fun _ => True) (.slice A2 n q2) (List.replicate n (z38t t))) := Lib.hid (Kd.R_lower hv2 (by have := HA.out.size; first | exact this | (simp; omega)))
  have HV1B : Hid (k54.R 54 wB W0.heap.size (fun _ => True) (.slice A1 ds.length q1) ds) := Lib.hid (Kd.R_below HV1.out (below_of_alloc hbB))
  obtain ⟨b0, b1, b2⟩ := box3r (hB0) hres
  have c0 := kC (i := 0) b0
  have c1 := kC (i := 1) b0
  have c2 := kC (i := 2) b0
  have f0 := kF (i := 0) b0
  have f1 := kF (i := 1) b0
  have f2 := kF (i := 2) b0
  clear hv2 hbB hB0
  go_simp
  refine hK _ _ ?_; clear hK K
  refine wpAny_take (i := 7) (v := ?_) rfl (by kernel_rfl) (by kernel_rfl) (by kernel_rfl) (fun _ _ _ h => h) (Or.inl ⟨by rfl, ?_⟩) ?_
  rotate_left
  ·intro w; go_simp <;> rfl
  refine wpAny_ready (rs := [8]) (by kernel_rfl) (by simp) ?_
  refine AllReady.cons rfl (fun K hK => ?_) AllReady.nil
  go_simp
  refine hK _ _ ?_; clear hK K
  refine wpAny_done (by kernel_rfl) ?_ _
  go_wp2
  have hBf : Below w.heap.size w wB := bS HB.out HB0.out
  have hne : ∀ k, W0.heap.size ≤ k → k ≠ w.heap.size := fun k hk e => by omega
  refine bodyPost_ret (v := .agg #[.int .i64 t, .slice A1 ds.length q1, .slice A2 n q2]) ?_ rfl ⟨_, _, rfl, Kd.R_lower (R_stay HV1B.out ?_) HB.out.size, Kd.R_lower (R_stay HV2.out ?_) HB.out.size, bT (bT (bT hBf (Nat.le_refl _)) (Nat.le_refl _)) (Nat.le_refl _)⟩
  ·simp [results, Tryz.results33, go_sem, c0, c1, c2]
  all_goals (intro k hk _; have hkk := hne k hk; rw [Below.heap_setCell _ _ _ k hkk, Below.heap_setCell _ _ _ k hkk, Below.heap_setCell _ _ _ k hkk])
 refine AllReady.cons rfl (fun K hK => ?_) AllReady.nil
 go_simp
 refine hK _ _ ?_; clear hK K
 refine wpAny_ready (rs := [2]) (by kernel_rfl) (by simp) ?_
 refine AllReady.cons rfl (fun K hK => ?_) AllReady.nil
 go_simp
 refine (clone40_calls ad ds.length c ds (by omega) _ (Kd.C_below HR.out (by first | exact below_drew HB.out | exact below_drew (bA HB.out _)))).mono ?_
 rintro e wA ⟨v1, rfl, hv1, hbA⟩
 obtain ⟨A1, q1, rfl⟩ := Kd.R_slice hv1
 have hA : Below W0.heap.size W0 wA := bS (by first | exact below_drew (Below.refl _ _) | exact below_drew (bA (Below.refl _ _) _)) hbA
 have HV1 : Hid (k54.R 54 wA W0.heap.size (fun _ => True) (.slice A1 ds.length q1) ds) := Lib.hid (Kd.R_lower hv1 (by simp))
 have HA := Lib.hid hA
 obtain ⟨a0, a1, a2, a3, a4⟩ := box5 (hA.cell) s0 s1 s2 s3 s4
 have hAl := World.block_lt_of_cell? _ _ a0
 have HG : Hid (wA.heap[W0.heap.size]? = some (.cells (c59 (z38t t)).toArray 38)) := Lib.hid ((hbA.block _ (by simp)).trans (heap_alloc_new W0 _))
 clear hv1 hbA hA
 go_simp
 refine hK _ _ ?_; clear hK K
 refine wpAny_ready (rs := [6]) (by kernel_rfl) (by simp) ?_
 refine AllReady.cons rfl (fun K hK => ?_) AllReady.nil
 go_simp
 refine (repeat_calls (z38t t) ⟨W0.heap.size, 0, none⟩ 1 n (by omega) (by omega) _ (C_c59 (z38t t) (HG.out))).mono ?_
 rintro e wB ⟨v2, rfl, hv2, hbB⟩
 obtain ⟨A2, q2, rfl⟩ := Kd.R_slice hv2
 rw [List.length_replicate] at hv2 ⊢
 have hB0 : Below W0.heap.size W0 wB := bS (HA.out) hbB
 have HB0 := Lib.hid hB0
 have HV2 : Hid (k38.R 38 wB W0.heap.size (fun _ => True) (.slice A2 n q2) (List.replicate n (z38t t))) := Lib.hid (Kd.R_lower hv2 (by have := HA.out.size; first | exact this | (simp; omega)))
 have HV1B : Hid (k54.R 54 wB W0.heap.size (fun _ => True) (.slice A1 ds.length q1) ds) := Lib.hid (Kd.R_below HV1.out (hbB))
 obtain ⟨b0, b1, b2⟩ := box3r (hB0) hres
 have c0 := kC (i := 0) b0
 have c1 := kC (i := 1) b0
 have c2 := kC (i := 2) b0
 have f0 := kF (i := 0) b0
 have f1 := kF (i := 1) b0
 have f2 := kF (i := 2) b0
 clear hv2 hbB hB0
 go_simp
 refine hK _ _ ?_; clear hK K
 refine wpAny_take (i := 7) (v := ?_) rfl (by kernel_rfl) (by kernel_rfl) (by kernel_rfl) (fun _ _ _ h => h) (Or.inl ⟨by rfl, ?_⟩) ?_
 rotate_left
 ·intro w; go_simp <;> rfl
 refine wpAny_ready (rs := [8]) (by kernel_rfl) (by simp) ?_
 refine AllReady.cons rfl (fun K hK => ?_) AllReady.nil
 go_simp
 refine hK _ _ ?_; clear hK K
 refine wpAny_done (by kernel_rfl) ?_ _
 go_wp2
 have hBf : Below w.heap.size w wB := bS HB.out HB0.out
 have hne : ∀ k, W0.heap.size ≤ k → k ≠ w.heap.size := fun k hk e => by omega
 refine bodyPost_ret (v := .agg #[.int .i64 t, .slice A1 ds.length q1, .slice A2 n q2]) ?_ rfl ⟨_, _, rfl, Kd.R_lower (R_stay HV1B.out ?_) HB.out.size, Kd.R_lower (R_stay HV2.out ?_) HB.out.size, bT (bT (bT hBf (Nat.le_refl _)) (Nat.le_refl _)) (Nat.le_refl _)⟩
 ·simp [results, Tryz.results33, go_sem, c0, c1, c2]
 all_goals (intro k hk _; have hkk := hne k hk; rw [Below.heap_setCell _ _ _ k hkk, Below.heap_setCell _ _ _ k hkk, Below.heap_setCell _ _ _ k hkk])
def keyV (k : List Int) : Value := .agg #[.int .i64 (k.getD 0 0), .int .i64 (k.getD 1 0), .int .i64 (k.getD 2 0), .int .i64 (k.getD 3 0)]
def same4 (j k : List Int) : Bool := (j.getD 0 0 == k.getD 0 0) && ((j.getD 1 0 == k.getD 1 0) && ((j.getD 2 0 == k.getD 2 0) && (j.getD 3 0 == k.getD 3 0)))
theorem u88 : Tryz.prog.underlying 65 = some (.array 4 3) := by kernel_rfl
theorem u3 : Tryz.prog.underlying 3 = some (.int .i64) := by kernel_rfl
theorem equal88 (j k : List Int) (W : World) : (Op.equal 65 (keyV j) (keyV k)).run Tryz.prog W = .ok (same4 j k) W := by
 obtain ⟨i3, hi3, hz3⟩ := Option.map_eq_some_iff.1 (show (Tryz.prog.info? 3).map (fun i => i.size) = some 1 by kernel_rfl)
 have hc : Tryz.prog.cellsOf 3 = 1 := by kernel_rfl
 unfold keyV same4
 generalize j.getD 0 0 = a0
 generalize j.getD 1 0 = a1
 generalize j.getD 2 0 = a2
 generalize j.getD 3 0 = a3
 generalize k.getD 0 0 = b0
 generalize k.getD 1 0 = b1
 generalize k.getD 2 0 = b2
 generalize k.getD 3 0 = b3
 have h := run_equalIn_array (P := Tryz.prog) W 9999 (#[.int .i64 a0, .int .i64 a1, .int .i64 a2, .int .i64 a3]) (#[.int .i64 b0, .int .i64 b1, .int .i64 b2, .int .i64 b3]) u88 hi3
 have he : ∀ a b, (Op.equalIn 9999 3 (.int .i64 a) (.int .i64 b)).run Tryz.prog W = .ok (a == b) W := fun a b => run_equalIn_int W 9998 3 .i64 .i64 a b u3
 have hp : ∀ (xs : Array Value) (i : Nat) (q : Int), xs[i]? = some (.int .i64 q) → (part 3 xs i).run Tryz.prog W = .ok (.int .i64 q) W := fun xs i q hx => run_part_plain W (P := Tryz.prog) (by kernel_rfl) hx
 rw [show Op.equal 65 (.agg #[.int .i64 a0, .int .i64 a1, .int .i64 a2, .int .i64 a3]) (.agg #[.int .i64 b0, .int .i64 b1, .int .i64 b2, .int .i64 b3]) = Op.equalIn (9999 + 1) 65 (.agg #[.int .i64 a0, .int .i64 a1, .int .i64 a2, .int .i64 a3]) (.agg #[.int .i64 b0, .int .i64 b1, .int .i64 b2, .int .i64 b3]) from rfl, h, hc]
 rw [show List.range 4 = [0, 1, 2, 3] from rfl]
 simp only [Op.eqItems, Sem.run_bind, Nat.mul_one]
 rw [hp _ 0 a0 rfl, Result.andThen_ok, hp _ 0 b0 rfl, Result.andThen_ok, he, Result.andThen_ok]
 cases h0 : (a0 == b0)
 ·simp
 ·simp only [Bool.not_true, Bool.false_eq_true, if_false, Bool.true_and]
  simp only [Op.eqItems, Sem.run_bind, Nat.mul_one]
  rw [hp _ 1 a1 rfl, Result.andThen_ok, hp _ 1 b1 rfl, Result.andThen_ok, he, Result.andThen_ok]
  cases h1 : (a1 == b1)
  ·simp
  ·simp only [Bool.not_true, Bool.false_eq_true, if_false, Bool.true_and, Sem.run_bind]
   rw [hp _ 2 a2 rfl, Result.andThen_ok, hp _ 2 b2 rfl, Result.andThen_ok, he, Result.andThen_ok]
   cases h2 : (a2 == b2)
   ·simp
   ·simp only [Bool.not_true, Bool.false_eq_true, if_false, Bool.true_and, Sem.run_bind]
    rw [hp _ 3 a3 rfl, Result.andThen_ok, hp _ 3 b3 rfl, Result.andThen_ok, he, Result.andThen_ok]
    cases h3 : (a3 == b3) <;> simp
theorem check88' (em : Bool) (k : List Int) (n : Nat) (W : World) : (Instr.checkKey em (n + 2) 65 (keyV k)).run Tryz.prog W = .ok () W := by
 obtain ⟨i3, hi3, hz3⟩ := Option.map_eq_some_iff.1 (show (Tryz.prog.info? 3).map (fun i => i.size) = some 1 by kernel_rfl)
 have hp : ∀ (xs : Array Value) (i : Nat) (q : Int) (W : World), xs[i]? = some (.int .i64 q) → (part 3 xs i).run Tryz.prog W = .ok (.int .i64 q) W := fun xs i q W hx => run_part_plain W (P := Tryz.prog) (by kernel_rfl) hx
 unfold keyV
 generalize k.getD 0 0 = b0
 generalize k.getD 1 0 = b1
 generalize k.getD 2 0 = b2
 generalize k.getD 3 0 = b3
 simp [Instr.checkKey, run_underlying u88, run_underlying u3, sizeOf, typeInfo, hi3, hz3, Std.Legacy.Range.forIn_eq_forIn_range', Std.Legacy.Range.size, List.range', hp _ 0 b0, hp _ 1 b1 , hp _ 2 b2, hp _ 3 b3]
theorem check88 (em : Bool) (k : List Int) (W : World) : (Instr.checkKey em 10000 65 (keyV k)).run Tryz.prog W = .ok () W := check88' em k 9998 W
def Ents (es : List MapEntry) (l : List (List Int × S38)) : Prop := es.map (fun e => (e.key, e.val)) = l.map (fun p => (keyV p.1, v59 p.2))
def lookL : List (List Int × S38) → List Int → Option S38
 | [], _ => none
 | p :: r, k => if same4 k p.1 then some p.2 else lookL r k
def FoundAs (o : Option S38) (r : Option (Nat × Value)) : Prop := match o with
 | none => r = none
 | some x => ∃ j, r = some (j, v59 x)
theorem find88' (k : List Int) (W : World) : ∀ (es : List MapEntry) (l : List (List Int × S38)) (i : Nat), Ents es l → ∃ r, (Instr.findAsking 65 (keyV k) es i).run Tryz.prog W = .ok r W ∧ FoundAs (lookL l k) r
 | [], [], i, _ => ⟨none, by simp [Instr.findAsking], rfl⟩
 | [], _ :: _, i, h => by simp [Ents] at h
 | _ :: _, [], i, h => by simp [Ents] at h
 | e :: es, p :: l, i, h => by
  simp only [Ents, List.map_cons, List.cons.injEq, Prod.mk.injEq] at h
  obtain ⟨⟨hk, hv⟩, ht⟩ := h
  simp only [Instr.findAsking, Sem.run_bind, hk, equal88, Result.andThen_ok, lookL]
  cases hs : same4 k p.1
  ·simpa using find88' k W es l (i + 1) ht
  ·refine ⟨some (i, e.val), by simp, i, by rw [hv]⟩
theorem find88 (k : List Int) (W : World) (es : List MapEntry) (l : List (List Int × S38)) (h : Ents es l) : ∃ r, (Instr.findKey 65 (keyV k) es).run Tryz.prog W = .ok r W ∧ FoundAs (lookL l k) r := by
 rw [run_findKey_eq W (P := Tryz.prog) (by rw [u88]) (keyV k) es]
 exact find88' k W es l 0 h
theorem u84 : Tryz.prog.underlying 60 = some (.map 65 38) := by kernel_rfl
theorem lookup88 (k : List Int) (W : World) (b clock : Nat) (es : Array MapEntry) (l : List (List Int × S38)) (hb : W.heap[b]? = some (.map es clock)) (h : Ents es.toList l) :
  (Instr.lookup 60 (.map (some b)) (keyV k) true).run Tryz.prog W = .ok (.tuple #[v59 ((lookL l k).getD z38), .bool (lookL l k).isSome]) W := by
 obtain ⟨r, hr, hf⟩ := find88 k W es.toList l h
 have hz : (zeroValue 38).run Tryz.prog W = .ok (v59 z38) W := by
  obtain ⟨i, hi, hz⟩ := Option.map_eq_some_iff.1 (show (Tryz.prog.info? 38).map (fun i => i.zero) = some (some (v59 z38)) by kernel_rfl)
  simp [zeroValue, typeInfo, hi, hz]
 have hg : (getObj b).run Tryz.prog W = .ok (.map es clock) W := by simp [getObj, Sem.run, hb]
 cases hl : lookL l k with
 | none =>
  rw [hl] at hf
  cases hf
  simp [Instr.lookup, run_underlying u84, hg, check88, hr, hz]
 | some x =>
  rw [hl] at hf
  obtain ⟨j, rfl⟩ := hf
  simp [Instr.lookup, run_underlying u84, hg, check88, hr, hz]
theorem update88 (k : List Int) (x : S38) (W : World) (b clock : Nat) (es : Array MapEntry) (l : List (List Int × S38)) (hb : W.heap[b]? = some (.map es clock)) (h : Ents es.toList l) (hn : lookL l k = none) :
  ∃ W' es', (Instr.mapUpdate 60 (.map (some b)) (keyV k) (v59 x)).run Tryz.prog W = .ok () W' ∧ W'.heap[b]? = some (.map es' (clock + 1)) ∧ Ents es'.toList (l ++ [(k, x)]) ∧ Kb (fun i => i = b) W W' := by
 obtain ⟨r, hr, hf⟩ := find88 k W es.toList l h
 have hg : (getObj b).run Tryz.prog W = .ok (.map es clock) W := by simp [getObj, Sem.run, hb]
 have hs : ∀ es' c, (setObj b (.map es' c)).run Tryz.prog W = .ok () (W.putObj b (.map es' c)) := fun es' c => by simp [setObj, Sem.run, hb, World.putObj]
 have hbl := (Array.getElem?_eq_some_iff.1 hb).1
 rw [hn] at hf
 cases hf
 refine ⟨_, es.push { key := keyV k, val := v59 x, born := clock }, ?_, World.putObj_heap_same hbl, ?_, Kb.putObj (M := fun i => i = b) (Kb.refl _ W) (r := b) (.inl rfl) _⟩
 ·simp [Instr.mapUpdate, run_underlying u84, hg, check88, hr, hs]
 ·simpa [Ents] using h
def falses : List Bool → Nat
 | [] => 0
 | b :: r => (if b then 0 else 1) + falses r
theorem falses_set : ∀ (l : List Bool) (i : Nat), l[i]? = some false → falses (l.set i true) + 1 = falses l
 | [], i, h => by simp at h
 | b :: r, 0, h => by simp at h; subst h; simp [falses]; omega
 | b :: r, i + 1, h => by
  have := falses_set r i (by simpa using h)
  simp only [List.set_cons_succ, falses]; omega
/-- A region that draws its order, by what is known behind each set of operations. -/
theorem any_states {F : Fence} {n : Nat} {P : Program} {md : Region.Mode} {ops : Array Oper} {Q : Exit → Act → World → Prop} (St : Array Bool → Act → World → Prop)
  (hlow : ∀ L i, L.size = ops.size → i ∈ Region.ready md ops L → L[i]? = some false)
  (step : ∀ L a w i, L.size = ops.size → i ∈ Region.ready md ops L → St L a w → wpOpIn F n P ops Q i (St (L.setIfInBounds i true)) a w)
  (fin : ∀ L a w, L.size = ops.size → Region.ready md ops L = [] → St L a w → Q .normal a w) :
  ∀ (fuel : Nat) (L : Array Bool) (a : Act) (w : World), L.size = ops.size → falses L.toList ≤ fuel → St L a w → wpAnyIn F n P md ops Q fuel L a w
 | 0, L, a, w, hs, hf, h => by
  have h0 : Region.ready md ops L = [] := by
   rw [List.eq_nil_iff_forall_not_mem]
   intro i hi
   have := falses_set L.toList i (by simpa using hlow L i hs hi)
   omega
  exact ⟨h0, fin L a w hs h0 h⟩
 | fuel + 1, L, a, w, hs, hf, h => by
  refine ⟨fun h0 => fin L a w hs h0 h, fun i hi => wpOpIn_mono (fun a' w' h' => any_states St hlow step fin fuel _ a' w' (by simpa using hs) ?_ h') (step L a w i hs hi h)⟩
  have := falses_set L.toList i (by simpa using hlow L i hs hi)
  simp only [Array.toList_setIfInBounds]
  omega
theorem ready_low {md : Region.Mode} {ops : Array Oper} (L : Array Bool) (i : Nat) (hs : L.size = ops.size) (hi : i ∈ Region.ready md ops L) : L[i]? = some false := by
 unfold Region.ready at hi
 obtain ⟨h1, h2⟩ := List.mem_filter.1 hi
 have h3 := List.mem_range.1 h1
 have h4 := (Bool.and_eq_true_iff.1 h2).1
 have hl : i < L.size := by omega
 rw [Array.getElem?_eq_getElem hl]
 simpa [Array.getD, hl] using h4
/-- a slot that is written, or not yet -/
def sel (l : Bool) (v u : Value) : Value := match l with
 | true => v
 | false => u
theorem sel_true (v u : Value) : sel true v u = v := rfl
def ops15 : Array Oper := #[{ dst := some 46, op := Op.load 60 (Operand.tmp 8), type := 60, pos := "array.go:259", after := #[], guard := none }, { dst := some 47, op := Op.move (Operand.tmp 10), type := 34, pos := "array.go:259", after := #[], guard := none }, { dst := some 48, op := Op.call { callee := Callee.value (Operand.func 32), args := #[Operand.tmp 47], argTypes := #[34] }, type := 65, pos := "array.go:259", after := #[{ on := 1, ground := Ground.data }], guard := none }, { dst := some 49, op := Op.fieldAddr 25 (Operand.tmp 2) 2, type := 0, pos := "array.go:259", after := #[], guard := none }, { dst := some 50, op := Op.load 23 (Operand.tmp 49), type := 23, pos := "array.go:259", after := #[{ on := 3, ground := Ground.data }], guard := none }, { dst := some 51, op := Op.load 3 (Operand.tmp 9), type := 3, pos := "array.go:259", after := #[], guard := none }, { dst := some 52, op := Op.indexAddr 23 (Operand.tmp 50) (Operand.tmp 51), type := 0, pos := "array.go:259", after := #[{ on := 4, ground := Ground.data }, { on := 5, ground := Ground.data }], guard := none }, { dst := some 53, op := Op.load 38 (Operand.tmp 52), type := 38, pos := "array.go:259", after := #[{ on := 6, ground := Ground.data }], guard := none }, { dst := none, op := Op.mapUpdate 60 (Operand.tmp 46) (Operand.tmp 48) (Operand.tmp 53), type := 0, pos := "array.go:259", after := #[{ on := 0, ground := Ground.data }, { on := 2, ground := Ground.data }, { on := 7, ground := Ground.data }, { on := 2, ground := Ground.chain }, { on := 0, ground := Ground.phase }, { on := 1, ground := Ground.phase }, { on := 2, ground := Ground.phase }, { on := 3, ground := Ground.phase }, { on := 4, ground := Ground.phase }, { on := 5, ground := Ground.phase }, { on := 6, ground := Ground.phase }, { on := 7, ground := Ground.phase }], guard := none }]
theorem ready15_lt (L : Array Bool) (i : Nat) (hi : i ∈ Region.ready .any ops15 L) : i < 9 := by
 unfold Region.ready at hi
 exact List.mem_range.1 (List.mem_filter.1 hi).1
theorem d15_0 : ∀ l0 l1 l2 l3 l4 l5 l6 l7 l8 : Bool, (!(Region.ready .any ops15 #[l0, l1, l2, l3, l4, l5, l6, l7, l8]).contains 0 || (!l0)) = true := by decide +kernel
theorem d15_1 : ∀ l0 l1 l2 l3 l4 l5 l6 l7 l8 : Bool, (!(Region.ready .any ops15 #[l0, l1, l2, l3, l4, l5, l6, l7, l8]).contains 1 || (!l1)) = true := by decide +kernel
theorem d15_2 : ∀ l0 l1 l2 l3 l4 l5 l6 l7 l8 : Bool, (!(Region.ready .any ops15 #[l0, l1, l2, l3, l4, l5, l6, l7, l8]).contains 2 || (!l2 && l1)) = true := by decide +kernel
theorem d15_3 : ∀ l0 l1 l2 l3 l4 l5 l6 l7 l8 : Bool, (!(Region.ready .any ops15 #[l0, l1, l2, l3, l4, l5, l6, l7, l8]).contains 3 || (!l3)) = true := by decide +kernel
theorem d15_4 : ∀ l0 l1 l2 l3 l4 l5 l6 l7 l8 : Bool, (!(Region.ready .any ops15 #[l0, l1, l2, l3, l4, l5, l6, l7, l8]).contains 4 || (!l4 && l3)) = true := by decide +kernel
theorem d15_5 : ∀ l0 l1 l2 l3 l4 l5 l6 l7 l8 : Bool, (!(Region.ready .any ops15 #[l0, l1, l2, l3, l4, l5, l6, l7, l8]).contains 5 || (!l5)) = true := by decide +kernel
theorem d15_6 : ∀ l0 l1 l2 l3 l4 l5 l6 l7 l8 : Bool, (!(Region.ready .any ops15 #[l0, l1, l2, l3, l4, l5, l6, l7, l8]).contains 6 || (!l6 && l4 && l5)) = true := by decide +kernel
theorem d15_7 : ∀ l0 l1 l2 l3 l4 l5 l6 l7 l8 : Bool, (!(Region.ready .any ops15 #[l0, l1, l2, l3, l4, l5, l6, l7, l8]).contains 7 || (!l7 && l6)) = true := by decide +kernel
theorem d15_8 : ∀ l0 l1 l2 l3 l4 l5 l6 l7 l8 : Bool, (!(Region.ready .any ops15 #[l0, l1, l2, l3, l4, l5, l6, l7, l8]).contains 8 || (!l8 && l0 && l1 && l2 && l3 && l4 && l5 && l6 && l7)) = true := by decide +kernel
theorem done15 : ∀ l0 l1 l2 l3 l4 l5 l6 l7 l8 : Bool, (!(Region.ready .any ops15 #[l0, l1, l2, l3, l4, l5, l6, l7, l8]).isEmpty || l8) = true := by decide +kernel
theorem keyOf_in (ks : List Int) (A : Option Addr) (c : Nat) (h0 : 0 < ks.length) (h4 : ks.length ≤ 4) (w : World) (hC : Kd.C (Kd.int .i64) w A ks.length ks) :
  CallsIn Fence.wide 0 Tryz.prog 32 #[.slice A ks.length c] w fun e w' => e = .returned (keyV ks) ∧ Below w.heap.size w w' := callsIn_wide.2 (keyOf_calls ks A c h0 h4 w hC)
attribute [local go_sem] Oper.semAt_some sel_true
theorem region15 {l : Nat} {Q : Exit → Act → World → Prop} {u : Nat → Value} {ds : List Deferred} {ba bo bk bm c ne ce k ge oe : Nat} {A : Option Addr} {ae : Addr} {ks : List Int} {x : S38} {W : World} {R : World → Prop}
  (hmp : W.cell? ⟨bo, 0, none⟩ = some (.map (some bm))) (hel : W.cell? ⟨ba, 2, none⟩ = some (.slice (some ae) ne ce)) (hk : W.cell? ⟨bk, 0, none⟩ = some (.int .i64 (k : Int))) (hkn : k < ne) (hadd : ae.add (k * 5) = ⟨ge, oe, none⟩)
  (e0 : W.cell? ⟨ge, oe, none⟩ = some (.int .i64 x.f0)) (e1 : W.cell? ⟨ge, oe + 1, none⟩ = some (.int .i64 x.f1)) (e2 : W.cell? ⟨ge, oe + 2, none⟩ = some (.int .i64 x.f2.f0)) (e3 : W.cell? ⟨ge, oe + 3, none⟩ = some (.int .i64 x.f2.f1)) (e4 : W.cell? ⟨ge, oe + 4, none⟩ = some (.bool x.f3))
  (hC : Kd.C (Kd.int .i64) W A ks.length ks) (h0 : 0 < ks.length) (h4 : ks.length ≤ 4)
  (hup : ∀ w, Kb (fun _ => False) W w → ∃ w', (Instr.mapUpdate 60 (.map (some bm)) (keyV ks) (v59 x)).run Tryz.prog w = .ok () w' ∧ R w')
  (hQ : ∀ (u' : Nat → Value) (w' : World), R w' → Q .normal { tmps := List.toArray (u' 0 :: u' 1 :: .pointer (some ⟨ba, 0, none⟩) :: u' 3 :: u' 4 :: u' 5 :: u' 6 :: u' 7 :: .pointer (some ⟨bo, 0, none⟩) :: .pointer (some ⟨bk, 0, none⟩) :: .slice A ks.length c :: u' 11 :: u' 12 :: u' 13 :: u' 14 :: u' 15 :: u' 16 :: u' 17 :: u' 18 :: u' 19 :: u' 20 :: u' 21 :: u' 22 :: u' 23 :: u' 24 :: u' 25 :: u' 26 :: u' 27 :: u' 28 :: u' 29 :: u' 30 :: u' 31 :: u' 32 :: u' 33 :: u' 34 :: u' 35 :: u' 36 :: u' 37 :: u' 38 :: u' 39 :: u' 40 :: u' 41 :: u' 42 :: u' 43 :: u' 44 :: u' 45 :: u' 46 :: u' 47 :: u' 48 :: u' 49 :: u' 50 :: u' 51 :: u' 52 :: u' 53 :: u' 54 :: u' 55 :: u' 56 :: u' 57 :: u' 58 :: u' 59 :: u' 60 :: u' 61 :: u' 62 :: u' 63 :: u' 64 :: u' 65 :: u' 66 :: u' 67 :: u' 68 :: u' 69 :: u' 70 :: u' 71 :: u' 72 :: u' 73 :: u' 74 :: u' 75 :: u' 76 :: u' 77 :: u' 78 :: []), defers := ds } w') :
  (Code.region 15 ops15 true).wpIn (Fence.wide.inRound l) 0 Tryz.prog Q { tmps := List.toArray (u 0 :: u 1 :: .pointer (some ⟨ba, 0, none⟩) :: u 3 :: u 4 :: u 5 :: u 6 :: u 7 :: .pointer (some ⟨bo, 0, none⟩) :: .pointer (some ⟨bk, 0, none⟩) :: .slice A ks.length c :: u 11 :: u 12 :: u 13 :: u 14 :: u 15 :: u 16 :: u 17 :: u 18 :: u 19 :: u 20 :: u 21 :: u 22 :: u 23 :: u 24 :: u 25 :: u 26 :: u 27 :: u 28 :: u 29 :: u 30 :: u 31 :: u 32 :: u 33 :: u 34 :: u 35 :: u 36 :: u 37 :: u 38 :: u 39 :: u 40 :: u 41 :: u 42 :: u 43 :: u 44 :: u 45 :: u 46 :: u 47 :: u 48 :: u 49 :: u 50 :: u 51 :: u 52 :: u 53 :: u 54 :: u 55 :: u 56 :: u 57 :: u 58 :: u 59 :: u 60 :: u 61 :: u 62 :: u 63 :: u 64 :: u 65 :: u 66 :: u 67 :: u 68 :: u 69 :: u 70 :: u 71 :: u 72 :: u 73 :: u 74 :: u 75 :: u 76 :: u 77 :: u 78 :: []), defers := ds } W := by
 have hmix : Tryz.prog.follows .mixedOrders = true := by kernel_rfl
 refine wpIn_region_any hmix ?_
 refine any_states (fun L a w => ∃ l0 l1 l2 l3 l4 l5 l6 l7 l8 : Bool, L = #[l0, l1, l2, l3, l4, l5, l6, l7, l8] ∧ a = { tmps := List.toArray (u 0 :: u 1 :: .pointer (some ⟨ba, 0, none⟩) :: u 3 :: u 4 :: u 5 :: u 6 :: u 7 :: .pointer (some ⟨bo, 0, none⟩) :: .pointer (some ⟨bk, 0, none⟩) :: .slice A ks.length c :: u 11 :: u 12 :: u 13 :: u 14 :: u 15 :: u 16 :: u 17 :: u 18 :: u 19 :: u 20 :: u 21 :: u 22 :: u 23 :: u 24 :: u 25 :: u 26 :: u 27 :: u 28 :: u 29 :: u 30 :: u 31 :: u 32 :: u 33 :: u 34 :: u 35 :: u 36 :: u 37 :: u 38 :: u 39 :: u 40 :: u 41 :: u 42 :: u 43 :: u 44 :: u 45 :: sel l0 (.map (some bm)) (u 46) :: sel l1 (.slice A ks.length c) (u 47) :: sel l2 (keyV ks) (u 48) :: sel l3 (.pointer (some ⟨ba, 2, none⟩)) (u 49) :: sel l4 (.slice (some ae) ne ce) (u 50) :: sel l5 (.int .i64 (k : Int)) (u 51) :: sel l6 (.pointer (some ⟨ge, oe, none⟩)) (u 52) :: sel l7 (v59 x) (u 53) :: u 54 :: u 55 :: u 56 :: u 57 :: u 58 :: u 59 :: u 60 :: u 61 :: u 62 :: u 63 :: u 64 :: u 65 :: u 66 :: u 67 :: u 68 :: u 69 :: u 70 :: u 71 :: u 72 :: u 73 :: u 74 :: u 75 :: u 76 :: u 77 :: u 78 :: []), defers := ds } ∧ (l8 = false → Kb (fun _ => False) W w) ∧ (l8 = true → R w) ∧ (l8 = true → (l0 && l1 && l2 && l3 && l4 && l5 && l6 && l7) = true)) (fun L i => ready_low L i) ?_ ?_ _ _ _ _ rfl ?_ ?_
 ·rintro L a w i hs hi ⟨l0, l1, l2, l3, l4, l5, l6, l7, l8, rfl, rfl, hkb, hR, hall⟩
  have hlt := ready15_lt _ i hi
  have hc : ((Region.ready .any ops15 #[l0, l1, l2, l3, l4, l5, l6, l7, l8]).contains i) = true := by simpa using hi
  obtain rfl | rfl | rfl | rfl | rfl | rfl | rfl | rfl | rfl : i = 0 ∨ i = 1 ∨ i = 2 ∨ i = 3 ∨ i = 4 ∨ i = 5 ∨ i = 6 ∨ i = 7 ∨ i = 8 := by omega
  ·have hd := d15_0 l0 l1 l2 l3 l4 l5 l6 l7 l8
   rw [hc] at hd
   simp at hd
   subst hd
   cases l8 with
   | true => simp at hall
   | false =>
    have hk9 := hkb rfl
    clear hc hs hi hlt hkb hall hR
    have hmp' := hk9.cell (fun h => h) hmp
    refine wpOpIn_step (o := { dst := some 46, op := Op.load 60 (Operand.tmp 8), type := 60, pos := "array.go:259", after := #[], guard := none }) rfl (fun K hK => ?_)
    have HK := Lib.hid hK; clear hK
    go_simp
    refine HK.out _ _ ⟨true, l1, l2, l3, l4, l5, l6, l7, false, rfl, ?_, fun _ => hk9, fun h => Bool.noConfusion h, fun h => Bool.noConfusion h⟩
    rfl
  ·have hd := d15_1 l0 l1 l2 l3 l4 l5 l6 l7 l8
   rw [hc] at hd
   simp at hd
   subst hd
   cases l8 with
   | true => simp at hall
   | false =>
    have hk9 := hkb rfl
    clear hc hs hi hlt hkb hall hR
    refine wpOpIn_step (o := { dst := some 47, op := Op.move (Operand.tmp 10), type := 34, pos := "array.go:259", after := #[], guard := none }) rfl (fun K hK => ?_)
    have HK := Lib.hid hK; clear hK
    go_simp
    refine HK.out _ _ ⟨l0, true, l2, l3, l4, l5, l6, l7, false, rfl, ?_, fun _ => hk9, fun h => Bool.noConfusion h, fun h => Bool.noConfusion h⟩
    rfl
  ·have hd := d15_2 l0 l1 l2 l3 l4 l5 l6 l7 l8
   rw [hc] at hd
   simp at hd
   obtain ⟨rfl, rfl⟩ := hd
   cases l8 with
   | true => simp at hall
   | false =>
    have hk9 := hkb rfl
    clear hc hs hi hlt hkb hall hR
    have hC' := Kd.C_below hC (hk9.below (Nat.le_refl _) (fun _ h => h.elim))
    refine wpOpIn_step (o := { dst := some 48, op := Op.call { callee := Callee.value (Operand.func 32), args := #[Operand.tmp 47], argTypes := #[34] }, type := 65, pos := "array.go:259", after := #[{ on := 1, ground := Ground.data }], guard := none }) rfl (fun K hK => ?_)
    have HK := Lib.hid hK; clear hK
    go_simp
    refine ⟨trivial, rfl, (keyOf_in ks A c h0 h4 _ hC').mono ?_⟩
    rintro e w2 ⟨rfl, hb2⟩
    go_simp
    have hk10 : Kb (fun _ => False) W w2 := hk9.trans ((Kb.of_below hb2))
    refine HK.out _ _ ⟨l0, true, true, l3, l4, l5, l6, l7, false, rfl, ?_, fun _ => hk10, fun h => Bool.noConfusion h, fun h => Bool.noConfusion h⟩
    rfl
  ·have hd := d15_3 l0 l1 l2 l3 l4 l5 l6 l7 l8
   rw [hc] at hd
   simp at hd
   subst hd
   cases l8 with
   | true => simp at hall
   | false =>
    have hk9 := hkb rfl
    clear hc hs hi hlt hkb hall hR
    refine wpOpIn_step (o := { dst := some 49, op := Op.fieldAddr 25 (Operand.tmp 2) 2, type := 0, pos := "array.go:259", after := #[], guard := none }) rfl (fun K hK => ?_)
    have HK := Lib.hid hK; clear hK
    go_simp
    refine HK.out _ _ ⟨l0, l1, l2, true, l4, l5, l6, l7, false, rfl, ?_, fun _ => hk9, fun h => Bool.noConfusion h, fun h => Bool.noConfusion h⟩
    rfl
  ·have hd := d15_4 l0 l1 l2 l3 l4 l5 l6 l7 l8
   rw [hc] at hd
   simp at hd
   obtain ⟨rfl, rfl⟩ := hd
   cases l8 with
   | true => simp at hall
   | false =>
    have hk9 := hkb rfl
    clear hc hs hi hlt hkb hall hR
    have hel' := hk9.cell (fun h => h) hel
    refine wpOpIn_step (o := { dst := some 50, op := Op.load 23 (Operand.tmp 49), type := 23, pos := "array.go:259", after := #[{ on := 3, ground := Ground.data }], guard := none }) rfl (fun K hK => ?_)
    have HK := Lib.hid hK; clear hK
    go_simp
    refine HK.out _ _ ⟨l0, l1, l2, true, true, l5, l6, l7, false, rfl, ?_, fun _ => hk9, fun h => Bool.noConfusion h, fun h => Bool.noConfusion h⟩
    rfl
  ·have hd := d15_5 l0 l1 l2 l3 l4 l5 l6 l7 l8
   rw [hc] at hd
   simp at hd
   subst hd
   cases l8 with
   | true => simp at hall
   | false =>
    have hk9 := hkb rfl
    clear hc hs hi hlt hkb hall hR
    have hk' := hk9.cell (fun h => h) hk
    refine wpOpIn_step (o := { dst := some 51, op := Op.load 3 (Operand.tmp 9), type := 3, pos := "array.go:259", after := #[], guard := none }) rfl (fun K hK => ?_)
    have HK := Lib.hid hK; clear hK
    go_simp
    refine HK.out _ _ ⟨l0, l1, l2, l3, l4, true, l6, l7, false, rfl, ?_, fun _ => hk9, fun h => Bool.noConfusion h, fun h => Bool.noConfusion h⟩
    rfl
  ·have hd := d15_6 l0 l1 l2 l3 l4 l5 l6 l7 l8
   rw [hc] at hd
   simp at hd
   obtain ⟨⟨rfl, rfl⟩, rfl⟩ := hd
   cases l8 with
   | true => simp at hall
   | false =>
    have hk9 := hkb rfl
    clear hc hs hi hlt hkb hall hR
    refine wpOpIn_step (o := { dst := some 52, op := Op.indexAddr 23 (Operand.tmp 50) (Operand.tmp 51), type := 0, pos := "array.go:259", after := #[{ on := 4, ground := Ground.data }, { on := 5, ground := Ground.data }], guard := none }) rfl (fun K hK => ?_)
    have HK := Lib.hid hK; clear hK
    go_simp
    refine HK.out _ _ ⟨l0, l1, l2, l3, true, true, true, l7, false, rfl, ?_, fun _ => hk9, fun h => Bool.noConfusion h, fun h => Bool.noConfusion h⟩
    rfl
  ·have hd := d15_7 l0 l1 l2 l3 l4 l5 l6 l7 l8
   rw [hc] at hd
   simp at hd
   obtain ⟨rfl, rfl⟩ := hd
   cases l8 with
   | true => simp at hall
   | false =>
    have hk9 := hkb rfl
    clear hc hs hi hlt hkb hall hR
    have e0' := hk9.cell (fun h => h) e0
    have e1' := hk9.cell (fun h => h) e1
    have e2' := hk9.cell (fun h => h) e2
    have e3' := hk9.cell (fun h => h) e3
    have e4' := hk9.cell (fun h => h) e4
    refine wpOpIn_step (o := { dst := some 53, op := Op.load 38 (Operand.tmp 52), type := 38, pos := "array.go:259", after := #[{ on := 6, ground := Ground.data }], guard := none }) rfl (fun K hK => ?_)
    have HK := Lib.hid hK; clear hK
    go_simp
    refine HK.out _ _ ⟨l0, l1, l2, l3, l4, l5, true, true, false, rfl, ?_, fun _ => hk9, fun h => Bool.noConfusion h, fun h => Bool.noConfusion h⟩
    rfl
  ·have hd := d15_8 l0 l1 l2 l3 l4 l5 l6 l7 l8
   rw [hc] at hd
   simp at hd
   obtain ⟨⟨⟨⟨⟨⟨⟨⟨rfl, rfl⟩, rfl⟩, rfl⟩, rfl⟩, rfl⟩, rfl⟩, rfl⟩, rfl⟩ := hd
   have hk9 := hkb rfl
   clear hc hs hi hlt hkb hall hR
   obtain ⟨w2, hrun, hR2⟩ := hup _ hk9
   refine wpOpIn_step (o := { dst := none, op := Op.mapUpdate 60 (Operand.tmp 46) (Operand.tmp 48) (Operand.tmp 53), type := 0, pos := "array.go:259", after := #[{ on := 0, ground := Ground.data }, { on := 2, ground := Ground.data }, { on := 7, ground := Ground.data }, { on := 2, ground := Ground.chain }, { on := 0, ground := Ground.phase }, { on := 1, ground := Ground.phase }, { on := 2, ground := Ground.phase }, { on := 3, ground := Ground.phase }, { on := 4, ground := Ground.phase }, { on := 5, ground := Ground.phase }, { on := 6, ground := Ground.phase }, { on := 7, ground := Ground.phase }], guard := none }) rfl (fun K hK => ?_)
   have HK := Lib.hid hK; clear hK
   go_simp
   refine HK.out _ _ ⟨true, true, true, true, true, true, true, true, true, rfl, ?_, fun h => Bool.noConfusion h, fun _ => hR2, fun _ => rfl⟩
   rfl
 ·rintro L a w hs hr ⟨l0, l1, l2, l3, l4, l5, l6, l7, l8, rfl, rfl, hkb, hR, hall⟩
  have hd := done15 l0 l1 l2 l3 l4 l5 l6 l7 l8
  rw [hr] at hd
  simp at hd
  exact hQ (fun i => match i with
   | 46 => sel l0 (.map (some bm)) (u 46)
   | 47 => sel l1 (.slice A ks.length c) (u 47)
   | 48 => sel l2 (keyV ks) (u 48)
   | 49 => sel l3 (.pointer (some ⟨ba, 2, none⟩)) (u 49)
   | 50 => sel l4 (.slice (some ae) ne ce) (u 50)
   | 51 => sel l5 (.int .i64 (k : Int)) (u 51)
   | 52 => sel l6 (.pointer (some ⟨ge, oe, none⟩)) (u 52)
   | 53 => sel l7 (v59 x) (u 53)
   | i => u i) w (hR hd)
 ·decide
 ·refine ⟨false, false, false, false, false, false, false, false, false, rfl, ?_, fun _ => (Kb.refl _ W).drew, fun h => Bool.noConfusion h, fun h => Bool.noConfusion h⟩
  rfl
def ops21 : Array Oper := #[{ dst := some 64, op := Op.load 60 (Operand.tmp 8), type := 60, pos := "array.go:265", after := #[], guard := none }, { dst := some 65, op := Op.move (Operand.tmp 12), type := 34, pos := "array.go:265", after := #[], guard := none }, { dst := some 66, op := Op.call { callee := Callee.value (Operand.func 32), args := #[Operand.tmp 65], argTypes := #[34] }, type := 65, pos := "array.go:265", after := #[{ on := 1, ground := Ground.data }], guard := none }, { dst := some 67, op := Op.lookup 60 (Operand.tmp 64) (Operand.tmp 66) true, type := 68, pos := "array.go:265", after := #[{ on := 0, ground := Ground.data }, { on := 2, ground := Ground.data }], guard := none }, { dst := some 63, op := Op.move (Operand.tmp 67), type := 68, pos := "array.go:265", after := #[{ on := 3, ground := Ground.data }], guard := none }, { dst := some 68, op := Op.extract (Operand.tmp 63) 0, type := 38, pos := "array.go:265", after := #[{ on := 4, ground := Ground.data }], guard := none }, { dst := some 69, op := Op.extract (Operand.tmp 63) 1, type := 4, pos := "array.go:265", after := #[{ on := 4, ground := Ground.data }, { on := 8, ground := Ground.gcOnly Departure.lateStores }], guard := none }, { dst := some 13, op := Op.alloc 38, type := 0, pos := "array.go:265", after := #[], guard := none }, { dst := none, op := Op.store 38 (Operand.tmp 13) (Operand.tmp 68), type := 0, pos := "array.go:265", after := #[{ on := 7, ground := Ground.data }, { on := 5, ground := Ground.data }, { on := 2, ground := Ground.chain }, { on := 0, ground := Ground.phase }, { on := 1, ground := Ground.phase }, { on := 2, ground := Ground.phase }, { on := 3, ground := Ground.phase }, { on := 4, ground := Ground.phase }, { on := 5, ground := Ground.phase }, { on := 6, ground := Ground.textOnly Departure.lateStores }, { on := 7, ground := Ground.phase }], guard := none }, { dst := some 14, op := Op.assign (Operand.tmp 69), type := 4, pos := "array.go:265", after := #[{ on := 6, ground := Ground.data }, { on := 8, ground := Ground.chain }, { on := 0, ground := Ground.phase }, { on := 1, ground := Ground.phase }, { on := 2, ground := Ground.phase }, { on := 3, ground := Ground.phase }, { on := 4, ground := Ground.phase }, { on := 5, ground := Ground.phase }, { on := 6, ground := Ground.phase }, { on := 7, ground := Ground.phase }, { on := 8, ground := Ground.phase }], guard := none }]
theorem ready21_lt (L : Array Bool) (i : Nat) (hi : i ∈ Region.ready .any ops21 L) : i < 10 := by
 unfold Region.ready at hi
 exact List.mem_range.1 (List.mem_filter.1 hi).1
theorem d21_0 : ∀ l0 l1 l2 l3 l4 l5 l6 l7 l8 l9 : Bool, (!(Region.ready .any ops21 #[l0, l1, l2, l3, l4, l5, l6, l7, l8, l9]).contains 0 || (!l0)) = true := by decide +kernel
theorem d21_1 : ∀ l0 l1 l2 l3 l4 l5 l6 l7 l8 l9 : Bool, (!(Region.ready .any ops21 #[l0, l1, l2, l3, l4, l5, l6, l7, l8, l9]).contains 1 || (!l1)) = true := by decide +kernel
theorem d21_2 : ∀ l0 l1 l2 l3 l4 l5 l6 l7 l8 l9 : Bool, (!(Region.ready .any ops21 #[l0, l1, l2, l3, l4, l5, l6, l7, l8, l9]).contains 2 || (!l2 && l1)) = true := by decide +kernel
theorem d21_3 : ∀ l0 l1 l2 l3 l4 l5 l6 l7 l8 l9 : Bool, (!(Region.ready .any ops21 #[l0, l1, l2, l3, l4, l5, l6, l7, l8, l9]).contains 3 || (!l3 && l0 && l2)) = true := by decide +kernel
theorem d21_4 : ∀ l0 l1 l2 l3 l4 l5 l6 l7 l8 l9 : Bool, (!(Region.ready .any ops21 #[l0, l1, l2, l3, l4, l5, l6, l7, l8, l9]).contains 4 || (!l4 && l3)) = true := by decide +kernel
theorem d21_5 : ∀ l0 l1 l2 l3 l4 l5 l6 l7 l8 l9 : Bool, (!(Region.ready .any ops21 #[l0, l1, l2, l3, l4, l5, l6, l7, l8, l9]).contains 5 || (!l5 && l4)) = true := by decide +kernel
theorem d21_6 : ∀ l0 l1 l2 l3 l4 l5 l6 l7 l8 l9 : Bool, (!(Region.ready .any ops21 #[l0, l1, l2, l3, l4, l5, l6, l7, l8, l9]).contains 6 || (!l6 && l4)) = true := by decide +kernel
theorem d21_7 : ∀ l0 l1 l2 l3 l4 l5 l6 l7 l8 l9 : Bool, (!(Region.ready .any ops21 #[l0, l1, l2, l3, l4, l5, l6, l7, l8, l9]).contains 7 || (!l7)) = true := by decide +kernel
theorem d21_8 : ∀ l0 l1 l2 l3 l4 l5 l6 l7 l8 l9 : Bool, (!(Region.ready .any ops21 #[l0, l1, l2, l3, l4, l5, l6, l7, l8, l9]).contains 8 || (!l8 && l0 && l1 && l2 && l3 && l4 && l5 && l7)) = true := by decide +kernel
theorem d21_9 : ∀ l0 l1 l2 l3 l4 l5 l6 l7 l8 l9 : Bool, (!(Region.ready .any ops21 #[l0, l1, l2, l3, l4, l5, l6, l7, l8, l9]).contains 9 || (!l9 && l0 && l1 && l2 && l3 && l4 && l5 && l6 && l7 && l8)) = true := by decide +kernel
theorem done21 : ∀ l0 l1 l2 l3 l4 l5 l6 l7 l8 l9 : Bool, (!(Region.ready .any ops21 #[l0, l1, l2, l3, l4, l5, l6, l7, l8, l9]).isEmpty || (l0 && l1 && l2 && l3 && l4 && l5 && l6 && l7 && l8 && l9)) = true := by decide +kernel
attribute [local go_sem] Oper.semAt_some sel_true
theorem region21 {l : Nat} {Q : Exit → Act → World → Prop} {u : Nat → Value} {ds : List Deferred} {ba bo bk br bm c : Nat} {A : Option Addr} {ks : List Int} {v : S38} {b : Bool} {W : World}
  (hmp : W.cell? ⟨bo, 0, none⟩ = some (.map (some bm))) (hC : Kd.C (Kd.int .i64) W A ks.length ks) (h0 : 0 < ks.length) (h4 : ks.length ≤ 4)
  (hlook : ∀ w, Kb (fun _ => False) W w → (Instr.lookup 60 (.map (some bm)) (keyV ks) true).run Tryz.prog w = .ok (.tuple #[.agg #[.int .i64 v.f0, .int .i64 v.f1, .int .i64 v.f2.f0, .int .i64 v.f2.f1, .bool v.f3], .bool b]) w)
  (hQ : ∀ (u' : Nat → Value) (g : Nat) (w' : World), Kb (fun _ => False) W w' → W.heap.size ≤ g → w'.heap[g]? = some (.cells #[.int .i64 v.f0, .int .i64 v.f1, .int .i64 v.f2.f0, .int .i64 v.f2.f1, .bool v.f3] 38) → Q .normal { tmps := List.toArray (u' 0 :: u' 1 :: .pointer (some ⟨ba, 0, none⟩) :: u' 3 :: u' 4 :: u' 5 :: u' 6 :: u' 7 :: .pointer (some ⟨bo, 0, none⟩) :: .pointer (some ⟨bk, 0, none⟩) :: u' 10 :: .pointer (some ⟨br, 0, none⟩) :: .slice A ks.length c :: .pointer (some ⟨g, 0, none⟩) :: .bool b :: u' 15 :: u' 16 :: u' 17 :: u' 18 :: u' 19 :: u' 20 :: u' 21 :: u' 22 :: u' 23 :: u' 24 :: u' 25 :: u' 26 :: u' 27 :: u' 28 :: u' 29 :: u' 30 :: u' 31 :: u' 32 :: u' 33 :: u' 34 :: u' 35 :: u' 36 :: u' 37 :: u' 38 :: u' 39 :: u' 40 :: u' 41 :: u' 42 :: u' 43 :: u' 44 :: u' 45 :: u' 46 :: u' 47 :: u' 48 :: u' 49 :: u' 50 :: u' 51 :: u' 52 :: u' 53 :: u' 54 :: u' 55 :: u' 56 :: u' 57 :: u' 58 :: u' 59 :: u' 60 :: u' 61 :: u' 62 :: u' 63 :: u' 64 :: u' 65 :: u' 66 :: u' 67 :: u' 68 :: u' 69 :: u' 70 :: u' 71 :: u' 72 :: u' 73 :: u' 74 :: u' 75 :: u' 76 :: u' 77 :: u' 78 :: []), defers := ds } w') :
  (Code.region 21 ops21 true).wpIn (Fence.wide.inRound l) 0 Tryz.prog Q { tmps := List.toArray (u 0 :: u 1 :: .pointer (some ⟨ba, 0, none⟩) :: u 3 :: u 4 :: u 5 :: u 6 :: u 7 :: .pointer (some ⟨bo, 0, none⟩) :: .pointer (some ⟨bk, 0, none⟩) :: u 10 :: .pointer (some ⟨br, 0, none⟩) :: .slice A ks.length c :: u 13 :: u 14 :: u 15 :: u 16 :: u 17 :: u 18 :: u 19 :: u 20 :: u 21 :: u 22 :: u 23 :: u 24 :: u 25 :: u 26 :: u 27 :: u 28 :: u 29 :: u 30 :: u 31 :: u 32 :: u 33 :: u 34 :: u 35 :: u 36 :: u 37 :: u 38 :: u 39 :: u 40 :: u 41 :: u 42 :: u 43 :: u 44 :: u 45 :: u 46 :: u 47 :: u 48 :: u 49 :: u 50 :: u 51 :: u 52 :: u 53 :: u 54 :: u 55 :: u 56 :: u 57 :: u 58 :: u 59 :: u 60 :: u 61 :: u 62 :: u 63 :: u 64 :: u 65 :: u 66 :: u 67 :: u 68 :: u 69 :: u 70 :: u 71 :: u 72 :: u 73 :: u 74 :: u 75 :: u 76 :: u 77 :: u 78 :: []), defers := ds } W := by
 have hmix : Tryz.prog.follows .mixedOrders = true := by kernel_rfl
 refine wpIn_region_any hmix ?_
 refine any_states (fun L a w => ∃ l0 l1 l2 l3 l4 l5 l6 l7 l8 l9 : Bool, ∃ g : Nat, L = #[l0, l1, l2, l3, l4, l5, l6, l7, l8, l9] ∧ a = { tmps := List.toArray (u 0 :: u 1 :: .pointer (some ⟨ba, 0, none⟩) :: u 3 :: u 4 :: u 5 :: u 6 :: u 7 :: .pointer (some ⟨bo, 0, none⟩) :: .pointer (some ⟨bk, 0, none⟩) :: u 10 :: .pointer (some ⟨br, 0, none⟩) :: .slice A ks.length c :: sel l7 (.pointer (some ⟨g, 0, none⟩)) (u 13) :: sel l9 (.bool b) (u 14) :: u 15 :: u 16 :: u 17 :: u 18 :: u 19 :: u 20 :: u 21 :: u 22 :: u 23 :: u 24 :: u 25 :: u 26 :: u 27 :: u 28 :: u 29 :: u 30 :: u 31 :: u 32 :: u 33 :: u 34 :: u 35 :: u 36 :: u 37 :: u 38 :: u 39 :: u 40 :: u 41 :: u 42 :: u 43 :: u 44 :: u 45 :: u 46 :: u 47 :: u 48 :: u 49 :: u 50 :: u 51 :: u 52 :: u 53 :: u 54 :: u 55 :: u 56 :: u 57 :: u 58 :: u 59 :: u 60 :: u 61 :: u 62 :: sel l4 (.tuple #[.agg #[.int .i64 v.f0, .int .i64 v.f1, .int .i64 v.f2.f0, .int .i64 v.f2.f1, .bool v.f3], .bool b]) (u 63) :: sel l0 (.map (some bm)) (u 64) :: sel l1 (.slice A ks.length c) (u 65) :: sel l2 (keyV ks) (u 66) :: sel l3 (.tuple #[.agg #[.int .i64 v.f0, .int .i64 v.f1, .int .i64 v.f2.f0, .int .i64 v.f2.f1, .bool v.f3], .bool b]) (u 67) :: sel l5 (.agg #[.int .i64 v.f0, .int .i64 v.f1, .int .i64 v.f2.f0, .int .i64 v.f2.f1, .bool v.f3]) (u 68) :: sel l6 (.bool b) (u 69) :: u 70 :: u 71 :: u 72 :: u 73 :: u 74 :: u 75 :: u 76 :: u 77 :: u 78 :: []), defers := ds } ∧ Kb (fun _ => False) W w ∧ (l7 = true → W.heap.size ≤ g ∧ w.heap[g]? = some (.cells (bif l8 then #[.int .i64 v.f0, .int .i64 v.f1, .int .i64 v.f2.f0, .int .i64 v.f2.f1, .bool v.f3] else #[.int .i64 0, .int .i64 0, .int .i64 0, .int .i64 0, .bool false]) 38)) ∧ (l8 = true → l7 = true)) (fun L i => ready_low L i) ?_ ?_ _ _ _ _ rfl ?_ ?_
 ·rintro L a w i hs hi ⟨l0, l1, l2, l3, l4, l5, l6, l7, l8, l9, g, rfl, rfl, hk9, hg, h87⟩
  have hlt := ready21_lt _ i hi
  have hc : ((Region.ready .any ops21 #[l0, l1, l2, l3, l4, l5, l6, l7, l8, l9]).contains i) = true := by simpa using hi
  obtain rfl | rfl | rfl | rfl | rfl | rfl | rfl | rfl | rfl | rfl : i = 0 ∨ i = 1 ∨ i = 2 ∨ i = 3 ∨ i = 4 ∨ i = 5 ∨ i = 6 ∨ i = 7 ∨ i = 8 ∨ i = 9 := by omega
  ·have hd := d21_0 l0 l1 l2 l3 l4 l5 l6 l7 l8 l9
   rw [hc] at hd
   simp at hd
   subst hd
   clear hc hs hi hlt
   have hmp' := hk9.cell (fun h => h) hmp
   refine wpOpIn_step (o := { dst := some 64, op := Op.load 60 (Operand.tmp 8), type := 60, pos := "array.go:265", after := #[], guard := none }) rfl (fun K hK => ?_)
   have HK := Lib.hid hK; clear hK
   have HG := Lib.hid hg; clear hg
   go_simp
   refine HK.out _ _ ⟨true, l1, l2, l3, l4, l5, l6, l7, l8, l9, g, rfl, ?_, hk9, HG.out, h87⟩
   rfl
  ·have hd := d21_1 l0 l1 l2 l3 l4 l5 l6 l7 l8 l9
   rw [hc] at hd
   simp at hd
   subst hd
   clear hc hs hi hlt
   refine wpOpIn_step (o := { dst := some 65, op := Op.move (Operand.tmp 12), type := 34, pos := "array.go:265", after := #[], guard := none }) rfl (fun K hK => ?_)
   have HK := Lib.hid hK; clear hK
   have HG := Lib.hid hg; clear hg
   go_simp
   refine HK.out _ _ ⟨l0, true, l2, l3, l4, l5, l6, l7, l8, l9, g, rfl, ?_, hk9, HG.out, h87⟩
   rfl
  ·have hd := d21_2 l0 l1 l2 l3 l4 l5 l6 l7 l8 l9
   rw [hc] at hd
   simp at hd
   obtain ⟨rfl, rfl⟩ := hd
   clear hc hs hi hlt
   have hC' := Kd.C_below hC (hk9.below (Nat.le_refl _) (fun _ h => h.elim))
   refine wpOpIn_step (o := { dst := some 66, op := Op.call { callee := Callee.value (Operand.func 32), args := #[Operand.tmp 65], argTypes := #[34] }, type := 65, pos := "array.go:265", after := #[{ on := 1, ground := Ground.data }], guard := none }) rfl (fun K hK => ?_)
   have HK := Lib.hid hK; clear hK
   have HG := Lib.hid hg; clear hg
   go_simp
   refine ⟨trivial, rfl, (keyOf_in ks A c h0 h4 _ hC').mono ?_⟩
   rintro e w2 ⟨rfl, hb2⟩
   go_simp
   have hk10 : Kb (fun _ => False) W w2 := hk9.trans (Kb.of_below hb2)
   refine HK.out _ _ ⟨l0, true, true, l3, l4, l5, l6, l7, l8, l9, g, rfl, ?_, hk10, (fun h => ⟨(HG.out h).1, (hb2.block _ (Array.getElem?_eq_some_iff.1 (HG.out h).2).1).trans (HG.out h).2⟩), h87⟩
   rfl
  ·have hd := d21_3 l0 l1 l2 l3 l4 l5 l6 l7 l8 l9
   rw [hc] at hd
   simp at hd
   obtain ⟨⟨rfl, rfl⟩, rfl⟩ := hd
   clear hc hs hi hlt
   have hl' := hlook _ hk9
   refine wpOpIn_step (o := { dst := some 67, op := Op.lookup 60 (Operand.tmp 64) (Operand.tmp 66) true, type := 68, pos := "array.go:265", after := #[{ on := 0, ground := Ground.data }, { on := 2, ground := Ground.data }], guard := none }) rfl (fun K hK => ?_)
   have HK := Lib.hid hK; clear hK
   have HG := Lib.hid hg; clear hg
   go_simp
   refine HK.out _ _ ⟨true, l1, true, true, l4, l5, l6, l7, l8, l9, g, rfl, ?_, hk9, HG.out, h87⟩
   rfl
  ·have hd := d21_4 l0 l1 l2 l3 l4 l5 l6 l7 l8 l9
   rw [hc] at hd
   simp at hd
   obtain ⟨rfl, rfl⟩ := hd
   clear hc hs hi hlt
   refine wpOpIn_step (o := { dst := some 63, op := Op.move (Operand.tmp 67), type := 68, pos := "array.go:265", after := #[{ on := 3, ground := Ground.data }], guard := none }) rfl (fun K hK => ?_)
   have HK := Lib.hid hK; clear hK
   have HG := Lib.hid hg; clear hg
   go_simp
   refine HK.out _ _ ⟨l0, l1, l2, true, true, l5, l6, l7, l8, l9, g, rfl, ?_, hk9, HG.out, h87⟩
   rfl
  ·have hd := d21_5 l0 l1 l2 l3 l4 l5 l6 l7 l8 l9
   rw [hc] at hd
   simp at hd
   obtain ⟨rfl, rfl⟩ := hd
   clear hc hs hi hlt
   refine wpOpIn_step (o := { dst := some 68, op := Op.extract (Operand.tmp 63) 0, type := 38, pos := "array.go:265", after := #[{ on := 4, ground := Ground.data }], guard := none }) rfl (fun K hK => ?_)
   have HK := Lib.hid hK; clear hK
   have HG := Lib.hid hg; clear hg
   go_simp
   refine HK.out _ _ ⟨l0, l1, l2, l3, true, true, l6, l7, l8, l9, g, rfl, ?_, hk9, HG.out, h87⟩
   rfl
  ·have hd := d21_6 l0 l1 l2 l3 l4 l5 l6 l7 l8 l9
   rw [hc] at hd
   simp at hd
   obtain ⟨rfl, rfl⟩ := hd
   clear hc hs hi hlt
   refine wpOpIn_step (o := { dst := some 69, op := Op.extract (Operand.tmp 63) 1, type := 4, pos := "array.go:265", after := #[{ on := 4, ground := Ground.data }, { on := 8, ground := Ground.gcOnly Departure.lateStores }], guard := none }) rfl (fun K hK => ?_)
   have HK := Lib.hid hK; clear hK
   have HG := Lib.hid hg; clear hg
   go_simp
   refine HK.out _ _ ⟨l0, l1, l2, l3, true, l5, true, l7, l8, l9, g, rfl, ?_, hk9, HG.out, h87⟩
   rfl
  ·have hd := d21_7 l0 l1 l2 l3 l4 l5 l6 l7 l8 l9
   rw [hc] at hd
   simp at hd
   subst hd
   clear hc hs hi hlt
   have h8f : l8 = false := by cases l8 with
    | false => rfl
    | true => exact Bool.noConfusion (h87 rfl)
   subst h8f
   refine wpOpIn_step (o := { dst := some 13, op := Op.alloc 38, type := 0, pos := "array.go:265", after := #[], guard := none }) rfl (fun K hK => ?_)
   have HK := Lib.hid hK; clear hK
   have HG := Lib.hid hg; clear hg
   go_simp
   refine HK.out _ _ ⟨l0, l1, l2, l3, l4, l5, l6, true, false, l9, w.heap.size, rfl, ?_, (hk9.alloc _), (fun _ => ⟨hk9.size, heap_alloc_new w _⟩), (fun _ => rfl)⟩
   rfl
  ·have hd := d21_8 l0 l1 l2 l3 l4 l5 l6 l7 l8 l9
   rw [hc] at hd
   simp at hd
   obtain ⟨⟨⟨⟨⟨⟨⟨rfl, rfl⟩, rfl⟩, rfl⟩, rfl⟩, rfl⟩, rfl⟩, rfl⟩ := hd
   clear hc hs hi hlt
   obtain ⟨hg1, hg2⟩ := hg rfl
   simp only [cond_false] at hg2
   have c0 := kC hg2 0
   have c1 := kC hg2 1
   have c2 := kC hg2 2
   have c3 := kC hg2 3
   have c4 := kC hg2 4
   have f0 := kF hg2 0
   have f1 := kF hg2 1
   have f2 := kF hg2 2
   have f3 := kF hg2 3
   have f4 := kF hg2 4
   simp at c0 c1 c2 c3 c4
   refine wpOpIn_step (o := { dst := none, op := Op.store 38 (Operand.tmp 13) (Operand.tmp 68), type := 0, pos := "array.go:265", after := #[{ on := 7, ground := Ground.data }, { on := 5, ground := Ground.data }, { on := 2, ground := Ground.chain }, { on := 0, ground := Ground.phase }, { on := 1, ground := Ground.phase }, { on := 2, ground := Ground.phase }, { on := 3, ground := Ground.phase }, { on := 4, ground := Ground.phase }, { on := 5, ground := Ground.phase }, { on := 6, ground := Ground.textOnly Departure.lateStores }, { on := 7, ground := Ground.phase }], guard := none }) rfl (fun K hK => ?_)
   have HK := Lib.hid hK; clear hK
   have HG := Lib.hid hg; clear hg
   go_simp
   have hkf : ∀ (W2 : World) (j : Nat) (q : Value), Kb (fun _ => False) W W2 → Kb (fun _ => False) W (W2.setCell ⟨g, j, none⟩ q) := fun W2 j q h => h.setCell (.inr hg1) q
   refine HK.out _ _ ⟨true, true, true, true, true, true, l6, true, true, l9, g, rfl, ?_, (hkf _ _ _ (hkf _ _ _ (hkf _ _ _ (hkf _ _ _ (hkf _ _ _ hk9))))), (fun _ => ⟨hg1, blk_set (blk_set (blk_set (blk_set (blk_set hg2 0 _) 1 _) 2 _) 3 _) 4 _⟩), (fun _ => rfl)⟩
   rfl
  ·have hd := d21_9 l0 l1 l2 l3 l4 l5 l6 l7 l8 l9
   rw [hc] at hd
   simp at hd
   obtain ⟨⟨⟨⟨⟨⟨⟨⟨⟨rfl, rfl⟩, rfl⟩, rfl⟩, rfl⟩, rfl⟩, rfl⟩, rfl⟩, rfl⟩, rfl⟩ := hd
   clear hc hs hi hlt
   refine wpOpIn_step (o := { dst := some 14, op := Op.assign (Operand.tmp 69), type := 4, pos := "array.go:265", after := #[{ on := 6, ground := Ground.data }, { on := 8, ground := Ground.chain }, { on := 0, ground := Ground.phase }, { on := 1, ground := Ground.phase }, { on := 2, ground := Ground.phase }, { on := 3, ground := Ground.phase }, { on := 4, ground := Ground.phase }, { on := 5, ground := Ground.phase }, { on := 6, ground := Ground.phase }, { on := 7, ground := Ground.phase }, { on := 8, ground := Ground.phase }], guard := none }) rfl (fun K hK => ?_)
   have HK := Lib.hid hK; clear hK
   have HG := Lib.hid hg; clear hg
   go_simp
   refine HK.out _ _ ⟨true, true, true, true, true, true, true, true, true, true, g, rfl, ?_, hk9, HG.out, h87⟩
   rfl
 ·rintro L a w hs hr ⟨l0, l1, l2, l3, l4, l5, l6, l7, l8, l9, g, rfl, rfl, hkb, hg, h87⟩
  have hd := done21 l0 l1 l2 l3 l4 l5 l6 l7 l8 l9
  rw [hr] at hd
  simp at hd
  obtain ⟨⟨⟨⟨⟨⟨⟨⟨⟨rfl, rfl⟩, rfl⟩, rfl⟩, rfl⟩, rfl⟩, rfl⟩, rfl⟩, rfl⟩, rfl⟩ := hd
  obtain ⟨hg1, hg2⟩ := hg rfl
  exact hQ (fun i => match i with
   | 64 => .map (some bm)
   | 65 => .slice A ks.length c
   | 66 => keyV ks
   | 67 => .tuple #[.agg #[.int .i64 v.f0, .int .i64 v.f1, .int .i64 v.f2.f0, .int .i64 v.f2.f1, .bool v.f3], .bool b]
   | 63 => .tuple #[.agg #[.int .i64 v.f0, .int .i64 v.f1, .int .i64 v.f2.f0, .int .i64 v.f2.f1, .bool v.f3], .bool b]
   | 68 => .agg #[.int .i64 v.f0, .int .i64 v.f1, .int .i64 v.f2.f0, .int .i64 v.f2.f1, .bool v.f3]
   | 69 => .bool b
   | i => u i) g w hkb hg1 hg2
 ·decide
 ·refine ⟨false, false, false, false, false, false, false, false, false, false, 0, rfl, ?_, (Kb.refl _ W).drew, fun h => Bool.noConfusion h, fun h => Bool.noConfusion h⟩
  rfl
/-- The record block that is L -/
structure Outer (M : Nat → Prop) (I : List (List Int) → World → Prop) (Wr : World) (rc : Obj) (pre : List (List Int)) (V : World) : Prop where
 I : I pre V
 recd : V.heap[Wr.heap.size + 1]? = some rc
 mark : V.heap[Wr.heap.size]? = some (.deferred (some []))
 kb : Kb M Wr V
/-- 'for subs := range subscripts(dims) { .. }' in a function's own frame. -/
theorem outer_run {l : List S54} (ht : Tame l) {Wr : World} {M : Nat → Prop} {p c : Nat} {A : Option Addr} {I : List (List Int) → World → Prop}
  (hM : ∀ i, M i → i < Wr.heap.size) (hL : Lies M p A c l Wr) (h0 : I [] Wr) (hst : ∀ pre V V', I pre V → Kb (fun i => Wr.heap.size ≤ i) V V' → I pre V')
  {fn : FuncId} {tm : Array Value} {ps : Array Tmp} {asg bo : Code}
  (hround : ∀ (pre : List (List Int)) (ks : List Int) (V : World) (v : Value) (R' : World → Prop), (∃ rest, allS l = pre ++ ks :: rest) → I pre V → Kb M Wr V → V.heap[Wr.heap.size + 1]? = some (recOf .ready fn tm ps asg bo Wr.heap.size) → Rd V v ks →
   (∀ V', I (pre ++ [ks]) V' → Kb M (V.putObj (Wr.heap.size + 1) (recOf .busy fn tm ps asg bo Wr.heap.size)) V' →
    V'.heap[Wr.heap.size + 1]? = some (recOf .busy fn tm ps asg bo Wr.heap.size) ∧ R' (V'.putObj (Wr.heap.size + 1) (recOf .ready fn tm ps asg bo Wr.heap.size))) →
   YieldAt Fence.wide 0 Tryz.prog (Wr.heap.size + 1) #[v] V fun e W' => e = .returned (.bool true) ∧ R' W') :
  CallsIn Fence.wide 0 Tryz.prog 60 (#[.func (.yield (Wr.heap.size + 1)) #[] #[]] ++ #[.pointer (some ⟨p, 0, none⟩)]) ((Wr.alloc (.deferred (some []))).alloc (recOf .ready fn tm ps asg bo Wr.heap.size))
   fun e V => (∃ v, e = .returned v) ∧ V.heap[Wr.heap.size + 1]? = some (recOf .ready fn tm ps asg bo Wr.heap.size) ∧ (I (allS l) V ∧ Kb M Wr V ∧ V.heap[Wr.heap.size]? = some (.deferred (some []))) := by
 have hkbc : Kb (fun _ => False) Wr ((Wr.alloc (.deferred (some []))).alloc (recOf .ready fn tm ps asg bo Wr.heap.size)) := ((Kb.refl _ Wr).alloc _).alloc _
 have hsz : ((Wr.alloc (.deferred (some []))).alloc (recOf .ready fn tm ps asg bo Wr.heap.size)).heap.size = Wr.heap.size + 2 := by simp
 have hrc0 : ((Wr.alloc (.deferred (some []))).alloc (recOf .ready fn tm ps asg bo Wr.heap.size)).heap[Wr.heap.size + 1]? = some (recOf .ready fn tm ps asg bo Wr.heap.size) := by
  have := World.alloc_heap_new (Wr.alloc (.deferred (some []))) (recOf .ready fn tm ps asg bo Wr.heap.size); rwa [World.size_alloc] at this
 have hmk0 : ((Wr.alloc (.deferred (some []))).alloc (recOf .ready fn tm ps asg bo Wr.heap.size)).heap[Wr.heap.size]? = some (.deferred (some [])) :=
  (Below.heap_alloc _ _ _ (by simp)).trans (World.alloc_heap_new Wr _)
 refine (iter_calls l ht (Wr.heap.size + 1) (fun i => M i ∨ i = Wr.heap.size + 1) (Outer M I Wr (recOf .ready fn tm ps asg bo Wr.heap.size)) _ p A c ⟨?_, ?_, ?_⟩ ⟨?_, hrc0, hmk0, hkbc.mono fun _ h => h.elim⟩ ⟨hL.le, ?_⟩).mono ?_
 ·rintro i (h | h)
  ·have := hM i h; omega
  ·omega
 ·intro pre V V' hI hk2
  rw [hsz] at hk2
  have hnm : ∀ i, i < Wr.heap.size + 2 → ¬ (Wr.heap.size + 2 ≤ i) := fun i h h2 => by omega
  refine ⟨hst _ V V' hI.I (hk2.mono fun i h => by omega), hk2.obj (hnm _ (by omega)) hI.recd, hk2.obj (hnm _ (by omega)) hI.mark, hI.kb.trans' hk2 fun i h => .inr (by omega)⟩
 ·rintro pre ks V v hI hrest hrd
  have hnl : ¬ M (Wr.heap.size + 1) := fun h => by have := hM _ h; omega
  have hnD : ¬ M Wr.heap.size := fun h => by have := hM _ h; omega
  have hVl : Wr.heap.size + 1 < V.heap.size := (Array.getElem?_eq_some_iff.1 hI.recd).1
  refine hround pre ks V v (fun W' => Outer M I Wr (recOf .ready fn tm ps asg bo Wr.heap.size) (pre ++ [ks]) W' ∧ Kb (fun i => M i ∨ i = Wr.heap.size + 1) V W') hrest hI.I hI.kb hI.recd hrd ?_
  intro V' hI' hkw
  have hp1 : Kb (fun i => i = Wr.heap.size + 1) V (V.putObj (Wr.heap.size + 1) (recOf .busy fn tm ps asg bo Wr.heap.size)) := Kb.putObj (M := fun i => i = Wr.heap.size + 1) (Kb.refl _ V) (r := Wr.heap.size + 1) (.inl rfl) _
  have hb0 : (V.putObj (Wr.heap.size + 1) (recOf .busy fn tm ps asg bo Wr.heap.size)).heap[Wr.heap.size + 1]? = some (recOf .busy fn tm ps asg bo Wr.heap.size) := World.putObj_heap_same hVl
  have hb2 := hkw.obj hnl hb0
  have hwl : Wr.heap.size + 1 < V'.heap.size := (Array.getElem?_eq_some_iff.1 hb2).1
  have hp2 : Kb (fun i => i = Wr.heap.size + 1) V' (V'.putObj (Wr.heap.size + 1) (recOf .ready fn tm ps asg bo Wr.heap.size)) := Kb.putObj (M := fun i => i = Wr.heap.size + 1) (Kb.refl _ V') (r := Wr.heap.size + 1) (.inl rfl) _
  have hVV : Kb (fun i => M i ∨ i = Wr.heap.size + 1) V (V'.putObj (Wr.heap.size + 1) (recOf .ready fn tm ps asg bo Wr.heap.size)) :=
   ((hp1.mono fun i h => .inr h).trans (hkw.mono fun i h => .inl h)).trans (hp2.mono fun i h => .inr h)
  refine ⟨hb2, ⟨?_, World.putObj_heap_same hwl, hVV.obj (by rintro (h | h) <;> first | exact hnD h | omega) hI.mark, hI.kb.trans' hVV ?_⟩, hVV⟩
  ·exact hst _ V' _ hI' (hp2.mono fun i (e : i = _) => by omega)
  ·rintro i (h | h)
   ·exact .inl h
   ·exact .inr (by omega)
 ·exact hst _ Wr _ h0 (hkbc.mono fun _ h => h.elim)
 ·intro V hV
  refine hL.far V ?_
  refine (hkbc.mono fun _ h => h.elim).trans' hV ?_
  rintro i ((h | h) | h)
  ·exact .inl (.inl h)
  ·exact .inl (.inr (by omega))
  ·exact .inl (.inr (by omega))
 ·rintro e V ⟨hv, hI, hk2⟩
  exact ⟨hv, hI.recd, hI.I, hI.kb, hI.mark⟩
theorem ints_nodup (lo : Int) (n : Nat) : (ints lo n).Pairwise (· ≠ ·) := by
 unfold ints
 rw [List.pairwise_map]
 exact (List.nodup_range (n := n)).imp fun h e => h (by omega)
theorem allS_nodup : ∀ l : List S54, (allS l).Pairwise (· ≠ ·)
 | [] => by simp [allS]
 | d :: r => by
  rw [allS, List.pairwise_flatMap]
  refine ⟨fun k _ => ?_, (ints_nodup d.f0 _).imp fun hne => ?_⟩
  ·rw [List.pairwise_map]
   exact (allS_nodup r).imp fun h e => h (by injection e)
  ·intro x hx y hy e
   simp only [List.mem_map] at hx hy
   obtain ⟨a, _, rfl⟩ := hx
   obtain ⟨b, _, rfl⟩ := hy
   injection e with e1 e2
   exact hne e1
theorem allS_len : ∀ l : List S54, (∀ d ∈ l, 1 ≤ ext d) → ((allS l).length : Int) = prodL l
 | [], _ => rfl
 | d :: r, h => by
  have hd := h d (List.mem_cons_self ..)
  have ih := allS_len r fun d hd => h d (List.mem_cons_of_mem _ hd)
  rw [allS, List.length_flatMap]
  simp only [List.length_map, List.map_const', List.sum_replicate_nat]
  rw [show (ints d.f0 (ext d).toNat).length = (ext d).toNat by simp [ints]]
  simp only [prodL, ← ih]
  push_cast
  rw [Int.toNat_of_nonneg (by omega)]
theorem same4_inj (s t : List Int) (hs : s.length = t.length) (h4 : s.length ≤ 4) (h : same4 s t = true) : s = t := by
 match s, t, hs, h4 with
 | [], [], _, _ => rfl
 | [a], [a'], _, _ => simp [same4] at h; simp [h]
 | [a, b], [a', b'], _, _ => simp [same4] at h; simp [h]
 | [a, b, c], [a', b', c'], _, _ => simp [same4] at h; simp [h]
 | [a, b, c, d], [a', b', c', d'], _, _ => simp [same4] at h; simp [h]
theorem lookL_none (k : List Int) : ∀ l : List (List Int × S38), (∀ p ∈ l, same4 k p.1 = false) → lookL l k = none
 | [], _ => rfl
 | p :: r, h => by
  rw [lookL, h p (List.mem_cons_self ..)]
  exact lookL_none k r fun p hp => h p (List.mem_cons_of_mem _ hp)
theorem zip_snoc (k : List Int) (d : S38) : ∀ (pre : List (List Int)) (es : List S38), pre.length < es.length → (pre ++ [k]).zip es = pre.zip es ++ [(k, es.getD pre.length d)]
 | [], e :: es, _ => by simp
 | p :: pre, e :: es, h => by
  have := zip_snoc k d pre es (by simpa using h)
  simp only [List.cons_append, List.zip_cons_cons, this, List.length_cons, List.getD_cons_succ]
theorem fresh_key {l : List S54} {pre : List (List Int)} {ks : List Int} {rest : List (List Int)} (h4 : l.length ≤ 4) (h : allS l = pre ++ ks :: rest) (es : List S38) : lookL (pre.zip es) ks = none := by
 refine lookL_none ks _ fun p hp => ?_
 have hmem : p.1 ∈ pre := (List.of_mem_zip hp).1
 have hn := allS_nodup l
 rw [h, List.pairwise_append] at hn
 have hne := hn.2.2 p.1 hmem ks (List.mem_cons_self ..)
 have hl1 := allS_length l p.1 (by rw [h]; simp [hmem])
 have hl2 := allS_length l ks (by rw [h]; simp)
 cases hs : same4 ks p.1 with
 | false => rfl
 | true => exact absurd (same4_inj ks p.1 (by omega) (by omega) hs).symm hne
end Go.Proofs.Q
end
