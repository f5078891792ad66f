/-
 Texts of the proof, in build order: words that the walks use, contracts of functions, plain facts.
-/
import Derived.Test.YtcjjmhgboibbgaaGreatEa3
import Derived.Test.YtcjjmhgboibbgaaGreatEa4
import Derived.Test.YtcjjmhgboibbgaaGreatEa13
set_option maxHeartbeats 40000000
set_option maxRecDepth 100000
set_option linter.unusedVariables false
set_option linter.unusedSimpArgs false
section
namespace Go.Proofs.Q
open RowKit Shelf Rf Pw Pl Pm
/-- the way on which the dimensions change -/
def Changes (t : Int) (ds : List S54) (es : List S38) (l1 : List S54) : Prop :=
 isTy t = true ∧ checkF t ds es = some 0 ∧ errOf ds = 0 ∧ errOf l1 = 0 ∧ l1.length = ds.length ∧ allSame l1 ds = false ∧ (es.length : Int) = prodL ds
instance (t : Int) (ds : List S54) (es : List S38) (l1 : List S54) : Decidable (Changes t ds es l1) := by unfold Changes; exact inferInstance
def array_Resize.f (a0_0 : Int) (l0_1 : List (S54)) (l0_2 : List (S38)) (l1 : List (S54)) : Option (Int × (List (S54)) × (List (S38)) × Int) :=
 if Changes a0_0 l0_1 l0_2 l1 then some (a0_0, l1, resL a0_0 l0_1 l0_2 l1, 0) else none
theorem C_some {α : Type} {d : Kd α} {w : World} {A : Option Addr} {n : Nat} {xs : List α} (h : d.C w A n xs) (h0 : 0 < n) : ∃ ad, A = some ad := by
 obtain ⟨ad, e, _⟩ := h.2.2 h0
 exact ⟨ad, e⟩
theorem array_Resize.calls (a0_0 : Int) (A0_1 : Option Addr) (c0_1 : Nat) (l0_1 : List (S54)) (A0_2 : Option Addr) (c0_2 : Nat) (l0_2 : List (S38)) (A1 : Option Addr) (c1 : Nat) (l1 : List (S54)) (r1 : Int) (r2 : List (S54)) (r3 : List (S38)) (r4 : Int) (w : World) (hr0_1 : Kd.C k54 w A0_1 l0_1.length l0_1) (hc0_1 : l0_1.length ≤ c0_1) (hr0_2 : Kd.C k38 w A0_2 l0_2.length l0_2) (hc0_2 : l0_2.length ≤ c0_2) (hr1 : Kd.C k54 w A1 l1.length l1) (hc1 : l1.length ≤ c1) (h : array_Resize.f a0_0 l0_1 l0_2 l1 = some (r1, r2, r3, r4)) :
  Calls Tryz.prog 7 #[.agg #[.int .i64 a0_0, .slice A0_1 l0_1.length c0_1, .slice A0_2 l0_2.length c0_2], .slice A1 l1.length c1] w fun e w' => ∃ v1_ v2_ : Value, e = .returned (.tuple #[.agg #[.int .i64 r1, v1_, v2_], .int .i64 r4]) ∧ Kd.R k54 54 w' w.heap.size (fun _ => True) v1_ r2 ∧ Kd.R k38 38 w' w.heap.size (fun _ => True) v2_ r3 ∧ Below w.heap.size w w' := by
 unfold array_Resize.f at h
 by_cases hc : Changes a0_0 l0_1 l0_2 l1
 ·rw [if_pos hc] at h
  simp only [Option.some.injEq, Prod.mk.injEq] at h
  obtain ⟨rfl, rfl, rfl, rfl⟩ := h
  obtain ⟨ht, hchk, hd, hl, hlen, hne, hm⟩ := hc
  obtain ⟨_, hp, _, h1, _⟩ := errOf_zero hd
  have hp1 := hp.pos
  obtain ⟨ad1, rfl⟩ := C_some hr0_1 h1
  obtain ⟨ad2, rfl⟩ := C_some hr0_2 (by omega)
  obtain ⟨ad3, rfl⟩ := C_some hr1 (by omega)
  rw [hlen] at hr1 hc1 ⊢
  refine ((callsIn_wide (n := 0)).1 (resize_walk a0_0 ad1 ad2 ad3 c0_1 c0_2 c1 l0_1.length l0_2.length l0_1 l1 l0_2 w hr0_1 hc0_1 hr0_2 hc0_2 hr1 hc1 ht hchk hd hl hne hm)).mono ?_
  rintro e w' ⟨v1, v2, he, h1, h2, h3⟩
  exact ⟨v1, v2, he, h1, h2, h3⟩
 ·rw [if_neg hc] at h; cases h
end Go.Proofs.Q
end
section
namespace Go.Proofs.Q
open RowKit Pw Pl Pm
attribute [local go_sem] max2_int min2_int max_two min_two max_three min_three max_four min_four   -- for this text's walks alone
def manorboylaw08_plane.f  : Option ((List (S54))) := some (([(⟨1, 2⟩ : S54), (⟨0, 2⟩ : S54)] : List (S54)))
theorem manorboylaw08_plane.calls  (r : List (S54)) (w : World) (h : manorboylaw08_plane.f  = some r) :
  Calls Tryz.prog 22 #[] w fun e w' => ∃ v0_ : Value, e = .returned (v0_) ∧ Kd.R k54 54 w' w.heap.size (fun _ => True) v0_ r ∧ Below w.heap.size w w' := by
 have hu40 := Tryz.underlying54
 have HB := As.mk (Below.refl w.heap.size w)
 have H : (some (([(⟨1, 2⟩ : S54), (⟨0, 2⟩ : S54)] : List (S54)))) = some r := h
 clear h
 obtain ⟨y148, hy148⟩ : ∃ y_ : List (S54), y_ = (([(⟨1, 2⟩ : S54), (⟨0, 2⟩ : S54)] : List (S54))) := ⟨_, rfl⟩
 replace H : (some y148) = some r := by first | (rw [hy148]; with_reducible exact H) | (have H2_ := (Option.bind_some _ _).symm.trans H; rw [hy148]; with_reducible exact H2_) | (have H2_ := (Option.bind_some _ _).symm.trans H; with_reducible exact H2_) | with_reducible exact H | (rw [hy148]; exact H) | exact H
 have Ny148 := As.mk hy148
 clear hy148
 obtain rfl := Option.some.inj H
 go_enter Tryz.func22, Tryz.ntmps22
 go_wp2_with (first | ((with_reducible refine gD (N := 3) rfl ?_); refine Kd.R_lit k54 _ 54 ?hg (N := 3) ?hd (xs := ([(⟨1, 2⟩ : S54), (⟨0, 2⟩ : S54)] : List (S54))) (inner := [.int .i64 1, .int .i64 2, .int .i64 0, .int .i64 2]) (ok := fun _ => True) (okp := fun _ => True) ?hr ?hp (fun _ hk => hk) trivial (Below.refl _ _) (Nat.le_refl _) (by simp) ?_; (case hd => rfl); (case hg => rfl); (case hr => first | (go_simp; done) | (go_simp; rfl)); (case hp => exact (Reps.c2 (show Kd.M k54 _ _ _ (⟨1, 2⟩ : S54) [.int .i64 1, .int .i64 2] from (k54_mkM _ _ _ (⟨1, 2⟩ : S54) )) (Reps.c2 (show Kd.M k54 _ _ _ (⟨0, 2⟩ : S54) [.int .i64 0, .int .i64 2] from (k54_mkM _ _ _ (⟨0, 2⟩ : S54) )) (Reps.none _ _)))); intro v149 w1 ho2 hb hg_ hnew_; clear hg_ hnew_; (first | rw [← Ny148.out] at ho2 | (simp only [Int.reduceToNat] at ho2; rw [← Ny148.out] at ho2)); have HO150 := As.mk (Kd.R_lower ho2 (bZ zz)); replace HB := As.mk (bS zz hb); clear hb ho2))
 go_ret
 exact ⟨_, by first | rfl | (simp [eN, eS] <;> rfl) | (simp [*, eN, eS] <;> rfl), by (with_reducible repeat (first | apply Kd.R_alloc | apply Kd.R_drewN | apply Kd.R_drew)); exact HO150.out, zz⟩
def manorboylaw08_integer.f (a0 : Int) : Option (Int × Int × Int × Int × Bool) := some (1, a0, 0, 0, false)
theorem manorboylaw08_integer.calls (a0 : Int) (r1 : Int) (r2 : Int) (r3 : Int) (r4 : Int) (r5 : Bool) (w : World) (h : manorboylaw08_integer.f a0 = some (r1, r2, r3, r4, r5)) :
  Calls Tryz.prog 26 #[.int .i64 a0] w fun e w' => e = .returned (.agg #[.int .i64 r1, .int .i64 r2, .int .i64 r3, .int .i64 r4, .bool r5]) ∧ Below w.heap.size w w' := by
 have hu59 := Tryz.underlying38
 have HB := As.mk (Below.refl w.heap.size w)
 have H : (some (1, a0, 0, 0, false)) = some (r1, r2, r3, r4, r5) := h
 clear h
 simp only [Option.some.injEq, Prod.mk.injEq] at H
 obtain ⟨rfl, rfl, rfl, rfl, rfl⟩ := H
 go_enter Tryz.func26, Tryz.ntmps26
 go_wp2_with (first | ((with_reducible refine gD (N := 2) rfl ?_); refine bx 2 #[.int .i64 0, .int .i64 0, .int .i64 0, .int .i64 0, .bool false] 38 ?_; intro gb151 hg w2 hbox hb; have BK151 := As.mk (hbox); have GW151 := As.mk ((by rw [hg]; exact (bZ zz) : w.heap.size ≤ gb151)); have GE151 := GW151; replace HB := As.mk (bS zz hb); clear hb hbox hg; have hcz3_0 : w2.cell? ⟨gb151, 0, none⟩ = some (.int .i64 0) := (kC BK151.out 0).trans rfl; have hcz3_1 : w2.cell? ⟨gb151, 1, none⟩ = some (.int .i64 0) := (kC BK151.out 1).trans rfl; have hcz3_2 : w2.cell? ⟨gb151, 2, none⟩ = some (.int .i64 0) := (kC BK151.out 2).trans rfl; have hcz3_3 : w2.cell? ⟨gb151, 3, none⟩ = some (.int .i64 0) := (kC BK151.out 3).trans rfl; have hcz3_4 : w2.cell? ⟨gb151, 4, none⟩ = some (.bool false) := (kC BK151.out 4).trans rfl; have hfz3_0 := kF BK151.out 0; have hfz3_1 := kF BK151.out 1; have hfz3_2 := kF BK151.out 2; have hfz3_3 := kF BK151.out 3; have hfz3_4 := kF BK151.out 4))
 refine bodyPost_ret (results_cell_row rfl _ _ gb151 38 #[.int .i64 1, .int .i64 a0, .int .i64 0, .int .i64 0, .bool false] (0, 0) _ rfl (by (with_reducible repeat (first | apply kN | apply kD | apply kA)); refine kP (cs := #[.int .i64 1, .int .i64 a0, .int .i64 0, .int .i64 0, .bool false]) ?_ 4 _ rfl; (with_reducible repeat (first | apply kN | apply kD | apply kA)); refine kP (cs := #[.int .i64 1, .int .i64 a0, .int .i64 0, .int .i64 0, .bool false]) ?_ 3 _ rfl; (with_reducible repeat (first | apply kN | apply kD | apply kA)); refine kP (cs := #[.int .i64 1, .int .i64 a0, .int .i64 0, .int .i64 0, .bool false]) ?_ 2 _ rfl; (with_reducible repeat (first | apply kN | apply kD | apply kA)); refine kP (cs := #[.int .i64 1, .int .i64 0, .int .i64 0, .int .i64 0, .bool false]) ?_ 1 _ rfl; (with_reducible repeat (first | apply kN | apply kD | apply kA)); refine kP (cs := #[.int .i64 0, .int .i64 0, .int .i64 0, .int .i64 0, .bool false]) ?_ 0 _ rfl; (with_reducible repeat (first | apply kN | apply kD | apply kA)); exact BK151.out) Tryz.underlying38 rfl (by kernel_rfl)) rfl ?_
 exact ⟨by first | rfl | (simp [eN, eS] <;> rfl) | (simp [*, eN, eS] <;> rfl), by repeat (first | (with_reducible first | exact HB.out | apply bA | apply bN | apply bD | refine bT ?_ GE151.out) | exact HB.out)⟩
end Go.Proofs.Q
end
