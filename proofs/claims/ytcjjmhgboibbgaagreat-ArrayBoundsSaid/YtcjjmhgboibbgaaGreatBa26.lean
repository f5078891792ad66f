/-
 Texts of the proof, in build order: words that the walks use, contracts of functions, plain facts.
-/
import Derived.Test.YtcjjmhgboibbgaaGreatBa6
import Derived.Test.YtcjjmhgboibbgaaGreatBa20
import Derived.Test.YtcjjmhgboibbgaaGreatBa21
import Derived.Test.YtcjjmhgboibbgaaGreatBa23
import Derived.Test.YtcjjmhgboibbgaaGreatBa24
import Derived.Test.YtcjjmhgboibbgaaGreatBa25
set_option maxHeartbeats 40000000
set_option maxRecDepth 100000
set_option linter.unusedVariables false
set_option linter.unusedSimpArgs false
section
namespace Go.Proofs.Q
open RowKit Pw Pl Pm
attribute [local go_sem] max2_int min2_int max_two min_two max_three min_three max_four min_four
def manorboyref08_New.l0 : Nat → Int → Int → Int → Int → List (S54) → List (S38) → Option (Int × (List (S54)) × (List (S38)) × Int)
 | 0, _, _, _, _, _, _ => none
 | k + 1, x0, x7, x9, x143000, x143001, x143002 => if x9 < x7 then ((manorboyref08_zero.f x0).bind fun bt143 => (if x143002.length < 3518437208883 then (manorboyref08_New.l0 k x0 x7 (wrap64 (x9 + 1)) x143000 x143001 (x143002 ++ [(⟨bt143.1, bt143.2.1, (⟨bt143.2.2.1, bt143.2.2.2.1⟩ : S36), bt143.2.2.2.2⟩ : S38)])) else (none))) else (some (x143000, x143001, x143002, 0))
def manorboyref08_New.f (k : Nat) (a0 : Int) (l1 : List (S54)) : Option (Int × (List (S54)) × (List (S38)) × Int) := (manorboyref08_IsType.f a0).bind fun t133 => (if t133 = true then ((manorboyref08_Error.f k l1).bind fun t134 => (if t134 = 0 then ((manorboyref08_size.f k l1).bind fun t135 => ((some (([] : List (S54)) : List (S54))).bind fun y136 => (if y136.length + l1.length < 8796093022208 then (manorboyref08_New.l0 k a0 t135 0 a0 (y136 ++ l1) ([] : List (S38))) else (none)))) else (some (0, ([] : List (S54)), ([] : List (S38)), t134)))) else (some (0, ([] : List (S54)), ([] : List (S38)), 1)))
def manorboyref08_New.T11 : Bool × List (List Nat × List Nat) := (true, [([], []), ([0], [0]), ([], []), ([2], [2]), ([3], [3]), ([1, 4, 3], [1, 4]), ([0, 1, 2, 3, 4, 5], []), ([6, 5, 5, 0, 1, 2, 3, 4, 5], [5, 6])])
def manorboyref08_New.B11 : List Nat := [0, 1, 0, 4, 12, 31, 63, 127]
theorem manorboyref08_New.tab11 : rtab .any (opsOf Tryz.f13 11) = manorboyref08_New.T11 := by kernel_rfl
theorem manorboyref08_New.bits11 : waitsOk manorboyref08_New.T11.2 manorboyref08_New.B11 = true := by kernel_rfl
theorem manorboyref08_New.calls (k : Nat) (a0 : Int) (A1 : Option Addr) (c1 : Nat) (l1 : List (S54)) (r1 : Int) (r2 : List (S54)) (r3 : List (S38)) (r4 : Int) (w : World) (hr1 : Kd.C k54 w A1 l1.length l1) (hc1 : l1.length ≤ c1) (h : manorboyref08_New.f k a0 l1 = some (r1, r2, r3, r4)) :
  Calls Tryz.prog 13 #[.int .i64 a0, .slice A1 l1.length c1] w fun e w' => ∃ v1_ v2_ : Value, e = .returned (.tuple #[.agg #[.int .i64 r1, v1_, v2_], .int .i64 r4]) ∧ Kd.R k54 54 w' w.heap.size (fun _ => True) v1_ r2 ∧ Kd.R k38 38 w' w.heap.size (fun _ => True) v2_ r3 ∧ Below w.heap.size w w' := by
 have hu25 := Tryz.underlying25
 have HR1 := As.mk hr1
 have HC1 := As.mk hc1
 clear hr1 hc1
 have HB := As.mk (Below.refl w.heap.size w)
 have H : ((manorboyref08_IsType.f a0).bind fun t133 => (if t133 = true then ((manorboyref08_Error.f k l1).bind fun t134 => (if t134 = 0 then ((manorboyref08_size.f k l1).bind fun t135 => ((some (([] : List (S54)) : List (S54))).bind fun y136 => (if y136.length + l1.length < 8796093022208 then (manorboyref08_New.l0 k a0 t135 0 a0 (y136 ++ l1) ([] : List (S38))) else (none)))) else (some (0, ([] : List (S54)), ([] : List (S38)), t134)))) else (some (0, ([] : List (S54)), ([] : List (S38)), 1)))) = some (r1, r2, r3, r4) := h
 clear h
 replace H := Option.bind_eq_some_iff.mp H
 obtain ⟨t133, A30, H⟩ := H
 replace H : (if t133 = true then ((manorboyref08_Error.f k l1).bind fun t134 => (if t134 = 0 then ((manorboyref08_size.f k l1).bind fun t135 => ((some (([] : List (S54)) : List (S54))).bind fun y136 => (if y136.length + l1.length < 8796093022208 then (manorboyref08_New.l0 k a0 t135 0 a0 (y136 ++ l1) ([] : List (S38))) else (none)))) else (some (0, ([] : List (S54)), ([] : List (S38)), t134)))) else (some (0, ([] : List (S54)), ([] : List (S38)), 1))) = some (r1, r2, r3, r4) := H
 have A3 := As.mk A30
 clear A30
 by_cases c4 : t133 = true
 ·subst c4
  have H1 : ((manorboyref08_Error.f k l1).bind fun t134 => (if t134 = 0 then ((manorboyref08_size.f k l1).bind fun t135 => ((some (([] : List (S54)) : List (S54))).bind fun y136 => (if y136.length + l1.length < 8796093022208 then (manorboyref08_New.l0 k a0 t135 0 a0 (y136 ++ l1) ([] : List (S38))) else (none)))) else (some (0, ([] : List (S54)), ([] : List (S38)), t134)))) = some (r1, r2, r3, r4) := by rw [if_pos rfl] at H; exact H
  clear H
  have H := H1
  clear H1
  replace H := Option.bind_eq_some_iff.mp H
  obtain ⟨t134, A50, H⟩ := H
  replace H : (if t134 = 0 then ((manorboyref08_size.f k l1).bind fun t135 => ((some (([] : List (S54)) : List (S54))).bind fun y136 => (if y136.length + l1.length < 8796093022208 then (manorboyref08_New.l0 k a0 t135 0 a0 (y136 ++ l1) ([] : List (S38))) else (none)))) else (some (0, ([] : List (S54)), ([] : List (S38)), t134))) = some (r1, r2, r3, r4) := H
  have A5 := As.mk A50
  clear A50
  by_cases c6 : t134 = 0
  ·rw [if_pos c6] at H
   have c6b0 : (t134 == 0) = true := beq_iff_eq.mpr c6
   have c6b1 : (t134 != 0) = false := bne_eq_false_iff_eq.mpr c6
   clear c6
   replace H := Option.bind_eq_some_iff.mp H
   obtain ⟨t135, A70, H⟩ := H
   replace H : ((some (([] : List (S54)) : List (S54))).bind fun y136 => (if y136.length + l1.length < 8796093022208 then (manorboyref08_New.l0 k a0 t135 0 a0 (y136 ++ l1) ([] : List (S38))) else (none))) = some (r1, r2, r3, r4) := H
   have A7 := As.mk A70
   clear A70
   obtain ⟨y136, hy136⟩ : ∃ y_ : List (S54), y_ = (([] : List (S54))) := ⟨_, rfl⟩
   replace H : (if y136.length + l1.length < 8796093022208 then (manorboyref08_New.l0 k a0 t135 0 a0 (y136 ++ l1) ([] : List (S38))) else (none)) = some (r1, r2, r3, r4) := by first | (rw [hy136]; with_reducible exact H) | (have H2_ := (Option.bind_some _ _).symm.trans H; rw [hy136]; with_reducible exact H2_) | (have H2_ := (Option.bind_some _ _).symm.trans H; with_reducible exact H2_) | with_reducible exact H | (rw [hy136]; exact H) | exact H
   have Ny136 := As.mk hy136
   clear hy136
   by_cases c8 : y136.length + l1.length < 8796093022208
   ·rw [if_pos c8] at H
    have LMc8 := As.mk c8
    clear c8
    obtain ⟨y139, hy139⟩ : ∃ y_ : List (S54), y_ = (y136 ++ l1) := ⟨_, rfl⟩
    replace H : (manorboyref08_New.l0 k a0 t135 0 a0 y139 ([] : List (S38))) = some (r1, r2, r3, r4) := by first | (rw [hy139]; with_reducible exact H) | (have H2_ := (Option.bind_some _ _).symm.trans H; rw [hy139]; with_reducible exact H2_) | (have H2_ := (Option.bind_some _ _).symm.trans H; with_reducible exact H2_) | with_reducible exact H | (rw [hy139]; exact H) | exact H
    have Ny139 := As.mk hy139
    clear hy139
    have H' := As.mk H
    clear H
    go_enter Tryz.func13, Tryz.ntmps13
    go_wp2_with (first | ((with_reducible refine gD (N := 4) rfl ?_); refine bX (by rfl) (N := 4) (by rfl) (cs := #[.int .i64 0, .slice none 0 0, .slice none 0 0]) (t := 25) (by first | (go_simp; done) | (go_simp; rfl)) ?_; intro gb132 hg w9 hbox hb; have BK132 := As.mk (hbox); have GW132 := As.mk ((by rw [hg]; exact (bZ (by repeat (first | exact HB.out | apply bA | apply bN | apply bD))) : w.heap.size ≤ gb132)); have GE132 := GW132; replace HB := As.mk (bS (by repeat (first | exact HB.out | apply bA | apply bN | apply bD)) hb); clear hb hbox hg) | ((with_reducible refine gC (f := 42) rfl ?_); refine goesL_ (some 11) rfl rfl Tryz.func42 (by kernel_rfl) rfl #[.int .i64 a0] rfl (by (try simp only [List.map_toArray, List.map_cons, List.map_nil]); first | done | rfl | (simp only [List.length_drop, List.length_take]; rfl)) ?_; (with_reducible refine (manorboyref08_IsType.calls a0 true _ A3.out).mono ?_); rintro e w' ⟨rfl, ⟨nd, rfl⟩⟩; refine ⟨_, rfl, ?_⟩; (try (rw [drewN_self w9]; generalize hq_ : World.drewN w9 _ = w9; have n0_ : As (w9.heap[gb132]? = some (.cells #[.int .i64 0, .slice none 0 0, .slice none 0 0] 25 (0, 0))) := ⟨by rw [← hq_]; exact (by (with_reducible repeat (first | apply kN | apply kD | apply kA)); exact BK132.out)⟩; have n1_ : As (Below w.heap.size w w9) := ⟨by rw [← hq_]; exact (by repeat (first | (with_reducible first | exact HB.out | apply bA | apply bN | apply bD | refine bT ?_ GE132.out) | exact HB.out))⟩; clear BK132 HB hq_; have BK132 := n0_; have HB := n1_; clear n0_ n1_))) | ((with_reducible refine gC (f := 45) rfl ?_); refine goesL_ (some 15) rfl rfl Tryz.func45 (by kernel_rfl) rfl #[.slice A1 l1.length c1] rfl (by (try simp only [List.map_toArray, List.map_cons, List.map_nil]); first | done | rfl | (simp only [List.length_drop, List.length_take]; rfl)) ?_; (with_reducible refine (manorboyref08_Error.calls k _ _ l1 t134 _ ?side1 ?side2 A5.out).mono ?_); (case side1 => repeat (first | exact (Kd.C_below HR1.out HB.out) | (with_reducible refine Kd.C_alloc ?_ _) | (with_reducible refine Kd.C_drewN ?_ _) | (with_reducible refine Kd.C_drew ?_))); (case side2 => exact HC1.out); rintro e w10 ⟨rfl, hb⟩; refine ⟨_, rfl, ?_⟩; replace BK132 := As.mk (kB (g := gb132) (o := .cells #[.int .i64 0, .slice none 0 0, .slice none 0 0] 25 (0, 0)) (by (with_reducible repeat (first | apply kN | apply kD | apply kA)); exact BK132.out) hb); replace HB := As.mk (bS (by repeat (first | (with_reducible first | exact HB.out | apply bA | apply bN | apply bD | refine bT ?_ GE132.out) | exact HB.out)) hb); (try clear hb)) | ((with_reducible refine gC (f := 46) rfl ?_); refine goesL_ (some 21) rfl rfl Tryz.func46 (by kernel_rfl) rfl #[.slice A1 l1.length c1] rfl (by (try simp only [List.map_toArray, List.map_cons, List.map_nil]); first | done | rfl | (simp only [List.length_drop, List.length_take]; rfl)) ?_; (with_reducible refine (manorboyref08_size.calls k _ _ l1 t135 _ ?side1 ?side2 A7.out).mono ?_); (case side1 => repeat (first | exact (Kd.C_below HR1.out HB.out) | (with_reducible refine Kd.C_alloc ?_ _) | (with_reducible refine Kd.C_drewN ?_ _) | (with_reducible refine Kd.C_drew ?_))); (case side2 => exact HC1.out); rintro e w' ⟨rfl, ⟨nd, rfl⟩⟩; refine ⟨_, rfl, ?_⟩; (try (rw [drewN_self w10]; generalize hq_ : World.drewN w10 _ = w10; have n0_ : As (w10.heap[gb132]? = some (.cells #[.int .i64 0, .slice none 0 0, .slice none 0 0] 25 (0, 0))) := ⟨by rw [← hq_]; exact (by (with_reducible repeat (first | apply kN | apply kD | apply kA)); exact BK132.out)⟩; have n1_ : As (Below w.heap.size w w10) := ⟨by rw [← hq_]; exact (by repeat (first | (with_reducible first | exact HB.out | apply bA | apply bN | apply bD | refine bT ?_ GE132.out) | exact HB.out))⟩; clear BK132 HB hq_; have BK132 := n0_; have HB := n1_; clear n0_ n1_))) | ((with_reducible refine gD (N := 23) rfl ?_); refine Kd.R_lit k54 _ 54 ?hg (N := 23) ?hd (xs := ([] : List (S54))) (inner := []) (ok := fun _ => True) (okp := fun _ => True) ?hr ?hp (fun _ hk => hk) trivial (Below.refl _ _) (Nat.le_refl _) (by simp) ?_; (case hd => rfl); (case hg => rfl); (case hr => first | (go_simp; done) | (go_simp; rfl)); (case hp => exact (Reps.none _ _)); intro v137 w11 ho12 hb hg_ hnew_; clear hg_ hnew_; (first | rw [← Ny136.out] at ho12 | (simp only [Int.reduceToNat] at ho12; rw [← Ny136.out] at ho12)); have HO138 := As.mk (Kd.R_lower ho12 (bZ (by repeat (first | (with_reducible first | exact HB.out | apply bA | apply bN | apply bD | refine bT ?_ GE132.out) | exact HB.out)))); replace BK132 := As.mk (kB (g := gb132) (o := .cells #[.int .i64 0, .slice none 0 0, .slice none 0 0] 25 (0, 0)) (by (with_reducible repeat (first | apply kN | apply kD | apply kA)); exact BK132.out) hb); replace HB := As.mk (bS (by repeat (first | (with_reducible first | exact HB.out | apply bA | apply bN | apply bD | refine bT ?_ GE132.out) | exact HB.out)) hb); clear hb ho12) | ((with_reducible refine gB (b := .append) (xs := #[.tmp 23, .tmp 24]) rfl ?_); at_builtin; refine Kd.R_append_rows k54 (w0 := w) w.heap.size rfl (.tmp 23) (.tmp 24) 22 54 (.agg #[(.int .i64 0), (.int .i64 0)]) 16 rfl Tryz.underlying22 info54 rfl (by decide) (by omega) v137 y136 l1 _ _ _ (fun _ => True) (fun _ => False) rfl rfl ?aO ?aR (fun _ _ h => h) (fun _ h => h.elim) ?aF ?aB ?aS ?aL ?_; (case aR => repeat (first | exact (Kd.C_below HR1.out HB.out) | (with_reducible refine Kd.C_alloc ?_ _) | (with_reducible refine Kd.C_drewN ?_ _) | (with_reducible refine Kd.C_drew ?_))); (case aB => exact (by repeat (first | (with_reducible first | exact HB.out | apply bA | apply bN | apply bD | refine bT ?_ GE132.out) | exact HB.out))); (case aF => exact (fun _ _ => trivial)); (case aO => exact (by (with_reducible repeat (first | apply Kd.R_alloc | apply Kd.R_drewN | apply Kd.R_drew)); exact HO138.out)); (case aS => exact (bZ (by repeat (first | (with_reducible first | exact HB.out | apply bA | apply bN | apply bD | refine bT ?_ GE132.out) | exact HB.out)))); (case aL => have := LMc8.out; omega); intro v140 w13 ho hb hg hat; rw [← Ny139.out] at ho; replace BK132 := As.mk (blk_grown (g := gb132) (o := .cells #[.int .i64 0, .slice none 0 0, .slice none 0 0] 25 (0, 0)) (by (with_reducible repeat (first | apply kN | apply kD | apply kA)); exact BK132.out) hg (Kd.R_ne HO138.out BK132.out (by decide))); replace HB := As.mk (hb); have HO141 := As.mk (ho); clear HO138; clear ho hb hg hat; obtain ⟨Ao14, co14, eo14⟩ := Kd.R_slice HO141.out; subst eo14) | ((with_reducible refine gD (N := 8) rfl ?_); refine bX (by rfl) (N := 8) (by rfl) (cs := #[.int .i64 0, .slice none 0 0, .slice none 0 0]) (t := 25) (by first | (go_simp; done) | (go_simp; rfl)) ?_; intro gb142 hg w15 hbox hb; replace HO141 := As.mk (Kd.R_below (by (with_reducible repeat (first | apply Kd.R_alloc | apply Kd.R_drewN | apply Kd.R_drew)); exact HO141.out) hb); have BK142 := As.mk (hbox); have GW142 := As.mk ((by rw [hg]; exact (bZ (by repeat (first | (with_reducible first | exact HB.out | apply bA | apply bN | apply bD | refine bT ?_ GE132.out) | exact HB.out))) : w.heap.size ≤ gb142)); have GE142 := GW142; replace HB := As.mk (bS (by repeat (first | (with_reducible first | exact HB.out | apply bA | apply bN | apply bD | refine bT ?_ GE132.out) | exact HB.out)) hb); have NB132_142 := As.mk ((by rw [hg]; exact Nat.ne_of_lt (blk_lt (g := gb132) (o := .cells #[.int .i64 0, .slice none 0 0, .slice none 0 0] 25 (0, 0)) (by (with_reducible repeat (first | apply kN | apply kD | apply kA)); exact BK132.out)) : gb132 ≠ gb142)); have NB142_132 := As.mk ((by rw [hg]; exact Nat.ne_of_gt (blk_lt (g := gb132) (o := .cells #[.int .i64 0, .slice none 0 0, .slice none 0 0] 25 (0, 0)) (by (with_reducible repeat (first | apply kN | apply kD | apply kA)); exact BK132.out)) : gb142 ≠ gb132)); replace BK132 := As.mk (kB (g := gb132) (o := .cells #[.int .i64 0, .slice none 0 0, .slice none 0 0] 25 (0, 0)) (by (with_reducible repeat (first | apply kN | apply kD | apply kA)); exact BK132.out) hb); clear hb hbox hg; have hnb16 := NB142_132.out; have hnc16 := NB132_142.out; have hcz17_0 : w15.cell? ⟨gb142, 0, none⟩ = some (.int .i64 0) := (kC BK142.out 0).trans rfl; have hcz17_1 : w15.cell? ⟨gb142, 1, none⟩ = some (.slice none 0 0) := (kC BK142.out 1).trans rfl; have hcz17_2 : w15.cell? ⟨gb142, 2, none⟩ = some (.slice none 0 0) := (kC BK142.out 2).trans rfl; have hfz17_0 := kF BK142.out 0; have hfz17_1 := kF BK142.out 1; have hfz17_2 := kF BK142.out 2))
    go_loopg [9] k (fun kq v9 w' => ∃ (x9_1 : Int) (x143002_1 : List (S38)) (u143002 : Value), v9 = .int .i64 x9_1 ∧ As (manorboyref08_New.l0 kq a0 t135 x9_1 a0 y139 x143002_1 = some (r1, r2, r3, r4)) ∧ As (kq ≤ k) ∧ As (Kd.R k54 54 w' w.heap.size (fun _ => True) (.slice Ao14 y139.length co14) y139) ∧ As (Kd.R k38 38 w' w.heap.size (fun _ => True) u143002 x143002_1) ∧ As (w'.heap[gb132]? = some (.cells #[.int .i64 0, (.slice none 0 0), (.slice none 0 0)] 25 (0, 0))) ∧ As (w'.heap[gb142]? = some (.cells #[.int .i64 a0, (.slice Ao14 y139.length co14), u143002] 25 (0, 0))) ∧ As (Below w.heap.size w w'))
    case atStart => exact ⟨(0), (([] : List (S38))), (.slice none 0 0), (by first | rfl | (simp; done) | (simp [*]; done)), H', ⟨Nat.le_refl _⟩, ⟨by (with_reducible repeat (first | apply Kd.R_alloc | apply Kd.R_drewN | apply Kd.R_drew)); exact Kd.R_mono (Kd.R_far (p := ⟨gb142, 2, none⟩) (Kd.R_far (p := ⟨gb142, 1, none⟩) (Kd.R_far (p := ⟨gb142, 0, none⟩) (Kd.R_types HO141.out BK142.out (by decide)) (fun _ hk => hk.2) (.int .i64 a0)) (fun _ hk => hk.2) (.slice Ao14 y139.length co14)) (fun _ hk => hk.2) (.slice none 0 0)) (fun _ hk => trivial)⟩, ⟨by first | exact Kd.R_nil _ _ _ _ _ | exact Kd.N_nil _ _ _ _ _ | exact Kd.V_nil _ _ _ _ _ | exact Kd.Q_nil _ _ _ _ _ | exact Kd.S_nil _ _ _ _ _⟩, ⟨by (with_reducible repeat (first | apply kN | apply kD | apply kA)); refine blk_far ?_ NB132_142.out _; (with_reducible repeat (first | apply kN | apply kD | apply kA)); refine blk_far ?_ NB132_142.out _; (with_reducible repeat (first | apply kN | apply kD | apply kA)); refine blk_far ?_ NB132_142.out _; (with_reducible repeat (first | apply kN | apply kD | apply kA)); exact BK132.out⟩, ⟨by (with_reducible repeat (first | apply kN | apply kD | apply kA)); refine kP (cs := #[.int .i64 a0, .slice Ao14 y139.length co14, .slice none 0 0]) ?_ 2 _ rfl; (with_reducible repeat (first | apply kN | apply kD | apply kA)); refine kP (cs := #[.int .i64 a0, .slice none 0 0, .slice none 0 0]) ?_ 1 _ rfl; (with_reducible repeat (first | apply kN | apply kD | apply kA)); refine kP (cs := #[.int .i64 0, .slice none 0 0, .slice none 0 0]) ?_ 0 _ rfl; (with_reducible repeat (first | apply kN | apply kD | apply kA)); exact BK142.out⟩, ⟨by repeat (first | (with_reducible first | exact HB.out | apply bA | apply bN | apply bD | refine bT ?_ GE132.out | refine bT ?_ GE142.out) | exact HB.out)⟩⟩
    case round =>
     clear H'
     try clear c1
     try clear p2
     try clear c4
     try clear c6
     try clear c6b0
     try clear c6b1
     try clear c8
     try clear c13
     try clear c16
     try clear hcz17_0
     try clear hcz17_1
     try clear hcz17_2
     try clear hfz17_0
     try clear hfz17_1
     try clear hfz17_2
     obtain ⟨x9_1, x143002_1, u143002, rfl, HA, HK1, HO_143001, HO_143002, BK132, BK142, HB⟩ := hrel
     cases gk with
     | zero => exact absurd HA.out (by simp [manorboyref08_New.l0])
     | succ k1 =>
      have H := HA.out
      clear HA
      simp only [manorboyref08_New.l0] at H
      by_cases c18 : x9_1 < t135
      ·rw [if_pos c18] at H
       have c18b0 : decide (x9_1 < t135) = true := decide_eq_true c18
       clear c18
       replace H := Option.bind_eq_some_iff.mp H
       obtain ⟨⟨t143, t144, t145, t146, t147⟩, A190, H⟩ := H
       replace H : (if x143002_1.length < 3518437208883 then (manorboyref08_New.l0 k1 a0 t135 (wrap64 (x9_1 + 1)) a0 y139 (x143002_1 ++ [(⟨t143, t144, (⟨t145, t146⟩ : S36), t147⟩ : S38)])) else (none)) = some (r1, r2, r3, r4) := H
       have A19 := As.mk A190
       clear A190
       by_cases c20 : x143002_1.length < 3518437208883
       ·rw [if_pos c20] at H
        have LMc20 := As.mk c20
        clear c20
        obtain ⟨y148, hy148⟩ : ∃ y_ : List (S38), y_ = (x143002_1 ++ [(⟨t143, t144, (⟨t145, t146⟩ : S36), t147⟩ : S38)]) := ⟨_, rfl⟩
        replace H : (manorboyref08_New.l0 k1 a0 t135 (wrap64 (x9_1 + 1)) a0 y139 y148) = some (r1, r2, r3, r4) := by first | (rw [hy148]; with_reducible exact H) | (have H2_ := (Option.bind_some _ _).symm.trans H; rw [hy148]; with_reducible exact H2_) | (have H2_ := (Option.bind_some _ _).symm.trans H; with_reducible exact H2_) | with_reducible exact H | (rw [hy148]; exact H) | exact H
        have Ny148 := As.mk hy148
        clear hy148
        have H' := As.mk H
        clear H
        try go_wp2
        replace HO_143001 := As.mk (Kd.R_drew HO_143001.out)
        replace HO_143002 := As.mk (Kd.R_drew HO_143002.out)
        replace BK132 := As.mk (kD BK132.out)
        replace BK142 := As.mk (kD BK142.out)
        replace HB := As.mk (bD HB.out)
        refine start_ (n := 8) (S := fun w' => w'.cell? ⟨gb142, 0, none⟩ = some (.int .i64 a0) ∧ w'.cell? ⟨gb142, 1, none⟩ = some (.slice Ao14 y139.length co14) ∧ w'.cell? ⟨gb142, 2, none⟩ = some (u143002)) (ds := [7]) #[false, false, false, false, false, false, false, false] (by kernel_rfl) rfl rfl ⟨(kC BK142.out 0).trans rfl, (kC BK142.out 1).trans rfl, (kC BK142.out 2).trans rfl⟩ (fun hHeld => ?_); refine with_tabW manorboyref08_New.tab11 manorboyref08_New.bits11 (fun HT_ HW_ => ?_)
        generalize wr.drew = w21 at HO_143001 HO_143002 BK132 BK142 HB hHeld ⊢
        refine pw 0 32 8 1 HT_ ?_
        refine pw 2 34 8 5 HT_ ?_
        refine tw 1 33 8 7 HT_ HW_ hHeld ?_
        refine one_ (i := 3) (N := some 35) #[true, true, true, true, false, false, false, false] rfl rfl (one_of HT_.out (by kernel_rfl)) (by decide) (fun K hK => ?_)
        refine goes_ Tryz.func47 (by kernel_rfl) rfl #[.int .i64 a0] (by rfl) rfl rfl (by (try simp only [List.map_toArray, List.map_cons, List.map_nil]); first | done | rfl | (simp only [List.length_drop, List.length_take]; rfl)) ?_
        with_reducible refine (manorboyref08_zero.calls a0 t143 t144 t145 t146 t147 _ A19.out).mono ?_
        rintro e w22 ⟨rfl, hb⟩
        refine ⟨_, rfl, ?_⟩
        replace HO_143001 := As.mk (Kd.R_below (by (with_reducible repeat (first | apply Kd.R_alloc | apply Kd.R_drewN | apply Kd.R_drew)); exact HO_143001.out) hb)
        replace HO_143002 := As.mk (Kd.R_below (by (with_reducible repeat (first | apply Kd.R_alloc | apply Kd.R_drewN | apply Kd.R_drew)); exact HO_143002.out) hb)
        replace BK132 := As.mk (kB (g := gb132) (o := .cells #[.int .i64 0, .slice none 0 0, .slice none 0 0] 25 (0, 0)) (by (with_reducible repeat (first | apply kN | apply kD | apply kA)); exact BK132.out) hb)
        replace BK142 := As.mk (kB (g := gb142) (o := .cells #[.int .i64 a0, .slice Ao14 y139.length co14, u143002] 25 (0, 0)) (by (with_reducible repeat (first | apply kN | apply kD | apply kA)); exact BK142.out) hb)
        replace HB := As.mk (bS (by repeat (first | (with_reducible first | exact HB.out | apply bA | apply bN | apply bD | refine bT ?_ GE132.out | refine bT ?_ GE142.out) | exact HB.out)) hb)
        (try clear hb)
        (try clear hb2)
        (try clear hk)
        (try clear hi)
        refine hK.out _ _ ⟨(kC BK142.out 0).trans rfl, (kC BK142.out 1).trans rfl, (kC BK142.out 2).trans rfl⟩ (fun hHeld => ?_)
        clear hK K
        refine norm_ (a' := ?_) ?_ ?_
        rotate_left
        ·show Act.put _ (some 35) _ = _
         simp only [Act.put, List.setIfInBounds_toArray, List.set_cons_zero, List.set_cons_succ, i64_w, i32_w]
         rfl
        refine one_ (i := 4) (N := some 36) #[true, true, true, true, true, false, false, false] rfl rfl (one_of HT_.out (by kernel_rfl)) (by decide) (fun K hK => ?_)
        refine value_ (w1 := ?_) (v := ?_) (by rfl) rfl ?_ ?_
        rotate_left 2
        ·go_simp
         constructor
         ·rfl
         ·rfl
        refine hK.out _ _ ⟨(kC (kA BK142.out _) 0).trans rfl, (kC (kA BK142.out _) 1).trans rfl, (kC (kA BK142.out _) 2).trans rfl⟩ (fun hHeld => ?_)
        clear hK K
        refine norm_ (a' := ?_) ?_ ?_
        rotate_left
        ·show Act.put _ (some 36) _ = _
         simp only [Act.put, List.setIfInBounds_toArray, List.set_cons_zero, List.set_cons_succ, i64_w, i32_w]
         rfl
        refine one_ (i := 5) (N := some 37) #[true, true, true, true, true, true, false, false] rfl rfl (one_of HT_.out (by kernel_rfl)) (by decide) (fun K hK => ?_)
        refine Kd.R_append_step k38 (w0 := w) w.heap.size (by rfl) (.tmp 33) (.tmp 36) 23 38 (.agg #[(.int .i64 0), (.int .i64 0), (.int .i64 0), (.int .i64 0), (.bool false)]) 40 rfl Tryz.underlying23 info38 rfl (by decide) (by omega) u143002 x143002_1 (⟨t143, t144, (⟨t145, t146⟩ : S36), t147⟩ : S38) [.int .i64 t143, .int .i64 t144, .int .i64 t145, .int .i64 t146, .bool t147] (fun _ => True) (fun _ => False) rfl rfl ?aP (fun _ hk => hk.elim) ?aF ?aO ?aB ?aS ?aL ?_
        (case aP => exact k38_mkM _ _ _ (⟨t143, t144, (⟨t145, t146⟩ : S36), t147⟩ : S38))
        (case aB => exact (by repeat (first | (with_reducible first | exact HB.out | apply bA | apply bN | apply bD | refine bT ?_ GE132.out | refine bT ?_ GE142.out) | exact HB.out)))
        (case aF => exact (fun _ _ => trivial))
        (case aO => exact (by (with_reducible repeat (first | apply Kd.R_alloc | apply Kd.R_drewN | apply Kd.R_drew)); exact HO_143002.out))
        (case aS => exact (bZ (by repeat (first | (with_reducible first | exact HB.out | apply bA | apply bN | apply bD | refine bT ?_ GE132.out | refine bT ?_ GE142.out) | exact HB.out))))
        (case aL => have := LMc20.out; omega)
        intro v149 w23 ho hb hg hat
        rw [← Ny148.out] at ho
        replace HO_143001 := As.mk (Kd.R_over' (by (with_reducible repeat (first | apply Kd.R_alloc | apply Kd.R_drewN | apply Kd.R_drew)); exact HO_143001.out) (Kd.R_typed (by (with_reducible repeat (first | apply Kd.R_alloc | apply Kd.R_drewN | apply Kd.R_drew)); exact HO_143002.out)) (by decide) hg)
        replace BK132 := As.mk (blk_grown (g := gb132) (o := .cells #[.int .i64 0, .slice none 0 0, .slice none 0 0] 25 (0, 0)) (by (with_reducible repeat (first | apply kN | apply kD | apply kA)); exact BK132.out) hg (Kd.R_ne HO_143002.out BK132.out (by decide)))
        replace BK142 := As.mk (blk_grown (g := gb142) (o := .cells #[.int .i64 a0, .slice Ao14 y139.length co14, u143002] 25 (0, 0)) (by (with_reducible repeat (first | apply kN | apply kD | apply kA)); exact BK142.out) hg (Kd.R_ne HO_143002.out BK142.out (by decide)))
        replace HB := As.mk (hb)
        have HO150 := As.mk (ho)
        clear HO_143002
        clear ho hb hg hat
        obtain ⟨Ao24, co24, eo24⟩ := Kd.R_slice HO150.out
        (first | subst eo24 | (injection eo24 with f1_ f2_ f3_; have f4_ := f1_.symm; have f5_ := f3_.symm; clear f1_ f2_ f3_; subst f4_; subst f5_))
        refine hK.out _ _ ⟨(kC BK142.out 0).trans rfl, (kC BK142.out 1).trans rfl, (kC BK142.out 2).trans rfl⟩ (fun hHeld => ?_)
        clear hK K
        refine norm_ (a' := ?_) ?_ ?_
        rotate_left
        ·show Act.put _ (some 37) _ = _
         simp only [Act.put, List.setIfInBounds_toArray, List.set_cons_zero, List.set_cons_succ, i64_w, i32_w]
         rfl
        refine pw 6 38 8 127 HT_ ?_
        refine last_ (i := 7) (N := none) #[true, true, true, true, true, true, true, true] rfl rfl (one_of HT_.out (by kernel_rfl)) (by decide) (fun K hK => ?_)
        have hs25 : w23.cell? ⟨gb142, 2, none⟩ = some (u143002) := (kC BK142.out 2).trans rfl
        have hfs25 := kF BK142.out 2
        have hns25_0 := NB132_142.out
        have hms25_0 := NB142_132.out
        refine skip_ (w1 := ?_) (by rfl) rfl ?_ ?_
        rotate_left
        ·go_simp
         rfl
        refine hK.out _ _ ?_
        clear hK K
        refine done_ (done_of HT_.out (by kernel_rfl)) ?_
        try go_wp2
        go_roundg k1
        case measure => have := HK1.out; omega
        case rel => exact ⟨(wrap64 (x9_1 + 1)), (y148), (.slice Ao24 y148.length co24), (by first | rfl | (simp; done) | (simp [*]; done)), H', ⟨by have := HK1.out; omega⟩, ⟨by (with_reducible repeat (first | apply Kd.R_alloc | apply Kd.R_drewN | apply Kd.R_drew)); exact Kd.R_mono (Kd.R_far (p := ⟨gb142, 2, none⟩) (Kd.R_types HO_143001.out BK142.out (by decide)) (fun _ hk => hk.2) (.slice Ao24 y148.length co24)) (fun _ hk => trivial)⟩, ⟨by (with_reducible repeat (first | apply Kd.R_alloc | apply Kd.R_drewN | apply Kd.R_drew)); exact Kd.R_mono (Kd.R_far (p := ⟨gb142, 2, none⟩) (Kd.R_types HO150.out BK142.out (by decide)) (fun _ hk => hk.2) (.slice Ao24 y148.length co24)) (fun _ hk => trivial)⟩, ⟨by (with_reducible repeat (first | apply kN | apply kD | apply kA)); refine blk_far ?_ NB132_142.out _; (with_reducible repeat (first | apply kN | apply kD | apply kA)); exact BK132.out⟩, ⟨by (with_reducible repeat (first | apply kN | apply kD | apply kA)); refine kP (cs := #[.int .i64 a0, .slice Ao14 y139.length co14, u143002]) ?_ 2 _ rfl; (with_reducible repeat (first | apply kN | apply kD | apply kA)); exact BK142.out⟩, ⟨by repeat (first | (with_reducible first | exact HB.out | apply bA | apply bN | apply bD | refine bT ?_ GE132.out | refine bT ?_ GE142.out) | exact HB.out)⟩⟩
       ·rw [if_neg c20] at H
        exact absurd H (by simp)
      ·rw [if_neg c18] at H
       have c18b0 : decide (x9_1 < t135) = false := decide_eq_false c18
       clear c18
       simp only [Option.some.injEq, Prod.mk.injEq] at H
       obtain ⟨rfl, rfl, rfl, rfl⟩ := H
       have hnb26 := NB142_132.out
       have hnc26 := NB132_142.out
       have hcz27_0 : wr.cell? ⟨gb142, 0, none⟩ = some (.int .i64 a0) := (kC BK142.out 0).trans rfl
       have hcz27_1 : wr.cell? ⟨gb142, 1, none⟩ = some (.slice Ao14 y139.length co14) := (kC BK142.out 1).trans rfl
       have hcz27_2 : wr.cell? ⟨gb142, 2, none⟩ = some (u143002) := (kC BK142.out 2).trans rfl
       have hfz27_0 := kF BK142.out 0
       have hfz27_1 := kF BK142.out 1
       have hfz27_2 := kF BK142.out 2
       have hcz28_0 : wr.cell? ⟨gb132, 0, none⟩ = some (.int .i64 0) := (kC BK132.out 0).trans rfl
       have hcz28_1 : wr.cell? ⟨gb132, 1, none⟩ = some (.slice none 0 0) := (kC BK132.out 1).trans rfl
       have hcz28_2 : wr.cell? ⟨gb132, 2, none⟩ = some (.slice none 0 0) := (kC BK132.out 2).trans rfl
       have hfz28_0 := kF BK132.out 0
       have hfz28_1 := kF BK132.out 1
       have hfz28_2 := kF BK132.out 2
       obtain ⟨Ao29, co29, eo29⟩ := Kd.R_slice HO_143002.out
       subst eo29
       go_wp2
       refine bodyPost_ret (results_ct rfl _ _ gb132 25 #[.int .i64 a0, .slice Ao14 y139.length co14, .slice Ao29 x143002_1.length co29] (0, 0) _ rfl (by (with_reducible repeat (first | apply kN | apply kD | apply kA)); refine kP (cs := #[.int .i64 a0, .slice Ao14 y139.length co14, .slice none 0 0]) ?_ 2 _ rfl; (with_reducible repeat (first | apply kN | apply kD | apply kA)); refine kP (cs := #[.int .i64 a0, .slice none 0 0, .slice none 0 0]) ?_ 1 _ rfl; (with_reducible repeat (first | apply kN | apply kD | apply kA)); refine kP (cs := #[.int .i64 0, .slice none 0 0, .slice none 0 0]) ?_ 0 _ rfl; (with_reducible repeat (first | apply kN | apply kD | apply kA)); exact BK132.out) Tryz.underlying25 rfl (by kernel_rfl)) rfl ?_
       exact ⟨_, _, by first | rfl | (simp [eN, eS] <;> rfl) | (simp [*, eN, eS] <;> rfl), by (with_reducible repeat (first | apply Kd.R_alloc | apply Kd.R_drewN | apply Kd.R_drew)); exact Kd.R_mono (Kd.R_far (p := ⟨gb132, 2, none⟩) (Kd.R_far (p := ⟨gb132, 1, none⟩) (Kd.R_far (p := ⟨gb132, 0, none⟩) (Kd.R_types HO_143001.out BK132.out (by decide)) (fun _ hk => hk.2) (.int .i64 a0)) (fun _ hk => hk.2) (.slice Ao14 y139.length co14)) (fun _ hk => hk.2) (.slice Ao29 x143002_1.length co29)) (fun _ hk => trivial), by (with_reducible repeat (first | apply Kd.R_alloc | apply Kd.R_drewN | apply Kd.R_drew)); exact Kd.R_mono (Kd.R_far (p := ⟨gb132, 2, none⟩) (Kd.R_far (p := ⟨gb132, 1, none⟩) (Kd.R_far (p := ⟨gb132, 0, none⟩) (Kd.R_types HO_143002.out BK132.out (by decide)) (fun _ hk => hk.2) (.int .i64 a0)) (fun _ hk => hk.2) (.slice Ao14 y139.length co14)) (fun _ hk => hk.2) (.slice Ao29 x143002_1.length co29)) (fun _ hk => trivial), by repeat (first | (with_reducible first | exact HB.out | apply bA | apply bN | apply bD | refine bT ?_ GE132.out | refine bT ?_ GE142.out) | exact HB.out)⟩
   ·rw [if_neg c8] at H
    exact absurd H (by simp)
  ·rw [if_neg c6] at H
   have c6b0 : (t134 == 0) = false := beq_eq_false_iff_ne.mpr c6
   have c6b1 : (t134 != 0) = true := bne_iff_ne.mpr c6
   simp only [Option.some.injEq, Prod.mk.injEq] at H
   obtain ⟨rfl, rfl, rfl, rfl⟩ := H
   go_enter Tryz.func13, Tryz.ntmps13
   go_wp2_with (first | ((with_reducible refine gD (N := 4) rfl ?_); refine bX (by rfl) (N := 4) (by rfl) (cs := #[.int .i64 0, .slice none 0 0, .slice none 0 0]) (t := 25) (by first | (go_simp; done) | (go_simp; rfl)) ?_; intro gb132 hg w30 hbox hb; have BK132 := As.mk (hbox); have GW132 := As.mk ((by rw [hg]; exact (bZ (by repeat (first | exact HB.out | apply bA | apply bN | apply bD))) : w.heap.size ≤ gb132)); have GE132 := GW132; replace HB := As.mk (bS (by repeat (first | exact HB.out | apply bA | apply bN | apply bD)) hb); clear hb hbox hg) | ((with_reducible refine gC (f := 42) rfl ?_); refine goesL_ (some 11) rfl rfl Tryz.func42 (by kernel_rfl) rfl #[.int .i64 a0] rfl (by (try simp only [List.map_toArray, List.map_cons, List.map_nil]); first | done | rfl | (simp only [List.length_drop, List.length_take]; rfl)) ?_; (with_reducible refine (manorboyref08_IsType.calls a0 true _ A3.out).mono ?_); rintro e w' ⟨rfl, ⟨nd, rfl⟩⟩; refine ⟨_, rfl, ?_⟩; (try (rw [drewN_self w30]; generalize hq_ : World.drewN w30 _ = w30; have n0_ : As (w30.heap[gb132]? = some (.cells #[.int .i64 0, .slice none 0 0, .slice none 0 0] 25 (0, 0))) := ⟨by rw [← hq_]; exact (by (with_reducible repeat (first | apply kN | apply kD | apply kA)); exact BK132.out)⟩; have n1_ : As (Below w.heap.size w w30) := ⟨by rw [← hq_]; exact (by repeat (first | (with_reducible first | exact HB.out | apply bA | apply bN | apply bD | refine bT ?_ GE132.out) | exact HB.out))⟩; clear BK132 HB hq_; have BK132 := n0_; have HB := n1_; clear n0_ n1_))) | ((with_reducible refine gC (f := 45) rfl ?_); refine goesL_ (some 15) rfl rfl Tryz.func45 (by kernel_rfl) rfl #[.slice A1 l1.length c1] rfl (by (try simp only [List.map_toArray, List.map_cons, List.map_nil]); first | done | rfl | (simp only [List.length_drop, List.length_take]; rfl)) ?_; (with_reducible refine (manorboyref08_Error.calls k _ _ l1 t134 _ ?side1 ?side2 A5.out).mono ?_); (case side1 => repeat (first | exact (Kd.C_below HR1.out HB.out) | (with_reducible refine Kd.C_alloc ?_ _) | (with_reducible refine Kd.C_drewN ?_ _) | (with_reducible refine Kd.C_drew ?_))); (case side2 => exact HC1.out); rintro e w31 ⟨rfl, hb⟩; refine ⟨_, rfl, ?_⟩; replace BK132 := As.mk (kB (g := gb132) (o := .cells #[.int .i64 0, .slice none 0 0, .slice none 0 0] 25 (0, 0)) (by (with_reducible repeat (first | apply kN | apply kD | apply kA)); exact BK132.out) hb); replace HB := As.mk (bS (by repeat (first | (with_reducible first | exact HB.out | apply bA | apply bN | apply bD | refine bT ?_ GE132.out) | exact HB.out)) hb); (try clear hb); have hcz32_0 : w31.cell? ⟨gb132, 0, none⟩ = some (.int .i64 0) := (kC BK132.out 0).trans rfl; have hcz32_1 : w31.cell? ⟨gb132, 1, none⟩ = some (.slice none 0 0) := (kC BK132.out 1).trans rfl; have hcz32_2 : w31.cell? ⟨gb132, 2, none⟩ = some (.slice none 0 0) := (kC BK132.out 2).trans rfl; have hfz32_0 := kF BK132.out 0; have hfz32_1 := kF BK132.out 1; have hfz32_2 := kF BK132.out 2))
   refine bodyPost_ret (results_ct rfl _ _ gb132 25 #[.int .i64 0, .slice none 0 0, .slice none 0 0] (0, 0) _ rfl (by (with_reducible repeat (first | apply kN | apply kD | apply kA)); refine kP (cs := #[.int .i64 0, .slice none 0 0, .slice none 0 0]) ?_ 2 _ rfl; (with_reducible repeat (first | apply kN | apply kD | apply kA)); refine kP (cs := #[.int .i64 0, .slice none 0 0, .slice none 0 0]) ?_ 1 _ rfl; (with_reducible repeat (first | apply kN | apply kD | apply kA)); refine kP (cs := #[.int .i64 0, .slice none 0 0, .slice none 0 0]) ?_ 0 _ rfl; (with_reducible repeat (first | apply kN | apply kD | apply kA)); exact BK132.out) Tryz.underlying25 rfl (by kernel_rfl)) rfl ?_
   exact ⟨_, _, by first | rfl | (simp [eN, eS] <;> rfl) | (simp [*, eN, eS] <;> rfl), by first | exact Kd.R_nil _ _ _ _ _ | exact Kd.N_nil _ _ _ _ _ | exact Kd.V_nil _ _ _ _ _ | exact Kd.Q_nil _ _ _ _ _ | exact Kd.S_nil _ _ _ _ _, by first | exact Kd.R_nil _ _ _ _ _ | exact Kd.N_nil _ _ _ _ _ | exact Kd.V_nil _ _ _ _ _ | exact Kd.Q_nil _ _ _ _ _ | exact Kd.S_nil _ _ _ _ _, by repeat (first | (with_reducible first | exact HB.out | apply bA | apply bN | apply bD | refine bT ?_ GE132.out) | exact HB.out)⟩
 ·replace c4 := Bool.eq_false_iff.mpr c4
  subst c4
  have H1 : (some (0, ([] : List (S54)), ([] : List (S38)), 1)) = some (r1, r2, r3, r4) := by rw [if_neg (show ¬ (false = true) by decide)] at H; exact H
  clear H
  have H := H1
  clear H1
  simp only [Option.some.injEq, Prod.mk.injEq] at H
  obtain ⟨rfl, rfl, rfl, rfl⟩ := H
  go_enter Tryz.func13, Tryz.ntmps13
  go_wp2_with (first | ((with_reducible refine gD (N := 4) rfl ?_); refine bX (by rfl) (N := 4) (by rfl) (cs := #[.int .i64 0, .slice none 0 0, .slice none 0 0]) (t := 25) (by first | (go_simp; done) | (go_simp; rfl)) ?_; intro gb132 hg w33 hbox hb; have BK132 := As.mk (hbox); have GW132 := As.mk ((by rw [hg]; exact (bZ (by repeat (first | exact HB.out | apply bA | apply bN | apply bD))) : w.heap.size ≤ gb132)); have GE132 := GW132; replace HB := As.mk (bS (by repeat (first | exact HB.out | apply bA | apply bN | apply bD)) hb); clear hb hbox hg) | ((with_reducible refine gC (f := 42) rfl ?_); refine goesL_ (some 11) rfl rfl Tryz.func42 (by kernel_rfl) rfl #[.int .i64 a0] rfl (by (try simp only [List.map_toArray, List.map_cons, List.map_nil]); first | done | rfl | (simp only [List.length_drop, List.length_take]; rfl)) ?_; (with_reducible refine (manorboyref08_IsType.calls a0 false _ A3.out).mono ?_); rintro e w' ⟨rfl, ⟨nd, rfl⟩⟩; refine ⟨_, rfl, ?_⟩; (try (rw [drewN_self w33]; generalize hq_ : World.drewN w33 _ = w33; have n0_ : As (w33.heap[gb132]? = some (.cells #[.int .i64 0, .slice none 0 0, .slice none 0 0] 25 (0, 0))) := ⟨by rw [← hq_]; exact (by (with_reducible repeat (first | apply kN | apply kD | apply kA)); exact BK132.out)⟩; have n1_ : As (Below w.heap.size w w33) := ⟨by rw [← hq_]; exact (by repeat (first | (with_reducible first | exact HB.out | apply bA | apply bN | apply bD | refine bT ?_ GE132.out) | exact HB.out))⟩; clear BK132 HB hq_; have BK132 := n0_; have HB := n1_; clear n0_ n1_)); have hcz34_0 : w33.cell? ⟨gb132, 0, none⟩ = some (.int .i64 0) := (kC BK132.out 0).trans rfl; have hcz34_1 : w33.cell? ⟨gb132, 1, none⟩ = some (.slice none 0 0) := (kC BK132.out 1).trans rfl; have hcz34_2 : w33.cell? ⟨gb132, 2, none⟩ = some (.slice none 0 0) := (kC BK132.out 2).trans rfl; have hfz34_0 := kF BK132.out 0; have hfz34_1 := kF BK132.out 1; have hfz34_2 := kF BK132.out 2))
  refine bodyPost_ret (results_ct rfl _ _ gb132 25 #[.int .i64 0, .slice none 0 0, .slice none 0 0] (0, 0) _ rfl (by (with_reducible repeat (first | apply kN | apply kD | apply kA)); refine kP (cs := #[.int .i64 0, .slice none 0 0, .slice none 0 0]) ?_ 2 _ rfl; (with_reducible repeat (first | apply kN | apply kD | apply kA)); refine kP (cs := #[.int .i64 0, .slice none 0 0, .slice none 0 0]) ?_ 1 _ rfl; (with_reducible repeat (first | apply kN | apply kD | apply kA)); refine kP (cs := #[.int .i64 0, .slice none 0 0, .slice none 0 0]) ?_ 0 _ rfl; (with_reducible repeat (first | apply kN | apply kD | apply kA)); exact BK132.out) Tryz.underlying25 rfl (by kernel_rfl)) rfl ?_
  exact ⟨_, _, by first | rfl | (simp [eN, eS] <;> rfl) | (simp [*, eN, eS] <;> rfl), by first | exact Kd.R_nil _ _ _ _ _ | exact Kd.N_nil _ _ _ _ _ | exact Kd.V_nil _ _ _ _ _ | exact Kd.Q_nil _ _ _ _ _ | exact Kd.S_nil _ _ _ _ _, by first | exact Kd.R_nil _ _ _ _ _ | exact Kd.N_nil _ _ _ _ _ | exact Kd.V_nil _ _ _ _ _ | exact Kd.Q_nil _ _ _ _ _ | exact Kd.S_nil _ _ _ _ _, by repeat (first | (with_reducible first | exact HB.out | apply bA | apply bN | apply bD | refine bT ?_ GE132.out) | exact HB.out)⟩
end Go.Proofs.Q
end
section
namespace Go.Proofs.Q
open RowKit Shelf Rf Pw Pl Pm
theorem ref_new_l (t n : Int) (l : List S54) (hn : n ≤ 1000) : ∀ (m i : Nat) (acc : List S38), (i : Int) + m = n → acc.length = i → Ev (fun k => manorboyref08_New.l0 k t n (i : Int) t l acc) (t, l, acc ++ List.replicate m (z38t t), 0) := by
 intro m
 induction m with
 | zero =>
  intro i acc h ha
  refine Ev.one fun k => ?_
  rw [manorboyref08_New.l0, if_neg (by omega)]
  simp
 | succ m ih =>
  intro i acc h ha
  have := ih (i + 1) (acc ++ [z38t t]) (by omega) (by simp [ha])
  rw [List.append_assoc, show [z38t t] ++ List.replicate m (z38t t) = List.replicate (m + 1) (z38t t) from rfl] at this
  refine Ev.succ this fun k => ?_
  rw [manorboyref08_New.l0, if_pos (by omega), manorboyref08_zero.f, Option.bind_some, if_pos (by omega), wrap_next (by omega)]
  rfl
theorem ref_new {t : Int} {l : List S54} (ht : isTy t = true) (he : errOf l = 0) : Ev (fun k => manorboyref08_New.f k t l) (t, l, List.replicate (prodL l).toNat (z38t t), 0) := by
 obtain ⟨_, hp, _, _, h4⟩ := errOf_zero he
 have h1 := hp.pos
 have h2 := hp.2.2
 have ht' : manorboyref08_IsType.f t = some true := by
  unfold isTy at ht
  simp only [Bool.or_eq_true, beq_iff_eq] at ht
  unfold manorboyref08_IsType.f
  rw [if_pos (by omega)]
  congr 1
  simp
  omega
 unfold manorboyref08_New.f
 refine Ev.bind (A := fun _ => manorboyref08_IsType.f t) (t := true) (Ev.const fun _ => ht') ?_
 simp only [if_true]
 refine Ev.bind (A := fun k => manorboyref08_Error.f k l) (t := 0) (he ▸ ref_err l) ?_
 simp only [if_true]
 refine Ev.bind (A := fun k => manorboyref08_size.f k l) (t := prodL l) (ref_size he) ?_
 have := ref_new_l t (prodL l) l h2 (prodL l).toNat 0 [] (by omega) rfl
 refine Ev.congr this fun k => ?_
 simp only [Option.bind_some, List.nil_append]
 rw [if_pos (by simp; omega)]
 rfl
/-- ref08.New of proper dimensions -/
theorem rnew_ok {t : Int} {l : List S54} (ht : isTy t = true) (he : errOf l = 0) (A : Option Addr) (c : Nat) (w : World) (hr : Kd.C k54 w A l.length l) (hc : l.length ≤ c) : Calls Tryz.prog 13 #[.int .i64 t, .slice A l.length c] w fun e w' => ∃ v1 v2 : Value, e = .returned (.tuple #[.agg #[.int .i64 t, v1, v2], .int .i64 0]) ∧ Kd.R k54 54 w' w.heap.size (fun _ => True) v1 l ∧ Kd.R k38 38 w' w.heap.size (fun _ => True) v2 (List.replicate (prodL l).toNat (z38t t)) ∧ Below w.heap.size w w' := by
 obtain ⟨k, hk⟩ := (ref_new ht he).at
 exact manorboyref08_New.calls k t A c l _ _ _ _ w hr hc hk
end Go.Proofs.Q
end
section
namespace Go.Proofs.Q
open RowKit Shelf Rf Pw Pl Pm
attribute [local go_sem high] eqA38
/-- ref08.Equal of equal data -/
theorem requal_w (t : Int) (ds : List S54) (es : List S38) (hd : ds.length ≤ 1000) (hl : es.length ≤ 1000000) (A1 A2 B1 B2 : Option Addr) (c1 c2 d1 d2 n m n' m' : Nat) (w : World) (ha : Arr w A1 n c1 ds A2 m c2 es) (hb : Arr w B1 n' d1 ds B2 m' d2 es) :
  Calls Tryz.prog 11 #[.agg #[.int .i64 t, .slice A1 n c1, .slice A2 m c2], .agg #[.int .i64 t, .slice B1 n' d1, .slice B2 m' d2]] w (Bq true w) := by
 obtain ⟨hr1, hc1, hr2, hc2⟩ := ha
 obtain ⟨gr1, gc1, gr2, gc2⟩ := hb
 obtain rfl := hr1.1
 obtain rfl := hr2.1
 obtain rfl := gr1.1
 obtain rfl := gr2.1
 have HD := Lib.hid (fun W h1 h2 => rdims_w ds hd A1 B1 c1 d1 W h1 hc1 h2 gc1)
 have R1 := Lib.hid hr1
 have R2 := Lib.hid hr2
 have G1 := Lib.hid gr1
 have G2 := Lib.hid gr2
 clear hr1 hr2 gr1 gr2 hc1 gc1 hd
 have hA : ((w.alloc (.cells #[.int .i64 t, .slice A1 ds.length c1, .slice A2 es.length c2] 25)).alloc (.cells #[.int .i64 t, .slice B1 ds.length d1, .slice B2 es.length d2] 25)).heap[w.heap.size]? = some (.cells #[.int .i64 t, .slice A1 ds.length c1, .slice A2 es.length c2] 25) := kA (heap_alloc_new w _) _
 have hC : ((w.alloc (.cells #[.int .i64 t, .slice A1 ds.length c1, .slice A2 es.length c2] 25)).alloc (.cells #[.int .i64 t, .slice B1 ds.length d1, .slice B2 es.length d2] 25)).heap[w.heap.size + 1]? = some (.cells #[.int .i64 t, .slice B1 ds.length d1, .slice B2 es.length d2] 25) := nB w _ _
 have hB : Below w.heap.size w ((w.alloc (.cells #[.int .i64 t, .slice A1 ds.length c1, .slice A2 es.length c2] 25)).alloc (.cells #[.int .i64 t, .slice B1 ds.length d1, .slice B2 es.length d2] 25)) := bA (bA (Below.refl _ _) _) _
 obtain ⟨⟨x0, x1, x2⟩, xl, _, _, _⟩ := c3_of hA
 obtain ⟨⟨y0, y1, y2⟩, yl, _, _, _⟩ := c3_of hC
 go_enter Tryz.func11, Tryz.ntmps11
 go_wp2_with (first
  | (go_at_call 44; refine (HD.out _ (Kd.C_below R1.out hB) (Kd.C_below G1.out hB)).mono ?_; rintro e w1 ⟨rfl, hb⟩; clear x0 x1 x2 y0 y1 y2 xl yl; (replace hA := kB hA hb); (replace hC := kB hC hb); (replace hB := bS hB hb); (obtain ⟨⟨x0, x1, x2⟩, xl, _, _, _⟩ := c3_of hA); (obtain ⟨⟨y0, y1, y2⟩, yl, _, _, _⟩ := c3_of hC); clear hb))
 have hX := Lib.hid (And.intro x2 y2)
 replace hB := Lib.hid hB
 clear x0 x1 x2 y0 y1 y2 xl yl hA hC HD R1 G1
 go_loopw [5] (fun v wr => ∃ i : Int, v = .int .i64 i ∧ 0 ≤ i ∧ i ≤ (es.length : Int) ∧ Hid (wr.cell? ⟨w.heap.size, 2, none⟩ = some (.slice A2 es.length c2) ∧ wr.cell? ⟨w.heap.size + 1, 2, none⟩ = some (.slice B2 es.length d2)) ∧ Hid (Below w.heap.size w wr)) (fun v _ => ((es.length : Int) - intOf v).toNat)
 case atStart => exact ⟨0, rfl, by decide, by omega, hX, hB⟩
 case round =>
  clear hX hB
  obtain ⟨i, rfl, h0, h1, HS, HB⟩ := hrel
  obtain ⟨x2, y2⟩ := HS.out
  by_cases hp : i < (es.length : Int)
  ·obtain ⟨ad, rfl, hx0, hx1, hx2, hx3, hx4⟩ := at_T38 R2.out i h0 hp
   replace hx0 := (HB.out.cell (World.block_lt_of_cell? w _ hx0)).trans hx0
   replace hx1 := (HB.out.cell (World.block_lt_of_cell? w _ hx1)).trans hx1
   replace hx2 := (HB.out.cell (World.block_lt_of_cell? w _ hx2)).trans hx2
   replace hx3 := (HB.out.cell (World.block_lt_of_cell? w _ hx3)).trans hx3
   replace hx4 := (HB.out.cell (World.block_lt_of_cell? w _ hx4)).trans hx4
   obtain ⟨bd, rfl, hy0, hy1, hy2, hy3, hy4⟩ := at_T38 G2.out i h0 hp
   replace hy0 := (HB.out.cell (World.block_lt_of_cell? w _ hy0)).trans hy0
   replace hy1 := (HB.out.cell (World.block_lt_of_cell? w _ hy1)).trans hy1
   replace hy2 := (HB.out.cell (World.block_lt_of_cell? w _ hy2)).trans hy2
   replace hy3 := (HB.out.cell (World.block_lt_of_cell? w _ hy3)).trans hy3
   replace hy4 := (HB.out.cell (World.block_lt_of_cell? w _ hy4)).trans hy4
   generalize rd_T38 es i = x at hx0 hx1 hx2 hx3 hx4 hy0 hy1 hy2 hy3 hy4
   have p0 := eq_true h0
   have q0 := eq_true hp
   go_wp2
   go_quiet (fail)
   go_wp2
   go_roundw
   case rel => exact ⟨i + 1, rfl, by omega, by omega, HS, Lib.hid (bN HB.out _)⟩
   case measure => simp [intOf]; omega
  ·go_wp2
   go_ret
   exact ⟨rfl, HB.out⟩
end Go.Proofs.Q
end
section
namespace Go.Proofs.Q
open RowKit Shelf Rf Pw Pl Pm
theorem racv_no1 (t k : Int) (A1 A2 : Option Addr) (n m c1 c2 : Nat) (w : World) (HK : Hid (∀ W, Below w.heap.size w W → Calls Tryz.prog 16 #[.agg #[.int .i64 t, .slice A1 n c1, .slice A2 m c2]] W (Bq false W))) :
  Calls Tryz.prog 10 #[.agg #[.int .i64 t, .slice A1 n c1, .slice A2 m c2], .int .i64 k] w (ResizeNo 1 w) := by
 have hA : ((w.alloc (.cells #[.int .i64 t, .slice A1 n c1, .slice A2 m c2] 25)).alloc (.cells #[.int .i64 0, .slice none 0 0, .slice none 0 0] 25)).heap[w.heap.size]? = some (.cells #[.int .i64 t, .slice A1 n c1, .slice A2 m c2] 25) := kA (heap_alloc_new w _) _
 have hZ : ((w.alloc (.cells #[.int .i64 t, .slice A1 n c1, .slice A2 m c2] 25)).alloc (.cells #[.int .i64 0, .slice none 0 0, .slice none 0 0] 25)).heap[w.heap.size + 1]? = some (.cells #[.int .i64 0, .slice none 0 0, .slice none 0 0] 25) := nB w _ _
 have hB : Below w.heap.size w ((w.alloc (.cells #[.int .i64 t, .slice A1 n c1, .slice A2 m c2] 25)).alloc (.cells #[.int .i64 0, .slice none 0 0, .slice none 0 0] 25)) := bA (bA (Below.refl _ _) _) _
 have hz : w.heap.size ≤ w.heap.size + 1 := Nat.le_succ _
 obtain ⟨⟨x0, x1, x2⟩, xl, _, _, _⟩ := c3_of hA
 go_enter Tryz.func10, Tryz.ntmps10
 go_wp2_with (first
  | (go_at_call 16; refine (HK.out _ hB).mono ?_; rintro e w1 ⟨rfl, hb⟩; clear x0 x1 x2 xl; (replace hA := kB hA hb); (replace hZ := kB hZ hb); (replace hB := bS hB hb); (obtain ⟨⟨z0, z1, z2⟩, zl, zf0, zf1, zf2⟩ := c3_of hZ); clear hb))
 refine bodyPost_ret (v := .tuple #[.agg #[.int .i64 0, .slice none 0 0, .slice none 0 0], .int .i64 1]) (by clear hZ hA; simp [results, Tryz.results10, go_sem, z0, z1, z2, zl]) rfl ⟨rfl, below_set3 hB hz⟩
theorem racv_no2 (t k : Int) (hk : isTy k = false) (A1 A2 : Option Addr) (n m c1 c2 : Nat) (w : World) (HK : Hid (∀ W, Below w.heap.size w W → Calls Tryz.prog 16 #[.agg #[.int .i64 t, .slice A1 n c1, .slice A2 m c2]] W (Bq true W))) :
  Calls Tryz.prog 10 #[.agg #[.int .i64 t, .slice A1 n c1, .slice A2 m c2], .int .i64 k] w (ResizeNo 1 w) := by
 have HT := Lib.hid (fun W => hk ▸ rtype_w k W : ∀ W, Calls Tryz.prog 42 #[.int .i64 k] W (Bq false W))
 clear hk
 have hA : ((w.alloc (.cells #[.int .i64 t, .slice A1 n c1, .slice A2 m c2] 25)).alloc (.cells #[.int .i64 0, .slice none 0 0, .slice none 0 0] 25)).heap[w.heap.size]? = some (.cells #[.int .i64 t, .slice A1 n c1, .slice A2 m c2] 25) := kA (heap_alloc_new w _) _
 have hZ : ((w.alloc (.cells #[.int .i64 t, .slice A1 n c1, .slice A2 m c2] 25)).alloc (.cells #[.int .i64 0, .slice none 0 0, .slice none 0 0] 25)).heap[w.heap.size + 1]? = some (.cells #[.int .i64 0, .slice none 0 0, .slice none 0 0] 25) := nB w _ _
 have hB : Below w.heap.size w ((w.alloc (.cells #[.int .i64 t, .slice A1 n c1, .slice A2 m c2] 25)).alloc (.cells #[.int .i64 0, .slice none 0 0, .slice none 0 0] 25)) := bA (bA (Below.refl _ _) _) _
 have hz : w.heap.size ≤ w.heap.size + 1 := Nat.le_succ _
 obtain ⟨⟨x0, x1, x2⟩, xl, _, _, _⟩ := c3_of hA
 go_enter Tryz.func10, Tryz.ntmps10
 go_wp2_with (first
  | (go_at_call 16; refine (HK.out _ hB).mono ?_; rintro e w1 ⟨rfl, hb⟩; clear x0 x1 x2 xl; (replace hA := kB hA hb); (replace hZ := kB hZ hb); (replace hB := bS hB hb); clear hb)
  | (go_at_call 42; refine (HT.out _).mono ?_; rintro e w2 ⟨rfl, hb⟩; (replace hZ := kB hZ hb); (replace hB := bS hB hb); (obtain ⟨⟨z0, z1, z2⟩, zl, zf0, zf1, zf2⟩ := c3_of hZ); clear hb))
 refine bodyPost_ret (v := .tuple #[.agg #[.int .i64 0, .slice none 0 0, .slice none 0 0], .int .i64 1]) (by clear hZ hA; simp [results, Tryz.results10, go_sem, z0, z1, z2, zl]) rfl ⟨rfl, below_set3 hB hz⟩
end Go.Proofs.Q
end
section
namespace Go.Proofs.Q
open RowKit Shelf Rf Pw Pl Pm
/-- what a function that returns an array and an error returns -/
def UP (p : Int × Int × List S54 × List S38) (w : World) (e : Ending) (w' : World) : Prop :=
 ∃ (A1 : Option Addr) (n1 c1 : Nat) (A2 : Option Addr) (n2 c2 : Nat), e = .returned (.tuple #[.agg #[.int .i64 p.2.1, .slice A1 n1 c1, .slice A2 n2 c2], .int .i64 p.1]) ∧ Arr w' A1 n1 c1 p.2.2.1 A2 n2 c2 p.2.2.2 ∧ Below w.heap.size w w'
theorem up_no {x : Int} {w w' : World} {e : Ending} (h : ResizeNo x w e w') : UP (x, 0, [], []) w e w' := by
 obtain ⟨rfl, hb⟩ := h
 exact ⟨none, 0, 0, none, 0, 0, rfl, ⟨Kd.C_nil _ _, Nat.le_refl _, Kd.C_nil _ _, Nat.le_refl _⟩, hb⟩
theorem up_rr {t : Int} {ds : List S54} {es : List S38} {w w' : World} {v1 v2 : Value} {o1 o2 : Nat → Prop} (h1 : Kd.R k54 54 w' w.heap.size o1 v1 ds) (h2 : Kd.R k38 38 w' w.heap.size o2 v2 es) (hb : Below w.heap.size w w') : UP (0, t, ds, es) w (.returned (.tuple #[.agg #[.int .i64 t, v1, v2], .int .i64 0])) w' := by
 obtain ⟨B1, q1, rfl, g1, g2⟩ := Kd.R_reads h1
 obtain ⟨B2, q2, rfl, g3, g4⟩ := Kd.R_reads h2
 exact ⟨_, _, _, _, _, _, rfl, ⟨g2, g1, g4, g3⟩, hb⟩
theorem check_not {t : Int} {ds : List S54} {es : List S38} (F : ¬ Fine t ds es) : checkF t ds es = some 1 := by
 obtain ⟨r, h1, h2⟩ := check_word t ds es
 have hr : r ≠ 0 := fun h => F (h2.1 h)
 rw [h1]
 unfold checkF at h1
 split at h1
 ·split at h1
  ·split at h1
   ·cases hf : firstBad t es 0 with
    | none => rw [hf] at h1; cases h1
    | some q => rw [hf] at h1; simp only [Option.map_some, Option.some.injEq] at h1; split at h1 <;> simp_all
   ·exact h1.symm
  ·exact h1.symm
 ·exact h1.symm
theorem ck_no {t : Int} {ds : List S54} {es : List S38} (F : ¬ Fine t ds es) (A1 A2 : Option Addr) (c1 c2 n m : Nat) (w : World) (hr : Arr w A1 n c1 ds A2 m c2 es) :
  Calls Tryz.prog 18 #[.agg #[.int .i64 t, .slice A1 n c1, .slice A2 m c2]] w (AI 1 w) := by
 obtain ⟨rfl, rfl⟩ := hr.len
 obtain ⟨r1, hc1, r2, hc2⟩ := hr
 exact array_Check.calls t A1 c1 ds A2 c2 es 1 w r1 hc1 r2 hc2 (check_not F)
theorem aconv_bad {a t : Int} {ds : List S54} {es : List S38} (F : ¬ Fine a ds es)
  (A1 A2 : Option Addr) (c1 c2 n m : Nat) (w : World) (hr : Arr w A1 n c1 ds A2 m c2 es) :
  Calls Tryz.prog 8 #[.agg #[.int .i64 a, .slice A1 n c1, .slice A2 m c2], .int .i64 t] w (ResizeNo 1 w) := by
 have HR := Lib.hid hr
 have HF := Lib.hid F
 clear hr F
 have hZ : (((w.alloc (.cells #[.int .i64 a, .slice A1 n c1, .slice A2 m c2] 25)).alloc (.cells #[.int .i64 t] 3)).alloc (.cells #[.int .i64 0, .slice none 0 0, .slice none 0 0] 25)).heap[w.heap.size + 1 + 1]? = some (.cells #[.int .i64 0, .slice none 0 0, .slice none 0 0] 25) := newD w _ _ _
 have hB : Below w.heap.size w (((w.alloc (.cells #[.int .i64 a, .slice A1 n c1, .slice A2 m c2] 25)).alloc (.cells #[.int .i64 t] 3)).alloc (.cells #[.int .i64 0, .slice none 0 0, .slice none 0 0] 25)) := bA (bA (bA (Below.refl _ _) _) _) _
 go_enter Tryz.func8, Tryz.ntmps8
 go_wp2_with (first
  | (go_at_call 18; refine (ck_no HF.out _ _ _ _ _ _ _ (HR.out.below hB)).mono ?_; rintro e w1 ⟨rfl, hb⟩; (replace hB := bS hB hb); (replace hZ := kB hZ hb); (have z0 := c3_0 hZ); (have z1 := c3_1 hZ); (have z2 := c3_2 hZ); (have zl := blk_lt hZ); (have zf0 := kF hZ 0); (have zf1 := kF hZ 1); (have zf2 := kF hZ 2); clear hb))
 have hzw : w.heap.size ≤ w.heap.size + 1 + 1 := by omega
 refine bodyPost_ret (v := .tuple #[.agg #[.int .i64 0, .slice none 0 0, .slice none 0 0], .int .i64 1]) ?_ rfl ⟨rfl, ?_⟩
 ·clear hZ
  simp [results, Tryz.results8, go_sem, z0, z1, z2, zl]
 ·exact bT (bT (bT hB hzw) hzw) hzw
theorem rz_bad {t : Int} {ds l1 : List S54} {es : List S38} (F : ¬ Fine t ds es) (A1 A2 A3 : Option Addr) (c1 c2 c3 n m n3 : Nat) (w : World) (hr : Arr w A1 n c1 ds A2 m c2 es) :
  Calls Tryz.prog 7 #[.agg #[.int .i64 t, .slice A1 n c1, .slice A2 m c2], .slice A3 n3 c3] w (ResizeNo 1 w) := by
 refine (callsIn_wide (n := 0)).1 ?_
 have HR := Lib.hid hr
 have HF := Lib.hid F
 clear hr F
 refine callsIn_of_wp_marks Tryz.func7 rfl trivial ?_
 simp only [Tryz.ntmps7, List.size_toArray, List.length_cons, List.length_nil, Nat.reduceAdd, Nat.reduceSub, Array.replicate_succ, Array.replicate_zero, List.push_toArray, List.append_toArray, List.nil_append, List.cons_append]
 gi_wp2
 have r0 : ((w.alloc (.cells #[.int .i64 t, .slice A1 n c1, .slice A2 m c2] 25)).alloc (.cells #[.int .i64 0, .slice none 0 0, .slice none 0 0] 25)).heap[w.heap.size + 1]? = some (.cells #[.int .i64 0, .slice none 0 0, .slice none 0 0] 25) := nB w _ _
 have hW0 : Below w.heap.size w ((w.alloc (.cells #[.int .i64 t, .slice A1 n c1, .slice A2 m c2] 25)).alloc (.cells #[.int .i64 0, .slice none 0 0, .slice none 0 0] 25)) := bA (bA (Below.refl _ _) _) _
 generalize ((w.alloc (.cells #[.int .i64 t, .slice A1 n c1, .slice A2 m c2] 25)).alloc (.cells #[.int .i64 0, .slice none 0 0, .slice none 0 0] 25)) = W0 at *
 refine ⟨trivial, rfl, ((callsIn_wide (n := 0)).2 (ck_no HF.out A1 A2 c1 c2 n m W0 (HR.out.below hW0))).mono ?_⟩
 rintro e w2 ⟨rfl, hb1⟩
 obtain ⟨r2, p0, p1, p2, pl⟩ := box3b r0 hb1
 have hW2 := bS hW0 hb1
 clear r0 hW0 hb1
 have q0 := kF r2 0
 have q1 := kF r2 1
 have q2 := kF r2 2
 gi_wp2
 have hBf : Below w.heap.size w (((w2.setCell ⟨w.heap.size + 1, 0, none⟩ (.int .i64 0)).setCell ⟨w.heap.size + 1, 1, none⟩ (.slice none 0 0)).setCell ⟨w.heap.size + 1, 2, none⟩ (.slice none 0 0)) := bT (bT (bT hW2 (by omega)) (by omega)) (by omega)
 refine leaves_none ⟨.tuple #[.agg #[.int .i64 0, .slice none 0 0, .slice none 0 0], .int .i64 1], ?_, rfl, hBf⟩
 simp [results, Tryz.results7, go_sem, p0, p1, p2]
end Go.Proofs.Q
end
section
namespace Go.Proofs.Q
open RowKit Shelf Rf Pw Pl Pm
theorem rrz_no1 (t : Int) (A1 A2 A3 : Option Addr) (n m c1 c2 n3 c3 : Nat) (w : World) (HK : Hid (∀ W, Below w.heap.size w W → Calls Tryz.prog 16 #[.agg #[.int .i64 t, .slice A1 n c1, .slice A2 m c2]] W (Bq false W))) :
  Calls Tryz.prog 9 #[.agg #[.int .i64 t, .slice A1 n c1, .slice A2 m c2], .slice A3 n3 c3] w (ResizeNo 1 w) := by
 have hA : ((w.alloc (.cells #[.int .i64 t, .slice A1 n c1, .slice A2 m c2] 25)).alloc (.cells #[.int .i64 0, .slice none 0 0, .slice none 0 0] 25)).heap[w.heap.size]? = some (.cells #[.int .i64 t, .slice A1 n c1, .slice A2 m c2] 25) := kA (heap_alloc_new w _) _
 have hZ : ((w.alloc (.cells #[.int .i64 t, .slice A1 n c1, .slice A2 m c2] 25)).alloc (.cells #[.int .i64 0, .slice none 0 0, .slice none 0 0] 25)).heap[w.heap.size + 1]? = some (.cells #[.int .i64 0, .slice none 0 0, .slice none 0 0] 25) := nB w _ _
 have hB : Below w.heap.size w ((w.alloc (.cells #[.int .i64 t, .slice A1 n c1, .slice A2 m c2] 25)).alloc (.cells #[.int .i64 0, .slice none 0 0, .slice none 0 0] 25)) := bA (bA (Below.refl _ _) _) _
 have hz : w.heap.size ≤ w.heap.size + 1 := Nat.le_succ _
 obtain ⟨⟨x0, x1, x2⟩, xl, _, _, _⟩ := c3_of hA
 go_enter Tryz.func9, Tryz.ntmps9
 go_wp2_with (first
  | (go_at_call 16; refine (HK.out _ hB).mono ?_; rintro e w1 ⟨rfl, hb⟩; clear x0 x1 x2 xl; (replace hA := kB hA hb); (replace hZ := kB hZ hb); (replace hB := bS hB hb); (obtain ⟨⟨z0, z1, z2⟩, zl, zf0, zf1, zf2⟩ := c3_of hZ); clear hb))
 refine bodyPost_ret (v := .tuple #[.agg #[.int .i64 0, .slice none 0 0, .slice none 0 0], .int .i64 1]) (by clear hZ hA; simp [results, Tryz.results9, go_sem, z0, z1, z2, zl]) rfl ⟨rfl, below_set3 hB hz⟩
theorem rrz_no2 (t : Int) (A1 A2 A3 : Option Addr) (n m c1 c2 n3 c3 : Nat) (w : World) (HK : Hid (∀ W, Below w.heap.size w W → Calls Tryz.prog 16 #[.agg #[.int .i64 t, .slice A1 n c1, .slice A2 m c2]] W (Bq true W))) (v : Int) (hv : v ≠ 0) (HN : Hid (∀ W, Below w.heap.size w W → Calls Tryz.prog 13 #[.int .i64 t, .slice A3 n3 c3] W (ResizeNo v W))) :
  Calls Tryz.prog 9 #[.agg #[.int .i64 t, .slice A1 n c1, .slice A2 m c2], .slice A3 n3 c3] w (ResizeNo v w) := by
 have vb : (v != 0) = true := by simpa using hv
 clear hv
 have hA : ((w.alloc (.cells #[.int .i64 t, .slice A1 n c1, .slice A2 m c2] 25)).alloc (.cells #[.int .i64 0, .slice none 0 0, .slice none 0 0] 25)).heap[w.heap.size]? = some (.cells #[.int .i64 t, .slice A1 n c1, .slice A2 m c2] 25) := kA (heap_alloc_new w _) _
 have hZ : ((w.alloc (.cells #[.int .i64 t, .slice A1 n c1, .slice A2 m c2] 25)).alloc (.cells #[.int .i64 0, .slice none 0 0, .slice none 0 0] 25)).heap[w.heap.size + 1]? = some (.cells #[.int .i64 0, .slice none 0 0, .slice none 0 0] 25) := nB w _ _
 have hB : Below w.heap.size w ((w.alloc (.cells #[.int .i64 t, .slice A1 n c1, .slice A2 m c2] 25)).alloc (.cells #[.int .i64 0, .slice none 0 0, .slice none 0 0] 25)) := bA (bA (Below.refl _ _) _) _
 have hz : w.heap.size ≤ w.heap.size + 1 := Nat.le_succ _
 obtain ⟨⟨x0, x1, x2⟩, xl, _, _, _⟩ := c3_of hA
 go_enter Tryz.func9, Tryz.ntmps9
 go_wp2_with (first
  | (go_at_call 16; refine (HK.out _ hB).mono ?_; rintro e w1 ⟨rfl, hb⟩; clear x0 x1 x2 xl; (replace hA := kB hA hb); (replace hZ := kB hZ hb); (replace hB := bS hB hb); (obtain ⟨⟨x0, x1, x2⟩, xl, _, _, _⟩ := c3_of hA); clear hb)
  | (go_at_call 13; refine (HN.out _ hB).mono ?_; rintro e w2 ⟨rfl, hb⟩; clear x0 x1 x2 xl; (replace hA := kB hA hb); (replace hZ := kB hZ hb); (replace hB := bS hB hb); clear hb)
  | ((with_reducible refine gD (N := 6) rfl ?_); refine bX (by rfl) (N := 6) (by rfl) (cs := #[.int .i64 0, .slice none 0 0, .slice none 0 0]) (t := 25) (by first | (go_simp; done) | (go_simp; rfl)) ?_; intro D hD w15 hX hb; (have hDA := hD ▸ Nat.ne_of_gt (blk_lt hA)); (have hAD := Ne.symm hDA); (have hDZ := hD ▸ Nat.ne_of_gt (blk_lt hZ)); (have hZD := Ne.symm hDZ); (replace hA := kB hA hb); (replace hZ := kB hZ hb); (have hDw := Lib.hid (hD ▸ bZ hB : w.heap.size ≤ D)); (replace hB := bS hB hb); (obtain ⟨⟨q0, q1, q2⟩, ql, qf0, qf1, qf2⟩ := c3_of hX); (obtain ⟨⟨z0, z1, z2⟩, zl, zf0, zf1, zf2⟩ := c3_of hZ); skip; clear hb hD))
 refine bodyPost_ret (v := .tuple #[.agg #[.int .i64 0, .slice none 0 0, .slice none 0 0], .int .i64 v]) (by clear hZ hA hX; simp [results, Tryz.results9, go_sem, z0, z1, z2, zl]) rfl ⟨rfl, below_set3 (below_set3 hB hDw.out) hz⟩
theorem rrz_no3 (t : Int) (A1 A2 A3 : Option Addr) (n m c1 c2 n3 c3 : Nat) (w : World) (HK : Hid (∀ W, Below w.heap.size w W → Calls Tryz.prog 16 #[.agg #[.int .i64 t, .slice A1 n c1, .slice A2 m c2]] W (Bq true W))) (hn : ((n3 : Int) != (n : Int)) = true) {l1 : List S54} {ys : List S38} (HN : Hid (∀ W, Below w.heap.size w W → Calls Tryz.prog 13 #[.int .i64 t, .slice A3 n3 c3] W fun e w' => ∃ v1 v2 : Value, e = .returned (.tuple #[.agg #[.int .i64 t, v1, v2], .int .i64 0]) ∧ Kd.R k54 54 w' W.heap.size (fun _ => True) v1 l1 ∧ Kd.R k38 38 w' W.heap.size (fun _ => True) v2 ys ∧ Below W.heap.size W w')) :
  Calls Tryz.prog 9 #[.agg #[.int .i64 t, .slice A1 n c1, .slice A2 m c2], .slice A3 n3 c3] w (ResizeNo 10 w) := by
 have hA : ((w.alloc (.cells #[.int .i64 t, .slice A1 n c1, .slice A2 m c2] 25)).alloc (.cells #[.int .i64 0, .slice none 0 0, .slice none 0 0] 25)).heap[w.heap.size]? = some (.cells #[.int .i64 t, .slice A1 n c1, .slice A2 m c2] 25) := kA (heap_alloc_new w _) _
 have hZ : ((w.alloc (.cells #[.int .i64 t, .slice A1 n c1, .slice A2 m c2] 25)).alloc (.cells #[.int .i64 0, .slice none 0 0, .slice none 0 0] 25)).heap[w.heap.size + 1]? = some (.cells #[.int .i64 0, .slice none 0 0, .slice none 0 0] 25) := nB w _ _
 have hB : Below w.heap.size w ((w.alloc (.cells #[.int .i64 t, .slice A1 n c1, .slice A2 m c2] 25)).alloc (.cells #[.int .i64 0, .slice none 0 0, .slice none 0 0] 25)) := bA (bA (Below.refl _ _) _) _
 have hz : w.heap.size ≤ w.heap.size + 1 := Nat.le_succ _
 obtain ⟨⟨x0, x1, x2⟩, xl, _, _, _⟩ := c3_of hA
 go_enter Tryz.func9, Tryz.ntmps9
 go_wp2_with (first
  | (go_at_call 16; refine (HK.out _ hB).mono ?_; rintro e w1 ⟨rfl, hb⟩; clear x0 x1 x2 xl; (replace hA := kB hA hb); (replace hZ := kB hZ hb); (replace hB := bS hB hb); (obtain ⟨⟨x0, x1, x2⟩, xl, _, _, _⟩ := c3_of hA); clear hb)
  | (go_at_call 13; refine (HN.out _ hB).mono ?_; rintro e w2 ⟨v1, v2, rfl, g1, g2, hb⟩; clear x0 x1 x2 xl; (obtain ⟨V1, e1, hv1⟩ := Kd.R_slice g1); subst hv1; (obtain ⟨V2, e2, hv2⟩ := Kd.R_slice g2); subst hv2; (replace hA := kB hA hb); (replace hZ := kB hZ hb); (replace hB := bS hB hb); clear hb g1 g2)
  | ((with_reducible refine gD (N := 6) rfl ?_); refine bX (by rfl) (N := 6) (by rfl) (cs := #[.int .i64 0, .slice none 0 0, .slice none 0 0]) (t := 25) (by first | (go_simp; done) | (go_simp; rfl)) ?_; intro D hD w15 hX hb; (have hDA := hD ▸ Nat.ne_of_gt (blk_lt hA)); (have hAD := Ne.symm hDA); (have hDZ := hD ▸ Nat.ne_of_gt (blk_lt hZ)); (have hZD := Ne.symm hDZ); (replace hA := kB hA hb); (replace hZ := kB hZ hb); (have hDw := Lib.hid (hD ▸ bZ hB : w.heap.size ≤ D)); (replace hB := bS hB hb); (obtain ⟨⟨q0, q1, q2⟩, ql, qf0, qf1, qf2⟩ := c3_of hX); (obtain ⟨⟨z0, z1, z2⟩, zl, zf0, zf1, zf2⟩ := c3_of hZ); (obtain ⟨⟨x0, x1, x2⟩, xl, _, _, _⟩ := c3_of hA); clear hb hD))
 refine bodyPost_ret (v := .tuple #[.agg #[.int .i64 0, .slice none 0 0, .slice none 0 0], .int .i64 10]) (by clear hZ hA hX; simp [results, Tryz.results9, go_sem, z0, z1, z2, zl]) rfl ⟨rfl, below_set3 (below_set3 hB hDw.out) hz⟩
end Go.Proofs.Q
end
section
namespace Go.Proofs.Q
open RowKit Shelf Rf Pw Pl Pm
section
variable {W : World} {D : Nat} {x y z a b c : Value}
/-- the three cells of a box written -/
theorem s3_put {ty : Nat} (h : W.heap[D]? = some (.cells #[a, b, c] ty)) : (((W.setCell ⟨D, 0, none⟩ x).setCell ⟨D, 1, none⟩ y).setCell ⟨D, 2, none⟩ z).heap[D]? = some (.cells #[x, y, z] ty) :=
 kP (cs := #[x, y, c]) (kP (cs := #[x, b, c]) (kP (cs := #[a, b, c]) h 0 x rfl) 1 y rfl) 2 z rfl
theorem s3_far {g ty : Nat} {cs : Array Value} (h : W.heap[g]? = some (.cells cs ty)) (hn : g ≠ D) : (((W.setCell ⟨D, 0, none⟩ x).setCell ⟨D, 1, none⟩ y).setCell ⟨D, 2, none⟩ z).heap[g]? = some (.cells cs ty) :=
 blk_far (p := ⟨D, 2, none⟩) (blk_far (p := ⟨D, 1, none⟩) (blk_far (p := ⟨D, 0, none⟩) h hn x) hn y) hn z
theorem s3_R {α : Type} {d : Kd α} {e base : Nat} {v : Value} {xs : List α} {ty : Nat} (h : Kd.R d e W base (fun _ => True) v xs) (hX : W.heap[D]? = some (.cells #[a, b, c] ty)) (ht : ∀ q, q ∈ e :: d.E → q ≠ ty) : Kd.R d e (((W.setCell ⟨D, 0, none⟩ x).setCell ⟨D, 1, none⟩ y).setCell ⟨D, 2, none⟩ z) base (fun _ => True) v xs :=
 Kd.R_mono (Kd.R_far (p := ⟨D, 2, none⟩) (Kd.R_far (p := ⟨D, 1, none⟩) (Kd.R_far (p := ⟨D, 0, none⟩) (Kd.R_types h hX ht) (fun _ hk => hk.2) x) (fun _ hk => hk.2) y) (fun _ hk => hk.2) z) (fun _ _ => trivial)
end
end Go.Proofs.Q
end
section
namespace Go.Proofs.Q
open RowKit
/-- what Resize puts at a subscript list -/
def rzX (t : Int) (ds : List S54) (es : List S38) (s : List Int) : S38 := if inB ds s = true then rd_T38 es (plc ds s) else z38t t
theorem resX {t : Int} {ds : List S54} {es : List S38} (hp : ∀ d ∈ ds, 1 ≤ ext d) (hl : (es.length : Int) = prodL ds) (h4 : ds.length ≤ 4) {l1 : List S54} (hn : l1.length = ds.length) : resL t ds es l1 = (allS l1).map (rzX t ds es) := by
 unfold resL
 apply List.map_congr_left
 intro s hs
 have hsl := allS_length l1 s hs
 rw [look_vAt hp hl (by omega) h4]
 unfold rzX
 by_cases hb : inB ds s = true
 ·obtain ⟨x, h1, _, h3, _⟩ := vAt_some hp hl hb
  rw [h1, if_pos hb, h3]; rfl
 ·rw [if_neg hb]; unfold vAt; rw [if_neg hb]; rfl
def prt (f : List Int → S38) (z : S38) (L : List (List Int)) (i : Nat) : List S38 := (L.take i).map f ++ List.replicate (L.length - i) z
theorem prt_len {f : List Int → S38} {z : S38} {L : List (List Int)} {i : Nat} (h : i ≤ L.length) : (prt f z L i).length = L.length := by simp [prt]; omega
theorem prt_zero {f : List Int → S38} {z : S38} {L : List (List Int)} : prt f z L 0 = List.replicate L.length z := by simp [prt]
theorem prt_all {f : List Int → S38} {z : S38} {L : List (List Int)} : prt f z L L.length = L.map f := by simp [prt]
theorem prt_split {f : List Int → S38} {z : S38} {L : List (List Int)} {i : Nat} (h : i < L.length) : prt f z L i = (L.take i).map f ++ z :: List.replicate (L.length - (i + 1)) z ∧ prt f z L (i + 1) = (L.take i).map f ++ f L[i] :: List.replicate (L.length - (i + 1)) z := by
 unfold prt
 refine ⟨?_, ?_⟩
 ·rw [show L.length - i = (L.length - (i + 1)) + 1 by omega, List.replicate_succ]
 ·rw [List.take_succ_eq_append_getElem h, List.map_append, List.append_assoc]; rfl
theorem prt_step {f : List Int → S38} {z : S38} {L : List (List Int)} {i : Nat} (h : i < L.length) : (prt f z L i).set i (f L[i]) = prt f z L (i + 1) := by
 obtain ⟨h1, h2⟩ := prt_split (f := f) (z := z) h
 rw [h1, h2, List.set_append_right _ _ (by simp; omega)]
 congr 1
 have : i - ((L.take i).map f).length = 0 := by simp; omega
 rw [this]; rfl
theorem prt_skip {f : List Int → S38} {z : S38} {L : List (List Int)} {i : Nat} (h : i < L.length) (hz : f L[i] = z) : prt f z L i = prt f z L (i + 1) := by
 obtain ⟨h1, h2⟩ := prt_split (f := f) (z := z) h
 rw [h1, h2, hz]
theorem rdL_get {L : List (List Int)} {i : Int} (h0 : 0 ≤ i) (h1 : i < L.length) : ∃ h : i.toNat < L.length, rd_L10 L i = L[i.toNat] := by
 have h : i.toNat < L.length := by omega
 exact ⟨h, by simp [rd_L10, List.getD, h]⟩
theorem prt_stepI {f : List Int → S38} {z : S38} {L : List (List Int)} {i : Int} (h0 : 0 ≤ i) (h1 : i < L.length) : (prt f z L i.toNat).set i.toNat (f (rd_L10 L i)) = prt f z L (i + 1).toNat ∧ (f (rd_L10 L i) = z → prt f z L i.toNat = prt f z L (i + 1).toNat) ∧ rd_L10 L i ∈ L := by
 obtain ⟨h, e⟩ := rdL_get h0 h1
 rw [e, show (i + 1).toNat = i.toNat + 1 by omega]
 exact ⟨prt_step h, prt_skip h, List.getElem_mem h⟩
end Go.Proofs.Q
end
