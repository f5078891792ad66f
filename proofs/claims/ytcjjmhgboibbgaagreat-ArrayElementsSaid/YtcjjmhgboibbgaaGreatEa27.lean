/-
 Texts of the proof, in build order: words that the walks use, contracts of functions, plain facts.
-/
import Derived.Test.YtcjjmhgboibbgaaGreatEa4
import Derived.Test.YtcjjmhgboibbgaaGreatEa23
import Derived.Test.YtcjjmhgboibbgaaGreatEa25
import Derived.Test.YtcjjmhgboibbgaaGreatEa26
set_option maxHeartbeats 40000000
set_option maxRecDepth 100000
set_option linter.unusedVariables false
set_option linter.unusedSimpArgs false
section
namespace Go.Proofs.Q
open RowKit Pw Pl Pm
attribute [local go_sem] max2_int min2_int max_two min_two max_three min_three max_four min_four
def manorboyref08_New.l0 : Nat → Int → Int → Int → Int → List (S54) → List (S38) → Option (Int × (List (S54)) × (List (S38)) × Int)
 | 0, _, _, _, _, _, _ => none
 | k + 1, x0, x7, x9, x143000, x143001, x143002 => if x9 < x7 then ((manorboyref08_zero.f x0).bind fun bt143 => (if x143002.length < 3518437208883 then (manorboyref08_New.l0 k x0 x7 (wrap64 (x9 + 1)) x143000 x143001 (x143002 ++ [(⟨bt143.1, bt143.2.1, (⟨bt143.2.2.1, bt143.2.2.2.1⟩ : S36), bt143.2.2.2.2⟩ : S38)])) else (none))) else (some (x143000, x143001, x143002, 0))
def manorboyref08_New.f (k : Nat) (a0 : Int) (l1 : List (S54)) : Option (Int × (List (S54)) × (List (S38)) × Int) := (manorboyref08_IsType.f a0).bind fun t133 => (if t133 = true then ((manorboyref08_Error.f k l1).bind fun t134 => (if t134 = 0 then ((manorboyref08_size.f k l1).bind fun t135 => ((some (([] : List (S54)) : List (S54))).bind fun y136 => (if y136.length + l1.length < 8796093022208 then (manorboyref08_New.l0 k a0 t135 0 a0 (y136 ++ l1) ([] : List (S38))) else (none)))) else (some (0, ([] : List (S54)), ([] : List (S38)), t134)))) else (some (0, ([] : List (S54)), ([] : List (S38)), 1)))
def manorboyref08_New.T11 : Bool × List (List Nat × List Nat) := (true, [([], []), ([0], [0]), ([], []), ([2], [2]), ([3], [3]), ([1, 4, 3], [1, 4]), ([0, 1, 2, 3, 4, 5], []), ([6, 5, 5, 0, 1, 2, 3, 4, 5], [5, 6])])
def manorboyref08_New.B11 : List Nat := [0, 1, 0, 4, 12, 31, 63, 127]
theorem manorboyref08_New.tab11 : rtab .any (opsOf Tryz.f13 11) = manorboyref08_New.T11 := by kernel_rfl
theorem manorboyref08_New.bits11 : waitsOk manorboyref08_New.T11.2 manorboyref08_New.B11 = true := by kernel_rfl
theorem manorboyref08_New.calls (k : Nat) (a0 : Int) (A1 : Option Addr) (c1 : Nat) (l1 : List (S54)) (r1 : Int) (r2 : List (S54)) (r3 : List (S38)) (r4 : Int) (w : World) (hr1 : Kd.C k54 w A1 l1.length l1) (hc1 : l1.length ≤ c1) (h : manorboyref08_New.f k a0 l1 = some (r1, r2, r3, r4)) :
  Calls Tryz.prog 13 #[.int .i64 a0, .slice A1 l1.length c1] w fun e w' => ∃ v1_ v2_ : Value, e = .returned (.tuple #[.agg #[.int .i64 r1, v1_, v2_], .int .i64 r4]) ∧ Kd.R k54 54 w' w.heap.size (fun _ => True) v1_ r2 ∧ Kd.R k38 38 w' w.heap.size (fun _ => True) v2_ r3 ∧ Below w.heap.size w w' := by
 have hu25 := Tryz.underlying25
 have HR1 := As.mk hr1
 have HC1 := As.mk hc1
 clear hr1 hc1
 have HB := As.mk (Below.refl w.heap.size w)
 have H : ((manorboyref08_IsType.f a0).bind fun t133 => (if t133 = true then ((manorboyref08_Error.f k l1).bind fun t134 => (if t134 = 0 then ((manorboyref08_size.f k l1).bind fun t135 => ((some (([] : List (S54)) : List (S54))).bind fun y136 => (if y136.length + l1.length < 8796093022208 then (manorboyref08_New.l0 k a0 t135 0 a0 (y136 ++ l1) ([] : List (S38))) else (none)))) else (some (0, ([] : List (S54)), ([] : List (S38)), t134)))) else (some (0, ([] : List (S54)), ([] : List (S38)), 1)))) = some (r1, r2, r3, r4) := h
 clear h
 replace H := Option.bind_eq_some_iff.mp H
 obtain ⟨t133, A30, H⟩ := H
 replace H : (if t133 = true then ((manorboyref08_Error.f k l1).bind fun t134 => (if t134 = 0 then ((manorboyref08_size.f k l1).bind fun t135 => ((some (([] : List (S54)) : List (S54))).bind fun y136 => (if y136.length + l1.length < 8796093022208 then (manorboyref08_New.l0 k a0 t135 0 a0 (y136 ++ l1) ([] : List (S38))) else (none)))) else (some (0, ([] : List (S54)), ([] : List (S38)), t134)))) else (some (0, ([] : List (S54)), ([] : List (S38)), 1))) = some (r1, r2, r3, r4) := H
 have A3 := As.mk A30
 clear A30
 by_cases c4 : t133 = true
 ·subst c4
  have H1 : ((manorboyref08_Error.f k l1).bind fun t134 => (if t134 = 0 then ((manorboyref08_size.f k l1).bind fun t135 => ((some (([] : List (S54)) : List (S54))).bind fun y136 => (if y136.length + l1.length < 8796093022208 then (manorboyref08_New.l0 k a0 t135 0 a0 (y136 ++ l1) ([] : List (S38))) else (none)))) else (some (0, ([] : List (S54)), ([] : List (S38)), t134)))) = some (r1, r2, r3, r4) := by rw [if_pos rfl] at H; exact H
  clear H
  have H := H1
  clear H1
  replace H := Option.bind_eq_some_iff.mp H
  obtain ⟨t134, A50, H⟩ := H
  replace H : (if t134 = 0 then ((manorboyref08_size.f k l1).bind fun t135 => ((some (([] : List (S54)) : List (S54))).bind fun y136 => (if y136.length + l1.length < 8796093022208 then (manorboyref08_New.l0 k a0 t135 0 a0 (y136 ++ l1) ([] : List (S38))) else (none)))) else (some (0, ([] : List (S54)), ([] : List (S38)), t134))) = some (r1, r2, r3, r4) := H
  have A5 := As.mk A50
  clear A50
  by_cases c6 : t134 = 0
  ·rw [if_pos c6] at H
   have c6b0 : (t134 == 0) = true := beq_iff_eq.mpr c6
   have c6b1 : (t134 != 0) = false := bne_eq_false_iff_eq.mpr c6
   clear c6
   replace H := Option.bind_eq_some_iff.mp H
   obtain ⟨t135, A70, H⟩ := H
   replace H : ((some (([] : List (S54)) : List (S54))).bind fun y136 => (if y136.length + l1.length < 8796093022208 then (manorboyref08_New.l0 k a0 t135 0 a0 (y136 ++ l1) ([] : List (S38))) else (none))) = some (r1, r2, r3, r4) := H
   have A7 := As.mk A70
   clear A70
   obtain ⟨y136, hy136⟩ : ∃ y_ : List (S54), y_ = (([] : List (S54))) := ⟨_, rfl⟩
   replace H : (if y136.length + l1.length < 8796093022208 then (manorboyref08_New.l0 k a0 t135 0 a0 (y136 ++ l1) ([] : List (S38))) else (none)) = some (r1, r2, r3, r4) := by first | (rw [hy136]; with_reducible exact H) | (have H2_ := (Option.bind_some _ _).symm.trans H; rw [hy136]; with_reducible exact H2_) | (have H2_ := (Option.bind_some _ _).symm.trans H; with_reducible exact H2_) | with_reducible exact H | (rw [hy136]; exact H) | exact H
   have Ny136 := As.mk hy136
   clear hy136
   by_cases c8 : y136.length + l1.length < 8796093022208
   ·rw [if_pos c8] at H
    have LMc8 := As.mk c8
    clear c8
    obtain ⟨y139, hy139⟩ : ∃ y_ : List (S54), y_ = (y136 ++ l1) := ⟨_, rfl⟩
    replace H : (manorboyref08_New.l0 k a0 t135 0 a0 y139 ([] : List (S38))) = some (r1, r2, r3, r4) := by first | (rw [hy139]; with_reducible exact H) | (have H2_ := (Option.bind_some _ _).symm.trans H; rw [hy139]; with_reducible exact H2_) | (have H2_ := (Option.bind_some _ _).symm.trans H; with_reducible exact H2_) | with_reducible exact H | (rw [hy139]; exact H) | exact H
    have Ny139 := As.mk hy139
    clear hy139
    have H' := As.mk H
    clear H
    go_enter Tryz.func13, Tryz.ntmps13
    go_wp2_with (first | ((with_reducible refine gD (N := 4) rfl ?_); refine bx 4 #[.int .i64 0, .slice none 0 0, .slice none 0 0] 25 ?_; intro gb132 hg w9 hbox hb; have BK132 := As.mk (hbox); have GW132 := As.mk ((by rw [hg]; exact (bZ zz) : w.heap.size ≤ gb132)); have GE132 := GW132; replace HB := As.mk (bS zz hb); clear hb hbox hg) | ((with_reducible refine gC (f := 42) rfl ?_); refine gl 11 Tryz.func42 #[.int .i64 a0] ?_; (with_reducible refine (manorboyref08_IsType.calls a0 true _ A3.out).mono ?_); rintro e w' ⟨rfl, ⟨nd, rfl⟩⟩; refine ⟨_, rfl, ?_⟩; (try (rw [drewN_self w9]; generalize hq_ : World.drewN w9 _ = w9; have n0_ : As (w9.heap[gb132]? = some (.cells #[.int .i64 0, .slice none 0 0, .slice none 0 0] 25 (0, 0))) := ⟨by rw [← hq_]; exact (by (with_reducible repeat (first | apply kN | apply kD | apply kA)); exact BK132.out)⟩; have n1_ : As (Below w.heap.size w w9) := ⟨by rw [← hq_]; exact (by repeat (first | (with_reducible first | exact HB.out | apply bA | apply bN | apply bD | refine bT ?_ GE132.out) | exact HB.out))⟩; clear BK132 HB hq_; have BK132 := n0_; have HB := n1_; clear n0_ n1_))) | ((with_reducible refine gC (f := 45) rfl ?_); refine gl 15 Tryz.func45 #[.slice A1 l1.length c1] ?_; (with_reducible refine (manorboyref08_Error.calls k _ _ l1 t134 _ ?side1 ?side2 A5.out).mono ?_); (case side1 => repeat (first | exact (Kd.C_below HR1.out HB.out) | (with_reducible first | apply Kd.C_alloc | apply Kd.C_drewN | apply Kd.C_drew))); (case side2 => exact HC1.out); rintro e w10 ⟨rfl, hb⟩; refine ⟨_, rfl, ?_⟩; replace BK132 := As.mk (kB (g := gb132) (o := .cells #[.int .i64 0, .slice none 0 0, .slice none 0 0] 25 (0, 0)) (by (with_reducible repeat (first | apply kN | apply kD | apply kA)); exact BK132.out) hb); replace HB := As.mk (bS (by repeat (first | (with_reducible first | exact HB.out | apply bA | apply bN | apply bD | refine bT ?_ GE132.out) | exact HB.out)) hb); (try clear hb)) | ((with_reducible refine gC (f := 46) rfl ?_); refine gl 21 Tryz.func46 #[.slice A1 l1.length c1] ?_; (with_reducible refine (manorboyref08_size.calls k _ _ l1 t135 _ ?side1 ?side2 A7.out).mono ?_); (case side1 => repeat (first | exact (Kd.C_below HR1.out HB.out) | (with_reducible first | apply Kd.C_alloc | apply Kd.C_drewN | apply Kd.C_drew))); (case side2 => exact HC1.out); rintro e w' ⟨rfl, ⟨nd, rfl⟩⟩; refine ⟨_, rfl, ?_⟩; (try (rw [drewN_self w10]; generalize hq_ : World.drewN w10 _ = w10; have n0_ : As (w10.heap[gb132]? = some (.cells #[.int .i64 0, .slice none 0 0, .slice none 0 0] 25 (0, 0))) := ⟨by rw [← hq_]; exact (by (with_reducible repeat (first | apply kN | apply kD | apply kA)); exact BK132.out)⟩; have n1_ : As (Below w.heap.size w w10) := ⟨by rw [← hq_]; exact (by repeat (first | (with_reducible first | exact HB.out | apply bA | apply bN | apply bD | refine bT ?_ GE132.out) | exact HB.out))⟩; clear BK132 HB hq_; have BK132 := n0_; have HB := n1_; clear n0_ n1_))) | ((with_reducible refine gD (N := 23) rfl ?_); refine Kd.R_lit k54 _ 54 ?hg (N := 23) ?hd (xs := ([] : List (S54))) (inner := []) (ok := fun _ => True) (okp := fun _ => True) ?hr ?hp (fun _ hk => hk) trivial (Below.refl _ _) (Nat.le_refl _) (by simp) ?_; (case hd => rfl); (case hg => rfl); (case hr => first | (go_simp; done) | (go_simp; rfl)); (case hp => exact (Reps.none _ _)); intro v137 w11 ho12 hb hg_ hnew_; clear hg_ hnew_; (first | rw [← Ny136.out] at ho12 | (simp only [Int.reduceToNat] at ho12; rw [← Ny136.out] at ho12)); have HO138 := As.mk (Kd.R_lower ho12 (bZ (by repeat (first | (with_reducible first | exact HB.out | apply bA | apply bN | apply bD | refine bT ?_ GE132.out) | exact HB.out)))); replace BK132 := As.mk (kB (g := gb132) (o := .cells #[.int .i64 0, .slice none 0 0, .slice none 0 0] 25 (0, 0)) (by (with_reducible repeat (first | apply kN | apply kD | apply kA)); exact BK132.out) hb); replace HB := As.mk (bS (by repeat (first | (with_reducible first | exact HB.out | apply bA | apply bN | apply bD | refine bT ?_ GE132.out) | exact HB.out)) hb); clear hb ho12) | ((with_reducible refine gB (b := .append) (xs := #[.tmp 23, .tmp 24]) rfl ?_); at_builtin; refine Kd.R_append_rows k54 (w0 := w) w.heap.size rfl (.tmp 23) (.tmp 24) 22 54 (.agg #[(.int .i64 0), (.int .i64 0)]) 16 rfl Tryz.underlying22 info54 rfl (by decide) (by omega) v137 y136 l1 _ _ _ (fun _ => True) (fun _ => False) rfl rfl ?aO ?aR (fun _ _ h => h) (fun _ h => h.elim) ?aF ?aB ?aS ?aL ?_; (case aR => repeat (first | exact (Kd.C_below HR1.out HB.out) | (with_reducible first | apply Kd.C_alloc | apply Kd.C_drewN | apply Kd.C_drew))); (case aB => exact (by repeat (first | (with_reducible first | exact HB.out | apply bA | apply bN | apply bD | refine bT ?_ GE132.out) | exact HB.out))); (case aF => exact (fun _ _ => trivial)); (case aO => exact (by (with_reducible repeat (first | apply Kd.R_alloc | apply Kd.R_drewN | apply Kd.R_drew)); exact HO138.out)); (case aS => exact (bZ (by repeat (first | (with_reducible first | exact HB.out | apply bA | apply bN | apply bD | refine bT ?_ GE132.out) | exact HB.out)))); (case aL => have := LMc8.out; omega); intro v140 w13 ho hb hg hat; rw [← Ny139.out] at ho; replace BK132 := As.mk (blk_grown (g := gb132) (o := .cells #[.int .i64 0, .slice none 0 0, .slice none 0 0] 25 (0, 0)) (by (with_reducible repeat (first | apply kN | apply kD | apply kA)); exact BK132.out) hg (Kd.R_ne HO138.out BK132.out (by decide))); replace HB := As.mk (hb); have HO141 := As.mk (ho); clear HO138; clear ho hb hg hat; obtain ⟨Ao14, co14, eo14⟩ := Kd.R_slice HO141.out; subst eo14) | ((with_reducible refine gD (N := 8) rfl ?_); refine bx 8 #[.int .i64 0, .slice none 0 0, .slice none 0 0] 25 ?_; intro gb142 hg w15 hbox hb; replace HO141 := As.mk (Kd.R_below (by (with_reducible repeat (first | apply Kd.R_alloc | apply Kd.R_drewN | apply Kd.R_drew)); exact HO141.out) hb); have BK142 := As.mk (hbox); have GW142 := As.mk ((by rw [hg]; exact (bZ (by repeat (first | (with_reducible first | exact HB.out | apply bA | apply bN | apply bD | refine bT ?_ GE132.out) | exact HB.out))) : w.heap.size ≤ gb142)); have GE142 := GW142; replace HB := As.mk (bS (by repeat (first | (with_reducible first | exact HB.out | apply bA | apply bN | apply bD | refine bT ?_ GE132.out) | exact HB.out)) hb); have NB132_142 := As.mk ((by rw [hg]; exact Nat.ne_of_lt (blk_lt (g := gb132) (o := .cells #[.int .i64 0, .slice none 0 0, .slice none 0 0] 25 (0, 0)) (by (with_reducible repeat (first | apply kN | apply kD | apply kA)); exact BK132.out)) : gb132 ≠ gb142)); have NB142_132 := As.mk ((by rw [hg]; exact Nat.ne_of_gt (blk_lt (g := gb132) (o := .cells #[.int .i64 0, .slice none 0 0, .slice none 0 0] 25 (0, 0)) (by (with_reducible repeat (first | apply kN | apply kD | apply kA)); exact BK132.out)) : gb142 ≠ gb132)); replace BK132 := As.mk (kB (g := gb132) (o := .cells #[.int .i64 0, .slice none 0 0, .slice none 0 0] 25 (0, 0)) (by (with_reducible repeat (first | apply kN | apply kD | apply kA)); exact BK132.out) hb); clear hb hbox hg; have hnb16 := NB142_132.out; have hnc16 := NB132_142.out; have hcz17_0 : w15.cell? ⟨gb142, 0, none⟩ = some (.int .i64 0) := (kC BK142.out 0).trans rfl; have hcz17_1 : w15.cell? ⟨gb142, 1, none⟩ = some (.slice none 0 0) := (kC BK142.out 1).trans rfl; have hcz17_2 : w15.cell? ⟨gb142, 2, none⟩ = some (.slice none 0 0) := (kC BK142.out 2).trans rfl; have hfz17_0 := kF BK142.out 0; have hfz17_1 := kF BK142.out 1; have hfz17_2 := kF BK142.out 2))
    go_loopg [9] k (fun kq v9 w' => ∃ (x9_1 : Int) (x143002_1 : List (S38)) (u143002 : Value), v9 = .int .i64 x9_1 ∧ As (manorboyref08_New.l0 kq a0 t135 x9_1 a0 y139 x143002_1 = some (r1, r2, r3, r4)) ∧ As (kq ≤ k) ∧ As (Kd.R k54 54 w' w.heap.size (fun _ => True) (.slice Ao14 y139.length co14) y139) ∧ As (Kd.R k38 38 w' w.heap.size (fun _ => True) u143002 x143002_1) ∧ As (w'.heap[gb132]? = some (.cells #[.int .i64 0, (.slice none 0 0), (.slice none 0 0)] 25 (0, 0))) ∧ As (w'.heap[gb142]? = some (.cells #[.int .i64 a0, (.slice Ao14 y139.length co14), u143002] 25 (0, 0))) ∧ As (Below w.heap.size w w'))
    case atStart => exact ⟨(0), (([] : List (S38))), (.slice none 0 0), (by first | rfl | (simp; done) | (simp [*]; done)), H', ⟨Nat.le_refl _⟩, ⟨by (with_reducible repeat (first | apply Kd.R_alloc | apply Kd.R_drewN | apply Kd.R_drew)); exact Kd.R_mono (Kd.R_far (p := ⟨gb142, 2, none⟩) (Kd.R_far (p := ⟨gb142, 1, none⟩) (Kd.R_far (p := ⟨gb142, 0, none⟩) (Kd.R_types HO141.out BK142.out (by decide)) (fun _ hk => hk.2) (.int .i64 a0)) (fun _ hk => hk.2) (.slice Ao14 y139.length co14)) (fun _ hk => hk.2) (.slice none 0 0)) (fun _ hk => trivial)⟩, ⟨by first | exact Kd.R_nil _ _ _ _ _ | exact Kd.N_nil _ _ _ _ _ | exact Kd.V_nil _ _ _ _ _ | exact Kd.Q_nil _ _ _ _ _ | exact Kd.S_nil _ _ _ _ _⟩, ⟨by (with_reducible repeat (first | apply kN | apply kD | apply kA)); refine blk_far ?_ NB132_142.out _; (with_reducible repeat (first | apply kN | apply kD | apply kA)); refine blk_far ?_ NB132_142.out _; (with_reducible repeat (first | apply kN | apply kD | apply kA)); refine blk_far ?_ NB132_142.out _; (with_reducible repeat (first | apply kN | apply kD | apply kA)); exact BK132.out⟩, ⟨by (with_reducible repeat (first | apply kN | apply kD | apply kA)); refine kP (cs := #[.int .i64 a0, .slice Ao14 y139.length co14, .slice none 0 0]) ?_ 2 _ rfl; (with_reducible repeat (first | apply kN | apply kD | apply kA)); refine kP (cs := #[.int .i64 a0, .slice none 0 0, .slice none 0 0]) ?_ 1 _ rfl; (with_reducible repeat (first | apply kN | apply kD | apply kA)); refine kP (cs := #[.int .i64 0, .slice none 0 0, .slice none 0 0]) ?_ 0 _ rfl; (with_reducible repeat (first | apply kN | apply kD | apply kA)); exact BK142.out⟩, ⟨by repeat (first | (with_reducible first | exact HB.out | apply bA | apply bN | apply bD | refine bT ?_ GE132.out | refine bT ?_ GE142.out) | exact HB.out)⟩⟩
    case round =>
     clear H'
     try clear c1
     try clear p2
     try clear c4
     try clear c6
     try clear c6b0
     try clear c6b1
     try clear c8
     try clear c13
     try clear c16
     try clear hcz17_0
     try clear hcz17_1
     try clear hcz17_2
     try clear hfz17_0
     try clear hfz17_1
     try clear hfz17_2
     obtain ⟨x9_1, x143002_1, u143002, rfl, HA, HK1, HO_143001, HO_143002, BK132, BK142, HB⟩ := hrel
     cases gk with
     | zero => exact absurd HA.out (by simp [manorboyref08_New.l0])
     | succ k1 =>
      have H := HA.out
      clear HA
      simp only [manorboyref08_New.l0] at H
      by_cases c18 : x9_1 < t135
      ·rw [if_pos c18] at H
       have c18b0 : decide (x9_1 < t135) = true := decide_eq_true c18
       clear c18
       replace H := Option.bind_eq_some_iff.mp H
       obtain ⟨⟨t143, t144, t145, t146, t147⟩, A190, H⟩ := H
       replace H : (if x143002_1.length < 3518437208883 then (manorboyref08_New.l0 k1 a0 t135 (wrap64 (x9_1 + 1)) a0 y139 (x143002_1 ++ [(⟨t143, t144, (⟨t145, t146⟩ : S36), t147⟩ : S38)])) else (none)) = some (r1, r2, r3, r4) := H
       have A19 := As.mk A190
       clear A190
       by_cases c20 : x143002_1.length < 3518437208883
       ·rw [if_pos c20] at H
        have LMc20 := As.mk c20
        clear c20
        obtain ⟨y148, hy148⟩ : ∃ y_ : List (S38), y_ = (x143002_1 ++ [(⟨t143, t144, (⟨t145, t146⟩ : S36), t147⟩ : S38)]) := ⟨_, rfl⟩
        replace H : (manorboyref08_New.l0 k1 a0 t135 (wrap64 (x9_1 + 1)) a0 y139 y148) = some (r1, r2, r3, r4) := by first | (rw [hy148]; with_reducible exact H) | (have H2_ := (Option.bind_some _ _).symm.trans H; rw [hy148]; with_reducible exact H2_) | (have H2_ := (Option.bind_some _ _).symm.trans H; with_reducible exact H2_) | with_reducible exact H | (rw [hy148]; exact H) | exact H
        have Ny148 := As.mk hy148
        clear hy148
        have H' := As.mk H
        clear H
        try go_wp2
        replace HO_143001 := As.mk (Kd.R_drew HO_143001.out)
        replace HO_143002 := As.mk (Kd.R_drew HO_143002.out)
        replace BK132 := As.mk (kD BK132.out)
        replace BK142 := As.mk (kD BK142.out)
        replace HB := As.mk (bD HB.out)
        refine start_ (n := 8) (S := fun w' => w'.cell? ⟨gb142, 0, none⟩ = some (.int .i64 a0) ∧ w'.cell? ⟨gb142, 1, none⟩ = some (.slice Ao14 y139.length co14) ∧ w'.cell? ⟨gb142, 2, none⟩ = some (u143002)) (ds := [7]) #[false, false, false, false, false, false, false, false] (by kernel_rfl) rfl rfl ⟨(kC BK142.out 0).trans rfl, (kC BK142.out 1).trans rfl, (kC BK142.out 2).trans rfl⟩ (fun hHeld => ?_); refine with_tabW manorboyref08_New.tab11 manorboyref08_New.bits11 (fun HT_ HW_ => ?_)
        generalize wr.drew = w21 at HO_143001 HO_143002 BK132 BK142 HB hHeld ⊢
        refine pw 0 32 8 1 HT_ ?_
        refine pw 2 34 8 5 HT_ ?_
        refine tw 1 33 8 7 HT_ HW_ hHeld ?_
        refine one_ (i := 3) (N := some 35) #[true, true, true, true, false, false, false, false] rfl rfl (one_of HT_.out (by kernel_rfl)) (by decide) (fun K hK => ?_)
        refine gs Tryz.func47 #[.int .i64 a0] ?_
        with_reducible refine (manorboyref08_zero.calls a0 t143 t144 t145 t146 t147 _ A19.out).mono ?_
        rintro e w22 ⟨rfl, hb⟩
        refine ⟨_, rfl, ?_⟩
        replace HO_143001 := As.mk (Kd.R_below (by (with_reducible repeat (first | apply Kd.R_alloc | apply Kd.R_drewN | apply Kd.R_drew)); exact HO_143001.out) hb)
        replace HO_143002 := As.mk (Kd.R_below (by (with_reducible repeat (first | apply Kd.R_alloc | apply Kd.R_drewN | apply Kd.R_drew)); exact HO_143002.out) hb)
        replace BK132 := As.mk (kB (g := gb132) (o := .cells #[.int .i64 0, .slice none 0 0, .slice none 0 0] 25 (0, 0)) (by (with_reducible repeat (first | apply kN | apply kD | apply kA)); exact BK132.out) hb)
        replace BK142 := As.mk (kB (g := gb142) (o := .cells #[.int .i64 a0, .slice Ao14 y139.length co14, u143002] 25 (0, 0)) (by (with_reducible repeat (first | apply kN | apply kD | apply kA)); exact BK142.out) hb)
        replace HB := As.mk (bS (by repeat (first | (with_reducible first | exact HB.out | apply bA | apply bN | apply bD | refine bT ?_ GE132.out | refine bT ?_ GE142.out) | exact HB.out)) hb)
        (try clear hb)
        (try clear hb2)
        (try clear hk)
        (try clear hi)
        refine hK.out _ _ ⟨(kC BK142.out 0).trans rfl, (kC BK142.out 1).trans rfl, (kC BK142.out 2).trans rfl⟩ (fun hHeld => ?_)
        clear hK K
        refine nm 35 ?_
        refine one_ (i := 4) (N := some 36) #[true, true, true, true, true, false, false, false] rfl rfl (one_of HT_.out (by kernel_rfl)) (by decide) (fun K hK => ?_)
        refine value_ (w1 := ?_) (v := ?_) (by rfl) rfl ?_ ?_
        rotate_left 2
        ·go_simp
         constructor
         ·rfl
         ·rfl
        refine hK.out _ _ ⟨(kC (kA BK142.out _) 0).trans rfl, (kC (kA BK142.out _) 1).trans rfl, (kC (kA BK142.out _) 2).trans rfl⟩ (fun hHeld => ?_)
        clear hK K
        refine nm 36 ?_
        refine one_ (i := 5) (N := some 37) #[true, true, true, true, true, true, false, false] rfl rfl (one_of HT_.out (by kernel_rfl)) (by decide) (fun K hK => ?_)
        refine Kd.R_append_step k38 (w0 := w) w.heap.size (by rfl) (.tmp 33) (.tmp 36) 23 38 (.agg #[(.int .i64 0), (.int .i64 0), (.int .i64 0), (.int .i64 0), (.bool false)]) 40 rfl Tryz.underlying23 info38 rfl (by decide) (by omega) u143002 x143002_1 (⟨t143, t144, (⟨t145, t146⟩ : S36), t147⟩ : S38) [.int .i64 t143, .int .i64 t144, .int .i64 t145, .int .i64 t146, .bool t147] (fun _ => True) (fun _ => False) rfl rfl ?aP (fun _ hk => hk.elim) ?aF ?aO ?aB ?aS ?aL ?_
        (case aP => exact k38_mkM _ _ _ (⟨t143, t144, (⟨t145, t146⟩ : S36), t147⟩ : S38))
        (case aB => exact (by repeat (first | (with_reducible first | exact HB.out | apply bA | apply bN | apply bD | refine bT ?_ GE132.out | refine bT ?_ GE142.out) | exact HB.out)))
        (case aF => exact (fun _ _ => trivial))
        (case aO => exact (by (with_reducible repeat (first | apply Kd.R_alloc | apply Kd.R_drewN | apply Kd.R_drew)); exact HO_143002.out))
        (case aS => exact (bZ (by repeat (first | (with_reducible first | exact HB.out | apply bA | apply bN | apply bD | refine bT ?_ GE132.out | refine bT ?_ GE142.out) | exact HB.out))))
        (case aL => have := LMc20.out; omega)
        intro v149 w23 ho hb hg hat
        rw [← Ny148.out] at ho
        replace HO_143001 := As.mk (Kd.R_over' (by (with_reducible repeat (first | apply Kd.R_alloc | apply Kd.R_drewN | apply Kd.R_drew)); exact HO_143001.out) (Kd.R_typed (by (with_reducible repeat (first | apply Kd.R_alloc | apply Kd.R_drewN | apply Kd.R_drew)); exact HO_143002.out)) (by decide) hg)
        replace BK132 := As.mk (blk_grown (g := gb132) (o := .cells #[.int .i64 0, .slice none 0 0, .slice none 0 0] 25 (0, 0)) (by (with_reducible repeat (first | apply kN | apply kD | apply kA)); exact BK132.out) hg (Kd.R_ne HO_143002.out BK132.out (by decide)))
        replace BK142 := As.mk (blk_grown (g := gb142) (o := .cells #[.int .i64 a0, .slice Ao14 y139.length co14, u143002] 25 (0, 0)) (by (with_reducible repeat (first | apply kN | apply kD | apply kA)); exact BK142.out) hg (Kd.R_ne HO_143002.out BK142.out (by decide)))
        replace HB := As.mk (hb)
        have HO150 := As.mk (ho)
        clear HO_143002
        clear ho hb hg hat
        obtain ⟨Ao24, co24, eo24⟩ := Kd.R_slice HO150.out
        (first | subst eo24 | (injection eo24 with f1_ f2_ f3_; have f4_ := f1_.symm; have f5_ := f3_.symm; clear f1_ f2_ f3_; subst f4_; subst f5_))
        refine hK.out _ _ ⟨(kC BK142.out 0).trans rfl, (kC BK142.out 1).trans rfl, (kC BK142.out 2).trans rfl⟩ (fun hHeld => ?_)
        clear hK K
        refine nm 37 ?_
        refine pw 6 38 8 127 HT_ ?_
        refine last_ (i := 7) (N := none) #[true, true, true, true, true, true, true, true] rfl rfl (one_of HT_.out (by kernel_rfl)) (by decide) (fun K hK => ?_)
        have hs25 : w23.cell? ⟨gb142, 2, none⟩ = some (u143002) := (kC BK142.out 2).trans rfl
        have hfs25 := kF BK142.out 2
        have hns25_0 := NB132_142.out
        have hms25_0 := NB142_132.out
        refine skip_ (w1 := ?_) (by rfl) rfl ?_ ?_
        rotate_left
        ·go_simp
         rfl
        refine hK.out _ _ ?_
        clear hK K
        refine done_ (done_of HT_.out (by kernel_rfl)) ?_
        try go_wp2
        go_roundg k1
        case measure => have := HK1.out; omega
        case rel => exact ⟨(wrap64 (x9_1 + 1)), (y148), (.slice Ao24 y148.length co24), (by first | rfl | (simp; done) | (simp [*]; done)), H', ⟨by have := HK1.out; omega⟩, ⟨by (with_reducible repeat (first | apply Kd.R_alloc | apply Kd.R_drewN | apply Kd.R_drew)); exact Kd.R_mono (Kd.R_far (p := ⟨gb142, 2, none⟩) (Kd.R_types HO_143001.out BK142.out (by decide)) (fun _ hk => hk.2) (.slice Ao24 y148.length co24)) (fun _ hk => trivial)⟩, ⟨by (with_reducible repeat (first | apply Kd.R_alloc | apply Kd.R_drewN | apply Kd.R_drew)); exact Kd.R_mono (Kd.R_far (p := ⟨gb142, 2, none⟩) (Kd.R_types HO150.out BK142.out (by decide)) (fun _ hk => hk.2) (.slice Ao24 y148.length co24)) (fun _ hk => trivial)⟩, ⟨by (with_reducible repeat (first | apply kN | apply kD | apply kA)); refine blk_far ?_ NB132_142.out _; (with_reducible repeat (first | apply kN | apply kD | apply kA)); exact BK132.out⟩, ⟨by (with_reducible repeat (first | apply kN | apply kD | apply kA)); refine kP (cs := #[.int .i64 a0, .slice Ao14 y139.length co14, u143002]) ?_ 2 _ rfl; (with_reducible repeat (first | apply kN | apply kD | apply kA)); exact BK142.out⟩, ⟨by repeat (first | (with_reducible first | exact HB.out | apply bA | apply bN | apply bD | refine bT ?_ GE132.out | refine bT ?_ GE142.out) | exact HB.out)⟩⟩
       ·rw [if_neg c20] at H
        exact absurd H (by simp)
      ·rw [if_neg c18] at H
       have c18b0 : decide (x9_1 < t135) = false := decide_eq_false c18
       clear c18
       simp only [Option.some.injEq, Prod.mk.injEq] at H
       obtain ⟨rfl, rfl, rfl, rfl⟩ := H
       have hnb26 := NB142_132.out
       have hnc26 := NB132_142.out
       have hcz27_0 : wr.cell? ⟨gb142, 0, none⟩ = some (.int .i64 a0) := (kC BK142.out 0).trans rfl
       have hcz27_1 : wr.cell? ⟨gb142, 1, none⟩ = some (.slice Ao14 y139.length co14) := (kC BK142.out 1).trans rfl
       have hcz27_2 : wr.cell? ⟨gb142, 2, none⟩ = some (u143002) := (kC BK142.out 2).trans rfl
       have hfz27_0 := kF BK142.out 0
       have hfz27_1 := kF BK142.out 1
       have hfz27_2 := kF BK142.out 2
       have hcz28_0 : wr.cell? ⟨gb132, 0, none⟩ = some (.int .i64 0) := (kC BK132.out 0).trans rfl
       have hcz28_1 : wr.cell? ⟨gb132, 1, none⟩ = some (.slice none 0 0) := (kC BK132.out 1).trans rfl
       have hcz28_2 : wr.cell? ⟨gb132, 2, none⟩ = some (.slice none 0 0) := (kC BK132.out 2).trans rfl
       have hfz28_0 := kF BK132.out 0
       have hfz28_1 := kF BK132.out 1
       have hfz28_2 := kF BK132.out 2
       obtain ⟨Ao29, co29, eo29⟩ := Kd.R_slice HO_143002.out
       subst eo29
       go_wp2
       refine bodyPost_ret (results_ct rfl _ _ gb132 25 #[.int .i64 a0, .slice Ao14 y139.length co14, .slice Ao29 x143002_1.length co29] (0, 0) _ rfl (by (with_reducible repeat (first | apply kN | apply kD | apply kA)); refine kP (cs := #[.int .i64 a0, .slice Ao14 y139.length co14, .slice none 0 0]) ?_ 2 _ rfl; (with_reducible repeat (first | apply kN | apply kD | apply kA)); refine kP (cs := #[.int .i64 a0, .slice none 0 0, .slice none 0 0]) ?_ 1 _ rfl; (with_reducible repeat (first | apply kN | apply kD | apply kA)); refine kP (cs := #[.int .i64 0, .slice none 0 0, .slice none 0 0]) ?_ 0 _ rfl; (with_reducible repeat (first | apply kN | apply kD | apply kA)); exact BK132.out) Tryz.underlying25 rfl (by kernel_rfl)) rfl ?_
       exact ⟨_, _, by first | rfl | (simp [eN, eS] <;> rfl) | (simp [*, eN, eS] <;> rfl), by (with_reducible repeat (first | apply Kd.R_alloc | apply Kd.R_drewN | apply Kd.R_drew)); exact Kd.R_mono (Kd.R_far (p := ⟨gb132, 2, none⟩) (Kd.R_far (p := ⟨gb132, 1, none⟩) (Kd.R_far (p := ⟨gb132, 0, none⟩) (Kd.R_types HO_143001.out BK132.out (by decide)) (fun _ hk => hk.2) (.int .i64 a0)) (fun _ hk => hk.2) (.slice Ao14 y139.length co14)) (fun _ hk => hk.2) (.slice Ao29 x143002_1.length co29)) (fun _ hk => trivial), by (with_reducible repeat (first | apply Kd.R_alloc | apply Kd.R_drewN | apply Kd.R_drew)); exact Kd.R_mono (Kd.R_far (p := ⟨gb132, 2, none⟩) (Kd.R_far (p := ⟨gb132, 1, none⟩) (Kd.R_far (p := ⟨gb132, 0, none⟩) (Kd.R_types HO_143002.out BK132.out (by decide)) (fun _ hk => hk.2) (.int .i64 a0)) (fun _ hk => hk.2) (.slice Ao14 y139.length co14)) (fun _ hk => hk.2) (.slice Ao29 x143002_1.length co29)) (fun _ hk => trivial), by repeat (first | (with_reducible first | exact HB.out | apply bA | apply bN | apply bD | refine bT ?_ GE132.out | refine bT ?_ GE142.out) | exact HB.out)⟩
   ·rw [if_neg c8] at H
    exact absurd H (by simp)
  ·rw [if_neg c6] at H
   have c6b0 : (t134 == 0) = false := beq_eq_false_iff_ne.mpr c6
   have c6b1 : (t134 != 0) = true := bne_iff_ne.mpr c6
   simp only [Option.some.injEq, Prod.mk.injEq] at H
   obtain ⟨rfl, rfl, rfl, rfl⟩ := H
   go_enter Tryz.func13, Tryz.ntmps13
   go_wp2_with (first | ((with_reducible refine gD (N := 4) rfl ?_); refine bx 4 #[.int .i64 0, .slice none 0 0, .slice none 0 0] 25 ?_; intro gb132 hg w30 hbox hb; have BK132 := As.mk (hbox); have GW132 := As.mk ((by rw [hg]; exact (bZ zz) : w.heap.size ≤ gb132)); have GE132 := GW132; replace HB := As.mk (bS zz hb); clear hb hbox hg) | ((with_reducible refine gC (f := 42) rfl ?_); refine gl 11 Tryz.func42 #[.int .i64 a0] ?_; (with_reducible refine (manorboyref08_IsType.calls a0 true _ A3.out).mono ?_); rintro e w' ⟨rfl, ⟨nd, rfl⟩⟩; refine ⟨_, rfl, ?_⟩; (try (rw [drewN_self w30]; generalize hq_ : World.drewN w30 _ = w30; have n0_ : As (w30.heap[gb132]? = some (.cells #[.int .i64 0, .slice none 0 0, .slice none 0 0] 25 (0, 0))) := ⟨by rw [← hq_]; exact (by (with_reducible repeat (first | apply kN | apply kD | apply kA)); exact BK132.out)⟩; have n1_ : As (Below w.heap.size w w30) := ⟨by rw [← hq_]; exact (by repeat (first | (with_reducible first | exact HB.out | apply bA | apply bN | apply bD | refine bT ?_ GE132.out) | exact HB.out))⟩; clear BK132 HB hq_; have BK132 := n0_; have HB := n1_; clear n0_ n1_))) | ((with_reducible refine gC (f := 45) rfl ?_); refine gl 15 Tryz.func45 #[.slice A1 l1.length c1] ?_; (with_reducible refine (manorboyref08_Error.calls k _ _ l1 t134 _ ?side1 ?side2 A5.out).mono ?_); (case side1 => repeat (first | exact (Kd.C_below HR1.out HB.out) | (with_reducible first | apply Kd.C_alloc | apply Kd.C_drewN | apply Kd.C_drew))); (case side2 => exact HC1.out); rintro e w31 ⟨rfl, hb⟩; refine ⟨_, rfl, ?_⟩; replace BK132 := As.mk (kB (g := gb132) (o := .cells #[.int .i64 0, .slice none 0 0, .slice none 0 0] 25 (0, 0)) (by (with_reducible repeat (first | apply kN | apply kD | apply kA)); exact BK132.out) hb); replace HB := As.mk (bS (by repeat (first | (with_reducible first | exact HB.out | apply bA | apply bN | apply bD | refine bT ?_ GE132.out) | exact HB.out)) hb); (try clear hb); have hcz32_0 : w31.cell? ⟨gb132, 0, none⟩ = some (.int .i64 0) := (kC BK132.out 0).trans rfl; have hcz32_1 : w31.cell? ⟨gb132, 1, none⟩ = some (.slice none 0 0) := (kC BK132.out 1).trans rfl; have hcz32_2 : w31.cell? ⟨gb132, 2, none⟩ = some (.slice none 0 0) := (kC BK132.out 2).trans rfl; have hfz32_0 := kF BK132.out 0; have hfz32_1 := kF BK132.out 1; have hfz32_2 := kF BK132.out 2))
   refine bodyPost_ret (results_ct rfl _ _ gb132 25 #[.int .i64 0, .slice none 0 0, .slice none 0 0] (0, 0) _ rfl (by (with_reducible repeat (first | apply kN | apply kD | apply kA)); refine kP (cs := #[.int .i64 0, .slice none 0 0, .slice none 0 0]) ?_ 2 _ rfl; (with_reducible repeat (first | apply kN | apply kD | apply kA)); refine kP (cs := #[.int .i64 0, .slice none 0 0, .slice none 0 0]) ?_ 1 _ rfl; (with_reducible repeat (first | apply kN | apply kD | apply kA)); refine kP (cs := #[.int .i64 0, .slice none 0 0, .slice none 0 0]) ?_ 0 _ rfl; (with_reducible repeat (first | apply kN | apply kD | apply kA)); exact BK132.out) Tryz.underlying25 rfl (by kernel_rfl)) rfl ?_
   exact ⟨_, _, by first | rfl | (simp [eN, eS] <;> rfl) | (simp [*, eN, eS] <;> rfl), by first | exact Kd.R_nil _ _ _ _ _ | exact Kd.N_nil _ _ _ _ _ | exact Kd.V_nil _ _ _ _ _ | exact Kd.Q_nil _ _ _ _ _ | exact Kd.S_nil _ _ _ _ _, by first | exact Kd.R_nil _ _ _ _ _ | exact Kd.N_nil _ _ _ _ _ | exact Kd.V_nil _ _ _ _ _ | exact Kd.Q_nil _ _ _ _ _ | exact Kd.S_nil _ _ _ _ _, by repeat (first | (with_reducible first | exact HB.out | apply bA | apply bN | apply bD | refine bT ?_ GE132.out) | exact HB.out)⟩
 ·replace c4 := Bool.eq_false_iff.mpr c4
  subst c4
  have H1 : (some (0, ([] : List (S54)), ([] : List (S38)), 1)) = some (r1, r2, r3, r4) := by rw [if_neg (show ¬ (false = true) by decide)] at H; exact H
  clear H
  have H := H1
  clear H1
  simp only [Option.some.injEq, Prod.mk.injEq] at H
  obtain ⟨rfl, rfl, rfl, rfl⟩ := H
  go_enter Tryz.func13, Tryz.ntmps13
  go_wp2_with (first | ((with_reducible refine gD (N := 4) rfl ?_); refine bx 4 #[.int .i64 0, .slice none 0 0, .slice none 0 0] 25 ?_; intro gb132 hg w33 hbox hb; have BK132 := As.mk (hbox); have GW132 := As.mk ((by rw [hg]; exact (bZ zz) : w.heap.size ≤ gb132)); have GE132 := GW132; replace HB := As.mk (bS zz hb); clear hb hbox hg) | ((with_reducible refine gC (f := 42) rfl ?_); refine gl 11 Tryz.func42 #[.int .i64 a0] ?_; (with_reducible refine (manorboyref08_IsType.calls a0 false _ A3.out).mono ?_); rintro e w' ⟨rfl, ⟨nd, rfl⟩⟩; refine ⟨_, rfl, ?_⟩; (try (rw [drewN_self w33]; generalize hq_ : World.drewN w33 _ = w33; have n0_ : As (w33.heap[gb132]? = some (.cells #[.int .i64 0, .slice none 0 0, .slice none 0 0] 25 (0, 0))) := ⟨by rw [← hq_]; exact (by (with_reducible repeat (first | apply kN | apply kD | apply kA)); exact BK132.out)⟩; have n1_ : As (Below w.heap.size w w33) := ⟨by rw [← hq_]; exact (by repeat (first | (with_reducible first | exact HB.out | apply bA | apply bN | apply bD | refine bT ?_ GE132.out) | exact HB.out))⟩; clear BK132 HB hq_; have BK132 := n0_; have HB := n1_; clear n0_ n1_)); have hcz34_0 : w33.cell? ⟨gb132, 0, none⟩ = some (.int .i64 0) := (kC BK132.out 0).trans rfl; have hcz34_1 : w33.cell? ⟨gb132, 1, none⟩ = some (.slice none 0 0) := (kC BK132.out 1).trans rfl; have hcz34_2 : w33.cell? ⟨gb132, 2, none⟩ = some (.slice none 0 0) := (kC BK132.out 2).trans rfl; have hfz34_0 := kF BK132.out 0; have hfz34_1 := kF BK132.out 1; have hfz34_2 := kF BK132.out 2))
  refine bodyPost_ret (results_ct rfl _ _ gb132 25 #[.int .i64 0, .slice none 0 0, .slice none 0 0] (0, 0) _ rfl (by (with_reducible repeat (first | apply kN | apply kD | apply kA)); refine kP (cs := #[.int .i64 0, .slice none 0 0, .slice none 0 0]) ?_ 2 _ rfl; (with_reducible repeat (first | apply kN | apply kD | apply kA)); refine kP (cs := #[.int .i64 0, .slice none 0 0, .slice none 0 0]) ?_ 1 _ rfl; (with_reducible repeat (first | apply kN | apply kD | apply kA)); refine kP (cs := #[.int .i64 0, .slice none 0 0, .slice none 0 0]) ?_ 0 _ rfl; (with_reducible repeat (first | apply kN | apply kD | apply kA)); exact BK132.out) Tryz.underlying25 rfl (by kernel_rfl)) rfl ?_
  exact ⟨_, _, by first | rfl | (simp [eN, eS] <;> rfl) | (simp [*, eN, eS] <;> rfl), by first | exact Kd.R_nil _ _ _ _ _ | exact Kd.N_nil _ _ _ _ _ | exact Kd.V_nil _ _ _ _ _ | exact Kd.Q_nil _ _ _ _ _ | exact Kd.S_nil _ _ _ _ _, by first | exact Kd.R_nil _ _ _ _ _ | exact Kd.N_nil _ _ _ _ _ | exact Kd.V_nil _ _ _ _ _ | exact Kd.Q_nil _ _ _ _ _ | exact Kd.S_nil _ _ _ _ _, by repeat (first | (with_reducible first | exact HB.out | apply bA | apply bN | apply bD | refine bT ?_ GE132.out) | exact HB.out)⟩
end Go.Proofs.Q
end
section
namespace Go.Proofs.Q
open RowKit Shelf Rf Pw Pl Pm
theorem ref_new_l (t n : Int) (l : List S54) (hn : n ≤ 1000) : ∀ (m i : Nat) (acc : List S38), (i : Int) + m = n → acc.length = i → Ev (fun k => manorboyref08_New.l0 k t n (i : Int) t l acc) (t, l, acc ++ List.replicate m (z38t t), 0) := by
 intro m
 induction m with
 | zero =>
  intro i acc h ha
  refine Ev.one fun k => ?_
  rw [manorboyref08_New.l0, if_neg (by omega)]
  simp
 | succ m ih =>
  intro i acc h ha
  have := ih (i + 1) (acc ++ [z38t t]) (by omega) (by simp [ha])
  rw [List.append_assoc, show [z38t t] ++ List.replicate m (z38t t) = List.replicate (m + 1) (z38t t) from rfl] at this
  refine Ev.succ this fun k => ?_
  rw [manorboyref08_New.l0, if_pos (by omega), manorboyref08_zero.f, Option.bind_some, if_pos (by omega), wrap_next (by omega)]
  rfl
theorem ref_new {t : Int} {l : List S54} (ht : isTy t = true) (he : errOf l = 0) : Ev (fun k => manorboyref08_New.f k t l) (t, l, List.replicate (prodL l).toNat (z38t t), 0) := by
 obtain ⟨_, hp, _, _, h4⟩ := errOf_zero he
 have h1 := hp.pos
 have h2 := hp.2.2
 have ht' : manorboyref08_IsType.f t = some true := by
  unfold isTy at ht
  simp only [Bool.or_eq_true, beq_iff_eq] at ht
  unfold manorboyref08_IsType.f
  rw [if_pos (by omega)]
  congr 1
  simp
  omega
 unfold manorboyref08_New.f
 refine Ev.bind (A := fun _ => manorboyref08_IsType.f t) (t := true) (Ev.const fun _ => ht') ?_
 simp only [if_true]
 refine Ev.bind (A := fun k => manorboyref08_Error.f k l) (t := 0) (he ▸ ref_err l) ?_
 simp only [if_true]
 refine Ev.bind (A := fun k => manorboyref08_size.f k l) (t := prodL l) (ref_size he) ?_
 have := ref_new_l t (prodL l) l h2 (prodL l).toNat 0 [] (by omega) rfl
 refine Ev.congr this fun k => ?_
 simp only [Option.bind_some, List.nil_append]
 rw [if_pos (by simp; omega)]
 rfl
/-- ref08.New of proper dimensions -/
theorem rnew_ok {t : Int} {l : List S54} (ht : isTy t = true) (he : errOf l = 0) (A : Option Addr) (c : Nat) (w : World) (hr : Kd.C k54 w A l.length l) (hc : l.length ≤ c) : Calls Tryz.prog 13 #[.int .i64 t, .slice A l.length c] w fun e w' => ∃ v1 v2 : Value, e = .returned (.tuple #[.agg #[.int .i64 t, v1, v2], .int .i64 0]) ∧ Kd.R k54 54 w' w.heap.size (fun _ => True) v1 l ∧ Kd.R k38 38 w' w.heap.size (fun _ => True) v2 (List.replicate (prodL l).toNat (z38t t)) ∧ Below w.heap.size w w' := by
 obtain ⟨k, hk⟩ := (ref_new ht he).at
 exact manorboyref08_New.calls k t A c l _ _ _ _ w hr hc hk
end Go.Proofs.Q
end
section
namespace Go.Proofs.Q
open RowKit Shelf Rf Pw Pl Pm
attribute [local go_sem high] eqA38
/-- ref08.Equal of equal data -/
theorem requal_w (t : Int) (ds : List S54) (es : List S38) (hd : ds.length ≤ 1000) (hl : es.length ≤ 1000000) (A1 A2 B1 B2 : Option Addr) (c1 c2 d1 d2 n m n' m' : Nat) (w : World) (ha : Arr w A1 n c1 ds A2 m c2 es) (hb : Arr w B1 n' d1 ds B2 m' d2 es) :
  Calls Tryz.prog 11 #[.agg #[.int .i64 t, .slice A1 n c1, .slice A2 m c2], .agg #[.int .i64 t, .slice B1 n' d1, .slice B2 m' d2]] w (Bq true w) := by
 obtain ⟨hr1, hc1, hr2, hc2⟩ := ha
 obtain ⟨gr1, gc1, gr2, gc2⟩ := hb
 obtain rfl := hr1.1
 obtain rfl := hr2.1
 obtain rfl := gr1.1
 obtain rfl := gr2.1
 have HD := Lib.hid (fun W h1 h2 => rdims_w ds hd A1 B1 c1 d1 W h1 hc1 h2 gc1)
 have R1 := Lib.hid hr1
 have R2 := Lib.hid hr2
 have G1 := Lib.hid gr1
 have G2 := Lib.hid gr2
 clear hr1 hr2 gr1 gr2 hc1 gc1 hd
 have hA : ((w.alloc (.cells #[.int .i64 t, .slice A1 ds.length c1, .slice A2 es.length c2] 25)).alloc (.cells #[.int .i64 t, .slice B1 ds.length d1, .slice B2 es.length d2] 25)).heap[w.heap.size]? = some (.cells #[.int .i64 t, .slice A1 ds.length c1, .slice A2 es.length c2] 25) := kA (heap_alloc_new w _) _
 have hC : ((w.alloc (.cells #[.int .i64 t, .slice A1 ds.length c1, .slice A2 es.length c2] 25)).alloc (.cells #[.int .i64 t, .slice B1 ds.length d1, .slice B2 es.length d2] 25)).heap[w.heap.size + 1]? = some (.cells #[.int .i64 t, .slice B1 ds.length d1, .slice B2 es.length d2] 25) := nB w _ _
 have hB : Below w.heap.size w ((w.alloc (.cells #[.int .i64 t, .slice A1 ds.length c1, .slice A2 es.length c2] 25)).alloc (.cells #[.int .i64 t, .slice B1 ds.length d1, .slice B2 es.length d2] 25)) := bA (bA (Below.refl _ _) _) _
 obtain ⟨⟨x0, x1, x2⟩, xl, _, _, _⟩ := c3_of hA
 obtain ⟨⟨y0, y1, y2⟩, yl, _, _, _⟩ := c3_of hC
 go_enter Tryz.func11, Tryz.ntmps11
 go_wp2_with (first
  | (go_at_call 44; refine (HD.out _ (Kd.C_below R1.out hB) (Kd.C_below G1.out hB)).mono ?_; rintro e w1 ⟨rfl, hb⟩; clear x0 x1 x2 y0 y1 y2 xl yl; (replace hA := kB hA hb); (replace hC := kB hC hb); (replace hB := bS hB hb); (obtain ⟨⟨x0, x1, x2⟩, xl, _, _, _⟩ := c3_of hA); (obtain ⟨⟨y0, y1, y2⟩, yl, _, _, _⟩ := c3_of hC); clear hb))
 have hX := Lib.hid (And.intro x2 y2)
 replace hB := Lib.hid hB
 clear x0 x1 x2 y0 y1 y2 xl yl hA hC HD R1 G1
 go_loopw [5] (fun v wr => ∃ i : Int, v = .int .i64 i ∧ 0 ≤ i ∧ i ≤ (es.length : Int) ∧ Hid (wr.cell? ⟨w.heap.size, 2, none⟩ = some (.slice A2 es.length c2) ∧ wr.cell? ⟨w.heap.size + 1, 2, none⟩ = some (.slice B2 es.length d2)) ∧ Hid (Below w.heap.size w wr)) (fun v _ => ((es.length : Int) - intOf v).toNat)
 case atStart => exact ⟨0, rfl, by decide, by omega, hX, hB⟩
 case round =>
  clear hX hB
  obtain ⟨i, rfl, h0, h1, HS, HB⟩ := hrel
  obtain ⟨x2, y2⟩ := HS.out
  by_cases hp : i < (es.length : Int)
  ·obtain ⟨ad, rfl, hx0, hx1, hx2, hx3, hx4⟩ := at_T38 R2.out i h0 hp
   replace hx0 := (HB.out.cell (World.block_lt_of_cell? w _ hx0)).trans hx0
   replace hx1 := (HB.out.cell (World.block_lt_of_cell? w _ hx1)).trans hx1
   replace hx2 := (HB.out.cell (World.block_lt_of_cell? w _ hx2)).trans hx2
   replace hx3 := (HB.out.cell (World.block_lt_of_cell? w _ hx3)).trans hx3
   replace hx4 := (HB.out.cell (World.block_lt_of_cell? w _ hx4)).trans hx4
   obtain ⟨bd, rfl, hy0, hy1, hy2, hy3, hy4⟩ := at_T38 G2.out i h0 hp
   replace hy0 := (HB.out.cell (World.block_lt_of_cell? w _ hy0)).trans hy0
   replace hy1 := (HB.out.cell (World.block_lt_of_cell? w _ hy1)).trans hy1
   replace hy2 := (HB.out.cell (World.block_lt_of_cell? w _ hy2)).trans hy2
   replace hy3 := (HB.out.cell (World.block_lt_of_cell? w _ hy3)).trans hy3
   replace hy4 := (HB.out.cell (World.block_lt_of_cell? w _ hy4)).trans hy4
   generalize rd_T38 es i = x at hx0 hx1 hx2 hx3 hx4 hy0 hy1 hy2 hy3 hy4
   have p0 := eq_true h0
   have q0 := eq_true hp
   go_wp2
   go_quiet (fail)
   go_wp2
   go_roundw
   case rel => exact ⟨i + 1, rfl, by omega, by omega, HS, Lib.hid (bN HB.out _)⟩
   case measure => simp [intOf]; omega
  ·go_wp2
   go_ret
   exact ⟨rfl, HB.out⟩
end Go.Proofs.Q
end
section
namespace Go.Proofs.Q
open RowKit Shelf Rf Pw Pl Pm
/-- what a function that returns an array and an error returns -/
def UP (p : Int × Int × List S54 × List S38) (w : World) (e : Ending) (w' : World) : Prop :=
 ∃ (A1 : Option Addr) (n1 c1 : Nat) (A2 : Option Addr) (n2 c2 : Nat), e = .returned (.tuple #[.agg #[.int .i64 p.2.1, .slice A1 n1 c1, .slice A2 n2 c2], .int .i64 p.1]) ∧ Arr w' A1 n1 c1 p.2.2.1 A2 n2 c2 p.2.2.2 ∧ Below w.heap.size w w'
theorem up_no {x : Int} {w w' : World} {e : Ending} (h : ResizeNo x w e w') : UP (x, 0, [], []) w e w' := by
 obtain ⟨rfl, hb⟩ := h
 exact ⟨none, 0, 0, none, 0, 0, rfl, ⟨Kd.C_nil _ _, Nat.le_refl _, Kd.C_nil _ _, Nat.le_refl _⟩, hb⟩
theorem up_rr {t : Int} {ds : List S54} {es : List S38} {w w' : World} {v1 v2 : Value} {o1 o2 : Nat → Prop} (h1 : Kd.R k54 54 w' w.heap.size o1 v1 ds) (h2 : Kd.R k38 38 w' w.heap.size o2 v2 es) (hb : Below w.heap.size w w') : UP (0, t, ds, es) w (.returned (.tuple #[.agg #[.int .i64 t, v1, v2], .int .i64 0])) w' := by
 obtain ⟨B1, q1, rfl, g1, g2⟩ := Kd.R_reads h1
 obtain ⟨B2, q2, rfl, g3, g4⟩ := Kd.R_reads h2
 exact ⟨_, _, _, _, _, _, rfl, ⟨g2, g1, g4, g3⟩, hb⟩
theorem check_not {t : Int} {ds : List S54} {es : List S38} (F : ¬ Fine t ds es) : checkF t ds es = some 1 := by
 obtain ⟨r, h1, h2⟩ := check_word t ds es
 have hr : r ≠ 0 := fun h => F (h2.1 h)
 rw [h1]
 unfold checkF at h1
 split at h1
 ·split at h1
  ·split at h1
   ·cases hf : firstBad t es 0 with
    | none => rw [hf] at h1; cases h1
    | some q => rw [hf] at h1; simp only [Option.map_some, Option.some.injEq] at h1; split at h1 <;> simp_all
   ·exact h1.symm
  ·exact h1.symm
 ·exact h1.symm
theorem ck_no {t : Int} {ds : List S54} {es : List S38} (F : ¬ Fine t ds es) (A1 A2 : Option Addr) (c1 c2 n m : Nat) (w : World) (hr : Arr w A1 n c1 ds A2 m c2 es) :
  Calls Tryz.prog 18 #[.agg #[.int .i64 t, .slice A1 n c1, .slice A2 m c2]] w (AI 1 w) := by
 obtain ⟨rfl, rfl⟩ := hr.len
 obtain ⟨r1, hc1, r2, hc2⟩ := hr
 exact array_Check.calls t A1 c1 ds A2 c2 es 1 w r1 hc1 r2 hc2 (check_not F)
end Go.Proofs.Q
end
section
namespace Go.Proofs.Q
open RowKit Shelf Rf Pw Pl Pm
section
variable {W : World} {D : Nat} {x y z a b c : Value}
theorem s3_R {α : Type} {d : Kd α} {e base : Nat} {v : Value} {xs : List α} {ty : Nat} (h : Kd.R d e W base (fun _ => True) v xs) (hX : W.heap[D]? = some (.cells #[a, b, c] ty)) (ht : ∀ q, q ∈ e :: d.E → q ≠ ty) : Kd.R d e (((W.setCell ⟨D, 0, none⟩ x).setCell ⟨D, 1, none⟩ y).setCell ⟨D, 2, none⟩ z) base (fun _ => True) v xs :=
 Kd.R_mono (Kd.R_far (p := ⟨D, 2, none⟩) (Kd.R_far (p := ⟨D, 1, none⟩) (Kd.R_far (p := ⟨D, 0, none⟩) (Kd.R_types h hX ht) (fun _ hk => hk.2) x) (fun _ hk => hk.2) y) (fun _ hk => hk.2) z) (fun _ _ => trivial)
end
end Go.Proofs.Q
end
section
namespace Go.Proofs.Q
open RowKit Shelf Rf Pw Pl Pm
theorem anew_no1 (k : Int) (ht : isTy k = false) (A : Option Addr) (n c : Nat) (w : World) : Calls Tryz.prog 12 #[.int .i64 k, .slice A n c] w (ResizeNo 1 w) := by
 have HT := Lib.hid ht
 clear ht
 have hZ : (w.alloc (.cells #[.int .i64 0, .slice none 0 0, .slice none 0 0] 25)).heap[w.heap.size]? = some (.cells #[.int .i64 0, .slice none 0 0, .slice none 0 0] 25) := heap_alloc_new w _
 have hB : Below w.heap.size w (w.alloc (.cells #[.int .i64 0, .slice none 0 0, .slice none 0 0] 25)) := bA (Below.refl _ _) _
 go_enter Tryz.func12, Tryz.ntmps12
 go_wp2_with (first
  | (go_at_call 34; refine (isTy_calls k _).mono ?_; rintro e w1 ⟨rfl, hb⟩; rw [HT.out]; (replace hZ := kB hZ hb); (replace hB := bS hB hb); (obtain ⟨⟨z0, z1, z2⟩, zl, zf0, zf1, zf2⟩ := c3_of hZ); clear hb))
 exact bodyPost_ret (v := .tuple #[.agg #[.int .i64 0, .slice none 0 0, .slice none 0 0], .int .i64 1]) (by clear hZ; simp [results, Tryz.results12, go_sem, z0, z1, z2, zl]) rfl ⟨rfl, below_set3 hB (Nat.le_refl _)⟩
theorem chk_c (A : Option Addr) (c : Nat) (l : List S54) (w W : World) (h : Kd.C k54 w A l.length l) (hc : l.length ≤ c) (hb : Below w.heap.size w W) : Calls Tryz.prog 27 #[.slice (some ⟨W.heap.size, 0, none⟩) 1 1] (W.alloc (.cells #[.slice A l.length c] 22)) (AI (errOf l) (W.alloc (.cells #[.slice A l.length c] 22))) := by
 have := checked_calls (some ⟨W.heap.size, 0, none⟩) 1 [l] (W.alloc (.cells #[.slice A l.length c] 22)) (C_one W A c l hc (Kd.C_below h hb)) (Nat.le_refl _) (by simp)
 rwa [checkedL_one] at this
theorem anew_no2 (k : Int) (ht : isTy k = true) (l : List S54) (he : errOf l ≠ 0) (A : Option Addr) (c : Nat) (w : World) (hr : Kd.C k54 w A l.length l) (hc : l.length ≤ c) : Calls Tryz.prog 12 #[.int .i64 k, .slice A l.length c] w (ResizeNo (errOf l) w) := by
 have HT := Lib.hid ht
 have HC := Lib.hid (fun W hb => chk_c A c l w W hr hc hb)
 generalize errOf l = v at he HC ⊢
 have vb : (v != 0) = true := by simpa using he
 clear ht hr hc he
 have hZ : (w.alloc (.cells #[.int .i64 0, .slice none 0 0, .slice none 0 0] 25)).heap[w.heap.size]? = some (.cells #[.int .i64 0, .slice none 0 0, .slice none 0 0] 25) := heap_alloc_new w _
 have hB : Below w.heap.size w (w.alloc (.cells #[.int .i64 0, .slice none 0 0, .slice none 0 0] 25)) := bA (Below.refl _ _) _
 go_enter Tryz.func12, Tryz.ntmps12
 go_wp2_with (first
  | (go_at_call 34; refine (isTy_calls k _).mono ?_; rintro e w1 ⟨rfl, hb⟩; rw [HT.out]; (replace hZ := kB hZ hb); (replace hB := bS hB hb); clear hb)
  | (go_at_call 27; refine (HC.out _ hB).mono ?_; rintro e w2 ⟨rfl, hb⟩; (replace hZ := kB (kA hZ _) hb); (replace hB := bS (bA hB _) hb); (obtain ⟨⟨z0, z1, z2⟩, zl, zf0, zf1, zf2⟩ := c3_of hZ); clear hb))
 exact bodyPost_ret (v := .tuple #[.agg #[.int .i64 0, .slice none 0 0, .slice none 0 0], .int .i64 v]) (by clear hZ; simp [results, Tryz.results12, go_sem, z0, z1, z2, zl]) rfl ⟨rfl, below_set3 hB (Nat.le_refl _)⟩
theorem anew_ok (k : Int) (ht : isTy k = true) (l : List S54) (he : errOf l = 0) (A : Option Addr) (c : Nat) (w : World) (hr : Kd.C k54 w A l.length l) (hc : l.length ≤ c) : Calls Tryz.prog 12 #[.int .i64 k, .slice A l.length c] w (UP (0, k, l, List.replicate (prodL l).toNat (z38t k)) w) := by
 have HT := Lib.hid ht
 obtain ⟨ad, hA⟩ := C_some hr (errOf_zero he).2.2.2.1
 have HC := Lib.hid (fun W hb => chk_c A c l w W hr hc hb)
 rw [he] at HC
 have HF := Lib.hid (fun W hb => fresh_calls k ht ad c l W (Kd.C_below (hA ▸ hr) hb) hc he)
 subst hA
 clear ht hr hc he
 have hZ : (w.alloc (.cells #[.int .i64 0, .slice none 0 0, .slice none 0 0] 25)).heap[w.heap.size]? = some (.cells #[.int .i64 0, .slice none 0 0, .slice none 0 0] 25) := heap_alloc_new w _
 have hB : Below w.heap.size w (w.alloc (.cells #[.int .i64 0, .slice none 0 0, .slice none 0 0] 25)) := bA (Below.refl _ _) _
 go_enter Tryz.func12, Tryz.ntmps12
 go_wp2_with (first
  | (go_at_call 34; refine (isTy_calls k _).mono ?_; rintro e w1 ⟨rfl, hb⟩; rw [HT.out]; (replace hZ := kB hZ hb); (replace hB := bS hB hb); clear hb)
  | (go_at_call 27; refine (HC.out _ hB).mono ?_; rintro e w2 ⟨rfl, hb⟩; (replace hZ := kB (kA hZ _) hb); (replace hB := bS (bA hB _) hb); clear hb)
  | (go_at_call 33; refine (HF.out _ hB).mono ?_; rintro e w3 ⟨v1, v2, rfl, g1, g2, hb⟩; (obtain ⟨V1, e1, hv1⟩ := Kd.R_slice g1); subst hv1; (obtain ⟨V2, e2, hv2⟩ := Kd.R_slice g2); subst hv2; (have G1 := Lib.hid (Kd.R_lower g1 (bZ hB))); (have G2 := Lib.hid (Kd.R_lower g2 (bZ hB))); (replace hZ := kB hZ hb); (replace hB := bS hB hb); (obtain ⟨⟨z0, z1, z2⟩, zl, zf0, zf1, zf2⟩ := c3_of hZ); clear hb g1 g2))
 refine bodyPost_ret (v := .tuple #[.agg #[.int .i64 k, .slice V1 l.length e1, .slice V2 (List.replicate (prodL l).toNat (z38t k)).length e2], .int .i64 0]) (by clear hZ; simp [results, Tryz.results12, go_sem, z0, z1, z2, zl]) rfl (up_rr (s3_R G1.out hZ (by decide)) (s3_R G2.out hZ (by decide)) (below_set3 hB (Nat.le_refl _)))
/-- New, on both sides -/
theorem nw_both (k : Int) (ds : List S54) : ∃ p : Int × Int × List S54 × List S38, (p.2.2.1.length ≤ 1000 ∧ p.2.2.2.length ≤ 1000000) ∧ (p.1 = 0 → isTy k = true ∧ errOf ds = 0 ∧ p = (0, k, ds, List.replicate (prodL ds).toNat (z38t k))) ∧ (p.1 ≠ 0 → p.2 = (0, [], [])) ∧ ∀ (A : Option Addr) (c n : Nat) (w : World), Kd.C k54 w A n ds → n ≤ c → Calls Tryz.prog 12 #[.int .i64 k, .slice A n c] w (UP p w) ∧ Calls Tryz.prog 13 #[.int .i64 k, .slice A n c] w (UP p w) := by
 by_cases ht : isTy k = true
 ·by_cases he : errOf ds = 0
  ·obtain ⟨_, hp, _, h1, h4⟩ := errOf_zero he
   have := hp.2.2
   refine ⟨(0, k, ds, List.replicate (prodL ds).toNat (z38t k)), ⟨by show ds.length ≤ _; omega, by show (List.replicate _ _).length ≤ _; simp; omega⟩, fun _ => ⟨ht, he, rfl⟩, fun h => absurd rfl h, fun A c n w hr hc => ?_⟩
   obtain rfl := hr.1
   refine ⟨anew_ok k ht ds he A c w hr hc, (rnew_ok ht he A c w hr hc).mono ?_⟩
   rintro e w' ⟨v1, v2, rfl, g1, g2, hb⟩
   exact up_rr g1 g2 hb
  ·refine ⟨(errOf ds, 0, [], []), ⟨Nat.zero_le _, Nat.zero_le _⟩, fun h => absurd h he, fun _ => rfl, fun A c n w hr hc => ?_⟩
   obtain rfl := hr.1
   exact ⟨(anew_no2 k ht ds he A c w hr hc).mono fun e w' h => up_no h, (rnew_no2 k ht ds he A c w hr hc).mono fun e w' h => up_no h⟩
 ·have hf : isTy k = false := by simpa using ht
  exact ⟨(1, 0, [], []), ⟨Nat.zero_le _, Nat.zero_le _⟩, fun h => absurd h (by decide), fun _ => rfl, fun A c n w hr hc => ⟨(anew_no1 k hf A n c w).mono fun e w' h => up_no h, (rnew_no1 k hf A n c w).mono fun e w' h => up_no h⟩⟩
end Go.Proofs.Q
end
section
namespace Go.Proofs.Q
open RowKit Shelf Rf Pw Pl Pm
theorem rget_no1 (t : Int) (A1 A2 A3 : Option Addr) (c1 c2 c3 n3 : Nat) (ds : List S54) (es : List S38) (w : World) (HK : Hid (∀ W, Below w.heap.size w W → Calls Tryz.prog 16 #[.agg #[.int .i64 t, .slice A1 ds.length c1, .slice A2 es.length c2]] W (Bq false W))) : Calls Tryz.prog 19 #[.agg #[.int .i64 t, .slice A1 ds.length c1, .slice A2 es.length c2], .slice A3 n3 c3] w (VE zv 1 w) := by
 have hA : ((w.alloc (.cells #[.int .i64 t, .slice A1 ds.length c1, .slice A2 es.length c2] 25)).alloc (.cells #[.int .i64 0, .int .i64 0, .int .i64 0, .int .i64 0, .bool false] 38)).heap[w.heap.size]? = some (.cells #[.int .i64 t, .slice A1 ds.length c1, .slice A2 es.length c2] 25) := kA (heap_alloc_new w _) _
 have hZ : ((w.alloc (.cells #[.int .i64 t, .slice A1 ds.length c1, .slice A2 es.length c2] 25)).alloc (.cells #[.int .i64 0, .int .i64 0, .int .i64 0, .int .i64 0, .bool false] 38)).heap[w.heap.size + 1]? = some (.cells #[.int .i64 0, .int .i64 0, .int .i64 0, .int .i64 0, .bool false] 38) := nB w _ _
 have hB : Below w.heap.size w ((w.alloc (.cells #[.int .i64 t, .slice A1 ds.length c1, .slice A2 es.length c2] 25)).alloc (.cells #[.int .i64 0, .int .i64 0, .int .i64 0, .int .i64 0, .bool false] 38)) := bA (bA (Below.refl _ _) _) _
 have hz : w.heap.size ≤ w.heap.size + 1 := Nat.le_succ _
 obtain ⟨⟨x0, x1, x2⟩, xl, _, _, _⟩ := c3_of hA
 go_enter Tryz.func19, Tryz.ntmps19
 go_wp2_with (first
  | (go_at_call 16; refine (HK.out _ hB).mono ?_; rintro e w1 ⟨rfl, hb⟩; clear x0 x1 x2 xl; (replace hA := kB hA hb); (replace hZ := kB hZ hb); (replace hB := bS hB hb); (obtain ⟨⟨z0, z1, z2, z3, z4⟩, zl, zf0, zf1, zf2, zf3, zf4⟩ := rc5 hZ); clear hb))
 refine bodyPost_ret (v := .tuple #[.agg #[.int .i64 0, .int .i64 0, .int .i64 0, .int .i64 0, .bool false], .int .i64 1]) (by clear hZ hA; simp [results, Tryz.results19, go_sem, z0, z1, z2, z3, z4, zl]) rfl ⟨rfl, below_set5 hB hz⟩
theorem rget_no2 (t : Int) (A1 A2 A3 : Option Addr) (c1 c2 c3 n3 : Nat) (ds : List S54) (es : List S38) (w : World) (HK : Hid (∀ W, Below w.heap.size w W → Calls Tryz.prog 16 #[.agg #[.int .i64 t, .slice A1 ds.length c1, .slice A2 es.length c2]] W (Bq true W))) (v : Int) (hv : v ≠ 0) (HE : Hid (∀ W, Below w.heap.size w W → Calls Tryz.prog 56 #[.slice A1 ds.length c1, .slice A3 n3 c3] W (AI v W))) : Calls Tryz.prog 19 #[.agg #[.int .i64 t, .slice A1 ds.length c1, .slice A2 es.length c2], .slice A3 n3 c3] w (VE zv v w) := by
 have vb : (v != 0) = true := by simpa using hv
 clear hv
 have hA : ((w.alloc (.cells #[.int .i64 t, .slice A1 ds.length c1, .slice A2 es.length c2] 25)).alloc (.cells #[.int .i64 0, .int .i64 0, .int .i64 0, .int .i64 0, .bool false] 38)).heap[w.heap.size]? = some (.cells #[.int .i64 t, .slice A1 ds.length c1, .slice A2 es.length c2] 25) := kA (heap_alloc_new w _) _
 have hZ : ((w.alloc (.cells #[.int .i64 t, .slice A1 ds.length c1, .slice A2 es.length c2] 25)).alloc (.cells #[.int .i64 0, .int .i64 0, .int .i64 0, .int .i64 0, .bool false] 38)).heap[w.heap.size + 1]? = some (.cells #[.int .i64 0, .int .i64 0, .int .i64 0, .int .i64 0, .bool false] 38) := nB w _ _
 have hB : Below w.heap.size w ((w.alloc (.cells #[.int .i64 t, .slice A1 ds.length c1, .slice A2 es.length c2] 25)).alloc (.cells #[.int .i64 0, .int .i64 0, .int .i64 0, .int .i64 0, .bool false] 38)) := bA (bA (Below.refl _ _) _) _
 have hz : w.heap.size ≤ w.heap.size + 1 := Nat.le_succ _
 obtain ⟨⟨x0, x1, x2⟩, xl, _, _, _⟩ := c3_of hA
 go_enter Tryz.func19, Tryz.ntmps19
 go_wp2_with (first
  | (go_at_call 16; refine (HK.out _ hB).mono ?_; rintro e w1 ⟨rfl, hb⟩; clear x0 x1 x2 xl; (replace hA := kB hA hb); (replace hZ := kB hZ hb); (replace hB := bS hB hb); (obtain ⟨⟨x0, x1, x2⟩, xl, _, _, _⟩ := c3_of hA); clear hb)
  | (go_at_call 56; refine (HE.out _ hB).mono ?_; rintro e w2 ⟨rfl, hb⟩; clear x0 x1 x2 xl; (replace hA := kB hA hb); (replace hZ := kB hZ hb); (replace hB := bS hB hb); (obtain ⟨⟨z0, z1, z2, z3, z4⟩, zl, zf0, zf1, zf2, zf3, zf4⟩ := rc5 hZ); clear hb))
 refine bodyPost_ret (v := .tuple #[.agg #[.int .i64 0, .int .i64 0, .int .i64 0, .int .i64 0, .bool false], .int .i64 v]) (by clear hZ hA; simp [results, Tryz.results19, go_sem, z0, z1, z2, z3, z4, zl]) rfl ⟨rfl, below_set5 hB hz⟩
def gtT : Bool × List (List Nat × List Nat) := (true, [([], []), ([0], [0]), ([], []), ([2], [2]), ([], []), ([3, 4], [3, 4]), ([1, 5], [1, 5]), ([6], [6]), ([7, 5, 0, 1, 2, 3, 4, 5, 6, 7], [7]), ([8, 0, 1, 2, 3, 4, 5, 6, 7, 8], [])])
def gtB : List Nat := [0, 1, 0, 4, 0, 28, 63, 127, 255, 511]
theorem gt_tab : rtab .any (opsOf Tryz.f19 6) = gtT := by kernel_rfl
theorem gt_bits : waitsOk gtT.2 gtB = true := by kernel_rfl
theorem rget_ok (t : Int) (A1 A3 : Option Addr) (be : Addr) (c1 c2 c3 n3 : Nat) (ds : List S54) (es : List S38) (w : World) (HK : Hid (∀ W, Below w.heap.size w W → Calls Tryz.prog 16 #[.agg #[.int .i64 t, .slice A1 ds.length c1, .slice (some be) es.length c2]] W (Bq true W))) (HE : Hid (∀ W, Below w.heap.size w W → Calls Tryz.prog 56 #[.slice A1 ds.length c1, .slice A3 n3 c3] W (AI 0 W))) (q : Int) (h0 : 0 ≤ q) (h1 : q < es.length) (x : S38)
  (HP : Hid (∀ W, Below w.heap.size w W → Calls Tryz.prog 41 #[.slice A1 ds.length c1, .slice A3 n3 c3] W (AI q W))) (HY : Hid (w.cell? (be.add (q.toNat * 5)) = some (.int .i64 x.f0) ∧ w.cell? ⟨(be.add (q.toNat * 5)).block, (be.add (q.toNat * 5)).off + 1, none⟩ = some (.int .i64 x.f1) ∧ w.cell? ⟨(be.add (q.toNat * 5)).block, (be.add (q.toNat * 5)).off + 2, none⟩ = some (.int .i64 x.f2.f0) ∧ w.cell? ⟨(be.add (q.toNat * 5)).block, (be.add (q.toNat * 5)).off + 3, none⟩ = some (.int .i64 x.f2.f1) ∧ w.cell? ⟨(be.add (q.toNat * 5)).block, (be.add (q.toNat * 5)).off + 4, none⟩ = some (.bool x.f3))) : Calls Tryz.prog 19 #[.agg #[.int .i64 t, .slice A1 ds.length c1, .slice (some be) es.length c2], .slice A3 n3 c3] w (VE x 0 w) := by
 have hA : ((w.alloc (.cells #[.int .i64 t, .slice A1 ds.length c1, .slice (some be) es.length c2] 25)).alloc (.cells #[.int .i64 0, .int .i64 0, .int .i64 0, .int .i64 0, .bool false] 38)).heap[w.heap.size]? = some (.cells #[.int .i64 t, .slice A1 ds.length c1, .slice (some be) es.length c2] 25) := kA (heap_alloc_new w _) _
 have hZ : ((w.alloc (.cells #[.int .i64 t, .slice A1 ds.length c1, .slice (some be) es.length c2] 25)).alloc (.cells #[.int .i64 0, .int .i64 0, .int .i64 0, .int .i64 0, .bool false] 38)).heap[w.heap.size + 1]? = some (.cells #[.int .i64 0, .int .i64 0, .int .i64 0, .int .i64 0, .bool false] 38) := nB w _ _
 have hB : Below w.heap.size w ((w.alloc (.cells #[.int .i64 t, .slice A1 ds.length c1, .slice (some be) es.length c2] 25)).alloc (.cells #[.int .i64 0, .int .i64 0, .int .i64 0, .int .i64 0, .bool false] 38)) := bA (bA (Below.refl _ _) _) _
 have hz : w.heap.size ≤ w.heap.size + 1 := Nat.le_succ _
 obtain ⟨⟨x0, x1, x2⟩, xl, _, _, _⟩ := c3_of hA
 go_enter Tryz.func19, Tryz.ntmps19
 have p1 := eq_true h0
 have q1 := eq_true h1
 clear h0 h1
 go_wp2_with (first
  | (go_at_call 16; refine (HK.out _ hB).mono ?_; rintro e w1 ⟨rfl, hb⟩; clear x0 x1 x2 xl; (replace hA := kB hA hb); (replace hZ := kB hZ hb); (replace hB := bS hB hb); (obtain ⟨⟨x0, x1, x2⟩, xl, _, _, _⟩ := c3_of hA); clear hb)
  | (go_at_call 56; refine (HE.out _ hB).mono ?_; rintro e w2 ⟨rfl, hb⟩; clear x0 x1 x2 xl; (replace hA := kB hA hb); (replace hZ := kB hZ hb); (replace hB := bS hB hb); (obtain ⟨⟨x0, x1, x2⟩, xl, _, _, _⟩ := c3_of hA); clear hb))
 obtain ⟨y0, y1, y2, y3, y4⟩ := HY.out
 replace y0 := (hB.cell (World.block_lt_of_cell? w _ y0)).trans y0
 replace y1 := (hB.cell (World.block_lt_of_cell? w _ y1)).trans y1
 replace y2 := (hB.cell (World.block_lt_of_cell? w _ y2)).trans y2
 replace y3 := (hB.cell (World.block_lt_of_cell? w _ y3)).trans y3
 replace y4 := (hB.cell (World.block_lt_of_cell? w _ y4)).trans y4
 clear x0 x1 x2 xl HK HE HY
 refine start_ (n := 10) (S := fun w' => w'.cell? ⟨w.heap.size, 0, none⟩ = some (.int .i64 t) ∧ w'.cell? ⟨w.heap.size, 1, none⟩ = some (.slice A1 ds.length c1) ∧ w'.cell? ⟨w.heap.size, 2, none⟩ = some (.slice (some be) es.length c2) ∧ w'.cell? (be.add (q.toNat * 5)) = some (.int .i64 x.f0) ∧ w'.cell? ⟨(be.add (q.toNat * 5)).block, (be.add (q.toNat * 5)).off + 1, none⟩ = some (.int .i64 x.f1) ∧ w'.cell? ⟨(be.add (q.toNat * 5)).block, (be.add (q.toNat * 5)).off + 2, none⟩ = some (.int .i64 x.f2.f0) ∧ w'.cell? ⟨(be.add (q.toNat * 5)).block, (be.add (q.toNat * 5)).off + 3, none⟩ = some (.int .i64 x.f2.f1) ∧ w'.cell? ⟨(be.add (q.toNat * 5)).block, (be.add (q.toNat * 5)).off + 4, none⟩ = some (.bool x.f3)) (ds := [8]) (lq 10 0) (by kernel_rfl) rfl (by kernel_rfl) ⟨(c3_of (kD hA)).1.1, (c3_of (kD hA)).1.2.1, (c3_of (kD hA)).1.2.2, y0, y1, y2, y3, y4⟩ (fun hHeld => ?_); refine with_tabW gt_tab gt_bits (fun HT_ HW_ => ?_)
 refine pv 0 19 10 1 HT_ ?_
 refine pv 2 21 10 5 HT_ ?_
 refine pv 4 23 10 21 HT_ ?_
 refine tv 1 20 10 23 HT_ HW_ hHeld ?_
 refine tv 3 22 10 31 HT_ HW_ hHeld ?_
 refine one_ (i := 5) (N := some 24) (lq 10 63) rfl rfl (one_of HT_.out (by kernel_rfl)) (by decide) (fun K hK => ?_)
 refine gs Tryz.func41 #[.slice A1 ds.length c1, .slice A3 n3 c3] ?_
 refine (HP.out _ (below_drew hB)).mono ?_
 rintro e w4 ⟨rfl, hb⟩
 replace hA := kB (kD hA) hb
 replace hZ := kB (kD hZ) hb
 replace hB := bS (below_drew hB) hb
 replace y0 := cB hb y0
 replace y1 := cB hb y1
 replace y2 := cB hb y2
 replace y3 := cB hb y3
 replace y4 := cB hb y4
 clear hb
 obtain ⟨⟨z0, z1, z2, z3, z4⟩, zl, zf0, zf1, zf2, zf3, zf4⟩ := rc5 hZ
 refine ⟨_, rfl, hK.out _ _ ⟨(c3_of hA).1.1, (c3_of hA).1.2.1, (c3_of hA).1.2.2, y0, y1, y2, y3, y4⟩ (fun hHeld => ?_)⟩; clear hK K
 refine ng 24 ?_
 refine pv 6 25 10 127 HT_ ?_
 refine tv 7 26 10 255 HT_ HW_ hHeld ?_
 refine last_ (i := 8) (N := none) (lq 10 511) rfl rfl (one_of HT_.out (by kernel_rfl)) (by decide) (fun K hK => ?_)
 refine skip_ (w1 := ?_) (by rfl) rfl ?_ ?_
 rotate_left
 ·go_simp
  rfl
 refine hK.out _ _ ?_
 clear hK K
 refine pv 9 5 10 1023 HT_ ?_
 refine done_ (done_of HT_.out (by kernel_rfl)) ?_
 clear HT_ HW_ hHeld y0 y1 y2 y3 y4 hA
 go_wp2
 refine bodyPost_ret (v := .tuple #[.agg #[.int .i64 x.f0, .int .i64 x.f1, .int .i64 x.f2.f0, .int .i64 x.f2.f1, .bool x.f3], .int .i64 0]) (by clear hZ; simp [results, Tryz.results19, go_sem, z0, z1, z2, z3, z4, zl]) rfl ⟨rfl, below_set5 hB hz⟩
/-- Get, on both sides -/
theorem gt_both (t : Int) (ds : List S54) (es : List S38) (ks : List Int) (h6 : ∀ x ∈ es, I6 x.f2.f0) (hl : es.length ≤ 1010) : ∃ (y : S38) (v : Int), ∀ (A1 A2 A3 : Option Addr) (c1 c2 c3 n m n3 : Nat) (w : World), Arr w A1 n c1 ds A2 m c2 es → Kd.C (Kd.int .i64) w A3 n3 ks → n3 ≤ c3 → Calls Tryz.prog 14 #[.agg #[.int .i64 t, .slice A1 n c1, .slice A2 m c2], .slice A3 n3 c3] w (VE y v w) ∧ Calls Tryz.prog 19 #[.agg #[.int .i64 t, .slice A1 n c1, .slice A2 m c2], .slice A3 n3 c3] w (VE y v w) := by
 by_cases F : Fine t ds es
 ·have hp1 : ∀ d ∈ ds, 1 ≤ ext d := fun d hd => ((errOf_zero F.2.1).2.1.2.1 d hd).1
  refine ⟨getV t ds es ks, getE ds ks, fun A1 A2 A3 c1 c2 c3 n m n3 w hr h3 hc3 => ⟨get_c F ks A1 A2 A3 c1 c2 c3 n m n3 w hr h3 hc3, ?_⟩⟩
  obtain ⟨rfl, rfl⟩ := hr.len
  obtain rfl := h3.1
  have HK : Hid (∀ W, Below w.heap.size w W → Calls Tryz.prog 16 #[.agg #[.int .i64 t, .slice A1 ds.length c1, .slice A2 es.length c2]] W (Bq true W)) := Lib.hid fun W hb => rck_yes F h6 _ _ _ _ _ _ W (hr.below hb) (by omega)
  have HE : Hid (∀ W, Below w.heap.size w W → Calls Tryz.prog 56 #[.slice A1 ds.length c1, .slice A3 ks.length c3] W (AI (getE ds ks) W)) := Lib.hid fun W hb => rchecked_w (errOf_zero F.2.1).2.2.2.2 ks A1 A3 c1 c3 W (Kd.C_below hr.1 hb) hr.2.1 (Kd.C_below h3 hb) hc3
  by_cases he : getE ds ks = 0
  ·have hb : inB ds ks = true := by
    unfold getE at he
    split at he
    ·split at he
     ·assumption
     ·cases he
    ·cases he
   have hlk : ks.length = ds.length := by
    unfold getE at he
    split at he
    ·assumption
    ·cases he
   obtain ⟨_, _, _, _, g0, g1⟩ := vAt_some hp1 F.2.2.1 hb
   obtain ⟨be, rfl, y0, y1, y2, y3, y4⟩ := at_T38 hr.2.2.1 (plc ds ks) g0 g1
   have hg : getV t ds es ks = rd_T38 es (plc ds ks) := by unfold getV; rw [if_pos hlk, if_pos hb]
   rw [he] at HE ⊢
   rw [hg]
   exact rget_ok t A1 A3 be c1 c2 c3 ks.length ds es w HK HE (plc ds ks) g0 g1 _ (Lib.hid fun W hb2 => rplace_w F.2.1 ks hb A1 A3 c1 c3 W (Kd.C_below hr.1 hb2) hr.2.1 (Kd.C_below h3 hb2) hc3) (Lib.hid ⟨y0, y1, y2, y3, y4⟩)
  ·have hg : getV t ds es ks = zv := by
    unfold getE at he
    unfold getV
    split
    ·rename_i hlk
     rw [if_pos hlk] at he
     split
     ·rename_i hb
      rw [if_pos hb] at he
      exact absurd rfl he
     ·rfl
    ·rfl
   rw [hg]
   exact rget_no2 t A1 A2 A3 c1 c2 c3 ks.length ds es w HK _ he HE
 ·refine ⟨zv, 1, fun A1 A2 A3 c1 c2 c3 n m n3 w hr h3 hc3 => ?_⟩
  obtain ⟨rfl, rfl⟩ := hr.len
  refine ⟨?_, rget_no1 t A1 A2 A3 c1 c2 c3 n3 ds es w (Lib.hid fun W hb => rck_not F h6 _ _ _ _ _ _ W (hr.below hb) (by omega))⟩
  obtain rfl := h3.1
  refine (array_Get.calls 0 t A1 c1 ds A2 c2 es A3 c3 ks 0 0 0 0 false 1 w hr.1 hr.2.1 hr.2.2.1 hr.2.2.2 h3 hc3 ?_).mono fun e w' h => h
  unfold array_Get.f array_Check.f
  rw [check_not F, Option.bind_some, if_neg (by decide)]
end Go.Proofs.Q
end
