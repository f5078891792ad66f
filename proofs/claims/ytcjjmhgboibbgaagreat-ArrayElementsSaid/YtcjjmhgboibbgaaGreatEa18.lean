/-
 Texts of the proof, in build order: words that the walks use, contracts of functions, plain facts.
-/
import Derived.WalkSmall
import Derived.Test.YtcjjmhgboibbgaaGreatEa3
import Derived.Test.YtcjjmhgboibbgaaGreatEa4
import Derived.Test.YtcjjmhgboibbgaaGreatEa11
set_option maxHeartbeats 40000000
set_option maxRecDepth 100000
set_option linter.unusedVariables false
set_option linter.unusedSimpArgs false
section
namespace Go.Proofs.Q
open RowKit Shelf Rf Pw Pl Pm
theorem fail_yes (v : Int) (w : World) : Calls Tryz.prog 86 #[.bool true, .int .i64 v] w fun e w' => e = .panicked [{ v := .iface 118 (.agg #[.int .i64 v]), recovered := false }] ∧ w' = w := by
 go_enter Tryz.func86, Tryz.ntmps86
 go_wp2
 exact ⟨rfl, rfl, rfl⟩
def GuardPost (p q : Nat) (v : Int) (w w' : World) : Prop := w'.heap[p]? = some (.cells #[.int .i64 0, .int .i64 0, .int .i64 0, .int .i64 0, .bool false] 38) ∧ w'.heap[q]? = some (.cells #[.int .i64 v] 28) ∧ Kb (fun i => i = p ∨ i = q) w w'
theorem guard_hit (p q : Nat) (v : Int) (x0 x1 x2 x3 x4 y : Value) (w : World) (hpq : p ≠ q) (hp : w.heap[p]? = some (.cells #[x0, x1, x2, x3, x4] 38)) (hq : w.heap[q]? = some (.cells #[y] 28)) :
  CallsD Tryz.prog 63 #[.pointer (some ⟨p, 0, none⟩), .pointer (some ⟨q, 0, none⟩)] (.panicking [{ v := .iface 118 (.agg #[.int .i64 v]), recovered := false }]) w fun e u' w' => e = .returned (.tuple #[]) ∧ u' = .panicking [{ v := .iface 118 (.agg #[.int .i64 v]), recovered := true }] ∧ GuardPost p q v w w' := by
 have hta : ∀ W : World, (Instr.typeAssert (.iface 118 (.agg #[.int .i64 v])) 20 118 true).run Tryz.prog W = .ok (.tuple #[.agg #[.int .i64 v], .bool true]) W := fun W => by first | kernel_rfl | rfl | (simp [Instr.typeAssert, go_sem])
 have hpl := blk_lt hp
 have hql := blk_lt hq
 have hne2 : q ≠ p := hpq.symm
 have hnp : p ≠ w.heap.size := by omega
 have hnq : q ≠ w.heap.size := by omega
 have hnp1 : p ≠ w.heap.size + 1 := by omega
 have hnq1 : q ≠ w.heap.size + 1 := by omega
 have c0 : w.cell? ⟨p, 0, none⟩ = some x0 := by rw [kC hp 0]; rfl
 have c1 : w.cell? ⟨p, 1, none⟩ = some x1 := by rw [kC hp 1]; rfl
 have c2 : w.cell? ⟨p, 2, none⟩ = some x2 := by rw [kC hp 2]; rfl
 have c3 : w.cell? ⟨p, 3, none⟩ = some x3 := by rw [kC hp 3]; rfl
 have c4 : w.cell? ⟨p, 4, none⟩ = some x4 := by rw [kC hp 4]; rfl
 have d0 : w.cell? ⟨q, 0, none⟩ = some y := by rw [kC hq 0]; rfl
 have f0 := kF hp 0
 have f1 := kF hp 1
 have f2 := kF hp 2
 have f3 := kF hp 3
 have f4 := kF hp 4
 have g0 := kF hq 0
 have HP := Lib.hid hp
 have HQ := Lib.hid hq
 clear hp hq
 refine callsD_of_wpS Tryz.func63 rfl fun c₀ cs hu => ?_
 apply wpS_seq
 apply wpS_region
 simp [wpOpsS, go_sem, recoverD, hu, Tryz.ntmps63, Exit.thenS]
 refine wpS_of_wp ?_
 rw [show (#[Value.pointer (some ⟨p, 0, none⟩), Value.pointer (some ⟨q, 0, none⟩)] ++ (Array.replicate 19 undef).setIfInBounds 6 (Value.iface 118 (Value.agg #[Value.int .i64 v])) : Array Value) = #[.pointer (some ⟨p, 0, none⟩), .pointer (some ⟨q, 0, none⟩), undef, undef, undef, undef, undef, undef, .iface 118 (.agg #[.int .i64 v]), undef, undef, undef, undef, undef, undef, undef, undef, undef, undef, undef, undef] from rfl]
 go_wp2
 go_region
 have b1 := blk_set (blk_set (blk_set (blk_set (blk_set HP.out 0 (.int .i64 0)) 1 (.int .i64 0)) 2 (.int .i64 0)) 3 (.int .i64 0)) 4 (.bool false)
 have b2 : ((((((w.setCell ⟨p, 0, none⟩ (.int .i64 0)).setCell ⟨p, 1, none⟩ (.int .i64 0)).setCell ⟨p, 2, none⟩ (.int .i64 0)).setCell ⟨p, 3, none⟩ (.int .i64 0)).setCell ⟨p, 4, none⟩ (.bool false)).setCell ⟨q, 0, none⟩ (.int .i64 v)).heap[p]? = some (.cells #[.int .i64 0, .int .i64 0, .int .i64 0, .int .i64 0, .bool false] 38) := by
  rw [Below.heap_setCell _ _ _ p hpq]
  simpa using b1
 have q1 : (((((w.setCell ⟨p, 0, none⟩ (.int .i64 0)).setCell ⟨p, 1, none⟩ (.int .i64 0)).setCell ⟨p, 2, none⟩ (.int .i64 0)).setCell ⟨p, 3, none⟩ (.int .i64 0)).setCell ⟨p, 4, none⟩ (.bool false)).heap[q]? = some (.cells #[y] 28) := by
  rw [Below.heap_setCell _ _ _ q hne2, Below.heap_setCell _ _ _ q hne2, Below.heap_setCell _ _ _ q hne2, Below.heap_setCell _ _ _ q hne2, Below.heap_setCell _ _ _ q hne2]
  exact HQ.out
 have q2 := blk_set q1 0 (.int .i64 v)
 have hk : Kb (fun i => i = p ∨ i = q) w ((((((w.setCell ⟨p, 0, none⟩ (.int .i64 0)).setCell ⟨p, 1, none⟩ (.int .i64 0)).setCell ⟨p, 2, none⟩ (.int .i64 0)).setCell ⟨p, 3, none⟩ (.int .i64 0)).setCell ⟨p, 4, none⟩ (.bool false)).setCell ⟨q, 0, none⟩ (.int .i64 v)) :=
  ((((((Kb.refl _ w).setCell (.inl (.inl rfl)) _).setCell (.inl (.inl rfl)) _).setCell (.inl (.inl rfl)) _).setCell (.inl (.inl rfl)) _).setCell (.inl (.inl rfl)) _).setCell (.inl (.inr rfl)) _
 generalize ((((((w.setCell ⟨p, 0, none⟩ (.int .i64 0)).setCell ⟨p, 1, none⟩ (.int .i64 0)).setCell ⟨p, 2, none⟩ (.int .i64 0)).setCell ⟨p, 3, none⟩ (.int .i64 0)).setCell ⟨p, 4, none⟩ (.bool false)).setCell ⟨q, 0, none⟩ (.int .i64 v)) = W1 at *
 have HG : Hid (GuardPost p q v w ((W1.alloc (.cells #[.int .i64 v] 118)).alloc (.cells #[.int .i64 0, .int .i64 0, .int .i64 0, .int .i64 0, .bool false] 38)).drew) :=
  Lib.hid ⟨kA (kA b2 _) _, kA (kA (by simpa using q2) _) _, ((hk.alloc _).alloc _).drew⟩
 generalize ((W1.alloc (.cells #[.int .i64 v] 118)).alloc (.cells #[.int .i64 0, .int .i64 0, .int .i64 0, .int .i64 0, .bool false] 38)).drew = W2 at *
 clear b1 b2 q1 q2 hk c0 c1 c2 c3 c4 d0 f0 f1 f2 f3 f4 g0
 go_wp2
 cases c₀
 simp_all [bodyPostS, results, Tryz.results63]
 exact HG.out
end Go.Proofs.Q
end
section
namespace Go.Proofs.Q
open RowKit Pw Pl Pm
attribute [local go_sem] max2_int min2_int max_two min_two max_three min_three max_four min_four   -- for this text's walks alone
def real_nat_bits.l0 : Nat → Int → Int → Option (Int)
 | 0, _, _ => none
 | k + 1, x3, x4 => if x4 > 0 then (real_nat_bits.l0 k (wrap64 (x3 + 1)) (x4 / 2)) else (some x3)
def real_nat_bits.f (k : Nat) (l0 : List Int) : Option (Int) := if (l0.length : Int) = 0 then (some 0) else (if 0 ≤ (wrap64 ((l0.length : Int) - 1)) then (if (wrap64 ((l0.length : Int) - 1)) < (l0.length : Int) then (real_nat_bits.l0 k (wrap64 (32 * (wrap64 ((l0.length : Int) - 1)))) (rd l0 (wrap64 ((l0.length : Int) - 1)))) else (none)) else (none))
theorem real_nat_bits.calls (k : Nat) (A0 : Option Addr) (c0 : Nat) (l0 : List Int) (r : Int) (w : World) (hr0 : Kd.C (Kd.int .u32) w A0 l0.length l0) (hc0 : l0.length ≤ c0) (h : real_nat_bits.f k l0 = some r) :
  Calls Tryz.prog 111 #[.slice A0 l0.length c0] w fun e w' => e = .returned (.int .i64 r) ∧ Dn w w' := by
 have HR0 := As.mk hr0
 have HC0 := As.mk hc0
 clear hr0 hc0
 have H : (if (l0.length : Int) = 0 then (some 0) else (if 0 ≤ (wrap64 ((l0.length : Int) - 1)) then (if (wrap64 ((l0.length : Int) - 1)) < (l0.length : Int) then (real_nat_bits.l0 k (wrap64 (32 * (wrap64 ((l0.length : Int) - 1)))) (rd l0 (wrap64 ((l0.length : Int) - 1)))) else (none)) else (none))) = some r := h
 clear h
 by_cases c2 : (l0.length : Int) = 0
 ·rw [if_pos c2] at H
  have c2b0 : ((l0.length : Int) == 0) = true := beq_iff_eq.mpr c2
  have c2b1 : ((l0.length : Int) != 0) = false := bne_eq_false_iff_eq.mpr c2
  clear c2
  obtain rfl := Option.some.inj H
  go_enter Tryz.func111, Tryz.ntmps111
  go_wp2
  go_ret
  exact ⟨by first | rfl | (simp; done) | (simp [*]; done), by repeat (first | exact Dn.refl _ | apply Dn.step)⟩
 ·rw [if_neg c2] at H
  have c2b0 : ((l0.length : Int) == 0) = false := beq_eq_false_iff_ne.mpr c2
  have c2b1 : ((l0.length : Int) != 0) = true := bne_iff_ne.mpr c2
  have c2b2 : ¬ (l0 = []) := fun h_ => c2 (by rw [h_]; rfl)
  obtain ⟨ji3, hji3⟩ : ∃ j_ : Int, (wrap64 ((l0.length : Int) - 1)) = j_ := ⟨_, rfl⟩
  replace H : (if 0 ≤ (ji3) then (if (ji3) < (l0.length : Int) then (real_nat_bits.l0 k (wrap64 (32 * (ji3))) (rd l0 (ji3))) else (none)) else (none)) = some r := by first | (rw [hji3] at H; exact H) | (simp only [hji3] at H ⊢; exact H)
  have hji3w : (IntKind.i64.wrap ((l0.length : Int) - 1)) = ji3 := (i64_w _).trans hji3
  by_cases c4 : 0 ≤ (ji3)
  ·rw [if_pos c4] at H
   have c4b0 : decide (0 ≤ (ji3)) = true := decide_eq_true c4
   clear c4
   by_cases c5 : (ji3) < (l0.length : Int)
   ·rw [if_pos c5] at H
    have c5b0 : decide ((ji3) < (l0.length : Int)) = true := decide_eq_true c5
    clear c5
    have H' := As.mk H
    clear H
    have p197 : 0 ≤ ((ji3) : Int) := od
    have q197 : (ji3) < (l0.length : Int) := od
    obtain ⟨ad197, e197, hx197_0⟩ := Kd.at_int HR0.out (ji3) p197 q197
    cases e197
    replace p197 := eq_true p197
    replace q197 := eq_true q197
    go_enter Tryz.func111, Tryz.ntmps111
    go_wp2
    go_loopg [3, 4] k (fun kq v3 v4 w' => ∃ (x3_1 : Int) (x4_1 : Int), v3 = .int .i64 x3_1 ∧ v4 = .int .u32 x4_1 ∧ As (real_nat_bits.l0 kq x3_1 x4_1 = some r) ∧ As (kq ≤ k) ∧ Dn w w')
    case atStart => exact ⟨(wrap64 (32 * (ji3))), (rd l0 (ji3)), (by first | rfl | (simp; done) | (simp only [← hji3] <;> (first | rfl | simp)) | (simp [*]; done)), (by first | rfl | (simp; done) | (simp only [← hji3] <;> (first | rfl | simp)) | (simp [*]; done)), H', ⟨Nat.le_refl _⟩, by repeat (first | exact Dn.refl _ | apply Dn.step)⟩
    case round =>
     clear H'
     try clear p1
     try clear q1
     try clear hx1
     try clear c2
     try clear c2b0
     try clear c2b1
     try clear c2b2
     try clear p2
     try clear c4
     try clear c4b0
     try clear c5
     try clear c5b0
     try clear hx197_0
     try clear p197
     try clear q197
     obtain ⟨x3_1, x4_1, rfl, rfl, HA, HK1, ⟨m1, rfl⟩⟩ := hrel
     cases gk with
     | zero => exact absurd HA.out (by simp [real_nat_bits.l0])
     | succ k1 =>
      have H := HA.out
      clear HA
      simp only [real_nat_bits.l0] at H
      by_cases c6 : x4_1 > 0
      ·rw [if_pos c6] at H
       have c6b0 : decide (0 < x4_1) = true := decide_eq_true c6
       clear c6
       have H' := As.mk H
       clear H
       go_wp2
       go_roundg k1
       case measure => have := HK1.out; omega
       case rel => exact ⟨(wrap64 (x3_1 + 1)), (x4_1 / 2), (by first | rfl | (simp; done) | (simp [*]; done)), (by first | rfl | (simp; done) | (simp [*]; done)), H', ⟨by have := HK1.out; omega⟩, by repeat (first | exact Dn.refl _ | apply Dn.step)⟩
      ·rw [if_neg c6] at H
       have c6b0 : decide (0 < x4_1) = false := decide_eq_false c6
       clear c6
       obtain rfl := Option.some.inj H
       go_wp2
       go_ret
       exact ⟨by first | rfl | (simp; done) | (simp only [← hji3] <;> (first | rfl | simp)) | (simp [*]; done), by repeat (first | exact Dn.refl _ | apply Dn.step)⟩
   ·rw [if_neg c5] at H
    exact absurd H (by simp)
  ·rw [if_neg c4] at H
   exact absurd H (by simp)
def real_trim.l0 : Nat → List Int → Option (List Int)
 | 0, _ => none
 | k + 1, x0 => if (x0.length : Int) > 0 then (if 0 ≤ (wrap64 ((x0.length : Int) - 1)) then (if (wrap64 ((x0.length : Int) - 1)) < (x0.length : Int) then (if (rd x0 (wrap64 ((x0.length : Int) - 1))) = 0 then (if (wrap64 ((x0.length : Int) - 1)) ≤ (x0.length : Int) then (real_trim.l0 k (x0.take ((wrap64 ((x0.length : Int) - 1)) : Int).toNat)) else (none)) else (some x0)) else (none)) else (none)) else (some x0)
def real_trim.f (k : Nat) (l0 : List Int) : Option (List Int) := real_trim.l0 k l0
theorem real_trim.calls (k : Nat) (P0_ : Nat → Prop) (A0 : Option Addr) (c0 : Nat) (l0 : List Int) (r : List Int) (w : World) (hs0 : Kd.V (Kd.int .u32) 128 w w.heap.size (fun k_ => P0_ k_) (.slice A0 l0.length c0) l0) (h : real_trim.f k l0 = some r) :
  Calls Tryz.prog 116 #[.slice A0 l0.length c0] w fun e w' => ∃ v0_ : Value, e = .returned (v0_) ∧ Kd.V (Kd.int .u32) 128 w' w.heap.size (fun k_ => (P0_ k_ ∨ w.heap.size ≤ k_)) v0_ r ∧ Below w.heap.size w w' := by
 have HO0 := As.mk (show Kd.V (Kd.int .u32) 128 w w.heap.size (fun k_ => (P0_ k_ ∨ w.heap.size ≤ k_)) (.slice A0 l0.length c0) l0 from Kd.V_mono hs0 (fun k_ hk => .inl hk))
 have HB := As.mk (Below.refl w.heap.size w)
 have H : (real_trim.l0 k l0) = some r := h
 clear h
 have H' := As.mk H
 clear H
 go_enter Tryz.func116, Tryz.ntmps116
 go_wp2
 go_loopg [0] k (fun kq v0 w' => ∃ (x0_1 : List Int), As (real_trim.l0 kq x0_1 = some r) ∧ As (kq ≤ k) ∧ As (Kd.V (Kd.int .u32) 128 w' w.heap.size (fun k_ => (P0_ k_ ∨ w.heap.size ≤ k_)) v0 x0_1) ∧ As (Below w.heap.size w w'))
 case atStart => exact ⟨(l0), H', ⟨Nat.le_refl _⟩, ⟨by (with_reducible repeat (first | apply Kd.V_alloc | apply Kd.V_drewN | apply Kd.V_drew)); exact HO0.out⟩, ⟨zz⟩⟩
 case round =>
  clear H'
  obtain ⟨x0_1, HA, HK1, HO_0, HB⟩ := hrel
  cases gk with
  | zero => exact absurd HA.out (by simp [real_trim.l0])
  | succ k1 =>
   have H := HA.out
   clear HA
   simp only [real_trim.l0] at H
   by_cases c2 : (x0_1.length : Int) > 0
   ·rw [if_pos c2] at H
    have c2b0 : decide (0 < (x0_1.length : Int)) = true := decide_eq_true c2
    have c2b1 : decide (0 < x0_1.length) = true := decide_eq_true (by omega)
    clear c2
    obtain ⟨ji3, hji3⟩ : ∃ j_ : Int, (wrap64 ((x0_1.length : Int) - 1)) = j_ := ⟨_, rfl⟩
    replace H : (if 0 ≤ (ji3) then (if (ji3) < (x0_1.length : Int) then (if (rd x0_1 (ji3)) = 0 then (if (ji3) ≤ (x0_1.length : Int) then (real_trim.l0 k1 (x0_1.take ((ji3) : Int).toNat)) else (none)) else (some x0_1)) else (none)) else (none)) = some r := by first | (rw [hji3] at H; exact H) | (simp only [hji3] at H ⊢; exact H)
    have hji3w : (IntKind.i64.wrap ((x0_1.length : Int) - 1)) = ji3 := (i64_w _).trans hji3
    by_cases c4 : 0 ≤ (ji3)
    ·rw [if_pos c4] at H
     have c4b0 : decide (0 ≤ (ji3)) = true := decide_eq_true c4
     clear c4
     by_cases c5 : (ji3) < (x0_1.length : Int)
     ·rw [if_pos c5] at H
      have c5b0 : decide ((ji3) < (x0_1.length : Int)) = true := decide_eq_true c5
      clear c5
      by_cases c6 : (rd x0_1 (ji3)) = 0
      ·rw [if_pos c6] at H
       have c6b0 : ((rd x0_1 (ji3)) == 0) = true := beq_iff_eq.mpr c6
       have c6b1 : ((rd x0_1 (ji3)) != 0) = false := bne_eq_false_iff_eq.mpr c6
       clear c6
       have c7b0 := eq_true (od : 0 ≤ (ji3))
       by_cases c8 : (ji3) ≤ (x0_1.length : Int)
       ·rw [if_pos c8] at H
        have c8b0 := eq_true c8
        have c8b1 : decide ((ji3) ≤ (x0_1.length : Int)) = true := decide_eq_true c8
        clear c8
        obtain ⟨y199, hy199⟩ : ∃ y_ : List Int, y_ = (x0_1.take ((ji3) : Int).toNat) := ⟨_, rfl⟩
        replace H : (real_trim.l0 k1 y199) = some r := by first | (rw [hy199]; with_reducible exact H) | (have H2_ := (Option.bind_some _ _).symm.trans H; rw [hy199]; with_reducible exact H2_) | (have H2_ := (Option.bind_some _ _).symm.trans H; with_reducible exact H2_) | with_reducible exact H | (rw [hy199]; exact H) | exact H
        have Ny199 := As.mk hy199
        clear hy199
        have H' := As.mk H
        clear H
        obtain ⟨Ao9, co9, eo9⟩ := Kd.V_slice HO_0.out
        subst eo9
        have p198 : 0 ≤ ((ji3) : Int) := od
        have q198 : (ji3) < (x0_1.length : Int) := od
        obtain ⟨ad198, e198, hx198_0⟩ := Kd.at_int (Kd.V_reads' HO_0.out).2.2 (ji3) p198 q198
        cases e198
        replace p198 := eq_true p198
        replace q198 := eq_true q198
        have q10 : ((ji3) : Int) ≤ ((x0_1.length : Int) : Int) := od
        obtain ⟨i010, hi010, _, hsz10, _⟩ := info_parts info128
        have hroom10 : x0_1.length ≤ co9 := (Kd.V_reads' HO_0.out).2.1
        have hC10 : Kd.F (Kd.int .u32) _ _ (some ad198) x0_1.length x0_1 := (Kd.V_at (base := w.heap.size) HO_0.out).2.2
        have hcut10 := cut_to (P := Tryz.prog) 148 128 .i64 Tryz.underlying148 hi010 (some ad198) x0_1.length co9 (ji3) (od) q10 hroom10
        have hr10 := Kd.F_take (m := ((ji3) : Int).toNat) hC10 (by omega)
        have hy10 : y199.length = ((ji3) : Int).toNat := (by rw [Ny199.out, List.length_take]; omega)
        rw [← Ny199.out] at hr10
        rw [← hy10] at hcut10
        have HO203 := As.mk (show Kd.V (Kd.int .u32) 128 _ w.heap.size _ (.slice (some ad198) y199.length co9) y199 from Kd.V_mk (by omega) hr10)
        have HC203 := As.mk (show y199.length ≤ co9 from by omega)
        clear hr10 hC10 hroom10 hi010 hsz10
        have KY10 := As.mk hy10
        clear hy10
        replace q10 := eq_true q10
        go_wp2
        go_roundg k1
        case measure => have := HK1.out; omega
        case rel => exact ⟨(y199), H', ⟨by have := HK1.out; omega⟩, ⟨by (with_reducible repeat (first | apply Kd.V_alloc | apply Kd.V_drewN | apply Kd.V_drew)); exact HO203.out⟩, ⟨zz⟩⟩
       ·rw [if_neg c8] at H
        exact absurd H (by simp)
      ·rw [if_neg c6] at H
       have c6b0 : ((rd x0_1 (ji3)) == 0) = false := beq_eq_false_iff_ne.mpr c6
       have c6b1 : ((rd x0_1 (ji3)) != 0) = true := bne_iff_ne.mpr c6
       obtain rfl := Option.some.inj H
       obtain ⟨Ao11, co11, eo11⟩ := Kd.V_slice HO_0.out
       subst eo11
       have p198 : 0 ≤ ((ji3) : Int) := od
       have q198 : (ji3) < (x0_1.length : Int) := od
       obtain ⟨ad198, e198, hx198_0⟩ := Kd.at_int (Kd.V_reads' HO_0.out).2.2 (ji3) p198 q198
       cases e198
       replace p198 := eq_true p198
       replace q198 := eq_true q198
       go_wp2
       go_ret
       exact ⟨_, by first | rfl | (simp [eN, eS] <;> rfl) | (simp only [← hji3]; first | rfl | (simp [eN, eS] <;> rfl)) | (simp [*, eN, eS] <;> rfl), by (with_reducible repeat (first | apply Kd.V_alloc | apply Kd.V_drewN | apply Kd.V_drew)); exact HO_0.out, zz⟩
     ·rw [if_neg c5] at H
      exact absurd H (by simp)
    ·rw [if_neg c4] at H
     exact absurd H (by simp)
   ·rw [if_neg c2] at H
    have c2b0 : decide (0 < (x0_1.length : Int)) = false := decide_eq_false c2
    have c2b1 : decide (0 < x0_1.length) = false := decide_eq_false (by omega)
    clear c2
    obtain rfl := Option.some.inj H
    obtain ⟨Ao12, co12, eo12⟩ := Kd.V_slice HO_0.out
    subst eo12
    go_wp2
    go_ret
    exact ⟨_, by first | rfl | (simp [eN, eS] <;> rfl) | (simp [*, eN, eS] <;> rfl), by (with_reducible repeat (first | apply Kd.V_alloc | apply Kd.V_drewN | apply Kd.V_drew)); exact HO_0.out, zz⟩
def real_nat_cmp.l0 : Nat → List Int → List Int → Int → Option (Int)
 | 0, _, _, _ => none
 | k + 1, x0, x1, x5 => if x5 ≥ 0 then (if 0 ≤ x5 then (if x5 < (x0.length : Int) then (if x5 < (x1.length : Int) then (if (rd x0 x5) = (rd x1 x5) then (real_nat_cmp.l0 k x0 x1 (wrap64 (x5 - 1))) else (if (rd x0 x5) < (rd x1 x5) then (some (-1)) else (some 1))) else (none)) else (none)) else (none)) else (some 0)
def real_nat_cmp.f (k : Nat) (l0 : List Int) (l1 : List Int) : Option (Int) := if (l0.length : Int) = (l1.length : Int) then (real_nat_cmp.l0 k l0 l1 (wrap64 ((l0.length : Int) - 1))) else (if (l0.length : Int) < (l1.length : Int) then (some (-1)) else (some 1))
theorem real_nat_cmp.calls (k : Nat) (A0 : Option Addr) (c0 : Nat) (l0 : List Int) (A1 : Option Addr) (c1 : Nat) (l1 : List Int) (r : Int) (w : World) (hr0 : Kd.C (Kd.int .u32) w A0 l0.length l0) (hc0 : l0.length ≤ c0) (hr1 : Kd.C (Kd.int .u32) w A1 l1.length l1) (hc1 : l1.length ≤ c1) (h : real_nat_cmp.f k l0 l1 = some r) :
  Calls Tryz.prog 115 #[.slice A0 l0.length c0, .slice A1 l1.length c1] w fun e w' => e = .returned (.int .i64 r) ∧ Dn w w' := by
 have HR0 := As.mk hr0
 have HC0 := As.mk hc0
 clear hr0 hc0
 have HR1 := As.mk hr1
 have HC1 := As.mk hc1
 clear hr1 hc1
 have H : (if (l0.length : Int) = (l1.length : Int) then (real_nat_cmp.l0 k l0 l1 (wrap64 ((l0.length : Int) - 1))) else (if (l0.length : Int) < (l1.length : Int) then (some (-1)) else (some 1))) = some r := h
 clear h
 by_cases c3 : (l0.length : Int) = (l1.length : Int)
 ·rw [if_pos c3] at H
  have c3b0 : ((l0.length : Int) == (l1.length : Int)) = true := beq_iff_eq.mpr c3
  have c3b1 : ((l0.length : Int) != (l1.length : Int)) = false := bne_eq_false_iff_eq.mpr c3
  have c3b2 : (l0.length == l1.length) = true := by first | simpa using c3 | (simp at c3 ⊢; omega)
  clear c3
  have H' := As.mk H
  clear H
  go_enter Tryz.func115, Tryz.ntmps115
  go_wp2
  repeat (go_quiet (fail); try go_wp2)
  go_loopg [5] k (fun kq v5 w' => ∃ (x5_1 : Int), v5 = .int .i64 x5_1 ∧ As (real_nat_cmp.l0 kq l0 l1 x5_1 = some r) ∧ As (kq ≤ k) ∧ Dn w w')
  case atStart => exact ⟨(wrap64 ((l0.length : Int) - 1)), (by first | rfl | (simp; done) | (simp [*]; done)), H', ⟨Nat.le_refl _⟩, by repeat (first | exact Dn.refl _ | apply Dn.step)⟩
  case round =>
   clear H'
   try clear c1
   try clear p2
   try clear c3
   try clear c3b0
   try clear c3b1
   try clear c3b2
   obtain ⟨x5_1, rfl, HA, HK1, ⟨m1, rfl⟩⟩ := hrel
   cases gk with
   | zero => exact absurd HA.out (by simp [real_nat_cmp.l0])
   | succ k1 =>
    have H := HA.out
    clear HA
    simp only [real_nat_cmp.l0] at H
    by_cases c4 : x5_1 ≥ 0
    ·rw [if_pos c4] at H
     have c4b0 : decide (0 ≤ x5_1) = true := decide_eq_true c4
     clear c4
     by_cases c5 : 0 ≤ x5_1
     ·rw [if_pos c5] at H
      have c5b0 : decide (0 ≤ x5_1) = true := decide_eq_true c5
      clear c5
      by_cases c6 : x5_1 < (l0.length : Int)
      ·rw [if_pos c6] at H
       have c6b0 : decide (x5_1 < (l0.length : Int)) = true := decide_eq_true c6
       clear c6
       by_cases c7 : x5_1 < (l1.length : Int)
       ·rw [if_pos c7] at H
        have c7b0 : decide (x5_1 < (l1.length : Int)) = true := decide_eq_true c7
        clear c7
        by_cases c8 : (rd l0 x5_1) = (rd l1 x5_1)
        ·rw [if_pos c8] at H
         have c8b0 : ((rd l0 x5_1) == (rd l1 x5_1)) = true := beq_iff_eq.mpr c8
         have c8b1 : ((rd l0 x5_1) != (rd l1 x5_1)) = false := bne_eq_false_iff_eq.mpr c8
         clear c8
         have H' := As.mk H
         clear H
         have p204 : 0 ≤ (x5_1 : Int) := od
         have q204 : x5_1 < (l0.length : Int) := od
         obtain ⟨ad204, e204, hx204_0⟩ := Kd.at_int HR0.out x5_1 p204 q204
         cases e204
         replace p204 := eq_true p204
         replace q204 := eq_true q204
         have p205 : 0 ≤ (x5_1 : Int) := od
         have q205 : x5_1 < (l1.length : Int) := od
         obtain ⟨ad205, e205, hx205_0⟩ := Kd.at_int HR1.out x5_1 p205 q205
         cases e205
         replace p205 := eq_true p205
         replace q205 := eq_true q205
         go_wp2
         repeat (go_quiet (fail); try go_wp2)
         go_roundg k1
         case measure => have := HK1.out; omega
         case rel => exact ⟨(wrap64 (x5_1 - 1)), (by first | rfl | (simp; done) | (simp [*]; done)), H', ⟨by have := HK1.out; omega⟩, by repeat (first | exact Dn.refl _ | apply Dn.step)⟩
        ·rw [if_neg c8] at H
         have c8b0 : ((rd l0 x5_1) == (rd l1 x5_1)) = false := beq_eq_false_iff_ne.mpr c8
         have c8b1 : ((rd l0 x5_1) != (rd l1 x5_1)) = true := bne_iff_ne.mpr c8
         by_cases c9 : (rd l0 x5_1) < (rd l1 x5_1)
         ·rw [if_pos c9] at H
          have c9b0 : decide ((rd l0 x5_1) < (rd l1 x5_1)) = true := decide_eq_true c9
          clear c9
          obtain rfl := Option.some.inj H
          have p204 : 0 ≤ (x5_1 : Int) := od
          have q204 : x5_1 < (l0.length : Int) := od
          obtain ⟨ad204, e204, hx204_0⟩ := Kd.at_int HR0.out x5_1 p204 q204
          cases e204
          replace p204 := eq_true p204
          replace q204 := eq_true q204
          have p205 : 0 ≤ (x5_1 : Int) := od
          have q205 : x5_1 < (l1.length : Int) := od
          obtain ⟨ad205, e205, hx205_0⟩ := Kd.at_int HR1.out x5_1 p205 q205
          cases e205
          replace p205 := eq_true p205
          replace q205 := eq_true q205
          have p206 : 0 ≤ (x5_1 : Int) := od
          have q206 : x5_1 < (l0.length : Int) := od
          obtain ⟨ad206, e206, hx206_0⟩ := Kd.at_int HR0.out x5_1 p206 q206
          obtain rfl : ad204 = ad206 := (by injection e206)
          replace p206 := eq_true p206
          replace q206 := eq_true q206
          have p207 : 0 ≤ (x5_1 : Int) := od
          have q207 : x5_1 < (l1.length : Int) := od
          obtain ⟨ad207, e207, hx207_0⟩ := Kd.at_int HR1.out x5_1 p207 q207
          obtain rfl : ad205 = ad207 := (by injection e207)
          replace p207 := eq_true p207
          replace q207 := eq_true q207
          go_wp2
          repeat (go_quiet (fail); try go_wp2)
          go_ret
          exact ⟨by first | rfl | (simp; done) | (simp [*]; done), by repeat (first | exact Dn.refl _ | apply Dn.step)⟩
         ·rw [if_neg c9] at H
          have c9b0 : decide ((rd l0 x5_1) < (rd l1 x5_1)) = false := decide_eq_false c9
          clear c9
          obtain rfl := Option.some.inj H
          have p204 : 0 ≤ (x5_1 : Int) := od
          have q204 : x5_1 < (l0.length : Int) := od
          obtain ⟨ad204, e204, hx204_0⟩ := Kd.at_int HR0.out x5_1 p204 q204
          cases e204
          replace p204 := eq_true p204
          replace q204 := eq_true q204
          have p205 : 0 ≤ (x5_1 : Int) := od
          have q205 : x5_1 < (l1.length : Int) := od
          obtain ⟨ad205, e205, hx205_0⟩ := Kd.at_int HR1.out x5_1 p205 q205
          cases e205
          replace p205 := eq_true p205
          replace q205 := eq_true q205
          have p206 : 0 ≤ (x5_1 : Int) := od
          have q206 : x5_1 < (l0.length : Int) := od
          obtain ⟨ad206, e206, hx206_0⟩ := Kd.at_int HR0.out x5_1 p206 q206
          obtain rfl : ad204 = ad206 := (by injection e206)
          replace p206 := eq_true p206
          replace q206 := eq_true q206
          have p207 : 0 ≤ (x5_1 : Int) := od
          have q207 : x5_1 < (l1.length : Int) := od
          obtain ⟨ad207, e207, hx207_0⟩ := Kd.at_int HR1.out x5_1 p207 q207
          obtain rfl : ad205 = ad207 := (by injection e207)
          replace p207 := eq_true p207
          replace q207 := eq_true q207
          go_wp2
          repeat (go_quiet (fail); try go_wp2)
          go_ret
          exact ⟨by first | rfl | (simp; done) | (simp [*]; done), by repeat (first | exact Dn.refl _ | apply Dn.step)⟩
       ·rw [if_neg c7] at H
        exact absurd H (by simp)
      ·rw [if_neg c6] at H
       exact absurd H (by simp)
     ·rw [if_neg c5] at H
      exact absurd H (by simp)
    ·rw [if_neg c4] at H
     have c4b0 : decide (0 ≤ x5_1) = false := decide_eq_false c4
     clear c4
     obtain rfl := Option.some.inj H
     go_wp2
     repeat (go_quiet (fail); try go_wp2)
     go_ret
     exact ⟨by first | rfl | (simp; done) | (simp [*]; done), by repeat (first | exact Dn.refl _ | apply Dn.step)⟩
 ·rw [if_neg c3] at H
  have c3b0 : ((l0.length : Int) == (l1.length : Int)) = false := beq_eq_false_iff_ne.mpr c3
  have c3b1 : ((l0.length : Int) != (l1.length : Int)) = true := bne_iff_ne.mpr c3
  have c3b2 : (l0.length == l1.length) = false := by first | simpa using c3 | (simp at c3 ⊢; omega)
  by_cases c10 : (l0.length : Int) < (l1.length : Int)
  ·rw [if_pos c10] at H
   have c10b0 : decide ((l0.length : Int) < (l1.length : Int)) = true := decide_eq_true c10
   have c10b1 : decide (l0.length < l1.length) = true := decide_eq_true (Int.ofNat_lt.mp c10)
   clear c10
   obtain rfl := Option.some.inj H
   go_enter Tryz.func115, Tryz.ntmps115
   go_wp2
   repeat (go_quiet (fail); try go_wp2)
   go_ret
   exact ⟨by first | rfl | (simp; done) | (simp [*]; done), by repeat (first | exact Dn.refl _ | apply Dn.step)⟩
  ·rw [if_neg c10] at H
   have c10b0 : decide ((l0.length : Int) < (l1.length : Int)) = false := decide_eq_false c10
   have c10b1 : decide (l0.length < l1.length) = false := decide_eq_false (fun h => c10 (Int.ofNat_lt.mpr h))
   clear c10
   obtain rfl := Option.some.inj H
   go_enter Tryz.func115, Tryz.ntmps115
   go_wp2
   repeat (go_quiet (fail); try go_wp2)
   go_ret
   exact ⟨by first | rfl | (simp; done) | (simp [*]; done), by repeat (first | exact Dn.refl _ | apply Dn.step)⟩
end Go.Proofs.Q
end
section
namespace Go.Proofs.Q
open RowKit Shelf Rf Pw Pl Pm
theorem clone126_calls (ad : Addr) (n c : Nat) (l : List Int) (hn : n ≤ 1000) (w : World) (hC : Kd.C (Kd.int .u32) w (some ad) n l) :
  Calls Tryz.prog 118 #[.slice (some ad) n c] w (ClonePost (Kd.int .u32) 128 l w) := by
 have hnil : ∀ W : World, (binOp .eql 148 (.slice (some ad) n c) (.slice none 0 0)).run Tryz.prog W = .ok (.bool false) W := fun W => Lib.run_eql_slice_nil W 148 128 (some ad) n c 0 0 Tryz.underlying148
 have HC := Lib.hid hC; clear hC
 go_enter Tryz.func118, Tryz.ntmps118
 go_wp2_with (at_builtin; (refine Kd.R_append_rows (Kd.int .u32) (Rr := (Kd.int .u32).K (w.alloc (.cells #[] 128))) (w0 := w) w.heap.size rfl (.tmp 5) (.tmp 6) 148 128 (.int .u32 0) 4 rfl Tryz.underlying148 info128 rfl (by decide) (by omega) (.slice (some ⟨w.heap.size, 0, none⟩) 0 0) [] l (some ad) n c (fun _ => True) (fun _ => False) rfl rfl ?aO ?aR ?aK (fun _ hk => hk.elim) (fun _ _ => trivial) ?aB ?aS ?aL ?_); (case aO => exact R_empty _ _ _ w _ _ (Nat.le_refl _) (heap_alloc_new _ _)); (case aR => exact Kd.C_below HC.out (bA (Below.refl _ _) _)); (case aK => exact fun x cs h => h); (case aB => exact bA (Below.refl _ _) _); (case aS => simp); (case aL => simp; omega); intro v1 w2 ho hb hg hat; (have HO2 := Lib.hid ho); (have HB2 := Lib.hid hb); clear ho hb hg hat)
 go_ret
 exact ⟨_, rfl, HO2.out, HB2.out⟩
def real_nat_uint32.f (l0 : List Int) : Option (List Int) := if 1 ≤ l0.length ∧ l0.length ≤ 1000 then some l0 else none
theorem real_nat_uint32.calls (A0 : Option Addr) (c0 : Nat) (l0 : List Int) (r : List Int) (w : World) (hr0 : Kd.C (Kd.int .u32) w A0 l0.length l0) (hc0 : l0.length ≤ c0) (h : real_nat_uint32.f l0 = some r) :
  Calls Tryz.prog 118 #[.slice A0 l0.length c0] w fun e w' => ∃ v0_ : Value, e = .returned (v0_) ∧ Kd.R (Kd.int .u32) 128 w' w.heap.size (fun k_ => w.heap.size ≤ k_) v0_ r ∧ Below w.heap.size w w' := by
 unfold real_nat_uint32.f at h
 by_cases hc : 1 ≤ l0.length ∧ l0.length ≤ 1000
 ·rw [if_pos hc] at h
  cases h
  obtain ⟨ad, rfl, _⟩ := hr0.2.2 hc.1
  refine (clone126_calls ad _ c0 l0 hc.2 w hr0).mono ?_
  rintro e w' ⟨v, rfl, hv, hb⟩
  exact ⟨v, rfl, Kd.R_mono (Kd.R_bound hv) (fun k hk => hk.2.1), hb⟩
 ·rw [if_neg hc] at h; cases h
end Go.Proofs.Q
end
section
namespace Go.Proofs.Q
open RowKit Shelf Rf Pw Pl Pm
/-- the digits of a number shifted to the left by less than a digit -/
def shlGo (n : Int) : List Int → Int → List Int
 | [], c => [c % 4294967296]
 | x :: r, c => (Go.bits .or .u64 c (IntKind.u64.wrap (IntKind.u64.wrap x * 2 ^ n.toNat))) % 4294967296 :: shlGo n r ((Go.bits .or .u64 c (IntKind.u64.wrap (IntKind.u64.wrap x * 2 ^ n.toNat))) / 4294967296)
theorem at_u32 {w : World} {A : Option Addr} {n : Nat} {xs : List Int} (h : Kd.C (Kd.int .u32) w A n xs) (i : Nat) (hi : i < n) : ∃ ad, A = some ad ∧ w.cell? (ad.add i) = some (.int .u32 (xs.getD i 0)) := by
 have h4 := Kd.C_get h 0 (i : Int) (by omega) (by omega)
 obtain ⟨ad, c, e, _, hK, hc⟩ := h4
 obtain ⟨rfl⟩ := hK
 exact ⟨ad, e, by simpa [show (Kd.int .u32).sz = 1 from rfl] using hc 0 _ rfl⟩
theorem shl_walk (A0 : Option Addr) (c0 : Nat) (l0 : List Int) (n : Int) (m : Nat) (r : List Int) (w : World) (hr0 : Kd.C (Kd.int .u32) w A0 m l0) (hc0 : m ≤ c0) (hm : m ≤ 1000) (h0 : 0 ≤ n) (h1 : n < 32) (k : Nat) (h : real_trim.f k (shlGo n l0 0) = some r) :
  Calls Tryz.prog 112 #[.slice A0 m c0, .int .i64 n] w fun e w' => ∃ v0_ : Value, e = .returned (v0_) ∧ Kd.V (Kd.int .u32) 128 w' w.heap.size (fun k_ => (w.heap.size ≤ k_)) v0_ r ∧ Below w.heap.size w w' := by
 have hq : Int.tdiv n 32 = 0 := by rw [Int.tdiv_eq_ediv_of_nonneg h0]; omega
 have hre : Int.tmod n 32 = n := by rw [Int.tmod_eq_emod_of_nonneg h0]; omega
 have HC := Lib.hid hr0; clear hr0
 obtain ⟨i0, hi, hz0, hz1, hz2⟩ := info_parts info128
 have hmk : ∀ W : World, (Instr.makeSlice 148 (.int .i64 0) (.int .i64 ((m : Int) + 1))).run Tryz.prog W = .ok (.slice (some ⟨W.heap.size, 0, none⟩) 0 (m + 1)) (W.alloc (.cells (madeCells (Value.int .u32 0).cells ((m + 1) * 1)) 128)) := fun W => by
  have := run_makeSlice (P := Tryz.prog) (w := W) 148 128 i0 (.int .u32 0) Tryz.underlying148 hi hz0 .i64 .i64 0 ((m : Int) + 1)
  have h := this (Int.le_refl _) (by omega) (by rw [hz1]; omega) (by rw [hz2]; omega) (by omega)
  rw [hz1, show ((m : Int) + 1).toNat = m + 1 by omega] at h
  exact h
 clear hi hz0 hz1 hz2
 have hR : ∀ W : World, Kd.R (Kd.int .u32) 128 (W.alloc (.cells (madeCells (Value.int .u32 0).cells ((m + 1) * 1)) 128)) W.heap.size (fun k => W.heap.size ≤ k) (.slice (some ⟨W.heap.size, 0, none⟩) 0 (m + 1)) [] := fun W => by
  have ho := World.ownsRow_made (e := 128) (size := 1) (base := W.heap.size) W (madeCells (Value.int .u32 0).cells ((m + 1) * 1)) (m + 1) (Nat.le_refl _) (by unfold maxLen; omega) (size_madeCells _ _)
  exact ⟨fun k hk => own_base ho k hk, [], ho, Reps.none _ _⟩
 go_enter Tryz.func112, Tryz.ntmps112
 go_wp2_with fail
 have hB0 : Below w.heap.size w (w.alloc (.cells (madeCells #[.int .u32 0] (m + 1)) 128)) := bA (Below.refl _ _) _
 have hR0 : Kd.R (Kd.int .u32) 128 (w.alloc (.cells (madeCells #[.int .u32 0] (m + 1)) 128)) w.heap.size (fun k => w.heap.size ≤ k) (.slice (some ⟨w.heap.size, 0, none⟩) 0 (m + 1)) [] := by
  have := hR w
  rw [Nat.mul_one] at this
  exact this
 have hlen : l0.length = m := HC.out.1
 have HLEN := Lib.hid hlen
 have HTR := Lib.hid h
 clear hR hmk hlen h
 have HB0 := Lib.hid hB0
 have HR0 := Lib.hid hR0
 clear hB0 hR0
 go_loopw [5, 6, 8, 20] (fun v5 v6 v8 v20 wr => ∃ (j : Nat) (acc : List Int) (c : Int), j ≤ m ∧ v20 = .int .i64 j ∧ v6 = .int .u64 c ∧ Hid (acc.length = j ∧ acc ++ shlGo n (l0.drop j) c = shlGo n l0 0) ∧ Hid (Kd.R (Kd.int .u32) 128 wr w.heap.size (fun k => w.heap.size ≤ k) v5 acc) ∧ Hid (Below w.heap.size w wr)) (fun _ _ _ v20 _ => m - (intOf v20).toNat)
 case atStart => exact ⟨0, [], 0, Nat.zero_le _, rfl, rfl, Lib.hid ⟨rfl, rfl⟩, HR0, HB0⟩
 case round =>
  clear HR0 HB0
  obtain ⟨j, acc, c, hj, rfl, rfl, HP, HO, HB⟩ := hrel
  by_cases hlt : j < m
  ·obtain ⟨ad, e1, p0⟩ := at_u32 (Kd.C_below HC.out HB.out) j hlt
   cases e1
   have hji : (j : Int) < (m : Int) := by omega
   have hj0 : (0 : Int) ≤ (j : Int) := by omega
   generalize hx : l0.getD j 0 = x at *
   have hd : l0.drop j = x :: l0.drop (j + 1) := by
    rw [List.drop_eq_getElem_cons (show j < l0.length by rw [HLEN.out]; exact hlt), ← hx]
    congr 1
    have : j < l0.length := by rw [HLEN.out]; exact hlt
    simp [List.getD, this]
   have HD := Lib.hid hd
   clear hx hd
   have hw : wrap64 ((j : Int) + 1) = ((j + 1 : Nat) : Int) := by unfold wrap64; omega
   go_wp2_with (first | (at_builtin; refine Kd.R_append (Kd.int .u32) (w0 := w) w.heap.size rfl (.tmp 31) (.tmp 34) 148 128 (.int .u32 0) 4 rfl Tryz.underlying148 info128 rfl (by decide) (by omega) u5 acc (Go.bits .or .u64 c (IntKind.u64.wrap (IntKind.u64.wrap x * 2 ^ n.toNat)) % 4294967296) [.int .u32 (Go.bits .or .u64 c (IntKind.u64.wrap (IntKind.u64.wrap x * 2 ^ n.toNat)) % 4294967296)] (fun k => w.heap.size ≤ k) (fun _ => False) rfl (by first | (go_simp; done) | (go_simp; rfl)) ?aP (fun _ hk => hk.elim) ?aF ?aO ?aB ?aS ?aL ?_; (case aP => exact rfl); (case aF => exact fun k hk => Nat.le_trans HB.out.size (Nat.le_trans (by simp) hk)); (case aO => first | exact HO.out | exact Kd.R_alloc HO.out _); (case aB => first | exact HB.out | exact bA HB.out _); (case aS => have := HB.out.size; simp; omega); (case aL => have := HP.out.1; omega); intro v1 w2 ho hb hg hat; (have HO2 := Lib.hid ho); (have HB2 := Lib.hid hb); clear ho hb hg hat))
   go_roundw
   case rel => exact ⟨j + 1, acc ++ [(Go.bits .or .u64 c (IntKind.u64.wrap (IntKind.u64.wrap x * 2 ^ n.toNat))) % 4294967296], (Go.bits .or .u64 c (IntKind.u64.wrap (IntKind.u64.wrap x * 2 ^ n.toNat))) / 4294967296, by omega, by first | rfl | (push_cast; rfl) | go_num, by first | rfl | go_num, Lib.hid ⟨by simp [HP.out.1], by
    have := HP.out.2
    rw [HD.out] at this
    simp only [shlGo] at this
    rw [← this]
    simp only [List.append_assoc, List.singleton_append]⟩, HO2, HB2⟩
   case measure => simp [intOf]; omega
  ·have hje : j = m := by omega
   subst hje
   have hjj : ¬ ((j : Int) < (j : Int)) := by omega
   have HTR2 : Hid (real_trim.f k (acc ++ [c % 4294967296]) = some r) := Lib.hid (by
    have h1 := HP.out.2
    rw [List.drop_eq_nil_of_le (by rw [HLEN.out]; exact Nat.le_refl _)] at h1
    simp only [shlGo] at h1
    rw [h1]; exact HTR.out)
   go_wp2_with (first | (at_builtin; refine Kd.R_append (Kd.int .u32) (w0 := w) w.heap.size rfl (.tmp 39) (.tmp 42) 148 128 (.int .u32 0) 4 rfl Tryz.underlying148 info128 rfl (by decide) (by omega) u5 acc (c % 4294967296) [.int .u32 (c % 4294967296)] (fun k => w.heap.size ≤ k) (fun _ => False) rfl (by first | (go_simp; done) | (go_simp; rfl)) ?aP (fun _ hk => hk.elim) ?aF ?aO ?aB ?aS ?aL ?_; (case aP => exact rfl); (case aF => exact fun k hk => Nat.le_trans HB.out.size (Nat.le_trans (by simp) hk)); (case aO => first | exact HO.out | exact Kd.R_alloc HO.out _); (case aB => first | exact HB.out | exact bA HB.out _); (case aS => have := HB.out.size; simp; omega); (case aL => have := HP.out.1; omega); intro v1 w2 ho hb hg hat; (obtain ⟨acc2, hac⟩ : ∃ l, l = acc ++ [c % 4294967296] := ⟨_, rfl⟩); rw [← hac] at ho; (have HAC := Lib.hid hac); clear hac; obtain ⟨A1, q1, rfl⟩ := Kd.R_slice ho; (have HO2 := Lib.hid ho); (have HB2 := Lib.hid hb); clear ho hb hg hat) | (go_at_call 116; refine (real_trim.calls k (fun k_ => w.heap.size ≤ k_) A1 q1 acc2 r _ (Kd.R_V HO2.out) (by rw [HAC.out]; exact HTR2.out)).mono ?_; rintro e w3 ⟨v, rfl, hv, hb3⟩; (have HV := Lib.hid hv); (have HB3 := Lib.hid (bS HB2.out hb3)); (have hbs := HB2.out.size); clear hv hb3))
   go_ret
   exact ⟨_, rfl, Kd.V_lower (Kd.V_mono HV.out (fun k hk => hk.elim id (fun h => by omega))) hbs, HB3.out⟩
def real_nat_shl.f (l0 : List Int) (a1 : Int) : Option (List Int) := if l0.length ≤ 1000 ∧ 0 ≤ a1 ∧ a1 < 32 then real_trim.f 2000 (shlGo a1 l0 0) else none
theorem real_nat_shl.calls (A0 : Option Addr) (c0 : Nat) (l0 : List Int) (a1 : Int) (r : List Int) (w : World) (hr0 : Kd.C (Kd.int .u32) w A0 l0.length l0) (hc0 : l0.length ≤ c0) (h : real_nat_shl.f l0 a1 = some r) :
  Calls Tryz.prog 112 #[.slice A0 l0.length c0, .int .i64 a1] w fun e w' => ∃ v0_ : Value, e = .returned (v0_) ∧ Kd.V (Kd.int .u32) 128 w' w.heap.size (fun k_ => (w.heap.size ≤ k_)) v0_ r ∧ Below w.heap.size w w' := by
 unfold real_nat_shl.f at h
 by_cases hc : l0.length ≤ 1000 ∧ 0 ≤ a1 ∧ a1 < 32
 ·rw [if_pos hc] at h
  exact shl_walk A0 c0 l0 a1 _ r w hr0 hc0 hc.1 hc.2.1 hc.2.2 2000 h
 ·rw [if_neg hc] at h; cases h
end Go.Proofs.Q
end
