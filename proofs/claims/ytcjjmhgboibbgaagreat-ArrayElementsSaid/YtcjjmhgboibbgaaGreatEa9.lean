/-
 Texts of the proof, in build order: words that the walks use, contracts of functions, plain facts.
-/
import Derived.Outline
import Derived.Test.YtcjjmhgboibbgaaGreatEa3
import Derived.Test.YtcjjmhgboibbgaaGreatEa5
import Derived.Test.YtcjjmhgboibbgaaGreatEa6
import Derived.Test.YtcjjmhgboibbgaaGreatEa7
import Derived.Test.YtcjjmhgboibbgaaGreatEa8
set_option maxHeartbeats 40000000
set_option maxRecDepth 100000
set_option linter.unusedVariables false
set_option linter.unusedSimpArgs false
section
namespace Go.Proofs.Q
open RowKit Shelf Rf Pw Pl Pm
attribute [local go_sem] Oper.semAt_some
def Rd (W : World) (v : Value) (ks : List Int) : Prop := ∃ A c, v = .slice A ks.length c ∧ ks.length ≤ c ∧ Kd.C (Kd.int .i64) W A ks.length ks
/-- '[]int{k}' lies at H; 'rest...' is put behind it. -/
theorem append_run {W : World} (ty H : Nat) (k : Int) (ks : List Int) (A : Option Addr) (c : Nat) (hl : ks.length ≤ 1000000) (hC : Kd.C (Kd.int .i64) W A ks.length ks) (hH : W.heap[H]? = some (.cells #[.int .i64 k] 3)) :
  ∃ v w', (Builtin.append_ #[34, 34] ty #[.slice (some ⟨H, 0, none⟩) 1 1, .slice A ks.length c]).run Tryz.prog W = .ok v w' ∧ Kb (fun i => i = H) W w' ∧ Rd w' v (k :: ks) := by
 have hinfo : (Tryz.prog.info? 3).map (fun i => (i.zero, i.size, i.bytes)) = some (some (Value.int .i64 0), 1, 8) := by kernel_rfl
 have ht : Tryz.prog.underlying 34 = some (.slice 3) := by kernel_rfl
 obtain ⟨i0, hi, hzz⟩ := Option.map_eq_some_iff.1 hinfo
 simp only [Prod.mk.injEq] at hzz
 obtain ⟨hz0, hz1, hz2⟩ := hzz
 have hHl := (Array.getElem?_eq_some_iff.1 hH).1
 have HO : W.ownsRow H 3 1 (.slice (some ⟨H, 0, none⟩) 1 1) 1 (encs (Value.int .i64) [k]) := ⟨by simp [encs], .inr ⟨H, 1, _, rfl, Nat.le_refl _, hH, Nat.le_refl _, by simp [maxLen], by simp, by simp [encs]⟩⟩
 have HR : ReadsOf (Value.int .i64) 0 W A ks.length ks := Kd.reads_of_C hC
 suffices h : ∃ v w', (Builtin.append_ #[34, 34] ty #[.slice (some ⟨H, 0, none⟩) 1 1, .slice A ks.length c]).run Tryz.prog W = .ok v w' ∧ w'.ownsRow H 3 1 v (k :: ks).length (encs (Value.int .i64) (k :: ks)) ∧ W.grownBy w' (some H) by
  obtain ⟨v, w', hr, ho, hg⟩ := h
  refine ⟨v, w', hr, ⟨hg.os, hg.tape, hg.output, hg.size, fun i hi hne => hg.block i hi (fun e => hne (by cases e; rfl))⟩, ?_⟩
  exact Kd.R_reads (Kd.R_of_own (h1 := fun _ => rfl) (ok := fun _ => True) ho (fun _ _ => trivial))
 rcases A with _ | ad
 ·have h0 : ks.length = 0 := by
   rcases Nat.eq_zero_or_pos ks.length with h0 | h0
   ·exact h0
   ·obtain ⟨ad, h, _⟩ := HR.2.2 h0
    cases h
  obtain rfl : ks = [] := List.eq_nil_of_length_eq_zero h0
  refine ⟨.slice (some ⟨H, 0, none⟩) 1 1, W, ?_, by simpa using HO, World.grownBy.refl W _⟩
  simp [Builtin.append_, run_underlying ht, sizeOf, typeInfo, hi, Builtin.lenOf, Builtin.firstCells, storeCells]
 ·have hcells : ∀ j u, (encs (Value.int .i64) ks)[j]? = some u → W.cell? (ad.add j) = some u := by
   intro j u hu
   have hj : j < ks.length := by
    rcases Nat.lt_or_ge j ks.length with h | h
    ·exact h
    ·simp [encs, List.getElem?_eq_none h] at hu
   obtain ⟨ad', h', hc⟩ := HR.2.2 (by omega)
   injection h' with h'
   subst h'
   rw [encs_get (d := 0) ks j hj] at hu
   rw [← hu]
   exact hc j (by omega)
  obtain ⟨v1, w1, hr, h2, h3, _, h5⟩ := run_append_own_at (P := Tryz.prog) W H 34 ty 3 i0 (.int .i64 0) 1 8 ht hi hz0 hz1 hz2 rfl (by omega) (.slice (some ⟨H, 0, none⟩) 1 1) 1 (encs (Value.int .i64) [k]) HO ad ks.length c (encs (Value.int .i64) ks) (by simp [encs]) hcells
   (by intro u hu; simp only [encs, List.mem_map] at hu; obtain ⟨q, _, rfl⟩ := hu; rfl) (by simp only [maxLen]; omega) (by omega) (by omega)
  exact ⟨v1, w1, hr, by rw [show (k :: ks).length = 1 + ks.length by simp; omega, show encs (Value.int .i64) (k :: ks) = encs (Value.int .i64) [k] ++ encs (Value.int .i64) ks by simp [encs]]; exact h2, h3⟩
/-- 'append' at a step of a region that draws, within a round. -/
theorem append_step {F : Fence} {n : Nat} {P : Program} {ops : Array Oper} {o : Oper} {a : Act} {w : World} {K : Act → World → Prop} {Q : Exit → Act → World → Prop} {E : Prop} (hgd : o.guard = none) (s x : Operand) (t : TypeId)
  (ho : o.op = .call { callee := .builtin .append, args := #[s, x], argTypes := #[t, t] }) {sv xv : Value} (hs : a.eval s = sv) (hx : a.eval x = xv)
  {v : Value} {w' : World} (hr : (Builtin.append_ #[t, t] o.type #[sv, xv]).run P w = .ok v w') (hK : K (a.put o.dst v) w') :
  if Region.wanted o (yielded ops a.tmps) = true then o.wpIn F n P a w K Q else E := by
 rw [if_pos (by simp [Region.wanted, hgd])]
 unfold Oper.wpIn
 refine ⟨?_, ?_⟩
 ·simp [Oper.about, ho, resolve, Target.leads, Sem.run_pure]
 ·rw [Oper.semAt_plain F _ _ (by rw [ho]; intro c hc'; cases hc')]
  simp [execOp, ho, resolve, invoke, builtin, hs, hx, hr, Result.andThen]
  exact hK
theorem region8 {l : Nat} {Q : Exit → Act → World → Prop} {t0 t1 t5 t6 t7 t8 t9 t10 t11 t12 t13 t14 t15 t16 t17 t18 t19 t20 t21 t22 t23 t24 t25 t26 t27 t28 t29 t30 t31 t32 t33 : Value} {ds : List Deferred} {W : World} {bx b3 y m c : Nat} {A : Option Addr} {k : Int} {ks : List Int} {R : World → Prop}
  (hbox : W.cell? ⟨bx, 0, none⟩ = some (.func (.yield y) #[] #[])) (hk : W.cell? ⟨b3, 0, none⟩ = some (.int .i64 k)) (hm : m = ks.length) (hC : Kd.C (Kd.int .i64) W A ks.length ks) (hl : ks.length ≤ 1000000)
  (hy : ∀ w' v, Kb (fun _ => False) W w' → Rd w' v (k :: ks) → YieldAt Fence.wide 0 Tryz.prog y #[v] w' fun e w'' => e = .returned (.bool true) ∧ R w'')
  (hQ : ∀ w'' x26 x27 x28 x29 x30 x31, R w'' → Q .normal { tmps := #[t0, t1, .pointer (some ⟨bx, 0, none⟩), .pointer (some ⟨b3, 0, none⟩), .slice A m c, t5, t6, t7, t8, t9, t10, t11, t12, t13, t14, t15, t16, t17, t18, t19, t20, t21, t22, t23, t24, t25, x26, x27, x28, x29, x30, x31, .bool false, t33], defers := ds } w'') :
  (Code.region 8 #[{ dst := some 26, op := Op.load 94 (Operand.tmp 2), type := 94, pos := "array.go:105", after := #[], guard := none },
  { dst := some 27, op := Op.load 3 (Operand.tmp 3), type := 3, pos := "array.go:105", after := #[], guard := none },
  { dst := some 28, op := Op.buildSlice 34 1 #[(0, Operand.tmp 27)], type := 34, pos := "array.go:105", after := #[{ on := 1, ground := Ground.data }], guard := none },
  { dst := some 29, op := Op.move (Operand.tmp 4), type := 34, pos := "array.go:105", after := #[], guard := none },
  { dst := some 30, op := Op.call { callee := Callee.builtin Builtin.append, args := #[Operand.tmp 28, Operand.tmp 29], argTypes := #[34, 34] }, type := 34, pos := "array.go:105", after := #[{ on := 2, ground := Ground.data }, { on := 3, ground := Ground.data }], guard := none },
  { dst := some 31, op := Op.call { callee := Callee.value (Operand.tmp 26), args := #[Operand.tmp 30], argTypes := #[34] }, type := 4, pos := "array.go:105", after := #[{ on := 0, ground := Ground.data }, { on := 4, ground := Ground.data }, { on := 4, ground := Ground.chain }], guard := none },
  { dst := some 32, op := Op.unOp UnOp.not 4 (Operand.tmp 31), type := 4, pos := "array.go:105", after := #[{ on := 5, ground := Ground.data }], guard := none }] true).wpIn (Fence.wide.inRound l) 0 Tryz.prog Q { tmps := #[t0, t1, .pointer (some ⟨bx, 0, none⟩), .pointer (some ⟨b3, 0, none⟩), .slice A m c, t5, t6, t7, t8, t9, t10, t11, t12, t13, t14, t15, t16, t17, t18, t19, t20, t21, t22, t23, t24, t25, t26, t27, t28, t29, t30, t31, t32, t33], defers := ds } W := by
 subst hm
 have hmix : Tryz.prog.follows .mixedOrders = true := by kernel_rfl
 have hb1 := World.block_lt_of_cell? W _ hbox
 have hb2 := World.block_lt_of_cell? W _ hk
 have hHl : (W.alloc (.cells #[.int .i64 k] 3)).drew.heap[W.heap.size]? = some (.cells #[.int .i64 k] 3) := World.alloc_heap_new W _
 have hkb0 : Kb (fun _ => False) W (W.alloc (.cells #[.int .i64 k] 3)).drew := ((Kb.refl _ W).alloc _).drew
 have hC1 : Kd.C (Kd.int .i64) (W.alloc (.cells #[.int .i64 k] 3)).drew A ks.length ks := Kd.C_below hC (hkb0.below (Nat.le_refl _) (fun _ h => h.elim))
 obtain ⟨v, w', hrun, hkb, hrd⟩ := append_run 34 W.heap.size k ks A c hl hC1 hHl
 have hkb' : Kb (fun _ => False) W w' := hkb0.trans' hkb (fun i h => .inr (Nat.le_of_eq h.symm))
 have hbox' := hkb'.cell (fun h => h) hbox
 have HQ := Lib.hid hQ; clear hQ
 obtain ⟨fn, tm9, as9, bo9, hyy, hR⟩ := hy w' v hkb' hrd
 have HR := Lib.hid hR; clear hR hy
 have HC := Lib.hid hC1; clear hC1 hC
 refine wpIn_region_any hmix ?_
 try (change wpAnyIn _ _ _ _ _ _ _ _ _ (World.drew _))
 refine wpAnyIn_ready (rs := [0, 1, 3]) (by kernel_rfl) (by simp) ?_
 refine AllReadyIn.cons rfl (fun K hK => ?_) ?_
 ·go_simp
  refine hK _ _ ?_; clear hK K
  refine wpAnyIn_ready (rs := [1, 3]) (by kernel_rfl) (by simp) ?_
  refine AllReadyIn.cons rfl (fun K hK => ?_) ?_
  ·go_simp
   refine hK _ _ ?_; clear hK K
   refine wpAnyIn_ready (rs := [2, 3]) (by kernel_rfl) (by simp) ?_
   refine AllReadyIn.cons rfl (fun K hK => ?_) ?_
   ·go_simp
    refine hK _ _ ?_; clear hK K
    refine wpAnyIn_ready (rs := [3]) (by kernel_rfl) (by simp) ?_
    refine AllReadyIn.cons rfl (fun K hK => ?_) AllReadyIn.nil
    go_simp
    refine hK _ _ ?_; clear hK K
    refine wpAnyIn_ready (rs := [4]) (by kernel_rfl) (by simp) ?_
    refine AllReadyIn.cons rfl (fun K hK => ?_) AllReadyIn.nil
    refine append_step rfl (.tmp 28) (.tmp 29) 34 rfl rfl rfl hrun ?_
    refine hK _ _ ?_; clear hK K
    refine wpAnyIn_ready (rs := [5]) (by kernel_rfl) (by simp) ?_
    refine AllReadyIn.cons rfl (fun K hK => ?_) AllReadyIn.nil
    go_simp
    refine ⟨rfl, RoundIn.mono HR.out ?_⟩
    rintro e W' ⟨rfl, hR9⟩
    go_simp
    refine hK _ _ ?_; clear hK K
    refine wpAnyIn_ready (rs := [6]) (by kernel_rfl) (by simp) ?_
    refine AllReadyIn.cons rfl (fun K hK => ?_) AllReadyIn.nil
    go_simp
    refine hK _ _ ?_; clear hK K
    exact wpAnyIn_done (by kernel_rfl) (HQ.out _ _ _ _ _ _ _ hR9) _
   refine AllReadyIn.cons rfl (fun K hK => ?_) AllReadyIn.nil
   go_simp
   refine hK _ _ ?_; clear hK K
   refine wpAnyIn_ready (rs := [2]) (by kernel_rfl) (by simp) ?_
   refine AllReadyIn.cons rfl (fun K hK => ?_) AllReadyIn.nil
   go_simp
   refine hK _ _ ?_; clear hK K
   refine wpAnyIn_ready (rs := [4]) (by kernel_rfl) (by simp) ?_
   refine AllReadyIn.cons rfl (fun K hK => ?_) AllReadyIn.nil
   refine append_step rfl (.tmp 28) (.tmp 29) 34 rfl rfl rfl hrun ?_
   refine hK _ _ ?_; clear hK K
   refine wpAnyIn_ready (rs := [5]) (by kernel_rfl) (by simp) ?_
   refine AllReadyIn.cons rfl (fun K hK => ?_) AllReadyIn.nil
   go_simp
   refine ⟨rfl, RoundIn.mono HR.out ?_⟩
   rintro e W' ⟨rfl, hR9⟩
   go_simp
   refine hK _ _ ?_; clear hK K
   refine wpAnyIn_ready (rs := [6]) (by kernel_rfl) (by simp) ?_
   refine AllReadyIn.cons rfl (fun K hK => ?_) AllReadyIn.nil
   go_simp
   refine hK _ _ ?_; clear hK K
   exact wpAnyIn_done (by kernel_rfl) (HQ.out _ _ _ _ _ _ _ hR9) _
  refine AllReadyIn.cons rfl (fun K hK => ?_) AllReadyIn.nil
  go_simp
  refine hK _ _ ?_; clear hK K
  refine wpAnyIn_ready (rs := [1]) (by kernel_rfl) (by simp) ?_
  refine AllReadyIn.cons rfl (fun K hK => ?_) AllReadyIn.nil
  go_simp
  refine hK _ _ ?_; clear hK K
  refine wpAnyIn_ready (rs := [2]) (by kernel_rfl) (by simp) ?_
  refine AllReadyIn.cons rfl (fun K hK => ?_) AllReadyIn.nil
  go_simp
  refine hK _ _ ?_; clear hK K
  refine wpAnyIn_ready (rs := [4]) (by kernel_rfl) (by simp) ?_
  refine AllReadyIn.cons rfl (fun K hK => ?_) AllReadyIn.nil
  refine append_step rfl (.tmp 28) (.tmp 29) 34 rfl rfl rfl hrun ?_
  refine hK _ _ ?_; clear hK K
  refine wpAnyIn_ready (rs := [5]) (by kernel_rfl) (by simp) ?_
  refine AllReadyIn.cons rfl (fun K hK => ?_) AllReadyIn.nil
  go_simp
  refine ⟨rfl, RoundIn.mono HR.out ?_⟩
  rintro e W' ⟨rfl, hR9⟩
  go_simp
  refine hK _ _ ?_; clear hK K
  refine wpAnyIn_ready (rs := [6]) (by kernel_rfl) (by simp) ?_
  refine AllReadyIn.cons rfl (fun K hK => ?_) AllReadyIn.nil
  go_simp
  refine hK _ _ ?_; clear hK K
  exact wpAnyIn_done (by kernel_rfl) (HQ.out _ _ _ _ _ _ _ hR9) _
 refine AllReadyIn.cons rfl (fun K hK => ?_) ?_
 ·go_simp
  refine hK _ _ ?_; clear hK K
  refine wpAnyIn_ready (rs := [0, 2, 3]) (by kernel_rfl) (by simp) ?_
  refine AllReadyIn.cons rfl (fun K hK => ?_) ?_
  ·go_simp
   refine hK _ _ ?_; clear hK K
   refine wpAnyIn_ready (rs := [2, 3]) (by kernel_rfl) (by simp) ?_
   refine AllReadyIn.cons rfl (fun K hK => ?_) ?_
   ·go_simp
    refine hK _ _ ?_; clear hK K
    refine wpAnyIn_ready (rs := [3]) (by kernel_rfl) (by simp) ?_
    refine AllReadyIn.cons rfl (fun K hK => ?_) AllReadyIn.nil
    go_simp
    refine hK _ _ ?_; clear hK K
    refine wpAnyIn_ready (rs := [4]) (by kernel_rfl) (by simp) ?_
    refine AllReadyIn.cons rfl (fun K hK => ?_) AllReadyIn.nil
    refine append_step rfl (.tmp 28) (.tmp 29) 34 rfl rfl rfl hrun ?_
    refine hK _ _ ?_; clear hK K
    refine wpAnyIn_ready (rs := [5]) (by kernel_rfl) (by simp) ?_
    refine AllReadyIn.cons rfl (fun K hK => ?_) AllReadyIn.nil
    go_simp
    refine ⟨rfl, RoundIn.mono HR.out ?_⟩
    rintro e W' ⟨rfl, hR9⟩
    go_simp
    refine hK _ _ ?_; clear hK K
    refine wpAnyIn_ready (rs := [6]) (by kernel_rfl) (by simp) ?_
    refine AllReadyIn.cons rfl (fun K hK => ?_) AllReadyIn.nil
    go_simp
    refine hK _ _ ?_; clear hK K
    exact wpAnyIn_done (by kernel_rfl) (HQ.out _ _ _ _ _ _ _ hR9) _
   refine AllReadyIn.cons rfl (fun K hK => ?_) AllReadyIn.nil
   go_simp
   refine hK _ _ ?_; clear hK K
   refine wpAnyIn_ready (rs := [2]) (by kernel_rfl) (by simp) ?_
   refine AllReadyIn.cons rfl (fun K hK => ?_) AllReadyIn.nil
   go_simp
   refine hK _ _ ?_; clear hK K
   refine wpAnyIn_ready (rs := [4]) (by kernel_rfl) (by simp) ?_
   refine AllReadyIn.cons rfl (fun K hK => ?_) AllReadyIn.nil
   refine append_step rfl (.tmp 28) (.tmp 29) 34 rfl rfl rfl hrun ?_
   refine hK _ _ ?_; clear hK K
   refine wpAnyIn_ready (rs := [5]) (by kernel_rfl) (by simp) ?_
   refine AllReadyIn.cons rfl (fun K hK => ?_) AllReadyIn.nil
   go_simp
   refine ⟨rfl, RoundIn.mono HR.out ?_⟩
   rintro e W' ⟨rfl, hR9⟩
   go_simp
   refine hK _ _ ?_; clear hK K
   refine wpAnyIn_ready (rs := [6]) (by kernel_rfl) (by simp) ?_
   refine AllReadyIn.cons rfl (fun K hK => ?_) AllReadyIn.nil
   go_simp
   refine hK _ _ ?_; clear hK K
   exact wpAnyIn_done (by kernel_rfl) (HQ.out _ _ _ _ _ _ _ hR9) _
  refine AllReadyIn.cons rfl (fun K hK => ?_) ?_
  ·go_simp
   refine hK _ _ ?_; clear hK K
   refine wpAnyIn_ready (rs := [0, 3]) (by kernel_rfl) (by simp) ?_
   refine AllReadyIn.cons rfl (fun K hK => ?_) ?_
   ·go_simp
    refine hK _ _ ?_; clear hK K
    refine wpAnyIn_ready (rs := [3]) (by kernel_rfl) (by simp) ?_
    refine AllReadyIn.cons rfl (fun K hK => ?_) AllReadyIn.nil
    go_simp
    refine hK _ _ ?_; clear hK K
    refine wpAnyIn_ready (rs := [4]) (by kernel_rfl) (by simp) ?_
    refine AllReadyIn.cons rfl (fun K hK => ?_) AllReadyIn.nil
    refine append_step rfl (.tmp 28) (.tmp 29) 34 rfl rfl rfl hrun ?_
    refine hK _ _ ?_; clear hK K
    refine wpAnyIn_ready (rs := [5]) (by kernel_rfl) (by simp) ?_
    refine AllReadyIn.cons rfl (fun K hK => ?_) AllReadyIn.nil
    go_simp
    refine ⟨rfl, RoundIn.mono HR.out ?_⟩
    rintro e W' ⟨rfl, hR9⟩
    go_simp
    refine hK _ _ ?_; clear hK K
    refine wpAnyIn_ready (rs := [6]) (by kernel_rfl) (by simp) ?_
    refine AllReadyIn.cons rfl (fun K hK => ?_) AllReadyIn.nil
    go_simp
    refine hK _ _ ?_; clear hK K
    exact wpAnyIn_done (by kernel_rfl) (HQ.out _ _ _ _ _ _ _ hR9) _
   refine AllReadyIn.cons rfl (fun K hK => ?_) AllReadyIn.nil
   go_simp
   refine hK _ _ ?_; clear hK K
   refine wpAnyIn_ready (rs := [0, 4]) (by kernel_rfl) (by simp) ?_
   refine AllReadyIn.cons rfl (fun K hK => ?_) ?_
   ·go_simp
    refine hK _ _ ?_; clear hK K
    refine wpAnyIn_ready (rs := [4]) (by kernel_rfl) (by simp) ?_
    refine AllReadyIn.cons rfl (fun K hK => ?_) AllReadyIn.nil
    refine append_step rfl (.tmp 28) (.tmp 29) 34 rfl rfl rfl hrun ?_
    refine hK _ _ ?_; clear hK K
    refine wpAnyIn_ready (rs := [5]) (by kernel_rfl) (by simp) ?_
    refine AllReadyIn.cons rfl (fun K hK => ?_) AllReadyIn.nil
    go_simp
    refine ⟨rfl, RoundIn.mono HR.out ?_⟩
    rintro e W' ⟨rfl, hR9⟩
    go_simp
    refine hK _ _ ?_; clear hK K
    refine wpAnyIn_ready (rs := [6]) (by kernel_rfl) (by simp) ?_
    refine AllReadyIn.cons rfl (fun K hK => ?_) AllReadyIn.nil
    go_simp
    refine hK _ _ ?_; clear hK K
    exact wpAnyIn_done (by kernel_rfl) (HQ.out _ _ _ _ _ _ _ hR9) _
   refine AllReadyIn.cons rfl (fun K hK => ?_) AllReadyIn.nil
   refine append_step rfl (.tmp 28) (.tmp 29) 34 rfl rfl rfl hrun ?_
   refine hK _ _ ?_; clear hK K
   refine wpAnyIn_ready (rs := [0]) (by kernel_rfl) (by simp) ?_
   refine AllReadyIn.cons rfl (fun K hK => ?_) AllReadyIn.nil
   go_simp
   refine hK _ _ ?_; clear hK K
   refine wpAnyIn_ready (rs := [5]) (by kernel_rfl) (by simp) ?_
   refine AllReadyIn.cons rfl (fun K hK => ?_) AllReadyIn.nil
   go_simp
   refine ⟨rfl, RoundIn.mono HR.out ?_⟩
   rintro e W' ⟨rfl, hR9⟩
   go_simp
   refine hK _ _ ?_; clear hK K
   refine wpAnyIn_ready (rs := [6]) (by kernel_rfl) (by simp) ?_
   refine AllReadyIn.cons rfl (fun K hK => ?_) AllReadyIn.nil
   go_simp
   refine hK _ _ ?_; clear hK K
   exact wpAnyIn_done (by kernel_rfl) (HQ.out _ _ _ _ _ _ _ hR9) _
  refine AllReadyIn.cons rfl (fun K hK => ?_) AllReadyIn.nil
  go_simp
  refine hK _ _ ?_; clear hK K
  refine wpAnyIn_ready (rs := [0, 2]) (by kernel_rfl) (by simp) ?_
  refine AllReadyIn.cons rfl (fun K hK => ?_) ?_
  ·go_simp
   refine hK _ _ ?_; clear hK K
   refine wpAnyIn_ready (rs := [2]) (by kernel_rfl) (by simp) ?_
   refine AllReadyIn.cons rfl (fun K hK => ?_) AllReadyIn.nil
   go_simp
   refine hK _ _ ?_; clear hK K
   refine wpAnyIn_ready (rs := [4]) (by kernel_rfl) (by simp) ?_
   refine AllReadyIn.cons rfl (fun K hK => ?_) AllReadyIn.nil
   refine append_step rfl (.tmp 28) (.tmp 29) 34 rfl rfl rfl hrun ?_
   refine hK _ _ ?_; clear hK K
   refine wpAnyIn_ready (rs := [5]) (by kernel_rfl) (by simp) ?_
   refine AllReadyIn.cons rfl (fun K hK => ?_) AllReadyIn.nil
   go_simp
   refine ⟨rfl, RoundIn.mono HR.out ?_⟩
   rintro e W' ⟨rfl, hR9⟩
   go_simp
   refine hK _ _ ?_; clear hK K
   refine wpAnyIn_ready (rs := [6]) (by kernel_rfl) (by simp) ?_
   refine AllReadyIn.cons rfl (fun K hK => ?_) AllReadyIn.nil
   go_simp
   refine hK _ _ ?_; clear hK K
   exact wpAnyIn_done (by kernel_rfl) (HQ.out _ _ _ _ _ _ _ hR9) _
  refine AllReadyIn.cons rfl (fun K hK => ?_) AllReadyIn.nil
  go_simp
  refine hK _ _ ?_; clear hK K
  refine wpAnyIn_ready (rs := [0, 4]) (by kernel_rfl) (by simp) ?_
  refine AllReadyIn.cons rfl (fun K hK => ?_) ?_
  ·go_simp
   refine hK _ _ ?_; clear hK K
   refine wpAnyIn_ready (rs := [4]) (by kernel_rfl) (by simp) ?_
   refine AllReadyIn.cons rfl (fun K hK => ?_) AllReadyIn.nil
   refine append_step rfl (.tmp 28) (.tmp 29) 34 rfl rfl rfl hrun ?_
   refine hK _ _ ?_; clear hK K
   refine wpAnyIn_ready (rs := [5]) (by kernel_rfl) (by simp) ?_
   refine AllReadyIn.cons rfl (fun K hK => ?_) AllReadyIn.nil
   go_simp
   refine ⟨rfl, RoundIn.mono HR.out ?_⟩
   rintro e W' ⟨rfl, hR9⟩
   go_simp
   refine hK _ _ ?_; clear hK K
   refine wpAnyIn_ready (rs := [6]) (by kernel_rfl) (by simp) ?_
   refine AllReadyIn.cons rfl (fun K hK => ?_) AllReadyIn.nil
   go_simp
   refine hK _ _ ?_; clear hK K
   exact wpAnyIn_done (by kernel_rfl) (HQ.out _ _ _ _ _ _ _ hR9) _
  refine AllReadyIn.cons rfl (fun K hK => ?_) AllReadyIn.nil
  refine append_step rfl (.tmp 28) (.tmp 29) 34 rfl rfl rfl hrun ?_
  refine hK _ _ ?_; clear hK K
  refine wpAnyIn_ready (rs := [0]) (by kernel_rfl) (by simp) ?_
  refine AllReadyIn.cons rfl (fun K hK => ?_) AllReadyIn.nil
  go_simp
  refine hK _ _ ?_; clear hK K
  refine wpAnyIn_ready (rs := [5]) (by kernel_rfl) (by simp) ?_
  refine AllReadyIn.cons rfl (fun K hK => ?_) AllReadyIn.nil
  go_simp
  refine ⟨rfl, RoundIn.mono HR.out ?_⟩
  rintro e W' ⟨rfl, hR9⟩
  go_simp
  refine hK _ _ ?_; clear hK K
  refine wpAnyIn_ready (rs := [6]) (by kernel_rfl) (by simp) ?_
  refine AllReadyIn.cons rfl (fun K hK => ?_) AllReadyIn.nil
  go_simp
  refine hK _ _ ?_; clear hK K
  exact wpAnyIn_done (by kernel_rfl) (HQ.out _ _ _ _ _ _ _ hR9) _
 refine AllReadyIn.cons rfl (fun K hK => ?_) AllReadyIn.nil
 go_simp
 refine hK _ _ ?_; clear hK K
 refine wpAnyIn_ready (rs := [0, 1]) (by kernel_rfl) (by simp) ?_
 refine AllReadyIn.cons rfl (fun K hK => ?_) ?_
 ·go_simp
  refine hK _ _ ?_; clear hK K
  refine wpAnyIn_ready (rs := [1]) (by kernel_rfl) (by simp) ?_
  refine AllReadyIn.cons rfl (fun K hK => ?_) AllReadyIn.nil
  go_simp
  refine hK _ _ ?_; clear hK K
  refine wpAnyIn_ready (rs := [2]) (by kernel_rfl) (by simp) ?_
  refine AllReadyIn.cons rfl (fun K hK => ?_) AllReadyIn.nil
  go_simp
  refine hK _ _ ?_; clear hK K
  refine wpAnyIn_ready (rs := [4]) (by kernel_rfl) (by simp) ?_
  refine AllReadyIn.cons rfl (fun K hK => ?_) AllReadyIn.nil
  refine append_step rfl (.tmp 28) (.tmp 29) 34 rfl rfl rfl hrun ?_
  refine hK _ _ ?_; clear hK K
  refine wpAnyIn_ready (rs := [5]) (by kernel_rfl) (by simp) ?_
  refine AllReadyIn.cons rfl (fun K hK => ?_) AllReadyIn.nil
  go_simp
  refine ⟨rfl, RoundIn.mono HR.out ?_⟩
  rintro e W' ⟨rfl, hR9⟩
  go_simp
  refine hK _ _ ?_; clear hK K
  refine wpAnyIn_ready (rs := [6]) (by kernel_rfl) (by simp) ?_
  refine AllReadyIn.cons rfl (fun K hK => ?_) AllReadyIn.nil
  go_simp
  refine hK _ _ ?_; clear hK K
  exact wpAnyIn_done (by kernel_rfl) (HQ.out _ _ _ _ _ _ _ hR9) _
 refine AllReadyIn.cons rfl (fun K hK => ?_) AllReadyIn.nil
 go_simp
 refine hK _ _ ?_; clear hK K
 refine wpAnyIn_ready (rs := [0, 2]) (by kernel_rfl) (by simp) ?_
 refine AllReadyIn.cons rfl (fun K hK => ?_) ?_
 ·go_simp
  refine hK _ _ ?_; clear hK K
  refine wpAnyIn_ready (rs := [2]) (by kernel_rfl) (by simp) ?_
  refine AllReadyIn.cons rfl (fun K hK => ?_) AllReadyIn.nil
  go_simp
  refine hK _ _ ?_; clear hK K
  refine wpAnyIn_ready (rs := [4]) (by kernel_rfl) (by simp) ?_
  refine AllReadyIn.cons rfl (fun K hK => ?_) AllReadyIn.nil
  refine append_step rfl (.tmp 28) (.tmp 29) 34 rfl rfl rfl hrun ?_
  refine hK _ _ ?_; clear hK K
  refine wpAnyIn_ready (rs := [5]) (by kernel_rfl) (by simp) ?_
  refine AllReadyIn.cons rfl (fun K hK => ?_) AllReadyIn.nil
  go_simp
  refine ⟨rfl, RoundIn.mono HR.out ?_⟩
  rintro e W' ⟨rfl, hR9⟩
  go_simp
  refine hK _ _ ?_; clear hK K
  refine wpAnyIn_ready (rs := [6]) (by kernel_rfl) (by simp) ?_
  refine AllReadyIn.cons rfl (fun K hK => ?_) AllReadyIn.nil
  go_simp
  refine hK _ _ ?_; clear hK K
  exact wpAnyIn_done (by kernel_rfl) (HQ.out _ _ _ _ _ _ _ hR9) _
 refine AllReadyIn.cons rfl (fun K hK => ?_) AllReadyIn.nil
 go_simp
 refine hK _ _ ?_; clear hK K
 refine wpAnyIn_ready (rs := [0, 4]) (by kernel_rfl) (by simp) ?_
 refine AllReadyIn.cons rfl (fun K hK => ?_) ?_
 ·go_simp
  refine hK _ _ ?_; clear hK K
  refine wpAnyIn_ready (rs := [4]) (by kernel_rfl) (by simp) ?_
  refine AllReadyIn.cons rfl (fun K hK => ?_) AllReadyIn.nil
  refine append_step rfl (.tmp 28) (.tmp 29) 34 rfl rfl rfl hrun ?_
  refine hK _ _ ?_; clear hK K
  refine wpAnyIn_ready (rs := [5]) (by kernel_rfl) (by simp) ?_
  refine AllReadyIn.cons rfl (fun K hK => ?_) AllReadyIn.nil
  go_simp
  refine ⟨rfl, RoundIn.mono HR.out ?_⟩
  rintro e W' ⟨rfl, hR9⟩
  go_simp
  refine hK _ _ ?_; clear hK K
  refine wpAnyIn_ready (rs := [6]) (by kernel_rfl) (by simp) ?_
  refine AllReadyIn.cons rfl (fun K hK => ?_) AllReadyIn.nil
  go_simp
  refine hK _ _ ?_; clear hK K
  exact wpAnyIn_done (by kernel_rfl) (HQ.out _ _ _ _ _ _ _ hR9) _
 refine AllReadyIn.cons rfl (fun K hK => ?_) AllReadyIn.nil
 refine append_step rfl (.tmp 28) (.tmp 29) 34 rfl rfl rfl hrun ?_
 refine hK _ _ ?_; clear hK K
 refine wpAnyIn_ready (rs := [0]) (by kernel_rfl) (by simp) ?_
 refine AllReadyIn.cons rfl (fun K hK => ?_) AllReadyIn.nil
 go_simp
 refine hK _ _ ?_; clear hK K
 refine wpAnyIn_ready (rs := [5]) (by kernel_rfl) (by simp) ?_
 refine AllReadyIn.cons rfl (fun K hK => ?_) AllReadyIn.nil
 go_simp
 refine ⟨rfl, RoundIn.mono HR.out ?_⟩
 rintro e W' ⟨rfl, hR9⟩
 go_simp
 refine hK _ _ ?_; clear hK K
 refine wpAnyIn_ready (rs := [6]) (by kernel_rfl) (by simp) ?_
 refine AllReadyIn.cons rfl (fun K hK => ?_) AllReadyIn.nil
 go_simp
 refine hK _ _ ?_; clear hK K
 exact wpAnyIn_done (by kernel_rfl) (HQ.out _ _ _ _ _ _ _ hR9) _
end Go.Proofs.Q
end
section
namespace Go.Proofs.Q
open RowKit Shelf Rf Pw Pl Pm
attribute [local go_sem] Oper.semAt_some
theorem rf_outer' {P : Program} {g : Operand} {ps : Array Tmp} {assign body : Code} {Q : Exit → Act → World → Prop} {a : Act} {w : World} {gf : Nat} {lb : Array Value}
  (hg : a.eval g = .func (.func gf) #[] lb) (eg : ∀ args w, (callFunc gf args).run P w = .ok (.enter gf args) w) (R : World → Prop)
  (hcall : ∀ fn, CallsIn Fence.wide 0 P gf (#[.func (.yield (w.heap.size + 1)) #[] #[]] ++ lb) ((w.alloc (.deferred (some []))).alloc (recOf .ready fn a.tmps ps assign body w.heap.size))
   fun e W => (∃ v, e = .returned v) ∧ W.heap[w.heap.size + 1]? = some (recOf .ready fn a.tmps ps assign body w.heap.size) ∧ R W)
  (hdone : ∀ W W', R W → Kb (fun i => i = w.heap.size + 1) W W' → w.heap.size + 1 < W.heap.size →
   Q .normal { tmps := a.tmps, defers := { target := .collected w.heap.size, args := #[] } :: a.defers } W') :
  (Code.rangeFunc g ps assign body).wpIn Fence.wide 0 P Q a w :=
 rf_outer hg eg R hcall fun W fn hR hl => hdone W _ hR (Kb.putObj (M := fun i => i = w.heap.size + 1) (Kb.refl _ W) (r := w.heap.size + 1) (.inl rfl) _) (Array.getElem?_eq_some_iff.1 hl).1
def ints (lo : Int) (n : Nat) : List Int := (List.range n).map fun (i : Nat) => lo + (i : Int)
def allS : List S54 → List (List Int)
 | [] => [[]]
 | d :: r => (ints d.f0 (ext d).toNat).flatMap fun k => (allS r).map (k :: ·)
/-- what the iterator's caller brings -/
structure Caller (y : Nat) (B : Nat) (M : Nat → Prop) (J : List (List Int) → World → Prop) (all : List (List Int)) : Prop where
 below : ∀ i, M i → i < B
 steps : ∀ pre W W', J pre W → Kb (fun i => B ≤ i) W W' → J pre W'
 round : ∀ pre ks W v, J pre W → (∃ rest, all = pre ++ ks :: rest) → Rd W v ks → YieldAt Fence.wide 0 Tryz.prog y #[v] W fun e W' => e = .returned (.bool true) ∧ (J (pre ++ [ks]) W' ∧ Kb M W W')
theorem addr_of {W : World} {a : Addr} {v : Value} (h : W.cell? a = some v) : ∃ b o, a = ⟨b, o, none⟩ := by
 obtain ⟨b, o, s⟩ := a
 cases s with
 | none => exact ⟨b, o, rfl⟩
 | some s => exfalso; simp only [World.cell?] at h; split at h <;> simp at h
theorem iter_nil (y : Nat) (M : Nat → Prop) (J : List (List Int) → World → Prop) (w : World) (p : Nat) (A : Option Addr) (c : Nat) (C : Caller y w.heap.size M J [[]]) (h0 : J [] w)
  (hp : w.cell? ⟨p, 0, none⟩ = some (.slice A 0 c)) :
  CallsIn Fence.wide 0 Tryz.prog 60 #[.func (.yield y) #[] #[], .pointer (some ⟨p, 0, none⟩)] w fun e w' => (∃ v, e = .returned v) ∧ J [[]] w' ∧ Kb M w w' := by
 have hpl := World.block_lt_of_cell? w _ hp
 have hJ1 := C.steps [] w (w.alloc (.cells #[.func (.yield y) #[] #[]] 94)) h0 ((Kb.refl _ w).alloc _)
 obtain ⟨fn, tmps, assign, body, hy, hR⟩ := C.round [] [] _ (.slice none 0 0) hJ1 ⟨[], rfl⟩ ⟨none, 0, rfl, Nat.le_refl _, Kd.C_nil _ _⟩
 have HR := Lib.hid hR; clear hR
 refine callsIn_of_wp_marks Tryz.func60 rfl trivial ?_
 simp only [Tryz.ntmps60, List.size_toArray, List.length_cons, List.length_nil, Nat.reduceAdd, Nat.reduceSub, Array.replicate_succ, Array.replicate_zero, List.push_toArray, List.append_toArray, List.nil_append, List.cons_append]
 gi_wp2
 refine ⟨rfl, HR.out.mono ?_⟩
 rintro e W' ⟨rfl, hJ, hk⟩
 gi_wp2
 exact ⟨_, results_none rfl _ _ _, ⟨_, rfl⟩, hJ, ((Kb.refl M w).alloc _).trans hk⟩
/-- what the iterator leans on -/
structure Lies (M : Nat → Prop) (p : Nat) (A : Option Addr) (c : Nat) (l : List S54) (w : World) : Prop where
 le : l.length ≤ c
 far : ∀ W, Kb (fun i => M i ∨ w.heap.size ≤ i) w W → W.cell? ⟨p, 0, none⟩ = some (.slice A l.length c) ∧ Kd.C k54 W A l.length l
theorem Lies.now {M : Nat → Prop} {p : Nat} {A : Option Addr} {c : Nat} {l : List S54} {w : World} (h : Lies M p A c l w) : w.cell? ⟨p, 0, none⟩ = some (.slice A l.length c) ∧ Kd.C k54 w A l.length l := h.far w (Kb.refl _ _)
theorem C_put_loop {W : World} {A : Option Addr} {n : Nat} {ks : List Int} {l : Nat} {r : Loop} (hC : Kd.C (Kd.int .i64) W A n ks) (hl : W.heap[l]? = some (.loop r)) (o : Obj) : Kd.C (Kd.int .i64) (W.putObj l o) A n ks := by
 have HR : ReadsOf (Value.int .i64) 0 W A n ks := Kd.reads_of_C hC
 refine Kd.C_of_reads (d := 0) ⟨HR.1, HR.2.1, fun hn => ?_⟩
 obtain ⟨ad, e, hc⟩ := HR.2.2 hn
 refine ⟨ad, e, fun j hj => ?_⟩
 have h1 := hc j hj
 refine (World.cell?_of_block (World.putObj_heap_other ?_)).trans h1
 intro e2
 unfold World.cell? at h1
 rw [show W.heap[(ad.add j).block]? = some (.loop r) from by first | (rw [e2]; exact hl) | (rw [← e2]; exact hl)] at h1
 simp at h1
theorem subscripts_in (A : Option Addr) (n c : Nat) (w : World) :
  CallsIn Fence.wide 0 Tryz.prog 31 #[.slice A n c] w fun e W => e = .returned (.func (.func 60) #[] #[.pointer (some ⟨w.heap.size, 0, none⟩)]) ∧ W = w.alloc (.cells #[.slice A n c] 22) := by
 have hmf : ∀ (fn : Fn) (first cap : Array Value) (w : World), (Instr.makeFunc fn first cap).run Tryz.prog w = .ok (.func fn first cap) w := fun _ _ _ _ => rfl
 refine callsIn_of_wp Tryz.func31 rfl trivial ?_
 simp only [Tryz.ntmps31, List.size_toArray, List.length_cons, List.length_nil, Nat.reduceAdd, Nat.reduceSub, Array.replicate_succ, Array.replicate_zero, List.push_toArray, List.append_toArray, List.nil_append, List.cons_append]
 gi_wp2
 exact ⟨rfl, _, results_tmp rfl _ _ _, rfl, rfl⟩
def kval : Option Value → Int
 | some (.int _ k) => k
 | _ => 0
def kbox (a : Act) (W : World) : Int := match (a.tmps[3]? : Option Value) with
 | some (.pointer (some p)) => kval (W.cell? p)
 | _ => 0
theorem lits {T : Array Value} {a b c : Value} (hs : T.size = 34) (h1 : T[1]? = some a) (h2 : T[2]? = some b) (h3 : T[3]? = some c) : ∃ u : Nat → Value, T = #[u 0, a, b, c, u 4, u 5, u 6, u 7, u 8, u 9, u 10, u 11, u 12, u 13, u 14, u 15, u 16, u 17, u 18, u 19, u 20, u 21, u 22, u 23, u 24, u 25, u 26, u 27, u 28, u 29, u 30, u 31, u 32, u 33] := by
 refine ⟨fun i => T[i]?.getD undef, ?_⟩
 apply Array.ext_getElem?
 intro i
 rcases Nat.lt_or_ge i 34 with hi | hi
 ·have hall : ∀ n, n < 34 → T[n]? = some (T[n]?.getD undef) := fun n hn => by rw [Array.getElem?_eq_getElem (by omega)]; rfl
  match i, hi with
  | 0, _ => exact hall 0 (by omega)
  | 1, _ => exact h1
  | 2, _ => exact h2
  | 3, _ => exact h3
  | 4, _ => exact hall 4 (by omega)
  | 5, _ => exact hall 5 (by omega)
  | 6, _ => exact hall 6 (by omega)
  | 7, _ => exact hall 7 (by omega)
  | 8, _ => exact hall 8 (by omega)
  | 9, _ => exact hall 9 (by omega)
  | 10, _ => exact hall 10 (by omega)
  | 11, _ => exact hall 11 (by omega)
  | 12, _ => exact hall 12 (by omega)
  | 13, _ => exact hall 13 (by omega)
  | 14, _ => exact hall 14 (by omega)
  | 15, _ => exact hall 15 (by omega)
  | 16, _ => exact hall 16 (by omega)
  | 17, _ => exact hall 17 (by omega)
  | 18, _ => exact hall 18 (by omega)
  | 19, _ => exact hall 19 (by omega)
  | 20, _ => exact hall 20 (by omega)
  | 21, _ => exact hall 21 (by omega)
  | 22, _ => exact hall 22 (by omega)
  | 23, _ => exact hall 23 (by omega)
  | 24, _ => exact hall 24 (by omega)
  | 25, _ => exact hall 25 (by omega)
  | 26, _ => exact hall 26 (by omega)
  | 27, _ => exact hall 27 (by omega)
  | 28, _ => exact hall 28 (by omega)
  | 29, _ => exact hall 29 (by omega)
  | 30, _ => exact hall 30 (by omega)
  | 31, _ => exact hall 31 (by omega)
  | 32, _ => exact hall 32 (by omega)
  | 33, _ => exact hall 33 (by omega)
  | n + 34, hi => exact absurd hi (by omega)
 ·rw [Array.getElem?_eq_none (by omega), Array.getElem?_eq_none (by simp; omega)]
def done (r : List S54) (lo : Int) (j : Nat) : List (List Int) := (ints lo j).flatMap fun k => (allS r).map (k :: ·)
theorem done_succ (r : List S54) (lo : Int) (j : Nat) : done r lo (j + 1) = done r lo j ++ (allS r).map ((lo + (j : Int)) :: ·) := by
 simp [done, ints, List.range_succ]
/-- ahead of round j -/
structure Ahead (d : S54) (r : List S54) (M : Nat → Prop) (J : List (List Int) → World → Prop) (w : World) (p y : Nat) (j : Nat) (a : Act) (W : World) : Prop where
 le : j ≤ (ext d).toNat
 size : a.tmps.size = 34
 s1 : a.tmps[1]? = some (.pointer (some ⟨p, 0, none⟩))
 s2 : a.tmps[2]? = some (.pointer (some ⟨w.heap.size, 0, none⟩))
 box : W.cell? ⟨w.heap.size, 0, none⟩ = some (.func (.yield y) #[] #[])
 k : ∃ b3, w.heap.size < b3 ∧ a.tmps[3]? = some (.pointer (some ⟨b3, 0, none⟩)) ∧ W.cell? ⟨b3, 0, none⟩ = some (.int .i64 (d.f0 + (j : Int))) ∧ W.frozen? ⟨b3, 0, none⟩ = false
 J : J (done r d.f0 j) W
 kb : Kb M w W
 marks : Marks W w.heap.size a.defers W.heap.size
def AheadS (d : S54) (r : List S54) (M : Nat → Prop) (J : List (List Int) → World → Prop) (w : World) (p y : Nat) (a : Act) (W : World) : Prop := ∃ j, Ahead d r M J w p y j a W
theorem _root_.Go.Proofs.Rf.Kb.frozen {M : Nat → Prop} {w W : World} (h : Kb M w W) {a : Addr} (hl : a.block < w.heap.size) (hm : ¬ M a.block) : W.frozen? a = w.frozen? a := World.frozen?_of_block (h.block _ hl hm)
theorem allS_length : ∀ (r : List S54) (ks : List Int), ks ∈ allS r → ks.length = r.length
 | [], ks, h => by simp [allS] at h; subst h; rfl
 | d :: r, ks, h => by
  simp only [allS, List.mem_flatMap, List.mem_map] at h
  obtain ⟨k, _, l, hl, rfl⟩ := h
  simp [allS_length r l hl]
theorem allS_cons (d : S54) (r : List S54) : allS (d :: r) = done r d.f0 (ext d).toNat := rfl
theorem done_le (r : List S54) (lo : Int) : ∀ (m j : Nat), ∃ t, done r lo (j + m) = done r lo j ++ t
 | 0, j => ⟨[], by simp⟩
 | m + 1, j => by
  obtain ⟨t, ht⟩ := done_le r lo m j
  exact ⟨t ++ (allS r).map ((lo + ((j + m : Nat) : Int)) :: ·), by rw [← Nat.add_assoc, done_succ, ht, List.append_assoc]⟩
/-- within round j of the outer loop -/
structure Inner (M : Nat → Prop) (J : List (List Int) → World → Prop) (pre0 : List (List Int)) (kk : Int) (w Wr : World) (b3 y : Nat) (rc : Obj) (pre : List (List Int)) (V : World) : Prop where
 J : J (pre0 ++ pre.map (kk :: ·)) V
 recd : V.heap[Wr.heap.size + 1]? = some rc
 mark : V.heap[Wr.heap.size]? = some (.deferred (some []))
 kb : Kb M Wr V
theorem inner_run {d : S54} {r : List S54} {j : Nat}
  (ih : ∀ (y : Nat) (M : Nat → Prop) (J : List (List Int) → World → Prop) (w : World) (p : Nat) (A : Option Addr) (c : Nat), Caller y w.heap.size M J (allS r) → J [] w → Lies M p A c r w →
   CallsIn Fence.wide 0 Tryz.prog 60 #[.func (.yield y) #[] #[], .pointer (some ⟨p, 0, none⟩)] w fun e w' => (∃ v, e = .returned v) ∧ J (allS r) w' ∧ Kb M w w')
  {y : Nat} {M : Nat → Prop} {J : List (List Int) → World → Prop} {w Wr : World} {p' b3 c' : Nat} {A' : Option Addr} {kk : Int}
  (C : Caller y w.heap.size M J (allS (d :: r))) (hjj : j < (ext d).toNat) (hkk : kk = d.f0 + (j : Int)) (hWr : Kb M w Wr)
  (hbox : Wr.cell? ⟨w.heap.size, 0, none⟩ = some (.func (.yield y) #[] #[])) (hk : Wr.cell? ⟨b3, 0, none⟩ = some (.int .i64 kk)) (hb3 : w.heap.size ≤ b3) (hJ : J (done r d.f0 j) Wr)
  (hc' : r.length ≤ c') (hC : ∀ V, Kb (fun i => M i ∨ w.heap.size ≤ i) w V → Kd.C k54 V A' r.length r) (hp' : Wr.cell? ⟨p', 0, none⟩ = some (.slice A' r.length c')) (hp2 : w.heap.size ≤ p')
  {fn : FuncId} {tm : Array Value} {ps : Array Tmp} {asg bo : Code}
  (hround : ∀ (V : World) (v : Value) (ks : List Int) (R' : World → Prop), V.heap[Wr.heap.size + 1]? = some (recOf .ready fn tm ps asg bo Wr.heap.size) → V.cell? ⟨w.heap.size, 0, none⟩ = some (.func (.yield y) #[] #[]) → V.cell? ⟨b3, 0, none⟩ = some (.int .i64 kk) →
   Rd V v ks → ks.length = r.length →
   (∀ w' v', Kb (fun _ => False) (V.putObj (Wr.heap.size + 1) (recOf .busy fn tm ps asg bo Wr.heap.size)) w' → Rd w' v' (kk :: ks) →
    YieldAt Fence.wide 0 Tryz.prog y #[v'] w' fun e w'' => e = .returned (.bool true) ∧ (w''.heap[Wr.heap.size + 1]? = some (recOf .busy fn tm ps asg bo Wr.heap.size) ∧ R' (w''.putObj (Wr.heap.size + 1) (recOf .ready fn tm ps asg bo Wr.heap.size)))) →
   YieldAt Fence.wide 0 Tryz.prog (Wr.heap.size + 1) #[v] V fun e W' => e = .returned (.bool true) ∧ R' W') :
  CallsIn Fence.wide 0 Tryz.prog 60 (#[.func (.yield (Wr.heap.size + 1)) #[] #[]] ++ #[.pointer (some ⟨p', 0, none⟩)]) ((Wr.alloc (.deferred (some []))).alloc (recOf .ready fn tm ps asg bo Wr.heap.size))
   fun e V => (∃ v, e = .returned v) ∧ V.heap[Wr.heap.size + 1]? = some (recOf .ready fn tm ps asg bo Wr.heap.size) ∧
    (J (done r d.f0 (j + 1)) V ∧ Kb M Wr V ∧ V.heap[Wr.heap.size]? = some (.deferred (some []))) := by
 have hMl : ∀ i, M i → i < w.heap.size := C.below
 have hs := hWr.size
 have hbl : w.heap.size < Wr.heap.size := World.block_lt_of_cell? Wr _ hbox
 have hkl : b3 < Wr.heap.size := World.block_lt_of_cell? Wr _ hk
 have hpl : p' < Wr.heap.size := World.block_lt_of_cell? Wr _ hp'
 have hkbc : Kb (fun _ => False) Wr ((Wr.alloc (.deferred (some []))).alloc (recOf .ready fn tm ps asg bo Wr.heap.size)) := ((Kb.refl _ Wr).alloc _).alloc _
 have hsz : ((Wr.alloc (.deferred (some []))).alloc (recOf .ready fn tm ps asg bo Wr.heap.size)).heap.size = Wr.heap.size + 2 := by simp
 have hrc0 : ((Wr.alloc (.deferred (some []))).alloc (recOf .ready fn tm ps asg bo Wr.heap.size)).heap[Wr.heap.size + 1]? = some (recOf .ready fn tm ps asg bo Wr.heap.size) := by
  have := World.alloc_heap_new (Wr.alloc (.deferred (some []))) (recOf .ready fn tm ps asg bo Wr.heap.size); rwa [World.size_alloc] at this
 have hmk0 : ((Wr.alloc (.deferred (some []))).alloc (recOf .ready fn tm ps asg bo Wr.heap.size)).heap[Wr.heap.size]? = some (.deferred (some [])) :=
  (Below.heap_alloc _ _ _ (by simp)).trans (World.alloc_heap_new Wr _)
 refine (ih (Wr.heap.size + 1) (fun i => M i ∨ i = Wr.heap.size + 1) (Inner M J (done r d.f0 j) kk w Wr b3 y (recOf .ready fn tm ps asg bo Wr.heap.size)) _ p' A' c' ⟨?_, ?_, ?_⟩ ⟨?_, hrc0, hmk0, hkbc.mono fun _ h => h.elim⟩ ⟨hc', ?_⟩).mono ?_
 ·rintro i (h | h)
  ·have := hMl i h; omega
  ·omega
 ·intro pre V V' hI hk2
  rw [hsz] at hk2
  have hnm : ∀ i, i < Wr.heap.size + 2 → ¬ (Wr.heap.size + 2 ≤ i) := fun i h h2 => by omega
  refine ⟨C.steps _ V V' hI.J (hk2.mono fun i h => by omega), hk2.obj (hnm _ (by omega)) hI.recd, hk2.obj (hnm _ (by omega)) hI.mark, hI.kb.trans' hk2 fun i h => .inr (by omega)⟩
 ·rintro pre ks V v hI ⟨rest, hrest⟩ hrd
  have hlen : ks.length = r.length := allS_length r ks (by rw [hrest]; simp)
  have hnb : ¬ M w.heap.size := fun h => by have := hMl _ h; omega
  have hnb3 : ¬ M b3 := fun h => by have := hMl _ h; omega
  have hnl : ¬ M (Wr.heap.size + 1) := fun h => by have := hMl _ h; omega
  have hnD : ¬ M Wr.heap.size := fun h => by have := hMl _ h; omega
  have hVl : Wr.heap.size + 1 < V.heap.size := (Array.getElem?_eq_some_iff.1 hI.recd).1
  refine hround V v ks (fun W' => Inner M J (done r d.f0 j) kk w Wr b3 y (recOf .ready fn tm ps asg bo Wr.heap.size) (pre ++ [ks]) W' ∧ Kb (fun i => M i ∨ i = Wr.heap.size + 1) V W') hI.recd (hI.kb.cell hnb hbox) (hI.kb.cell hnb3 hk) hrd hlen ?_
  intro w' v' hkw hrd'
  have hp1 : Kb (fun i => i = Wr.heap.size + 1) V (V.putObj (Wr.heap.size + 1) (recOf .busy fn tm ps asg bo Wr.heap.size)) := Kb.putObj (M := fun i => i = Wr.heap.size + 1) (Kb.refl _ V) (r := Wr.heap.size + 1) (.inl rfl) _
  have hp1J : Kb (fun i => w.heap.size ≤ i) V w' := (hp1.mono (M' := fun i => w.heap.size ≤ i) fun i (e : i = _) => by omega).trans (hkw.mono fun _ h => h.elim)
  have hVw : V.heap.size ≤ w'.heap.size := hp1J.size
  obtain ⟨t, ht⟩ := done_le r d.f0 ((ext d).toNat - (j + 1)) (j + 1)
  have hall : allS (d :: r) = (done r d.f0 j ++ pre.map (kk :: ·)) ++ (kk :: ks) :: (rest.map (kk :: ·) ++ t) := by
   rw [allS_cons, show (ext d).toNat = j + 1 + ((ext d).toNat - (j + 1)) by omega, ht, done_succ, hrest, hkk]
   simp
  obtain ⟨fn9, tm9, as9, bo9, h1, h2⟩ := C.round (done r d.f0 j ++ pre.map (kk :: ·)) (kk :: ks) w' v' (C.steps _ _ _ hI.J hp1J) ⟨_, hall⟩ hrd'
  refine ⟨fn9, tm9, as9, bo9, h1, h2.mono ?_⟩
  rintro e w'' ⟨rfl, hJ2, hk2⟩
  have hb0 : (V.putObj (Wr.heap.size + 1) (recOf .busy fn tm ps asg bo Wr.heap.size)).heap[Wr.heap.size + 1]? = some (recOf .busy fn tm ps asg bo Wr.heap.size) := World.putObj_heap_same hVl
  have hb1 := hkw.obj (fun h => h) hb0
  have hb2 := hk2.obj hnl hb1
  have hwl : Wr.heap.size + 1 < w''.heap.size := (Array.getElem?_eq_some_iff.1 hb2).1
  have hp2 : Kb (fun i => i = Wr.heap.size + 1) w'' (w''.putObj (Wr.heap.size + 1) (recOf .ready fn tm ps asg bo Wr.heap.size)) := Kb.putObj (M := fun i => i = Wr.heap.size + 1) (Kb.refl _ w'') (r := Wr.heap.size + 1) (.inl rfl) _
  have hVV : Kb (fun i => M i ∨ i = Wr.heap.size + 1) V (w''.putObj (Wr.heap.size + 1) (recOf .ready fn tm ps asg bo Wr.heap.size)) :=
   (((hp1.mono fun i h => .inr h).trans (hkw.mono fun _ h => h.elim)).trans (hk2.mono fun i h => .inl h)).trans (hp2.mono fun i h => .inr h)
  refine ⟨rfl, hb2, ⟨?_, World.putObj_heap_same hwl, hVV.obj (by rintro (h | h) <;> first | exact hnD h | omega) hI.mark, hI.kb.trans' hVV ?_⟩, hVV⟩
  ·rw [List.map_append, ← List.append_assoc]
   exact C.steps _ w'' _ hJ2 (hp2.mono fun i (e : i = _) => by omega)
  ·rintro i (h | h)
   ·exact .inl h
   ·exact .inr (by omega)
 ·simpa using C.steps _ Wr _ hJ (hkbc.mono fun _ h => h.elim)
 ·intro V hV
  have hfar : Kb (fun i => M i ∨ w.heap.size ≤ i) w V := by
   refine ((hWr.mono fun i h => .inl h).trans (hkbc.mono fun _ h => h.elim)).trans' hV ?_
   rintro i ((h | h) | h)
   ·exact .inl (.inl h)
   ·exact .inl (.inr (by omega))
   ·exact .inl (.inr (by omega))
  refine ⟨hV.cell ?_ (hkbc.cell (fun h => h) hp'), hC V hfar⟩
  rintro ((h | h) | h)
  ·have := hMl _ h; simp only at this; omega
  ·simp only at h; omega
  ·rw [hsz] at h; simp only at h; omega
 ·rintro e V ⟨hv, hI, hk2⟩
  exact ⟨hv, hI.recd, by rw [done_succ, ← hkk]; exact hI.J, hI.kb, hI.mark⟩
theorem iter_cons (d : S54) (r : List S54) (hn : near d) (he : 1 ≤ ext d) (he2 : ext d ≤ 1000) (hr4 : r.length ≤ 1000)
  (ih : ∀ (y : Nat) (M : Nat → Prop) (J : List (List Int) → World → Prop) (w : World) (p : Nat) (A : Option Addr) (c : Nat), Caller y w.heap.size M J (allS r) → J [] w → Lies M p A c r w →
   CallsIn Fence.wide 0 Tryz.prog 60 #[.func (.yield y) #[] #[], .pointer (some ⟨p, 0, none⟩)] w fun e w' => (∃ v, e = .returned v) ∧ J (allS r) w' ∧ Kb M w w')
  (y : Nat) (M : Nat → Prop) (J : List (List Int) → World → Prop) (w : World) (p : Nat) (A : Option Addr) (c : Nat) (C : Caller y w.heap.size M J (allS (d :: r))) (h0 : J [] w) (L : Lies M p A c (d :: r) w) :
  CallsIn Fence.wide 0 Tryz.prog 60 #[.func (.yield y) #[] #[], .pointer (some ⟨p, 0, none⟩)] w fun e w' => (∃ v, e = .returned v) ∧ J (allS (d :: r)) w' ∧ Kb M w w' := by
 obtain ⟨hp, hC⟩ := L.now
 have hmix : Tryz.prog.follows .mixedOrders = true := by kernel_rfl
 have hpl := World.block_lt_of_cell? w _ hp
 have hcd : (d :: r).length ≤ c := L.le
 obtain ⟨ad, e1, g0, g1⟩ := at_T54 hC 0 (by omega) (by simp)
 cases e1
 rw [show rd_T54 (d :: r) 0 = d from rfl] at g0 g1
 simp only [Int.toNat_zero, Nat.zero_mul] at g0 g1
 obtain ⟨gb, go, hadd⟩ := addr_of g0
 rw [hadd] at g0 g1
 have hgl := World.block_lt_of_cell? w _ g0
 have HC := Lib.hid hC; clear hC
 have hlen1 : ((r.length : Int) + 1 == 0) = false := by simp; omega
 simp only [List.length_cons] at hp hcd
 refine callsIn_of_wp_marks Tryz.func60 rfl trivial ?_
 simp only [Tryz.ntmps60, List.size_toArray, List.length_cons, List.length_nil, Nat.reduceAdd, Nat.reduceSub, Array.replicate_succ, Array.replicate_zero, List.push_toArray, List.append_toArray, List.nil_append, List.cons_append]
 gi_wp2
 refine wpIn_loop (AheadS d r M J w p y) (fun a W => (d.f1 + 1 - kbox a W).toNat) ?_ ?_
 ·refine ⟨0, Nat.zero_le _, rfl, rfl, rfl, ?_, ⟨w.heap.size + 1, Nat.lt_succ_self _, rfl, ?_, ?_⟩, ?_, ((Kb.refl M w).alloc _).alloc _, trivial⟩
  ·simp [go_sem]
  ·simp [go_sem]
  ·simp [go_sem]
  ·exact C.steps [] w _ (by simpa [done, ints] using h0) (((Kb.refl _ w).alloc _).alloc _)
 ·rintro ⟨T, ds⟩ W ⟨j, H⟩
  obtain ⟨b3, hb3, hT3, hkc, hkf⟩ := H.k
  obtain ⟨u, rfl⟩ := lits H.size H.s1 H.s2 hT3
  have hkb := H.kb
  have hkb' : Kb (fun i => M i ∨ w.heap.size ≤ i) w W := hkb.mono fun i h => .inl h
  obtain ⟨hpW, hCW⟩ := L.far W hkb'
  obtain ⟨ad', e1, G0, G1⟩ := at_T54 hCW 0 (by omega) (by simp)
  cases e1
  rw [show rd_T54 (d :: r) 0 = d from rfl] at G0 G1
  simp only [Int.toNat_zero, Nat.zero_mul] at G0 G1
  rw [hadd] at G0 G1
  have hbox := H.box
  have HH := Lib.hid H; clear H
  have HCW := Lib.hid hCW; clear hCW
  simp only [List.length_cons] at hpW
  have hb3l := World.block_lt_of_cell? W _ hkc
  have hbxl := World.block_lt_of_cell? W _ hbox
  dsimp only
  by_cases hj : d.f0 + (j : Int) ≤ d.f1
  ·obtain ⟨i40, hi40, hz40⟩ := Option.map_eq_some_iff.1 (show (Tryz.prog.info? 54).map (fun i => i.size) = some 2 by kernel_rfl)
   have hcut := cut_from (P := Tryz.prog) 22 54 .i64 Tryz.underlying22 hi40 2 hz40 (some ad) (r.length + 1) c 1 (by omega) (by omega)
   simp only [Int.toNat_one, Nat.one_mul, Nat.add_sub_cancel] at hcut
   obtain ⟨A', hA'⟩ : ∃ A', A' = (if c = 1 then some ad else Option.map (fun x => x.add 2) (some ad)) := ⟨_, rfl⟩
   rw [← hA'] at hcut
   have HA := Lib.hid hA'; clear hA'
   gi_wp2
   gi_region_o
   gi_wp2
   refine ⟨trivial, rfl, (subscripts_in _ _ _ _).mono ?_⟩
   rintro e W1 ⟨rfl, rfl⟩
   gi_wp2
   obtain ⟨Wr, hWr⟩ : ∃ Wr, Wr = (W.alloc (Obj.cells #[Value.slice A' r.length (c - 1)] 22)).drew := ⟨_, rfl⟩
   rw [← hWr]
   have hkr : Kb (fun _ => False) W Wr := by rw [hWr]; exact ((Kb.refl _ W).alloc _).drew
   have hp' : Wr.cell? ⟨W.heap.size, 0, none⟩ = some (.slice A' r.length (c - 1)) := by rw [hWr]; simp [go_sem]
   have hWw : Kb M w Wr := hkb.trans (hkr.mono fun _ h => h.elim)
   have hkrk := hkr.cell (fun h => h) hkc
   have hkrf : Wr.frozen? ⟨b3, 0, none⟩ = false := (hkr.frozen hb3l (fun h => h)).trans hkf
   have hkrb := hkr.cell (fun h => h) hbox
   have hjj : j < (ext d).toNat := by unfold ext; omega
   clear hWr
   have hbo : ∀ (V : World) (l : Nat) (o : Obj), w.heap.size ≠ l → V.cell? ⟨w.heap.size, 0, none⟩ = some (.func (.yield y) #[] #[]) → (V.putObj l o).cell? ⟨w.heap.size, 0, none⟩ = some (.func (.yield y) #[] #[]) := fun V l o hne h => (World.cell?_of_block (World.putObj_heap_other hne)).trans h
   have hko : ∀ (V : World) (l : Nat) (o : Obj), b3 ≠ l → V.cell? ⟨b3, 0, none⟩ = some (.int .i64 (d.f0 + (j : Int))) → (V.putObj l o).cell? ⟨b3, 0, none⟩ = some (.int .i64 (d.f0 + (j : Int))) := fun V l o hne h => (World.cell?_of_block (World.putObj_heap_other hne)).trans h
   have hWrs := hkr.size
   refine rf_outer' (gf := 60) (lb := #[.pointer (some ⟨W.heap.size, 0, none⟩)]) rfl (fun _ _ => rfl) (fun V => J (done r d.f0 (j + 1)) V ∧ Kb M Wr V ∧ V.heap[Wr.heap.size]? = some (.deferred (some [])))
    (fun fn => inner_run (p' := W.heap.size) (b3 := b3) (c' := c - 1) (A' := A') ih C hjj rfl hWw hkrb hkrk (by omega) (C.steps _ _ _ HH.out.J (hkr.mono fun _ h => h.elim)) (by omega) ?_ hp' (by omega) ?_) ?_
   ·intro V hV
    have := (L.far V hV).2
    have h2 := Kd.C_drop (m := 1) this (by simp) (by simpa using hcd)
    rw [HA.out]
    simpa [show k54.sz = 2 from rfl] using h2
   ·intro V v ks R' hl hbx hk3 hrd hlen hy
    refine rf_round hl rfl ?_
    gi_wp2
    have hVl := (Array.getElem?_eq_some_iff.1 hl).1
    obtain ⟨A3, c3, rfl, hc3, hC3⟩ := hrd
    refine region8 (hbo V _ _ ?_ hbx) (hko V _ _ ?_ hk3) rfl (C_put_loop hC3 hl _) ?_ hy ?_
    ·omega
    ·omega
    ·omega
    intro w'' x26 x27 x28 x29 x30 x31 hR''
    gi_wp2
    exact hR''
   ·rintro V V' ⟨hJ2, hk2, hmk⟩ hkV hVl
    have hMl : ∀ i, M i → i < w.heap.size := C.below
    have hnb3 : ¬ M b3 := fun h => by have := hMl _ h; omega
    have hnbx : ¬ M w.heap.size := fun h => by have := hMl _ h; omega
    have hk9 : V'.cell? ⟨b3, 0, none⟩ = some (.int .i64 (d.f0 + (j : Int))) := hkV.cell (by simp; omega) (hk2.cell hnb3 hkrk)
    have hbx9 : V'.cell? ⟨w.heap.size, 0, none⟩ = some (.func (.yield y) #[] #[]) := hkV.cell (by simp; omega) (hk2.cell hnbx hkrb)
    have hV'l := World.block_lt_of_cell? V' _ hk9
    have HHJ := Lib.hid hJ2; clear hJ2
    obtain ⟨hn1, hn2, hn3, hn4⟩ := hn
    have hkVa : ∀ o : Obj, Kb (fun i => M i ∨ i = Wr.heap.size + 1) W (V'.alloc o) := fun o => (((hkr.mono fun _ h => h.elim).trans (hk2.mono fun i h => .inl h)).trans (hkV.mono fun i h => .inr h)).alloc o
    gi_wp2
    refine ⟨⟨j + 1, by unfold ext; omega, rfl, rfl, rfl, ?_, ⟨V'.heap.size, by omega, rfl, ?_, ?_⟩, ?_, ?_, ⟨Wr.heap.size, rfl, by omega, ?_, ?_, ?_⟩⟩, ?_⟩
    ·exact ((Kb.refl (fun _ => False) V').alloc _).cell (fun h => h) hbx9
    ·simp [go_sem]; omega
    ·simp [go_sem]
    ·exact C.steps _ V _ HHJ.out ((hkV.mono (M' := fun i => w.heap.size ≤ i) fun i (e : i = _) => by omega).alloc _)
    ·exact ((hWw.trans hk2).trans' hkV (fun i (e : i = _) => .inr (by omega))).alloc _
    ·have := hkV.size; simp; omega
    ·exact ((hkV.mono (M' := fun i => i = Wr.heap.size + 1) fun i h => h).alloc _).obj (by simp) hmk
    ·refine (HH.out.marks.kept (hkVa _) ?_).le (by omega)
     rintro i h1 h2 (h | h)
     ·have := hMl _ h; omega
     ·omega
    ·simp [kbox, kval, hkc, go_sem]
     omega
  ·have hje := Lib.hid (show j = (ext d).toNat by have := HH.out.le; unfold ext at this ⊢; omega)
   gi_wp2
   gi_region_o
   gi_wp2
   have hd : Kb (fun _ => False) W W.drew := (Kb.refl _ W).drew
   refine leaves_marks ds W.heap.size _ (HH.out.marks.kept hd fun _ _ _ h => h) fun W' hk' => ⟨_, results_none rfl _ _ _, ⟨_, rfl⟩, ?_, (hkb.trans (hd.mono fun _ h => h.elim)).trans' hk' fun i h => .inr h⟩
   have := C.steps _ W W' HH.out.J ((hd.mono fun _ h => h.elim).trans hk')
   rw [allS_cons, ← hje.out]
   exact this
/-- lists of dimensions that the iterator is called with -/
def Tame (l : List S54) : Prop := l.length ≤ 1000 ∧ ∀ d ∈ l, near d ∧ 1 ≤ ext d ∧ ext d ≤ 1000
theorem iter_calls : ∀ (l : List S54), Tame l → ∀ (y : Nat) (M : Nat → Prop) (J : List (List Int) → World → Prop) (w : World) (p : Nat) (A : Option Addr) (c : Nat), Caller y w.heap.size M J (allS l) → J [] w → Lies M p A c l w →
   CallsIn Fence.wide 0 Tryz.prog 60 #[.func (.yield y) #[] #[], .pointer (some ⟨p, 0, none⟩)] w fun e w' => (∃ v, e = .returned v) ∧ J (allS l) w' ∧ Kb M w w'
 | [], _, y, M, J, w, p, A, c, C, h0, L => iter_nil y M J w p A c C h0 L.now.1
 | d :: r, ht, y, M, J, w, p, A, c, C, h0, L =>
  have h1 := ht.2 d (List.mem_cons_self ..)
  have hr : r.length ≤ 1000 := by have := ht.1; simp at this; omega
  iter_cons d r h1.1 h1.2.1 h1.2.2 hr (iter_calls r ⟨hr, fun d hd => ht.2 d (List.mem_cons_of_mem _ hd)⟩) y M J w p A c C h0 L
end Go.Proofs.Q
end
section
namespace Go.Proofs.Q
open RowKit Pw Pl Pm
attribute [local go_sem] max2_int min2_int max_two min_two max_three min_three max_four min_four   -- for this text's walks alone
end Go.Proofs.Q
end
section
namespace Go.Proofs.Q
open RowKit Rf Pw Pl Pm
theorem wrap_next {j : Nat} (h : (j : Int) < 9223372036854775807) : wrap64 ((j : Int) + 1) = ((j + 1 : Nat) : Int) := by rw [wrap64_id (by omega) (by omega)]; rfl
theorem rd_drop {l r : List Int} {d : Int} {j : Nat} (h : l.drop j = d :: r) : rd l (j : Int) = d := by
 have : l[j]? = some d := by
  have := congrArg (fun x => x[0]?) h
  simpa using this
 simp [rd, List.getD, this]
/-- is within the bounds -/
def inB : List S54 → List Int → Bool
 | [], [] => true
 | d :: r, k :: ks => decide (d.f0 ≤ k ∧ k ≤ d.f1) && inB r ks
 | _, _ => false
theorem inB_len : ∀ (l : List S54) (ks : List Int), inB l ks = true → ks.length = l.length
 | [], [], _ => rfl
 | [], _ :: _, h => by simp [inB] at h
 | _ :: _, [], h => by simp [inB] at h
 | d :: r, k :: ks, h => by
  simp only [inB, Bool.and_eq_true] at h
  simp [inB_len r ks h.2]
/-- the place of a subscript list -/
def plc : List S54 → List Int → Int
 | d :: r, k :: ks => prodL r * (k - d.f0) + plc r ks
 | _, _ => 0
theorem offGo_in : ∀ (l : List S54) (ks : List Int) (n : Int), inB l ks = true → offGo l (strL l) ks n = (n + (plc l ks - fstL l), 0)
 | [], [], n, _ => by simp [offGo, plc, fstL, strL]
 | [], _ :: _, _, h => by simp [inB] at h
 | _ :: _, [], _, h => by simp [inB] at h
 | d :: r, k :: ks, n, h => by
  simp only [inB, Bool.and_eq_true, decide_eq_true_eq] at h
  simp only [strL, offGo]
  rw [if_neg (by omega), if_neg (by omega), offGo_in r ks _ h.2]
  simp only [plc, fstL, Int.mul_sub, Prod.mk.injEq, and_true]
  omega
theorem offGo_out : ∀ (l : List S54) (s ks : List Int) (n : Int), s.length = l.length → ks.length = l.length → inB l ks = false → offGo l s ks n = (0, 3)
 | [], [], [], n, _, _, h => by simp [inB] at h
 | d :: r, x :: ss, k :: ks, n, h1, h2, h => by
  simp only [offGo]
  split
  ·rfl
  ·split
   ·rfl
   ·refine offGo_out r ss ks _ (by simpa using h1) (by simpa using h2) ?_
    have : decide (d.f0 ≤ k ∧ k ≤ d.f1) = true := decide_eq_true (by omega)
    simpa [inB, this] using h
theorem offF_eq (l : List S54) (ks : List Int) : offF l ks = if ks.length = l.length then (if inB l ks = true then (plc l ks, 0) else (0, 3)) else (0, 10) := by
 unfold offF
 by_cases hk : ks.length = l.length
 ·rw [if_pos hk, if_pos hk]
  cases hb : inB l ks with
  | true =>
   rw [if_pos rfl, offGo_in l ks _ hb]
   simp only [Prod.mk.injEq, and_true]; omega
  | false => rw [if_neg (by simp), offGo_out l _ ks _ (strL_length l) hk hb]
 ·rw [if_neg hk, if_neg hk]
/-- the subscripts at a place -/
def subsAt : List S54 → Int → List Int
 | [], _ => []
 | d :: r, a => (d.f0 + a / prodL r) :: subsAt r (a % prodL r)
theorem ext_pos {l : List S54} (h : Proper l) : ∀ d ∈ l, 1 ≤ ext d := fun d hd => (h.2.1 d hd).1
theorem strL_rd {l r : List S54} {d : S54} {j : Nat} (h : l.drop j = d :: r) : rd (strL l) (j : Int) = prodL r := by
 have := strL_get l j (lt_drop h)
 rw [drop_next h] at this
 simp [rd, List.getD, this]
end Go.Proofs.Q
end
section
namespace Go.Proofs.Q
open RowKit Pw Pl Pm
attribute [local go_sem] max2_int min2_int max_two min_two max_three min_three max_four min_four   -- for this text's walks alone
theorem eqA36 (d : Nat) (w : World) (x0 y0 : Int) (x1 y1 : Int) :
  (Op.equalIn (d + 2) 36 (.agg #[.int .i64 x0, .int .i64 x1]) (.agg #[.int .i64 y0, .int .i64 y1])).run Tryz.prog w = .ok (x0 == y0 && (x1 == y1)) w := by
 refine eqA_of Tryz.underlying36 (by kernel_rfl) ?_
 refine eqf_cons (by rfl) (by go_simp; rfl) (by go_simp; rfl) (by go_simp) ?_
 exact eqf_last (by rfl) (by go_simp; rfl) (by go_simp; rfl) (by go_simp)
end Go.Proofs.Q
end
section
namespace Go.Proofs.Q
open RowKit Pw Pl Pm
attribute [local go_sem] max2_int min2_int max_two min_two max_three min_three max_four min_four   -- for this text's walks alone
theorem eqA38 (d : Nat) (w : World) (x0 y0 : Int) (x1 y1 : Int) (x2 y2 : Int) (x3 y3 : Int) (x4 y4 : Bool) :
  (Op.equalIn (d + 3) 38 (.agg #[.int .i64 x0, .int .i64 x1, .int .i64 x2, .int .i64 x3, .bool x4]) (.agg #[.int .i64 y0, .int .i64 y1, .int .i64 y2, .int .i64 y3, .bool y4])).run Tryz.prog w = .ok (x0 == y0 && (x1 == y1 && ((x2 == y2 && (x3 == y3)) && (x4 == y4)))) w := by
 refine eqA_of Tryz.underlying38 (by kernel_rfl) ?_
 refine eqf_cons (by rfl) (by go_simp; rfl) (by go_simp; rfl) (by go_simp) ?_
 refine eqf_cons (by rfl) (by go_simp; rfl) (by go_simp; rfl) (by go_simp) ?_
 refine eqf_cons (by rfl) (by go_simp) (by go_simp) (eqA36 (d + 0) w _ _ _ _) ?_
 exact eqf_last (by rfl) (by go_simp; rfl) (by go_simp; rfl) (by go_simp)
end Go.Proofs.Q
end
