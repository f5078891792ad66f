import Derived.Test.YtcjjmhgboibbgaaHRf
import Derived.Test.YtcjjmhgboibbgaaHArr
import Derived.Outline
namespace Go.Proofs.Ytcjjmhgboibbgaa.Q
open Go.RowKit Go.Shelf Go.Proofs.Rf Go.Proofs.YtcjjmhgboibbgaaW.PrintWords Go.Proofs.YtcjjmhgboibbgaaW.PrintLast Go.Proofs.YtcjjmhgboibbgaaW.PrintMore
attribute [local go_sem] Oper.semAt_some
set_option linter.unusedVariables false
set_option linter.unusedSimpArgs false

def Rd (W : World) (v : Value) (ks : List Int) : Prop := ∃ A c, v = .slice A ks.length c ∧ ks.length ≤ c ∧ Kd.C (Kd.int .i64) W A ks.length ks
set_option maxRecDepth 100000 in
/-- '[]int{k}' lies at H; 'rest...' is put behind it. -/
theorem append_run {W : World} (ty H : Nat) (k : Int) (ks : List Int) (A : Option Addr) (c : Nat) (hl : ks.length ≤ 1000000) (hC : Kd.C (Kd.int .i64) W A ks.length ks) (hH : W.heap[H]? = some (.cells #[.int .i64 k] 3)) :
    ∃ v w', (Builtin.append_ #[23, 23] ty #[.slice (some ⟨H, 0, none⟩) 1 1, .slice A ks.length c]).run Try.prog W = .ok v w' ∧ Kb (fun i => i = H) W w' ∧ Rd w' v (k :: ks) := by
  have hinfo : (Try.prog.info? 3).map (fun i => (i.zero, i.size, i.bytes)) = some (some (Value.int .i64 0), 1, 8) := by kernel_rfl
  have ht : Try.prog.underlying 23 = some (.slice 3) := by kernel_rfl
  obtain ⟨i0, hi, hzz⟩ := Option.map_eq_some_iff.1 hinfo
  simp only [Prod.mk.injEq] at hzz
  obtain ⟨hz0, hz1, hz2⟩ := hzz
  have hHl := (Array.getElem?_eq_some_iff.1 hH).1
  have HO : W.ownsRow H 3 1 (.slice (some ⟨H, 0, none⟩) 1 1) 1 (encs (Value.int .i64) [k]) := ⟨by simp [encs], .inr ⟨H, 1, _, rfl, Nat.le_refl _, hH, Nat.le_refl _, by simp [maxLen], by simp, by simp [encs]⟩⟩
  have HR : ReadsOf (Value.int .i64) 0 W A ks.length ks := Kd.reads_of_C hC
  suffices h : ∃ v w', (Builtin.append_ #[23, 23] ty #[.slice (some ⟨H, 0, none⟩) 1 1, .slice A ks.length c]).run Try.prog W = .ok v w' ∧ w'.ownsRow H 3 1 v (k :: ks).length (encs (Value.int .i64) (k :: ks)) ∧ W.grownBy w' (some H) by
    obtain ⟨v, w', hr, ho, hg⟩ := h
    refine ⟨v, w', hr, ⟨hg.os, hg.tape, hg.output, hg.size, fun i hi hne => hg.block i hi (fun e => hne (by cases e; rfl))⟩, ?_⟩
    exact Kd.R_reads (Kd.R_of_own (h1 := fun _ => rfl) (ok := fun _ => True) ho (fun _ _ => trivial))
  rcases A with _ | ad
  · have h0 : ks.length = 0 := by
      rcases Nat.eq_zero_or_pos ks.length with h0 | h0
      · exact h0
      · obtain ⟨ad, h, _⟩ := HR.2.2 h0
        cases h
    obtain rfl : ks = [] := List.eq_nil_of_length_eq_zero h0
    refine ⟨.slice (some ⟨H, 0, none⟩) 1 1, W, ?_, by simpa using HO, World.grownBy.refl W _⟩
    simp [Builtin.append_, run_underlying ht, sizeOf, typeInfo, hi, Builtin.lenOf, Builtin.firstCells, storeCells]
  · have hcells : ∀ j u, (encs (Value.int .i64) ks)[j]? = some u → W.cell? (ad.add j) = some u := by
      intro j u hu
      have hj : j < ks.length := by
        rcases Nat.lt_or_ge j ks.length with h | h
        · exact h
        · simp [encs, List.getElem?_eq_none h] at hu
      obtain ⟨ad', h', hc⟩ := HR.2.2 (by omega)
      injection h' with h'
      subst h'
      rw [encs_get (d := 0) ks j hj] at hu
      rw [← hu]
      exact hc j (by omega)
    obtain ⟨v1, w1, hr, h2, h3, _, h5⟩ := run_append_own_at (P := Try.prog) W H 23 ty 3 i0 (.int .i64 0) 1 8 ht hi hz0 hz1 hz2 rfl (by omega) (.slice (some ⟨H, 0, none⟩) 1 1) 1 (encs (Value.int .i64) [k]) HO ad ks.length c (encs (Value.int .i64) ks) (by simp [encs]) hcells
      (by intro u hu; simp only [encs, List.mem_map] at hu; obtain ⟨q, _, rfl⟩ := hu; rfl) (by simp only [maxLen]; omega) (by omega) (by omega)
    exact ⟨v1, w1, hr, by rw [show (k :: ks).length = 1 + ks.length by simp; omega, show encs (Value.int .i64) (k :: ks) = encs (Value.int .i64) [k] ++ encs (Value.int .i64) ks by simp [encs]]; exact h2, h3⟩
/-- 'append' at a step of a region that draws, within a round. -/
theorem append_step {F : Fence} {n : Nat} {P : Program} {ops : Array Oper} {o : Oper} {a : Act} {w : World} {K : Act → World → Prop} {Q : Exit → Act → World → Prop} {E : Prop} (hgd : o.guard = none) (s x : Operand) (t : TypeId)
    (ho : o.op = .call { callee := .builtin .append, args := #[s, x], argTypes := #[t, t] }) {sv xv : Value} (hs : a.eval s = sv) (hx : a.eval x = xv)
    {v : Value} {w' : World} (hr : (Builtin.append_ #[t, t] o.type #[sv, xv]).run P w = .ok v w') (hK : K (a.put o.dst v) w') :
    if Region.wanted o (yielded ops a.tmps) = true then o.wpIn F n P a w K Q else E := by
  rw [if_pos (by simp [Region.wanted, hgd])]
  unfold Oper.wpIn
  refine ⟨?_, ?_⟩
  · simp [Oper.about, ho, resolve, Target.leads, Sem.run_pure]
  · rw [Oper.semAt_plain F _ _ (by rw [ho]; intro c hc'; cases hc')]
    simp [execOp, ho, resolve, invoke, builtin, hs, hx, hr, Result.andThen]
    exact hK
set_option maxRecDepth 100000 in
set_option maxHeartbeats 40000000 in
theorem region8 {l : Nat} {Q : Exit → Act → World → Prop} {t0 t1 t5 t6 t7 t8 t9 t10 t11 t12 t13 t14 t15 t16 t17 t18 t19 t20 t21 t22 t23 t24 t25 t26 t27 t28 t29 t30 t31 t32 t33 : Value} {ds : List Deferred} {W : World} {bx b3 y m c : Nat} {A : Option Addr} {k : Int} {ks : List Int} {R : World → Prop}
    (hbox : W.cell? ⟨bx, 0, none⟩ = some (.func (.yield y) #[] #[])) (hk : W.cell? ⟨b3, 0, none⟩ = some (.int .i64 k)) (hm : m = ks.length) (hC : Kd.C (Kd.int .i64) W A ks.length ks) (hl : ks.length ≤ 1000000)
    (hy : ∀ w' v, Kb (fun _ => False) W w' → Rd w' v (k :: ks) → YieldAt Fence.wide 0 Try.prog y #[v] w' fun e w'' => e = .returned (.bool true) ∧ R w'')
    (hQ : ∀ w'' x26 x27 x28 x29 x30 x31, R w'' → Q .normal { tmps := #[t0, t1, .pointer (some ⟨bx, 0, none⟩), .pointer (some ⟨b3, 0, none⟩), .slice A m c, t5, t6, t7, t8, t9, t10, t11, t12, t13, t14, t15, t16, t17, t18, t19, t20, t21, t22, t23, t24, t25, x26, x27, x28, x29, x30, x31, .bool false, t33], defers := ds } w'') :
    (Code.region 8 #[{ dst := some 26, op := Op.load 105 (Operand.tmp 2), type := 105, pos := "array.go:105", after := #[], guard := none },
    { dst := some 27, op := Op.load 3 (Operand.tmp 3), type := 3, pos := "array.go:105", after := #[], guard := none },
    { dst := some 28, op := Op.buildSlice 23 1 #[(0, Operand.tmp 27)], type := 23, pos := "array.go:105", after := #[{ on := 1, ground := Ground.data }], guard := none },
    { dst := some 29, op := Op.move (Operand.tmp 4), type := 23, pos := "array.go:105", after := #[], guard := none },
    { dst := some 30, op := Op.call { callee := Callee.builtin Builtin.append, args := #[Operand.tmp 28, Operand.tmp 29], argTypes := #[23, 23] }, type := 23, pos := "array.go:105", after := #[{ on := 2, ground := Ground.data }, { on := 3, ground := Ground.data }], guard := none },
    { dst := some 31, op := Op.call { callee := Callee.value (Operand.tmp 26), args := #[Operand.tmp 30], argTypes := #[23] }, type := 4, pos := "array.go:105", after := #[{ on := 0, ground := Ground.data }, { on := 4, ground := Ground.data }, { on := 4, ground := Ground.chain }], guard := none },
    { dst := some 32, op := Op.unOp UnOp.not 4 (Operand.tmp 31), type := 4, pos := "array.go:105", after := #[{ on := 5, ground := Ground.data }], guard := none }] true).wpIn (Fence.wide.inRound l) 0 Try.prog Q { tmps := #[t0, t1, .pointer (some ⟨bx, 0, none⟩), .pointer (some ⟨b3, 0, none⟩), .slice A m c, t5, t6, t7, t8, t9, t10, t11, t12, t13, t14, t15, t16, t17, t18, t19, t20, t21, t22, t23, t24, t25, t26, t27, t28, t29, t30, t31, t32, t33], defers := ds } W := by
  subst hm
  have hmix : Try.prog.follows .mixedOrders = true := by kernel_rfl
  have hb1 := World.block_lt_of_cell? W _ hbox
  have hb2 := World.block_lt_of_cell? W _ hk
  have hHl : (W.alloc (.cells #[.int .i64 k] 3)).drew.heap[W.heap.size]? = some (.cells #[.int .i64 k] 3) := World.alloc_heap_new W _
  have hkb0 : Kb (fun _ => False) W (W.alloc (.cells #[.int .i64 k] 3)).drew := ((Kb.refl _ W).alloc _).drew
  have hC1 : Kd.C (Kd.int .i64) (W.alloc (.cells #[.int .i64 k] 3)).drew A ks.length ks := Kd.C_below hC (hkb0.below (Nat.le_refl _) (fun _ h => h.elim))
  obtain ⟨v, w', hrun, hkb, hrd⟩ := append_run 23 W.heap.size k ks A c hl hC1 hHl
  have hkb' : Kb (fun _ => False) W w' := hkb0.trans' hkb (fun i h => .inr (Nat.le_of_eq h.symm))
  have hbox' := hkb'.cell (fun h => h) hbox
  have HQ := Lib.hid hQ; clear hQ
  obtain ⟨fn, tm9, as9, bo9, hyy, hR⟩ := hy w' v hkb' hrd
  have HR := Lib.hid hR; clear hR hy
  have HC := Lib.hid hC1; clear hC1 hC
  refine wpIn_region_any hmix ?_
  try (change wpAnyIn _ _ _ _ _ _ _ _ _ (World.drew _))
  refine wpAnyIn_ready (rs := [0, 1, 3]) (by kernel_rfl) (by simp) ?_
  refine AllReadyIn.cons rfl (fun K hK => ?_) ?_
  · go_simp
    refine hK _ _ ?_; clear hK K
    refine wpAnyIn_ready (rs := [1, 3]) (by kernel_rfl) (by simp) ?_
    refine AllReadyIn.cons rfl (fun K hK => ?_) ?_
    · go_simp
      refine hK _ _ ?_; clear hK K
      refine wpAnyIn_ready (rs := [2, 3]) (by kernel_rfl) (by simp) ?_
      refine AllReadyIn.cons rfl (fun K hK => ?_) ?_
      · go_simp
        refine hK _ _ ?_; clear hK K
        refine wpAnyIn_ready (rs := [3]) (by kernel_rfl) (by simp) ?_
        refine AllReadyIn.cons rfl (fun K hK => ?_) AllReadyIn.nil
        go_simp
        refine hK _ _ ?_; clear hK K
        refine wpAnyIn_ready (rs := [4]) (by kernel_rfl) (by simp) ?_
        refine AllReadyIn.cons rfl (fun K hK => ?_) AllReadyIn.nil
        refine append_step rfl (.tmp 28) (.tmp 29) 23 rfl rfl rfl hrun ?_
        refine hK _ _ ?_; clear hK K
        refine wpAnyIn_ready (rs := [5]) (by kernel_rfl) (by simp) ?_
        refine AllReadyIn.cons rfl (fun K hK => ?_) AllReadyIn.nil
        go_simp
        refine ⟨rfl, RoundIn.mono HR.out ?_⟩
        rintro e W' ⟨rfl, hR9⟩
        go_simp
        refine hK _ _ ?_; clear hK K
        refine wpAnyIn_ready (rs := [6]) (by kernel_rfl) (by simp) ?_
        refine AllReadyIn.cons rfl (fun K hK => ?_) AllReadyIn.nil
        go_simp
        refine hK _ _ ?_; clear hK K
        exact wpAnyIn_done (by kernel_rfl) (HQ.out _ _ _ _ _ _ _ hR9) _
      refine AllReadyIn.cons rfl (fun K hK => ?_) AllReadyIn.nil
      go_simp
      refine hK _ _ ?_; clear hK K
      refine wpAnyIn_ready (rs := [2]) (by kernel_rfl) (by simp) ?_
      refine AllReadyIn.cons rfl (fun K hK => ?_) AllReadyIn.nil
      go_simp
      refine hK _ _ ?_; clear hK K
      refine wpAnyIn_ready (rs := [4]) (by kernel_rfl) (by simp) ?_
      refine AllReadyIn.cons rfl (fun K hK => ?_) AllReadyIn.nil
      refine append_step rfl (.tmp 28) (.tmp 29) 23 rfl rfl rfl hrun ?_
      refine hK _ _ ?_; clear hK K
      refine wpAnyIn_ready (rs := [5]) (by kernel_rfl) (by simp) ?_
      refine AllReadyIn.cons rfl (fun K hK => ?_) AllReadyIn.nil
      go_simp
      refine ⟨rfl, RoundIn.mono HR.out ?_⟩
      rintro e W' ⟨rfl, hR9⟩
      go_simp
      refine hK _ _ ?_; clear hK K
      refine wpAnyIn_ready (rs := [6]) (by kernel_rfl) (by simp) ?_
      refine AllReadyIn.cons rfl (fun K hK => ?_) AllReadyIn.nil
      go_simp
      refine hK _ _ ?_; clear hK K
      exact wpAnyIn_done (by kernel_rfl) (HQ.out _ _ _ _ _ _ _ hR9) _
    refine AllReadyIn.cons rfl (fun K hK => ?_) AllReadyIn.nil
    go_simp
    refine hK _ _ ?_; clear hK K
    refine wpAnyIn_ready (rs := [1]) (by kernel_rfl) (by simp) ?_
    refine AllReadyIn.cons rfl (fun K hK => ?_) AllReadyIn.nil
    go_simp
    refine hK _ _ ?_; clear hK K
    refine wpAnyIn_ready (rs := [2]) (by kernel_rfl) (by simp) ?_
    refine AllReadyIn.cons rfl (fun K hK => ?_) AllReadyIn.nil
    go_simp
    refine hK _ _ ?_; clear hK K
    refine wpAnyIn_ready (rs := [4]) (by kernel_rfl) (by simp) ?_
    refine AllReadyIn.cons rfl (fun K hK => ?_) AllReadyIn.nil
    refine append_step rfl (.tmp 28) (.tmp 29) 23 rfl rfl rfl hrun ?_
    refine hK _ _ ?_; clear hK K
    refine wpAnyIn_ready (rs := [5]) (by kernel_rfl) (by simp) ?_
    refine AllReadyIn.cons rfl (fun K hK => ?_) AllReadyIn.nil
    go_simp
    refine ⟨rfl, RoundIn.mono HR.out ?_⟩
    rintro e W' ⟨rfl, hR9⟩
    go_simp
    refine hK _ _ ?_; clear hK K
    refine wpAnyIn_ready (rs := [6]) (by kernel_rfl) (by simp) ?_
    refine AllReadyIn.cons rfl (fun K hK => ?_) AllReadyIn.nil
    go_simp
    refine hK _ _ ?_; clear hK K
    exact wpAnyIn_done (by kernel_rfl) (HQ.out _ _ _ _ _ _ _ hR9) _
  refine AllReadyIn.cons rfl (fun K hK => ?_) ?_
  · go_simp
    refine hK _ _ ?_; clear hK K
    refine wpAnyIn_ready (rs := [0, 2, 3]) (by kernel_rfl) (by simp) ?_
    refine AllReadyIn.cons rfl (fun K hK => ?_) ?_
    · go_simp
      refine hK _ _ ?_; clear hK K
      refine wpAnyIn_ready (rs := [2, 3]) (by kernel_rfl) (by simp) ?_
      refine AllReadyIn.cons rfl (fun K hK => ?_) ?_
      · go_simp
        refine hK _ _ ?_; clear hK K
        refine wpAnyIn_ready (rs := [3]) (by kernel_rfl) (by simp) ?_
        refine AllReadyIn.cons rfl (fun K hK => ?_) AllReadyIn.nil
        go_simp
        refine hK _ _ ?_; clear hK K
        refine wpAnyIn_ready (rs := [4]) (by kernel_rfl) (by simp) ?_
        refine AllReadyIn.cons rfl (fun K hK => ?_) AllReadyIn.nil
        refine append_step rfl (.tmp 28) (.tmp 29) 23 rfl rfl rfl hrun ?_
        refine hK _ _ ?_; clear hK K
        refine wpAnyIn_ready (rs := [5]) (by kernel_rfl) (by simp) ?_
        refine AllReadyIn.cons rfl (fun K hK => ?_) AllReadyIn.nil
        go_simp
        refine ⟨rfl, RoundIn.mono HR.out ?_⟩
        rintro e W' ⟨rfl, hR9⟩
        go_simp
        refine hK _ _ ?_; clear hK K
        refine wpAnyIn_ready (rs := [6]) (by kernel_rfl) (by simp) ?_
        refine AllReadyIn.cons rfl (fun K hK => ?_) AllReadyIn.nil
        go_simp
        refine hK _ _ ?_; clear hK K
        exact wpAnyIn_done (by kernel_rfl) (HQ.out _ _ _ _ _ _ _ hR9) _
      refine AllReadyIn.cons rfl (fun K hK => ?_) AllReadyIn.nil
      go_simp
      refine hK _ _ ?_; clear hK K
      refine wpAnyIn_ready (rs := [2]) (by kernel_rfl) (by simp) ?_
      refine AllReadyIn.cons rfl (fun K hK => ?_) AllReadyIn.nil
      go_simp
      refine hK _ _ ?_; clear hK K
      refine wpAnyIn_ready (rs := [4]) (by kernel_rfl) (by simp) ?_
      refine AllReadyIn.cons rfl (fun K hK => ?_) AllReadyIn.nil
      refine append_step rfl (.tmp 28) (.tmp 29) 23 rfl rfl rfl hrun ?_
      refine hK _ _ ?_; clear hK K
      refine wpAnyIn_ready (rs := [5]) (by kernel_rfl) (by simp) ?_
      refine AllReadyIn.cons rfl (fun K hK => ?_) AllReadyIn.nil
      go_simp
      refine ⟨rfl, RoundIn.mono HR.out ?_⟩
      rintro e W' ⟨rfl, hR9⟩
      go_simp
      refine hK _ _ ?_; clear hK K
      refine wpAnyIn_ready (rs := [6]) (by kernel_rfl) (by simp) ?_
      refine AllReadyIn.cons rfl (fun K hK => ?_) AllReadyIn.nil
      go_simp
      refine hK _ _ ?_; clear hK K
      exact wpAnyIn_done (by kernel_rfl) (HQ.out _ _ _ _ _ _ _ hR9) _
    refine AllReadyIn.cons rfl (fun K hK => ?_) ?_
    · go_simp
      refine hK _ _ ?_; clear hK K
      refine wpAnyIn_ready (rs := [0, 3]) (by kernel_rfl) (by simp) ?_
      refine AllReadyIn.cons rfl (fun K hK => ?_) ?_
      · go_simp
        refine hK _ _ ?_; clear hK K
        refine wpAnyIn_ready (rs := [3]) (by kernel_rfl) (by simp) ?_
        refine AllReadyIn.cons rfl (fun K hK => ?_) AllReadyIn.nil
        go_simp
        refine hK _ _ ?_; clear hK K
        refine wpAnyIn_ready (rs := [4]) (by kernel_rfl) (by simp) ?_
        refine AllReadyIn.cons rfl (fun K hK => ?_) AllReadyIn.nil
        refine append_step rfl (.tmp 28) (.tmp 29) 23 rfl rfl rfl hrun ?_
        refine hK _ _ ?_; clear hK K
        refine wpAnyIn_ready (rs := [5]) (by kernel_rfl) (by simp) ?_
        refine AllReadyIn.cons rfl (fun K hK => ?_) AllReadyIn.nil
        go_simp
        refine ⟨rfl, RoundIn.mono HR.out ?_⟩
        rintro e W' ⟨rfl, hR9⟩
        go_simp
        refine hK _ _ ?_; clear hK K
        refine wpAnyIn_ready (rs := [6]) (by kernel_rfl) (by simp) ?_
        refine AllReadyIn.cons rfl (fun K hK => ?_) AllReadyIn.nil
        go_simp
        refine hK _ _ ?_; clear hK K
        exact wpAnyIn_done (by kernel_rfl) (HQ.out _ _ _ _ _ _ _ hR9) _
      refine AllReadyIn.cons rfl (fun K hK => ?_) AllReadyIn.nil
      go_simp
      refine hK _ _ ?_; clear hK K
      refine wpAnyIn_ready (rs := [0, 4]) (by kernel_rfl) (by simp) ?_
      refine AllReadyIn.cons rfl (fun K hK => ?_) ?_
      · go_simp
        refine hK _ _ ?_; clear hK K
        refine wpAnyIn_ready (rs := [4]) (by kernel_rfl) (by simp) ?_
        refine AllReadyIn.cons rfl (fun K hK => ?_) AllReadyIn.nil
        refine append_step rfl (.tmp 28) (.tmp 29) 23 rfl rfl rfl hrun ?_
        refine hK _ _ ?_; clear hK K
        refine wpAnyIn_ready (rs := [5]) (by kernel_rfl) (by simp) ?_
        refine AllReadyIn.cons rfl (fun K hK => ?_) AllReadyIn.nil
        go_simp
        refine ⟨rfl, RoundIn.mono HR.out ?_⟩
        rintro e W' ⟨rfl, hR9⟩
        go_simp
        refine hK _ _ ?_; clear hK K
        refine wpAnyIn_ready (rs := [6]) (by kernel_rfl) (by simp) ?_
        refine AllReadyIn.cons rfl (fun K hK => ?_) AllReadyIn.nil
        go_simp
        refine hK _ _ ?_; clear hK K
        exact wpAnyIn_done (by kernel_rfl) (HQ.out _ _ _ _ _ _ _ hR9) _
      refine AllReadyIn.cons rfl (fun K hK => ?_) AllReadyIn.nil
      refine append_step rfl (.tmp 28) (.tmp 29) 23 rfl rfl rfl hrun ?_
      refine hK _ _ ?_; clear hK K
      refine wpAnyIn_ready (rs := [0]) (by kernel_rfl) (by simp) ?_
      refine AllReadyIn.cons rfl (fun K hK => ?_) AllReadyIn.nil
      go_simp
      refine hK _ _ ?_; clear hK K
      refine wpAnyIn_ready (rs := [5]) (by kernel_rfl) (by simp) ?_
      refine AllReadyIn.cons rfl (fun K hK => ?_) AllReadyIn.nil
      go_simp
      refine ⟨rfl, RoundIn.mono HR.out ?_⟩
      rintro e W' ⟨rfl, hR9⟩
      go_simp
      refine hK _ _ ?_; clear hK K
      refine wpAnyIn_ready (rs := [6]) (by kernel_rfl) (by simp) ?_
      refine AllReadyIn.cons rfl (fun K hK => ?_) AllReadyIn.nil
      go_simp
      refine hK _ _ ?_; clear hK K
      exact wpAnyIn_done (by kernel_rfl) (HQ.out _ _ _ _ _ _ _ hR9) _
    refine AllReadyIn.cons rfl (fun K hK => ?_) AllReadyIn.nil
    go_simp
    refine hK _ _ ?_; clear hK K
    refine wpAnyIn_ready (rs := [0, 2]) (by kernel_rfl) (by simp) ?_
    refine AllReadyIn.cons rfl (fun K hK => ?_) ?_
    · go_simp
      refine hK _ _ ?_; clear hK K
      refine wpAnyIn_ready (rs := [2]) (by kernel_rfl) (by simp) ?_
      refine AllReadyIn.cons rfl (fun K hK => ?_) AllReadyIn.nil
      go_simp
      refine hK _ _ ?_; clear hK K
      refine wpAnyIn_ready (rs := [4]) (by kernel_rfl) (by simp) ?_
      refine AllReadyIn.cons rfl (fun K hK => ?_) AllReadyIn.nil
      refine append_step rfl (.tmp 28) (.tmp 29) 23 rfl rfl rfl hrun ?_
      refine hK _ _ ?_; clear hK K
      refine wpAnyIn_ready (rs := [5]) (by kernel_rfl) (by simp) ?_
      refine AllReadyIn.cons rfl (fun K hK => ?_) AllReadyIn.nil
      go_simp
      refine ⟨rfl, RoundIn.mono HR.out ?_⟩
      rintro e W' ⟨rfl, hR9⟩
      go_simp
      refine hK _ _ ?_; clear hK K
      refine wpAnyIn_ready (rs := [6]) (by kernel_rfl) (by simp) ?_
      refine AllReadyIn.cons rfl (fun K hK => ?_) AllReadyIn.nil
      go_simp
      refine hK _ _ ?_; clear hK K
      exact wpAnyIn_done (by kernel_rfl) (HQ.out _ _ _ _ _ _ _ hR9) _
    refine AllReadyIn.cons rfl (fun K hK => ?_) AllReadyIn.nil
    go_simp
    refine hK _ _ ?_; clear hK K
    refine wpAnyIn_ready (rs := [0, 4]) (by kernel_rfl) (by simp) ?_
    refine AllReadyIn.cons rfl (fun K hK => ?_) ?_
    · go_simp
      refine hK _ _ ?_; clear hK K
      refine wpAnyIn_ready (rs := [4]) (by kernel_rfl) (by simp) ?_
      refine AllReadyIn.cons rfl (fun K hK => ?_) AllReadyIn.nil
      refine append_step rfl (.tmp 28) (.tmp 29) 23 rfl rfl rfl hrun ?_
      refine hK _ _ ?_; clear hK K
      refine wpAnyIn_ready (rs := [5]) (by kernel_rfl) (by simp) ?_
      refine AllReadyIn.cons rfl (fun K hK => ?_) AllReadyIn.nil
      go_simp
      refine ⟨rfl, RoundIn.mono HR.out ?_⟩
      rintro e W' ⟨rfl, hR9⟩
      go_simp
      refine hK _ _ ?_; clear hK K
      refine wpAnyIn_ready (rs := [6]) (by kernel_rfl) (by simp) ?_
      refine AllReadyIn.cons rfl (fun K hK => ?_) AllReadyIn.nil
      go_simp
      refine hK _ _ ?_; clear hK K
      exact wpAnyIn_done (by kernel_rfl) (HQ.out _ _ _ _ _ _ _ hR9) _
    refine AllReadyIn.cons rfl (fun K hK => ?_) AllReadyIn.nil
    refine append_step rfl (.tmp 28) (.tmp 29) 23 rfl rfl rfl hrun ?_
    refine hK _ _ ?_; clear hK K
    refine wpAnyIn_ready (rs := [0]) (by kernel_rfl) (by simp) ?_
    refine AllReadyIn.cons rfl (fun K hK => ?_) AllReadyIn.nil
    go_simp
    refine hK _ _ ?_; clear hK K
    refine wpAnyIn_ready (rs := [5]) (by kernel_rfl) (by simp) ?_
    refine AllReadyIn.cons rfl (fun K hK => ?_) AllReadyIn.nil
    go_simp
    refine ⟨rfl, RoundIn.mono HR.out ?_⟩
    rintro e W' ⟨rfl, hR9⟩
    go_simp
    refine hK _ _ ?_; clear hK K
    refine wpAnyIn_ready (rs := [6]) (by kernel_rfl) (by simp) ?_
    refine AllReadyIn.cons rfl (fun K hK => ?_) AllReadyIn.nil
    go_simp
    refine hK _ _ ?_; clear hK K
    exact wpAnyIn_done (by kernel_rfl) (HQ.out _ _ _ _ _ _ _ hR9) _
  refine AllReadyIn.cons rfl (fun K hK => ?_) AllReadyIn.nil
  go_simp
  refine hK _ _ ?_; clear hK K
  refine wpAnyIn_ready (rs := [0, 1]) (by kernel_rfl) (by simp) ?_
  refine AllReadyIn.cons rfl (fun K hK => ?_) ?_
  · go_simp
    refine hK _ _ ?_; clear hK K
    refine wpAnyIn_ready (rs := [1]) (by kernel_rfl) (by simp) ?_
    refine AllReadyIn.cons rfl (fun K hK => ?_) AllReadyIn.nil
    go_simp
    refine hK _ _ ?_; clear hK K
    refine wpAnyIn_ready (rs := [2]) (by kernel_rfl) (by simp) ?_
    refine AllReadyIn.cons rfl (fun K hK => ?_) AllReadyIn.nil
    go_simp
    refine hK _ _ ?_; clear hK K
    refine wpAnyIn_ready (rs := [4]) (by kernel_rfl) (by simp) ?_
    refine AllReadyIn.cons rfl (fun K hK => ?_) AllReadyIn.nil
    refine append_step rfl (.tmp 28) (.tmp 29) 23 rfl rfl rfl hrun ?_
    refine hK _ _ ?_; clear hK K
    refine wpAnyIn_ready (rs := [5]) (by kernel_rfl) (by simp) ?_
    refine AllReadyIn.cons rfl (fun K hK => ?_) AllReadyIn.nil
    go_simp
    refine ⟨rfl, RoundIn.mono HR.out ?_⟩
    rintro e W' ⟨rfl, hR9⟩
    go_simp
    refine hK _ _ ?_; clear hK K
    refine wpAnyIn_ready (rs := [6]) (by kernel_rfl) (by simp) ?_
    refine AllReadyIn.cons rfl (fun K hK => ?_) AllReadyIn.nil
    go_simp
    refine hK _ _ ?_; clear hK K
    exact wpAnyIn_done (by kernel_rfl) (HQ.out _ _ _ _ _ _ _ hR9) _
  refine AllReadyIn.cons rfl (fun K hK => ?_) AllReadyIn.nil
  go_simp
  refine hK _ _ ?_; clear hK K
  refine wpAnyIn_ready (rs := [0, 2]) (by kernel_rfl) (by simp) ?_
  refine AllReadyIn.cons rfl (fun K hK => ?_) ?_
  · go_simp
    refine hK _ _ ?_; clear hK K
    refine wpAnyIn_ready (rs := [2]) (by kernel_rfl) (by simp) ?_
    refine AllReadyIn.cons rfl (fun K hK => ?_) AllReadyIn.nil
    go_simp
    refine hK _ _ ?_; clear hK K
    refine wpAnyIn_ready (rs := [4]) (by kernel_rfl) (by simp) ?_
    refine AllReadyIn.cons rfl (fun K hK => ?_) AllReadyIn.nil
    refine append_step rfl (.tmp 28) (.tmp 29) 23 rfl rfl rfl hrun ?_
    refine hK _ _ ?_; clear hK K
    refine wpAnyIn_ready (rs := [5]) (by kernel_rfl) (by simp) ?_
    refine AllReadyIn.cons rfl (fun K hK => ?_) AllReadyIn.nil
    go_simp
    refine ⟨rfl, RoundIn.mono HR.out ?_⟩
    rintro e W' ⟨rfl, hR9⟩
    go_simp
    refine hK _ _ ?_; clear hK K
    refine wpAnyIn_ready (rs := [6]) (by kernel_rfl) (by simp) ?_
    refine AllReadyIn.cons rfl (fun K hK => ?_) AllReadyIn.nil
    go_simp
    refine hK _ _ ?_; clear hK K
    exact wpAnyIn_done (by kernel_rfl) (HQ.out _ _ _ _ _ _ _ hR9) _
  refine AllReadyIn.cons rfl (fun K hK => ?_) AllReadyIn.nil
  go_simp
  refine hK _ _ ?_; clear hK K
  refine wpAnyIn_ready (rs := [0, 4]) (by kernel_rfl) (by simp) ?_
  refine AllReadyIn.cons rfl (fun K hK => ?_) ?_
  · go_simp
    refine hK _ _ ?_; clear hK K
    refine wpAnyIn_ready (rs := [4]) (by kernel_rfl) (by simp) ?_
    refine AllReadyIn.cons rfl (fun K hK => ?_) AllReadyIn.nil
    refine append_step rfl (.tmp 28) (.tmp 29) 23 rfl rfl rfl hrun ?_
    refine hK _ _ ?_; clear hK K
    refine wpAnyIn_ready (rs := [5]) (by kernel_rfl) (by simp) ?_
    refine AllReadyIn.cons rfl (fun K hK => ?_) AllReadyIn.nil
    go_simp
    refine ⟨rfl, RoundIn.mono HR.out ?_⟩
    rintro e W' ⟨rfl, hR9⟩
    go_simp
    refine hK _ _ ?_; clear hK K
    refine wpAnyIn_ready (rs := [6]) (by kernel_rfl) (by simp) ?_
    refine AllReadyIn.cons rfl (fun K hK => ?_) AllReadyIn.nil
    go_simp
    refine hK _ _ ?_; clear hK K
    exact wpAnyIn_done (by kernel_rfl) (HQ.out _ _ _ _ _ _ _ hR9) _
  refine AllReadyIn.cons rfl (fun K hK => ?_) AllReadyIn.nil
  refine append_step rfl (.tmp 28) (.tmp 29) 23 rfl rfl rfl hrun ?_
  refine hK _ _ ?_; clear hK K
  refine wpAnyIn_ready (rs := [0]) (by kernel_rfl) (by simp) ?_
  refine AllReadyIn.cons rfl (fun K hK => ?_) AllReadyIn.nil
  go_simp
  refine hK _ _ ?_; clear hK K
  refine wpAnyIn_ready (rs := [5]) (by kernel_rfl) (by simp) ?_
  refine AllReadyIn.cons rfl (fun K hK => ?_) AllReadyIn.nil
  go_simp
  refine ⟨rfl, RoundIn.mono HR.out ?_⟩
  rintro e W' ⟨rfl, hR9⟩
  go_simp
  refine hK _ _ ?_; clear hK K
  refine wpAnyIn_ready (rs := [6]) (by kernel_rfl) (by simp) ?_
  refine AllReadyIn.cons rfl (fun K hK => ?_) AllReadyIn.nil
  go_simp
  refine hK _ _ ?_; clear hK K
  exact wpAnyIn_done (by kernel_rfl) (HQ.out _ _ _ _ _ _ _ hR9) _

end Go.Proofs.Ytcjjmhgboibbgaa.Q
