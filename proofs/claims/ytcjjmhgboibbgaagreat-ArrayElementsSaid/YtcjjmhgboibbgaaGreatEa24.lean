/-
 Texts of the proof, in build order: words that the walks use, contracts of functions, plain facts.
-/
import Derived.Test.YtcjjmhgboibbgaaGreatEa6
import Derived.Test.YtcjjmhgboibbgaaGreatEa22
import Derived.Test.YtcjjmhgboibbgaaGreatEa23
set_option maxHeartbeats 40000000
set_option maxRecDepth 100000
set_option linter.unusedVariables false
set_option linter.unusedSimpArgs false
section
namespace Go.Proofs.Q
open RowKit Pw Pl Pm
/-- the sum so far -/
def AddI (l m acc : List Int) (k : Nat) (cy : Int) : Prop := Dgs acc ∧ acc.length = k ∧ vl acc + 32768 ^ k * cy = vl (l.take k) + vl (m.take k)
theorem take_all {l : List Int} {k : Nat} (h : l.length ≤ k) : l.take (k + 1) = l.take k := by
 rw [List.take_of_length_le h, List.take_of_length_le (by omega)]
theorem addI_step {l m acc : List Int} {k : Nat} {cy t : Int} (h : AddI l m acc k cy) (h0 : 0 ≤ t) (ht : t = cy + (if h : k < l.length then l[k] else 0) + (if h : k < m.length then m[k] else 0)) : AddI l m (acc ++ [t % 32768]) (k + 1) (t / 32768) := by
 obtain ⟨h1, h2, h3⟩ := h
 refine ⟨h1.append (Dgs.cons (by omega) (by omega) Dgs.nil), by simp [h2], ?_⟩
 have e1 : vl (l.take (k + 1)) = vl (l.take k) + 32768 ^ k * (if h : k < l.length then l[k] else 0) := by
  by_cases h : k < l.length
  ·rw [dif_pos h, vl_take1 l k h]
  ·rw [dif_neg h, take_all (by omega)]; omega
 have e2 : vl (m.take (k + 1)) = vl (m.take k) + 32768 ^ k * (if h : k < m.length then m[k] else 0) := by
  by_cases h : k < m.length
  ·rw [dif_pos h, vl_take1 m k h]
  ·rw [dif_neg h, take_all (by omega)]; omega
 rw [e1, e2, vl_append, h2]
 generalize (if h : k < l.length then l[k] else 0) = x at *
 generalize (if h : k < m.length then m[k] else 0) = y at *
 have e3 : (32768 : Int) ^ k * vl [t % 32768] + 32768 ^ (k + 1) * (t / 32768) = 32768 ^ k * t := by
  rw [Int.pow_succ, Int.mul_assoc, ← Int.mul_add]
  congr 1
  simp [vl]; omega
 rw [ht, Int.mul_add, Int.mul_add] at e3
 rw [← ht] at e3
 omega
theorem tight_of {l : List Int} (h : Dgs l) (hv : l ≠ [] → 32768 ^ (l.length - 1) ≤ vl l) : Tight l := by
 by_cases hne : l = []
 ·subst hne; trivial
 ·have e := (List.dropLast_concat_getLast hne).symm
  rw [e]
  refine tight_snoc _ _ fun hz => ?_
  have h1 := hv hne
  have h2 : vl l = vl l.dropLast := by
   conv => lhs; rw [e, hz]
   rw [vl_append]; simp [vl]
  have h3 := vl_lt (l := l.dropLast) (fun x hx => h x (List.dropLast_subset _ hx))
  rw [List.length_dropLast] at h3
  omega
theorem dig_low {n : Int} {l : List Int} (h : Dig n l) (hne : 0 < l.length) : 32768 ^ (l.length - 1) ≤ n := by
 rcases Int.lt_or_le n (32768 ^ (l.length - 1)) with g | g
 ·have := dig_len h g; omega
 ·exact g
theorem add_w (a b : Int) (l m : List Int) (A B : Option Addr) (n c n2 c2 : Nat) (w : World) (hl : Kd.C (Kd.int .i64) w A n l) (hm : Kd.C (Kd.int .i64) w B n2 m) (da : Dig a l) (db : Dig b m) (hn : n ≤ 100) (hn2 : n2 ≤ 100) :
  Calls Tryz.prog 102 #[.slice A n c, .slice B n2 c2] w (Nw (a + b) w) := by
 have e1 := hl.1
 have e2 := hm.1
 subst e1 e2
 have HL := Lib.hid hl
 have HM := Lib.hid hm
 have HA := Lib.hid da
 have HBb := Lib.hid db
 clear hl hm da db
 go_enter Tryz.func102, Tryz.ntmps102
 go_wp2
 go_loopw [5, 6, 7] (fun u v i wr => ∃ (k : Nat) (cy : Int) (acc : List Int), i = .int .i64 k ∧ v = .int .i64 cy ∧ 0 ≤ cy ∧ cy ≤ 32767 ∧ (k ≤ l.length ∨ k ≤ m.length) ∧ Hid (AddI l m acc k cy) ∧ Hid (Kd.R (Kd.int .i64) 3 wr w.heap.size (fun _ => True) u acc) ∧ Hid (Below w.heap.size w wr)) (fun _ _ i _ => 200 - (intOf i).toNat)
 case atStart => exact ⟨0, 0, [], rfl, rfl, by omega, by omega, .inl (Nat.zero_le _), Lib.hid ⟨Dgs.nil, rfl, by simp [vl]⟩, Lib.hid (Kd.R_nil _ _ _ _ _), Lib.hid (Below.refl _ _)⟩
 case round =>
  obtain ⟨k, cy, acc, rfl, rfl, h0, h1, hk, HI, HO, HB⟩ := hrel
  have hal : acc.length ≤ 100 := by have := HI.out.2.1; omega
  by_cases hka : k < l.length
  ·by_cases hkb : k < m.length
   ·obtain ⟨ad, x1, g0⟩ := at_int HL.out k hka
    subst x1
    rw [show l.getD k 0 = l[k] by simp [List.getD, hka]] at g0
    replace g0 := (HB.out.cell (World.block_lt_of_cell? w _ g0)).trans g0
    obtain ⟨a0, a1⟩ := HA.out.1 _ (List.getElem_mem hka)
    obtain ⟨ad2, x2, g1⟩ := at_int HM.out k hkb
    subst x2
    rw [show m.getD k 0 = m[k] by simp [List.getD, hkb]] at g1
    replace g1 := (HB.out.cell (World.block_lt_of_cell? w _ g1)).trans g1
    obtain ⟨b0, b1⟩ := HBb.out.1 _ (List.getElem_mem hkb)
    have hstep := fun t h0 ht => addI_step (t := t) HI.out h0 ht
    rw [dif_pos hka, dif_pos hkb] at hstep
    have HSP := Lib.hid hstep
    clear hstep
    generalize l[k] = x at *
    generalize m[k] = y at *
    go_wp2_with (at_builtin; refine Kd.R_append (Kd.int .i64) (w0 := w) w.heap.size rfl (.tmp 40) (.tmp 43) 34 3 (.int .i64 0) 8 rfl Tryz.underlying34 info3 rfl (by decide) (by omega) u5 acc ((cy + x + y) % 32768) [.int .i64 ((cy + x + y) % 32768)] (fun _ => True) (fun _ => False) rfl (by first | (go_simp; done) | (go_simp; rfl)) ?aP (fun _ hk => hk.elim) ?aF ?aO ?aB ?aS ?aL ?_; (case aP => rfl); (case aF => exact fun _ _ => trivial); (case aO => exact HO.out); (case aB => exact HB.out); (case aS => exact HB.out.size); (case aL => omega); intro v1 w2 ho hb hg hat; (have HO2 := Lib.hid ho); (have HB2 := Lib.hid hb); clear ho hb hg hat)
    go_roundw
    case rel => exact ⟨k + 1, (cy + x + y) / 32768, acc ++ [(cy + x + y) % 32768], by go_num, rfl, by omega, by omega, by omega, Lib.hid (HSP.out _ (by omega) (by omega)), HO2, HB2⟩
    case measure => simp [intOf]; omega
   ·obtain ⟨ad, x1, g0⟩ := at_int HL.out k hka
    subst x1
    rw [show l.getD k 0 = l[k] by simp [List.getD, hka]] at g0
    replace g0 := (HB.out.cell (World.block_lt_of_cell? w _ g0)).trans g0
    obtain ⟨a0, a1⟩ := HA.out.1 _ (List.getElem_mem hka)
    have nb1 : ¬ (k : Int) < (m.length : Int) := by omega
    have nb2 : decide (k < m.length) = false := decide_eq_false hkb
    have hstep := fun t h0 ht => addI_step (t := t) HI.out h0 ht
    rw [dif_pos hka, dif_neg hkb] at hstep
    have HSP := Lib.hid hstep
    clear hstep
    generalize l[k] = x at *
    go_wp2_with (at_builtin; refine Kd.R_append (Kd.int .i64) (w0 := w) w.heap.size rfl (.tmp 40) (.tmp 43) 34 3 (.int .i64 0) 8 rfl Tryz.underlying34 info3 rfl (by decide) (by omega) u5 acc ((cy + x) % 32768) [.int .i64 ((cy + x) % 32768)] (fun _ => True) (fun _ => False) rfl (by first | (go_simp; done) | (go_simp; rfl)) ?aP (fun _ hk => hk.elim) ?aF ?aO ?aB ?aS ?aL ?_; (case aP => rfl); (case aF => exact fun _ _ => trivial); (case aO => exact HO.out); (case aB => exact HB.out); (case aS => exact HB.out.size); (case aL => omega); intro v1 w2 ho hb hg hat; (have HO2 := Lib.hid ho); (have HB2 := Lib.hid hb); clear ho hb hg hat)
    go_roundw
    case rel => exact ⟨k + 1, (cy + x) / 32768, acc ++ [(cy + x) % 32768], by go_num, rfl, by omega, by omega, by omega, Lib.hid (HSP.out _ (by omega) (by omega)), HO2, HB2⟩
    case measure => simp [intOf]; omega
  ·by_cases hkb : k < m.length
   ·have na1 : ¬ (k : Int) < (l.length : Int) := by omega
    have na2 : decide (k < l.length) = false := decide_eq_false hka
    obtain ⟨ad2, x2, g1⟩ := at_int HM.out k hkb
    subst x2
    rw [show m.getD k 0 = m[k] by simp [List.getD, hkb]] at g1
    replace g1 := (HB.out.cell (World.block_lt_of_cell? w _ g1)).trans g1
    obtain ⟨b0, b1⟩ := HBb.out.1 _ (List.getElem_mem hkb)
    have hstep := fun t h0 ht => addI_step (t := t) HI.out h0 ht
    rw [dif_neg hka, dif_pos hkb] at hstep
    have HSP := Lib.hid hstep
    clear hstep
    generalize m[k] = y at *
    go_wp2_with (at_builtin; refine Kd.R_append (Kd.int .i64) (w0 := w) w.heap.size rfl (.tmp 40) (.tmp 43) 34 3 (.int .i64 0) 8 rfl Tryz.underlying34 info3 rfl (by decide) (by omega) u5 acc ((cy + y) % 32768) [.int .i64 ((cy + y) % 32768)] (fun _ => True) (fun _ => False) rfl (by first | (go_simp; done) | (go_simp; rfl)) ?aP (fun _ hk => hk.elim) ?aF ?aO ?aB ?aS ?aL ?_; (case aP => rfl); (case aF => exact fun _ _ => trivial); (case aO => exact HO.out); (case aB => exact HB.out); (case aS => exact HB.out.size); (case aL => omega); intro v1 w2 ho hb hg hat; (have HO2 := Lib.hid ho); (have HB2 := Lib.hid hb); clear ho hb hg hat)
    go_roundw
    case rel => exact ⟨k + 1, (cy + y) / 32768, acc ++ [(cy + y) % 32768], by go_num, rfl, by omega, by omega, by omega, Lib.hid (HSP.out _ (by omega) (by omega)), HO2, HB2⟩
    case measure => simp [intOf]; omega
   ·have na1 : ¬ (k : Int) < (l.length : Int) := by omega
    have na2 : decide (k < l.length) = false := decide_eq_false hka
    have nb1 : ¬ (k : Int) < (m.length : Int) := by omega
    have nb2 : decide (k < m.length) = false := decide_eq_false hkb
    have hv : vl acc + 32768 ^ k * cy = a + b := by rw [HI.out.2.2, List.take_of_length_le (by omega), List.take_of_length_le (by omega), HA.out.2.2, HBb.out.2.2]
    have hlen := HI.out.2.1
    have ha0 : 0 ≤ a := by rw [← HA.out.2.2]; exact vl_nn HA.out.1
    have hb0 : 0 ≤ b := by rw [← HBb.out.2.2]; exact vl_nn HBb.out.1
    have HV := Lib.hid hv
    have HLN := Lib.hid hlen
    clear hv hlen
    by_cases hc : 0 < cy
    ·go_wp2_with (at_builtin; refine Kd.R_append (Kd.int .i64) (w0 := w) w.heap.size rfl (.tmp 49) (.tmp 51) 34 3 (.int .i64 0) 8 rfl Tryz.underlying34 info3 rfl (by decide) (by omega) u5 acc cy [.int .i64 cy] (fun _ => True) (fun _ => False) rfl (by first | (go_simp; done) | (go_simp; rfl)) ?aP (fun _ hk => hk.elim) ?aF ?aO ?aB ?aS ?aL ?_; (case aP => rfl); (case aF => exact fun _ _ => trivial); (case aO => exact HO.out); (case aB => exact HB.out); (case aS => exact HB.out.size); (case aL => omega); intro v1 w2 ho hb hg hat; (have HO2 := Lib.hid ho); (have HB2 := Lib.hid hb); clear ho hb hg hat)
     go_ret
     obtain ⟨A', c', rfl⟩ := Kd.R_slice HO2.out
     have hr := Kd.R_reads' HO2.out
     refine ⟨acc ++ [cy], A', _, c', rfl, hr.2.1, hr.2.2, ⟨HI.out.1.append (Dgs.cons (by omega) (by omega) Dgs.nil), tight_snoc _ _ (by omega), ?_⟩, HB2.out⟩
     rw [vl_append, HLN.out, ← HV.out]; simp [vl]
    ·obtain rfl : cy = 0 := by omega
     go_wp2
     go_ret
     obtain ⟨A', c', rfl⟩ := Kd.R_slice HO.out
     have hr := Kd.R_reads' HO.out
     have hv2 : vl acc = a + b := by have := HV.out; simpa using this
     refine ⟨acc, A', _, c', rfl, hr.2.1, hr.2.2, ⟨HI.out.1, tight_of HI.out.1 fun hne => ?_, hv2⟩, HB.out⟩
     have hkp : 0 < acc.length := by cases acc with | nil => exact absurd rfl hne | cons d r => simp
     have hln := HLN.out
     rcases hk with h | h
     ·have := dig_low HA.out (by omega)
      rw [show l.length - 1 = acc.length - 1 by omega] at this
      omega
     ·have := dig_low HBb.out (by omega)
      rw [show m.length - 1 = acc.length - 1 by omega] at this
      omega
end Go.Proofs.Q
end
section
namespace Go.Proofs.Q
open RowKit Shelf Pw Pl Pm
theorem fld138 (M X : Int) (c : Bool) (W : World) : (Instr.field 138 (.agg #[.int .i64 M, .int .i64 X, .bool c]) 0).run Tryz.prog W = .ok (.agg #[.int .i64 M, .int .i64 X]) W := by
 kernel_rfl
theorem hf_max {V : Int} (h : V ≤ 2147483648) : V * 2 ^ 151 < hf 2533359615 := by
 have e : hf 2533359615 = 33554431 * 2 ^ 300 := by
  unfold hf
  rw [show atM 2533359615 = 16777215 by decide, show hfX 2533359615 = 300 by decide]; rfl
 have e1 : (2 : Int) ^ 300 = 2 ^ 149 * 2 ^ 151 := by rw [← Int.pow_add]
 have e2 := pow2_up (show 32 ≤ 149 by decide)
 have e3 : (0 : Int) < 2 ^ 151 := Int.pow_pos (by decide)
 have e4 : V * 2 ^ 151 ≤ 2147483648 * 2 ^ 151 := Int.mul_le_mul_of_nonneg_right h (by omega)
 have e5 : (2 : Int) ^ 32 * 2 ^ 151 ≤ 2 ^ 149 * 2 ^ 151 := Int.mul_le_mul_of_nonneg_right e2 (by omega)
 rw [show (2 : Int) ^ 32 = 4294967296 by decide] at e5
 rw [e, e1]
 omega
def FrP (n : Int) (w : World) (e : Ending) (w' : World) : Prop := ∃ lo lo', RdI ((if n < 0 then -n else n) * 2 ^ 151) lo lo' ∧ e = .returned (.agg #[.int .i64 (if n < 0 then -(atM lo') else atM lo'), .int .i64 (atE lo')]) ∧ Below w.heap.size w w'
theorem dig_small {n : Int} {l : List Int} (h : Dig n l) (hn : n ≤ 2147483648) : l.length ≤ 5 :=
 Nat.le_trans (dig_len h (k := 3) (by rw [show (32768 : Int) ^ 3 = 35184372088832 by decide]; omega)) (by decide)
theorem fromInt_w (n : Int) (h0 : -2147483647 ≤ n) (h1 : n ≤ 2147483647) (w : World) : Calls Tryz.prog 90 #[.int .i64 n] w (FrP n w) := by
 have hZ : (w.alloc (.cells #[.int .i64 0, .int .i64 0] 36)).heap[w.heap.size]? = some (.cells #[.int .i64 0, .int .i64 0] 36) := heap_alloc_new _ _
 have hB := bA (Below.refl w.heap.size w) (.cells #[.int .i64 0, .int .i64 0] 36)
 have hf0 := fld138
 have M1 := Lib.hid trivial
 by_cases hn : n < 0
 ·go_enter Tryz.func90, Tryz.ntmps90
  go_wp2_with (first
   | (go_at_call 100; (have M := M1); clear M M1; refine (small_w _ (by omega) (by omega) _).mono ?_; rintro e w1 ⟨l1, A1, k1, c1, rfl, hk1, hC1, hD1, hb⟩; (replace hZ := kB hZ hb); (replace hB := bS hB hb); (have HC1 := Lib.hid hC1); (have HD1 := Lib.hid hD1); (have M2 := Lib.hid trivial); clear hC1 hD1 hb)
   | (go_at_call 100; (have M := M2); clear M M2; refine (small_w 1 (by decide) (by decide) _).mono ?_; rintro e w2 ⟨l2, A2, k2, c2, rfl, hk2, hC2, hD2, hb⟩; (replace hZ := kB hZ hb); (replace hB := bS hB hb); (replace HC1 := Lib.hid (Kd.C_below HC1.out hb)); (have HC2 := Lib.hid hC2); (have HD2 := Lib.hid hD2); (have M3 := Lib.hid trivial); clear hC2 hD2 hb)
   | (go_at_call 102; refine (add_w _ 1 l1 l2 _ _ _ _ _ _ _ HC1.out HC2.out HD1.out HD2.out (by rw [← HC1.out.1]; exact Nat.le_trans (dig_small HD1.out (by omega)) (by decide)) (by rw [← HC2.out.1]; exact Nat.le_trans (dig_small HD2.out (by omega)) (by decide))).mono ?_; rintro e w3 ⟨l3, A3, k3, c3, rfl, hk3, hC3, hD3, hb⟩; (replace hZ := kB hZ hb); (replace hB := bS hB hb); (have HC3 := Lib.hid hC3); (have HD3 : Hid (Dig (-n) l3) := Lib.hid ⟨hD3.1, hD3.2.1, by rw [hD3.2.2]; omega⟩); clear hC3 hD3 hb HC1 HC2 HD1 HD2)
   | (go_at_call 100; (have M := M3); clear M M3; refine (small_w 1 (by decide) (by decide) _).mono ?_; rintro e w4 ⟨l4, A4, k4, c4, rfl, hk4, hC4, hD4, hb⟩; (replace hZ := kB hZ hb); (replace hB := bS hB hb); (replace HC3 := Lib.hid (Kd.C_below HC3.out hb)); (have HC4 := Lib.hid hC4); (have HD4 := Lib.hid hD4); clear hC4 hD4 hb)
   | (go_at_call 101; refine (round_w true (-n) l3 l4 _ _ _ _ _ _ _ HC3.out HC4.out HD3.out HD4.out (by rw [← HC3.out.1]; exact dig_small HD3.out (by omega)) (hf_max (by omega)) (by omega) (fun h => by omega)).mono ?_; rintro e w5 ⟨lo, lo', hR, rfl, hb⟩; (replace hZ := kB hZ hb); (replace hB := bS hB hb); (have HR := Lib.hid hR); (obtain ⟨z0, z1, zl, zf0, zf1⟩ := c2_of hZ); clear hR hb))
  refine bodyPost_ret (v := .agg #[.int .i64 (-(atM lo')), .int .i64 (atE lo')]) (by clear hZ hf0; simp [results, Tryz.results90, go_sem, z0, z1, zl]) rfl ⟨lo, lo', by rw [if_pos hn]; exact HR.out, by rw [if_pos hn], bT (bT hB (Nat.le_refl _)) (Nat.le_refl _)⟩
 ·have hn0 : 0 ≤ n := by omega
  go_enter Tryz.func90, Tryz.ntmps90
  go_wp2_with (first
   | (go_at_call 100; (have M := M1); clear M M1; refine (small_w n hn0 (by omega) _).mono ?_; rintro e w1 ⟨l1, A1, k1, c1, rfl, hk1, hC1, hD1, hb⟩; (replace hZ := kB hZ hb); (replace hB := bS hB hb); (have HC1 := Lib.hid hC1); (have HD1 := Lib.hid hD1); (have M2 := Lib.hid trivial); clear hC1 hD1 hb)
   | (go_at_call 100; (have M := M2); clear M M2; refine (small_w 1 (by decide) (by decide) _).mono ?_; rintro e w2 ⟨l2, A2, k2, c2, rfl, hk2, hC2, hD2, hb⟩; (replace hZ := kB hZ hb); (replace hB := bS hB hb); (replace HC1 := Lib.hid (Kd.C_below HC1.out hb)); (have HC2 := Lib.hid hC2); (have HD2 := Lib.hid hD2); clear hC2 hD2 hb)
   | (go_at_call 101; refine (round_w false n l1 l2 _ _ _ _ _ _ _ HC1.out HC2.out HD1.out HD2.out (by rw [← HC1.out.1]; exact dig_small HD1.out (by omega)) (hf_max (by omega)) (by omega) (fun h => by cases h)).mono ?_; rintro e w3 ⟨lo, lo', hR, rfl, hb⟩; (replace hZ := kB hZ hb); (replace hB := bS hB hb); (have HR := Lib.hid hR); (obtain ⟨z0, z1, zl, zf0, zf1⟩ := c2_of hZ); clear hR hb))
  refine bodyPost_ret (v := .agg #[.int .i64 (atM lo'), .int .i64 (atE lo')]) (by clear hZ hf0; simp [results, Tryz.results90, go_sem, z0, z1, zl]) rfl ⟨lo, lo', by rw [if_neg (by omega)]; exact HR.out, by rw [if_neg (by omega)], bT (bT hB (Nat.le_refl _)) (Nat.le_refl _)⟩
end Go.Proofs.Q
end
section
namespace Go.Proofs.Q
open RowKit Shelf Pw Pl Pm
def flN (m e : Int) : Int := if 0 ≤ e then m * 2 ^ e.toNat else m / 2 ^ (-e).toNat
def flr (m e : Int) : Int × Bool := if m = 0 then (0, true) else if 8 < e then (0, false) else if flN m e < -2147483647 ∨ 2147483647 < flN m e then (0, false) else (flN m e, true)
def FlP (m e : Int) (w : World) (en : Ending) (w' : World) : Prop := en = .returned (.agg #[.int .i64 (flr m e).1, .bool (flr m e).2]) ∧ Below w.heap.size w w'
theorem half_floor (m : Int) (j : Nat) : m / 2 ^ j / 2 = m / 2 ^ (j + 1) := by
 rw [Int.pow_succ, Int.ediv_ediv_of_nonneg (Int.le_of_lt (Int.pow_pos (by decide)))]
theorem tdiv_two (q : Int) : Int.tdiv (2 * q) 2 = q := Int.mul_tdiv_cancel_left q (by decide)
theorem tmod_odd {n : Int} (h : n % 2 = 1) : (n.tmod 2 != 0) = true := by
 have : n.tmod 2 ≠ 0 := fun h0 => by have := Int.dvd_of_tmod_eq_zero h0; omega
 simpa using this
theorem tmod_even {n : Int} (h : n % 2 = 0) : (n.tmod 2 != 0) = false := by
 have : n.tmod 2 = 0 := Int.tmod_eq_zero_of_dvd (by omega)
 simp [this]
theorem pow_le8 {j : Nat} (h : j ≤ 8) : (2 : Int) ^ j ≤ 256 ∧ 1 ≤ (2 : Int) ^ j := by
 have : ∀ j : Fin 9, (2 : Int) ^ j.val ≤ 256 ∧ 1 ≤ (2 : Int) ^ j.val := by decide
 exact this ⟨j, by omega⟩
theorem div_bd (m : Int) (j : Nat) (h0 : -1099511627776 ≤ m) (h1 : m ≤ 1099511627776) : -1099511627776 ≤ m / 2 ^ j ∧ m / 2 ^ j ≤ 1099511627776 := by
 have hp : (0 : Int) < 2 ^ j := Int.pow_pos (by decide)
 have hp1 : (1 : Int) ≤ 2 ^ j := hp
 constructor
 ·rw [Int.le_ediv_iff_mul_le hp]
  have := Int.mul_le_mul_of_nonneg_left hp1 (show (0 : Int) ≤ 1099511627776 by decide)
  rw [Int.neg_mul]
  omega
 ·have : m / 2 ^ j < 1099511627777 := by
   rw [Int.ediv_lt_iff_lt_mul hp]
   have := Int.mul_le_mul_of_nonneg_left hp1 (show (0 : Int) ≤ 1099511627777 by decide)
   omega
  omega
theorem mul_bd8 (m : Int) (j : Nat) (h : j ≤ 8) (h0 : -1099511627776 ≤ m) (h1 : m ≤ 1099511627776) : -281474976710656 ≤ m * 2 ^ j ∧ m * 2 ^ j ≤ 281474976710656 := by
 obtain ⟨p1, p2⟩ := pow_le8 h
 have : ∀ j : Nat, j ≤ 8 → -281474976710656 ≤ m * 2 ^ j ∧ m * 2 ^ j ≤ 281474976710656 := by
  intro j hj
  match j, hj with
  | 0, _ => simp; omega
  | 1, _ => simp; omega
  | 2, _ => simp; omega
  | 3, _ => simp; omega
  | 4, _ => simp; omega
  | 5, _ => simp; omega
  | 6, _ => simp; omega
  | 7, _ => simp; omega
  | 8, _ => simp; omega
 exact this j h
theorem floor_w (m e : Int) (h0 : -1099511627776 ≤ m) (h1 : m ≤ 1099511627776) (e0 : -60 ≤ e) (e1 : e ≤ 1000) (w : World) : Calls Tryz.prog 93 #[.int .i64 m, .int .i64 e] w (FlP m e w) := by
 have hZ : (w.alloc (.cells #[.int .i64 0, .bool false] 125)).heap[w.heap.size]? = some (.cells #[.int .i64 0, .bool false] 125) := heap_alloc_new _ _
 by_cases hm : m = 0
 ·subst hm
  go_enter Tryz.func93, Tryz.ntmps93
  go_wp2
  refine bodyPost_ret (v := .agg #[.int .i64 0, .bool true]) (by simp [results, Tryz.results93, go_sem]) rfl ⟨by simp [flr], bA (Below.refl _ _) _⟩
 have bm : (m == 0) = false := beq_eq_false_iff_ne.mpr hm
 by_cases he : 8 < e
 ·have hf : flr m e = (0, false) := by unfold flr; rw [if_neg hm, if_pos he]
  clear hm
  go_enter Tryz.func93, Tryz.ntmps93
  go_wp2
  refine bodyPost_ret (v := .agg #[.int .i64 0, .bool false]) (by simp [results, Tryz.results93, go_sem]) rfl ⟨by rw [hf], bA (Below.refl _ _) _⟩
 have hfl : flr m e = if flN m e < -2147483647 ∨ 2147483647 < flN m e then (0, false) else (flN m e, true) := by unfold flr; rw [if_neg hm, if_neg he]
 have HFL := Lib.hid hfl
 clear hfl hm
 by_cases hp : 0 ≤ e
 ·obtain ⟨d, rfl⟩ : ∃ d : Nat, e = d := ⟨e.toNat, by omega⟩
  have hN : flN m d = m * 2 ^ d := by unfold flN; rw [if_pos hp]; rfl
  have HN := Lib.hid hN
  clear hN
  go_enter Tryz.func93, Tryz.ntmps93
  go_wp2
  go_loop [0, 5] (fun v i => ∃ j : Nat, j ≤ d ∧ i = .int .i64 j ∧ v = .int .i64 (m * 2 ^ j)) (fun _ i => d - (intOf i).toNat)
  case atStart => exact ⟨0, Nat.zero_le _, rfl, by simp⟩
  case round =>
   obtain ⟨j, hj, rfl, rfl⟩ := hrel
   obtain ⟨c0, c1⟩ := mul_bd8 m j (by omega) h0 h1
   by_cases hlt : j < d
   ·have hs : m * 2 ^ j * 2 = m * 2 ^ (j + 1) := by rw [Int.pow_succ, Int.mul_assoc]
    have HS := Lib.hid hs
    clear hs
    generalize m * 2 ^ j = x at *
    go_wp2
    go_round
    case rel => exact ⟨j + 1, by omega, by go_num, by rw [← HS.out]⟩
    case measure => simp [intOf]; omega
   ·obtain rfl : d = j := by omega
    generalize m * 2 ^ d = x at *
    have hjj : ¬ ((d : Int) < (d : Int)) := by omega
    have hd0 : ¬ ((d : Int) < 0) := by omega
    go_wp2
    go_loop [0, 6] (fun v i => i = .int .i64 0 ∧ v = .int .i64 x) (fun _ _ => 0)
    case atStart => exact ⟨rfl, rfl⟩
    case round =>
     obtain ⟨rfl, rfl⟩ := hrel
     by_cases hlo : x < -2147483647
     ·have hf2 : flr m (d : Int) = (0, false) := by rw [HFL.out, HN.out, if_pos (.inl hlo)]
      have HF2 := Lib.hid hf2
      clear hf2
      go_wp2
      refine bodyPost_ret (v := .agg #[.int .i64 0, .bool false]) (by simp [results, Tryz.results93, go_sem]) rfl ⟨by rw [HF2.out], by first | exact bA (Below.refl _ _) _ | exact bT (bT (bA (Below.refl _ _) _) (Nat.le_refl _)) (Nat.le_refl _)⟩
     ·by_cases hhi : 2147483647 < x
      ·have hf2 : flr m (d : Int) = (0, false) := by rw [HFL.out, HN.out, if_pos (.inr hhi)]
       have HF2 := Lib.hid hf2
       clear hf2
       go_wp2
       refine bodyPost_ret (v := .agg #[.int .i64 0, .bool false]) (by simp [results, Tryz.results93, go_sem]) rfl ⟨by rw [HF2.out], by first | exact bA (Below.refl _ _) _ | exact bT (bT (bA (Below.refl _ _) _) (Nat.le_refl _)) (Nat.le_refl _)⟩
      ·have hf2 : flr m (d : Int) = (x, true) := by rw [HFL.out, HN.out, if_neg (by omega)]
       have HF2 := Lib.hid hf2
       clear hf2
       go_wp2
       refine bodyPost_ret (v := .agg #[.int .i64 (x), .bool true]) (by simp [results, Tryz.results93, go_sem]) rfl ⟨by rw [HF2.out], by first | exact bA (Below.refl _ _) _ | exact bT (bT (bA (Below.refl _ _) _) (Nat.le_refl _)) (Nat.le_refl _)⟩
 ·obtain ⟨d, rfl⟩ : ∃ d : Nat, e = -(d : Int) := ⟨(-e).toNat, by omega⟩
  have hN : flN m (-(d : Int)) = m / 2 ^ d := by unfold flN; rw [if_neg hp]; congr 2; omega
  have HN := Lib.hid hN
  clear hN
  obtain ⟨E, hE⟩ : ∃ E, E = -(d : Int) := ⟨_, rfl⟩
  rw [← hE] at HN HFL e0 hp he ⊢
  have hd60 : d ≤ 60 := by omega
  have HE := Lib.hid hE
  clear hE
  have hE0 : ¬ (0 : Int) < E := by omega
  go_enter Tryz.func93, Tryz.ntmps93
  go_wp2
  go_loop [0, 5] (fun v i => i = .int .i64 0 ∧ v = .int .i64 m) (fun _ _ => 0)
  case atStart => exact ⟨rfl, rfl⟩
  case round =>
   obtain ⟨rfl, rfl⟩ := hrel
   go_wp2
   go_loop [0, 6] (fun v i => ∃ (z : Int) (j : Nat), i = .int .i64 z ∧ z ≤ 0 ∧ E ≤ z ∧ Hid (z = -(j : Int)) ∧ v = .int .i64 (m / 2 ^ j)) (fun _ i => (intOf i - E).toNat)
   case atStart => exact ⟨0, 0, rfl, by omega, by omega, Lib.hid (by simp), by simp⟩
   case round =>
    obtain ⟨z, j, rfl, hz0, hz1, HZ, rfl⟩ := hrel
    obtain ⟨c0, c1⟩ := div_bd m j h0 h1
    by_cases hlt : E < z
    ·have hs := half_floor m j
     have HS := Lib.hid hs
     clear hs
     generalize m / 2 ^ j = x at *
     obtain ⟨q, hq⟩ : ∃ q, q = x / 2 := ⟨_, rfl⟩
     have HQ : Hid (q = m / 2 ^ (j + 1)) := Lib.hid (by rw [hq]; exact HS.out)
     have HZ1 : Hid (z - 1 = -((j + 1 : Nat) : Int)) := Lib.hid (by have := HZ.out; omega)
     by_cases hx : 0 ≤ x
     ·rcases Int.emod_two_eq x with h2 | h2
      ·have b1 : (x % 2 != 0) = false := by simp [h2]
       have b2 := tmod_even h2
       have HX : Hid (x / 2 = q) := Lib.hid hq.symm
       clear h2 hq
       have hxn : ¬ x < 0 := by omega
       go_wp2
       go_round
       case rel => exact ⟨z - 1, j + 1, by first | rfl | go_num, by omega, by omega, HZ1, by rw [← HQ.out, ← HX.out]⟩
       case measure => simp [intOf]; omega
      ·have b1 : (x % 2 != 0) = true := by simp [h2]
       have b2 := tmod_odd h2
       have HX : Hid (x / 2 = q) := Lib.hid hq.symm
       clear h2 hq
       have hxn : ¬ x < 0 := by omega
       go_wp2
       go_round
       case rel => exact ⟨z - 1, j + 1, by first | rfl | go_num, by omega, by omega, HZ1, by rw [← HQ.out, ← HX.out]⟩
       case measure => simp [intOf]; omega
     ·have hxn : x < 0 := by omega
      have hq0 : -1099511627777 ≤ q := by omega
      have hq1 : q ≤ 0 := by omega
      rcases Int.emod_two_eq x with h2 | h2
      ·have b2 := tmod_even h2
       have hq2 : Int.tdiv x 2 = q := by rw [show x = 2 * q by omega]; exact tdiv_two q
       clear h2 hq
       go_wp2
       go_round
       case rel => exact ⟨z - 1, j + 1, by first | rfl | go_num, by omega, by omega, HZ1, by rw [← HQ.out]⟩
       case measure => simp [intOf]; omega
      ·have b2 := tmod_odd h2
       have hq2 : Int.tdiv (x - 1) 2 = q := by rw [show x - 1 = 2 * q by omega]; exact tdiv_two q
       clear h2 hq
       go_wp2
       go_round
       case rel => exact ⟨z - 1, j + 1, by first | rfl | go_num, by omega, by omega, HZ1, by rw [← HQ.out]⟩
       case measure => simp [intOf]; omega
    ·have hj : j = d := by have := HZ.out; have := HE.out; omega
     subst hj
     obtain rfl : E = z := by omega
     have hzz : ¬ E < E := by omega
     generalize m / 2 ^ j = x at *
     by_cases hlo : x < -2147483647
     ·have hf2 : flr m E = (0, false) := by rw [HFL.out, HN.out, if_pos (.inl hlo)]
      have HF2 := Lib.hid hf2
      clear hf2
      go_wp2
      refine bodyPost_ret (v := .agg #[.int .i64 0, .bool false]) (by simp [results, Tryz.results93, go_sem]) rfl ⟨by rw [HF2.out], by first | exact bA (Below.refl _ _) _ | exact bT (bT (bA (Below.refl _ _) _) (Nat.le_refl _)) (Nat.le_refl _)⟩
     ·by_cases hhi : 2147483647 < x
      ·have hf2 : flr m E = (0, false) := by rw [HFL.out, HN.out, if_pos (.inr hhi)]
       have HF2 := Lib.hid hf2
       clear hf2
       go_wp2
       refine bodyPost_ret (v := .agg #[.int .i64 0, .bool false]) (by simp [results, Tryz.results93, go_sem]) rfl ⟨by rw [HF2.out], by first | exact bA (Below.refl _ _) _ | exact bT (bT (bA (Below.refl _ _) _) (Nat.le_refl _)) (Nat.le_refl _)⟩
      ·have hf2 : flr m E = (x, true) := by rw [HFL.out, HN.out, if_neg (by omega)]
       have HF2 := Lib.hid hf2
       clear hf2
       go_wp2
       refine bodyPost_ret (v := .agg #[.int .i64 (x), .bool true]) (by simp [results, Tryz.results93, go_sem]) rfl ⟨by rw [HF2.out], by first | exact bA (Below.refl _ _) _ | exact bT (bT (bA (Below.refl _ _) _) (Nat.le_refl _)) (Nat.le_refl _)⟩
end Go.Proofs.Q
end
section
namespace Go.Proofs.Q
open RowKit Shelf Pw Pl Pm
theorem nB (W : World) (a b : Obj) : ((W.alloc a).alloc b).heap[W.heap.size + 1]? = some b := by
 have := heap_alloc_new (W.alloc a) b
 rwa [World.size_alloc] at this
/-- an answer, or an error -/
def mad (p : Int × Bool) : Int × Int := if p.2 = true then (p.1, 0) else (0, 3)
def MdP (p : Int × Int) (w : World) (en : Ending) (w' : World) : Prop := en = .returned (.agg #[.int .i64 p.1, .int .i64 p.2]) ∧ Below w.heap.size w w'
theorem made_w (n : Int) (b : Bool) (w : World) : Calls Tryz.prog 92 #[.agg #[.int .i64 n, .bool b]] w (MdP (mad (n, b)) w) := by
 cases b with
 | false =>
  go_enter Tryz.func92, Tryz.ntmps92
  go_wp2
  refine bodyPost_ret (v := .agg #[.int .i64 0, .int .i64 3]) (by simp [results, Tryz.results92, go_sem]) rfl ⟨by simp [mad], ?_⟩
  repeat (first | exact Below.refl _ _ | refine bA ?_ _)
 | true =>
  go_enter Tryz.func92, Tryz.ntmps92
  go_wp2
  refine bodyPost_ret (v := .agg #[.int .i64 n, .int .i64 0]) (by simp [results, Tryz.results92, go_sem]) rfl ⟨by simp [mad], ?_⟩
  repeat (first | exact Below.refl _ _ | refine bA ?_ _)
theorem entier_w (m e : Int) (h0 : -1099511627776 ≤ m) (h1 : m ≤ 1099511627776) (e0 : -60 ≤ e) (e1 : e ≤ 1000) (w : World) : Calls Tryz.prog 91 #[.agg #[.int .i64 m, .int .i64 e]] w (MdP (mad (flr m e)) w) := by
 have hZ : ((w.alloc (.cells #[.int .i64 m, .int .i64 e] 36)).alloc (.cells #[.int .i64 0, .int .i64 0] 107)).heap[w.heap.size + 1]? = some (.cells #[.int .i64 0, .int .i64 0] 107) := nB w _ _
 have hB : Below w.heap.size w ((w.alloc (.cells #[.int .i64 m, .int .i64 e] 36)).alloc (.cells #[.int .i64 0, .int .i64 0] 107)) := bA (bA (Below.refl _ _) _) _
 have HF := Lib.hid (floor_w m e h0 h1 e0 e1)
 obtain ⟨p, hp⟩ : ∃ p, p = flr m e := ⟨_, rfl⟩
 unfold FlP at HF
 rw [← hp] at HF ⊢
 clear hp
 obtain ⟨n, b⟩ := p
 go_enter Tryz.func91, Tryz.ntmps91
 go_wp2_with (first
  | (go_at_call 93; refine (HF.out _).mono ?_; rintro e w1 ⟨rfl, hb⟩; dsimp only; (replace hZ := kB hZ hb); (replace hB := bS hB hb); clear hb)
  | (go_at_call 92; refine (made_w n b _).mono ?_; rintro e w2 ⟨rfl, hb⟩; (replace hZ := kB hZ hb); (replace hB := bS hB hb); (obtain ⟨z0, z1, zl, zf0, zf1⟩ := c2_of hZ); clear hb))
 have hz : w.heap.size ≤ w.heap.size + 1 := Nat.le_succ _
 refine bodyPost_ret (v := .agg #[.int .i64 (mad (n, b)).1, .int .i64 (mad (n, b)).2]) (by clear hZ; simp [results, Tryz.results91, go_sem, z0, z1, zl]) rfl ⟨rfl, bT (bT hB hz) hz⟩
/-- what Rounds returns -/
def rnR (c d : Int) : Int × Int := if 0 ≤ d then mad (flr c d) else if d < -40 then (0, 0) else mad (flr (c + 2 ^ (-d - 1).toNat) d)
theorem pow_le40 {j : Nat} (h : j ≤ 39) : (2 : Int) ^ j ≤ 549755813888 ∧ 1 ≤ (2 : Int) ^ j := by
 have h1 := pow2_up (a := j) (b := 39) h
 rw [show (2 : Int) ^ 39 = 549755813888 by decide] at h1
 exact ⟨h1, Int.pow_pos (by decide)⟩
theorem rounds_w (c d : Int) (h0 : -16777216 ≤ c) (h1 : c ≤ 16777216) (d0 : -1000 ≤ d) (d1 : d ≤ 1000) (w : World) : Calls Tryz.prog 71 #[.agg #[.int .i64 c, .int .i64 d]] w (MdP (rnR c d) w) := by
 have hA : ((w.alloc (.cells #[.int .i64 c, .int .i64 d] 36)).alloc (.cells #[.int .i64 0, .int .i64 0] 107)).heap[w.heap.size]? = some (.cells #[.int .i64 c, .int .i64 d] 36) := kA (heap_alloc_new w _) _
 have hZ : ((w.alloc (.cells #[.int .i64 c, .int .i64 d] 36)).alloc (.cells #[.int .i64 0, .int .i64 0] 107)).heap[w.heap.size + 1]? = some (.cells #[.int .i64 0, .int .i64 0] 107) := nB w _ _
 have hB : Below w.heap.size w ((w.alloc (.cells #[.int .i64 c, .int .i64 d] 36)).alloc (.cells #[.int .i64 0, .int .i64 0] 107)) := bA (bA (Below.refl _ _) _) _
 have hz : w.heap.size ≤ w.heap.size + 1 := Nat.le_succ _
 by_cases hd : 0 ≤ d
 ·have hr : rnR c d = mad (flr c d) := by unfold rnR; rw [if_pos hd]
  have HE := Lib.hid (entier_w c d (by omega) (by omega) (by omega) d1)
  rw [hr]
  have hn : ¬ d < -40 := by omega
  obtain ⟨p, hp⟩ : ∃ p, p = mad (flr c d) := ⟨_, rfl⟩
  unfold MdP at HE
  rw [← hp] at HE ⊢
  clear hp hr
  obtain ⟨n, x⟩ := p
  go_enter Tryz.func71, Tryz.ntmps71
  go_wp2_with (first
   | (go_at_call 91; refine (HE.out _).mono ?_; rintro e w1 ⟨rfl, hb⟩; dsimp only; (replace hZ := kB hZ hb); (replace hB := bS hB hb); (obtain ⟨z0, z1, zl, zf0, zf1⟩ := c2_of hZ); clear hb))
  refine bodyPost_ret (v := .agg #[.int .i64 n, .int .i64 x]) (by clear hZ; simp [results, Tryz.results71, go_sem, z0, z1, zl]) rfl ⟨rfl, bT (bT hB hz) hz⟩
 ·by_cases hn : d < -40
  ·have hr : rnR c d = (0, 0) := by unfold rnR; rw [if_neg hd, if_pos hn]
   rw [hr]
   clear hr
   go_enter Tryz.func71, Tryz.ntmps71
   go_wp2
   refine bodyPost_ret (v := .agg #[.int .i64 0, .int .i64 0]) (by simp [results, Tryz.results71, go_sem]) rfl ⟨rfl, ?_⟩
   repeat (first | exact Below.refl _ _ | refine bA ?_ _)
  ·obtain ⟨q1, q2⟩ := pow_le40 (j := (-d - 1).toNat) (by omega)
   have hr : rnR c d = mad (flr (c + 2 ^ (-d - 1).toNat) d) := by unfold rnR; rw [if_neg hd, if_neg hn]
   have HF := Lib.hid (floor_w (c + 2 ^ (-d - 1).toNat) d (by omega) (by omega) (by omega) d1)
   rw [hr]
   obtain ⟨p, hp⟩ : ∃ p, p = flr (c + 2 ^ (-d - 1).toNat) d := ⟨_, rfl⟩
   unfold FlP at HF
   rw [← hp] at HF ⊢
   clear hp hr
   obtain ⟨n, b⟩ := p
   have a0 := (c2_of hA).1
   have a1 := (c2_of hA).2.1
   have al := (c2_of hA).2.2.1
   go_enter Tryz.func71, Tryz.ntmps71
   go_wp2
   go_loop [3, 4] (fun u v => ∃ (z : Int) (j : Nat), v = .int .i64 z ∧ z ≤ -1 ∧ d ≤ z ∧ Hid (z = -1 - (j : Int)) ∧ u = .int .i64 (2 ^ j)) (fun _ v => (intOf v - d).toNat)
   case atStart => exact ⟨-1, 0, rfl, by omega, by omega, Lib.hid (by simp), by simp⟩
   case round =>
    obtain ⟨z, j, rfl, z1, z2, HZ, rfl⟩ := hrel
    obtain ⟨p1, p2⟩ := pow_le40 (j := j) (by have := HZ.out; omega)
    by_cases hlt : d < z
    ·have hs : (2 : Int) ^ j * 2 = 2 ^ (j + 1) := (Int.pow_succ ..).symm
     have HS := Lib.hid hs
     have HZ1 : Hid (z - 1 = -1 - ((j + 1 : Nat) : Int)) := Lib.hid (by have := HZ.out; omega)
     clear hs
     generalize (2 : Int) ^ j = x at *
     go_wp2
     go_round
     case rel => exact ⟨z - 1, j + 1, by first | rfl | go_num, by omega, by omega, HZ1, by rw [← HS.out]⟩
     case measure => simp [intOf]; omega
    ·obtain rfl : d = z := by omega
     have hj : (-d - 1).toNat = j := by have := HZ.out; omega
     rw [hj] at HF
     have hdd : ¬ d < d := by omega
     clear hj q1 q2
     generalize (2 : Int) ^ j = x at *
     go_wp2_with (first
      | (go_at_call 93; refine (HF.out _).mono ?_; rintro e w1 ⟨rfl, hb⟩; dsimp only; (replace hZ := kB hZ hb); (replace hB := bS hB hb); clear hb)
      | (go_at_call 92; refine (made_w n b _).mono ?_; rintro e w2 ⟨rfl, hb⟩; (replace hZ := kB hZ hb); (replace hB := bS hB hb); (obtain ⟨z0, z1, zl, zf0, zf1⟩ := c2_of hZ); clear hb))
     refine bodyPost_ret (v := .agg #[.int .i64 (mad (n, b)).1, .int .i64 (mad (n, b)).2]) (by clear hZ hA; simp [results, Tryz.results71, go_sem, z0, z1, zl]) rfl ⟨rfl, bT (bT hB hz) hz⟩
end Go.Proofs.Q
end
section
namespace Go.Proofs.Q
open RowKit Shelf Pw Pl Pm
theorem hf_big {n : Int} {k : Nat} {s : Int} (hn : n = 8388608 * (k : Int) + s) (hk : 2 ≤ k) (h0 : 0 ≤ s) (h1 : s < 8388608) : atM n = s + 8388608 ∧ atE n = (k : Int) - 151 ∧ hf n = (2 * (s + 8388608) + 1) * 2 ^ (k - 1) := by
 have e1 : atM n = s + 8388608 := by unfold atM; rw [if_neg (by omega)]; omega
 have e2 : atE n = (k : Int) - 151 := by unfold atE; rw [if_neg (by omega)]; omega
 refine ⟨e1, e2, ?_⟩
 unfold hf
 rw [e1]
 congr 2
 unfold hfX
 rw [if_neg (by omega), e2]; omega
theorem hf_small {n : Int} (h0 : 0 ≤ n) (h1 : n < 16777216) : hf n = 2 * n + 1 := by
 have e1 : atM n = n := by unfold atM; rw [if_pos h1]
 have e2 : hfX n = 0 := by
  unfold hfX
  by_cases h : n = 0
  ·rw [if_pos h]
  ·rw [if_neg h]; unfold atE; rw [if_pos h1, if_neg h]; rfl
 unfold hf
 rw [e1, e2]; simp
theorem hf_step (n : Int) (h0 : 0 ≤ n) : hf n ≤ hf (n + 1) := by
 by_cases h : n + 1 < 16777216
 ·rw [hf_small h0 (by omega), hf_small (by omega) h]; omega
 ·by_cases h2 : n < 16777216
  ·have : n = 16777215 := by omega
   subst this
   rw [hf_small (by omega) (by omega), (hf_big (n := 16777215 + 1) (k := 2) (s := 0) (by decide) (by decide) (by decide) (by decide)).2.2]
   decide
  ·obtain ⟨k, hk⟩ : ∃ k : Nat, (k : Int) = n / 8388608 := ⟨(n / 8388608).toNat, by omega⟩
   have hk2 : 2 ≤ k := by omega
   rw [(hf_big (n := n) (k := k) (s := n % 8388608) (by omega) hk2 (by omega) (by omega)).2.2]
   have hp : (0 : Int) < 2 ^ (k - 1) := Int.pow_pos (by decide)
   by_cases hs : n % 8388608 = 8388607
   ·rw [(hf_big (n := n + 1) (k := k + 1) (s := 0) (by omega) (by omega) (by omega) (by omega)).2.2, hs]
    have e : (2 : Int) ^ (k + 1 - 1) = 2 ^ (k - 1) * 2 := by rw [show k + 1 - 1 = (k - 1) + 1 by omega, Int.pow_succ]
    rw [e]; omega
   ·rw [(hf_big (n := n + 1) (k := k) (s := n % 8388608 + 1) (by omega) hk2 (by omega) (by omega)).2.2]
    exact Int.mul_le_mul_of_nonneg_right (by omega) (by omega)
theorem hf_mono {i j : Int} (h0 : 0 ≤ i) (h : i ≤ j) : hf i ≤ hf j := by
 obtain ⟨d, rfl⟩ : ∃ d : Nat, j = i + d := ⟨(j - i).toNat, by omega⟩
 clear h
 induction d with
 | zero => simp
 | succ d ih =>
  have := hf_step (i + d) (by omega)
  rw [show i + ((d + 1 : Nat) : Int) = i + d + 1 by omega]
  omega
/-- the index is told by its marks -/
theorem rd_index {T lo lo' J : Int} (h : RdI T lo lo') (hJ : 0 < J) (h1 : hf (J - 1) < T) (h2 : T ≤ hf J) : lo = J := by
 obtain ⟨g0, g1, g2, g3, _⟩ := h
 rcases Int.lt_trichotomy lo J with c | c | c
 ·have := hf_mono g0 (show lo ≤ J - 1 by omega)
  omega
 ·exact c
 ·rcases g2 with g2 | g2
  ·omega
  ·have := hf_mono (show 0 ≤ J by omega) (show J ≤ lo - 1 by omega)
   omega
theorem mul_cmp {x y b : Int} (hb : 0 < b) : x < y ↔ x * b < y * b := (Int.mul_lt_mul_right hb).symm
/-- what real.FromInt makes of a positive number, told by the quotient -/
def Quot (v q x : Int) (up : Bool) : Prop := ∃ a b : Int, 0 < b ∧ q = a / b ∧ 8388608 ≤ q ∧ q < 16777216 ∧ -30 < x ∧ x < 10 ∧ v * 2 ^ 151 * b = (2 * a) * 2 ^ (x + 150).toNat ∧ (up = true ↔ b < 2 * (a % b) ∨ (2 * (a % b) = b ∧ q % 2 = 1))
def upd (q x : Int) (up : Bool) : Int × Int := if up = true then (if q + 1 = 16777216 then (8388608, x + 1) else (q + 1, x)) else (q, x)
theorem quot_rd {v q x : Int} {up : Bool} (h : Quot v q x up) {lo lo' : Int} (hr : RdI (v * 2 ^ 151) lo lo') : upd q x up = (atM lo', atE lo') := by
 obtain ⟨a, b, hb, hq, q0, q1, x0, x1, hT, hup⟩ := h
 have hr0 : 0 ≤ a % b := Int.emod_nonneg _ (by omega)
 have hr1 : a % b < b := Int.emod_lt_of_pos _ hb
 have ha : a = q * b + a % b := by rw [hq]; have := Int.ediv_mul_add_emod a b; omega
 generalize hrr : a % b = r at *
 generalize hTT : v * 2 ^ 151 = T at *
 obtain ⟨k, hk⟩ : ∃ k : Nat, (k : Int) = x + 151 := ⟨(x + 151).toNat, by omega⟩
 have hk2 : 2 ≤ k := by omega
 rw [show (x + 150).toNat = k - 1 by omega] at hT
 have hp : (0 : Int) < 2 ^ (k - 1) := Int.pow_pos (by decide)
 obtain ⟨J, hJ⟩ : ∃ J, J = 8388608 * (k : Int) + (q - 8388608) := ⟨_, rfl⟩
 obtain ⟨m1, m2, m3⟩ := hf_big hJ hk2 (by omega) (by omega)
 have hhJ : hf J = (2 * q + 1) * 2 ^ (k - 1) := by rw [m3]; congr 1; omega
 have hdn : hf (J - 1) < 2 * q * 2 ^ (k - 1) := by
  by_cases hc : q = 8388608
  ·rw [(hf_big (n := J - 1) (k := k - 1) (s := 8388607) (by omega) (by omega) (by omega) (by omega)).2.2, hc]
   have e : (2 : Int) ^ (k - 1) = 2 ^ (k - 1 - 1) * 2 := by rw [← Int.pow_succ]; congr 1; omega
   have hp2 : (0 : Int) < 2 ^ (k - 1 - 1) := Int.pow_pos (by decide)
   rw [e]; omega
  ·rw [(hf_big (n := J - 1) (k := k) (s := q - 8388609) (by omega) (by omega) (by omega) (by omega)).2.2]
   exact (Int.mul_lt_mul_right hp).2 (by omega)
 have hat1 : atM (J + 1) = (if q + 1 = 16777216 then 8388608 else q + 1) ∧ atE (J + 1) = (if q + 1 = 16777216 then x + 1 else x) ∧ (2 * q + 2) * 2 ^ (k - 1) < hf (J + 1) := by
  by_cases hc : q + 1 = 16777216
  ·obtain ⟨t1, t2, t3⟩ := hf_big (n := J + 1) (k := k + 1) (s := 0) (by omega) (by omega) (by omega) (by omega)
   rw [if_pos hc, if_pos hc, t1, t2, t3]
   have e : (2 : Int) ^ (k + 1 - 1) = 2 ^ (k - 1) * 2 := by rw [show k + 1 - 1 = (k - 1) + 1 by omega, Int.pow_succ]
   refine ⟨by omega, by omega, ?_⟩
   rw [e, show 2 * q + 2 = 33554432 by omega]; omega
  ·obtain ⟨t1, t2, t3⟩ := hf_big (n := J + 1) (k := k) (s := q - 8388607) (by omega) (by omega) (by omega) (by omega)
   rw [if_neg hc, if_neg hc, t1, t2, t3]
   exact ⟨by omega, by omega, (Int.mul_lt_mul_right hp).2 (by omega)⟩
 generalize hP : (2 : Int) ^ (k - 1) = P at *
 have hTb : T * b = (2 * q * P) * b + 2 * r * P := by rw [hT, ha]; simp only [Int.mul_add, Int.add_mul]; simp only [Int.mul_assoc, Int.mul_comm, Int.mul_left_comm]
 have hlow : hf (J - 1) < T := by
  rw [mul_cmp hb, hTb]
  have h1 := (mul_cmp (x := hf (J - 1)) (y := 2 * q * P) hb).1 hdn
  have h2 : 0 ≤ 2 * r * P := Int.mul_nonneg (by omega) (by omega)
  omega
 have ehJ : (2 * q + 1) * P * b = (2 * q * P) * b + b * P := by rw [Int.add_mul, Int.add_mul, Int.one_mul, Int.mul_comm P b]
 have hlt : T < hf J ↔ 2 * r < b := by
  rw [mul_cmp hb, hTb, hhJ, ehJ, mul_cmp (x := 2 * r) (y := b) hp]; omega
 have heq : T = hf J ↔ 2 * r = b := by
  constructor
  ·intro h
   have h1 : T * b = hf J * b := by rw [h]
   rw [hTb, hhJ, ehJ] at h1
   have h2 : 2 * r * P = b * P := by omega
   exact Int.eq_of_mul_eq_mul_right (by omega) h2
  ·intro h
   have h1 : T * b = hf J * b := by rw [hTb, hhJ, ehJ, h]
   exact Int.eq_of_mul_eq_mul_right (by omega) h1
 have hup2 : T < hf (J + 1) := by
  rw [mul_cmp hb, hTb]
  have h1 := (mul_cmp (x := (2 * q + 2) * P) (y := hf (J + 1)) hb).1 hat1.2.2
  have h2 : (2 * q + 2) * P * b = (2 * q * P) * b + 2 * b * P := by rw [Int.add_mul, Int.add_mul]; simp only [Int.mul_assoc, Int.mul_comm, Int.mul_left_comm]
  have h3 : 2 * r * P < 2 * b * P := (Int.mul_lt_mul_right hp).2 (by omega)
  omega
 have fin : ∀ u : Bool, up = u → (lo' = if u = true then J + 1 else J) → upd q x up = (atM lo', atE lo') := by
  intro u hu hl
  subst hu
  unfold upd
  cases up with
  | false => simp at hl; rw [hl, m1, m2]; simp; omega
  | true =>
   simp at hl
   rw [hl, hat1.1, hat1.2.1, if_pos rfl]
   split <;> rfl
 by_cases hc : T ≤ hf J
 ·have hlo := rd_index hr (by omega) hlow hc
  have hl := hr.2.2.2.2
  rw [hlo, m1] at hl
  by_cases ht : T = hf J
  ·have hr2 := heq.1 ht
   by_cases hod : q % 2 = 1
   ·exact fin true (hup.2 (.inr ⟨hr2, hod⟩)) (by rw [hl, if_pos ⟨ht.symm, by omega⟩]; rfl)
   ·have : up = false := by
     cases up with
     | false => rfl
     | true => rcases hup.1 rfl with h | h <;> omega
    exact fin false this (by rw [hl, if_neg (fun h => hod (by omega))]; rfl)
  ·have hr2 := hlt.1 (by omega)
   have : up = false := by
    cases up with
    | false => rfl
    | true => rcases hup.1 rfl with h | h <;> omega
   exact fin false this (by rw [hl, if_neg (fun h => ht h.1.symm)]; rfl)
 ·have hr2 : ¬ 2 * r < b := fun h => hc (by have := hlt.2 h; omega)
  have hr3 : ¬ 2 * r = b := fun h => hc (by have := heq.2 h; omega)
  have hlo := rd_index (J := J + 1) hr (by omega) (by rw [show J + 1 - 1 = J by omega]; omega) (by omega)
  have hl := hr.2.2.2.2
  rw [hlo] at hl
  exact fin true (hup.2 (.inl (by omega))) (by rw [hl, if_neg (fun h => by have := h.1; omega)]; rfl)
end Go.Proofs.Q
end
section
namespace Go.Proofs.Q
open RowKit Shelf Pw Pl Pm
theorem j1_last2 (k : Nat) (v x a b : Int) (la lb : Nat) (hk : 200 ≤ k) (hla : la < 32) (hlab : lb ≤ la) (hlb : lb ≤ 7) (h0 : 2 ^ la ≤ a) (h1 : a < 2 ^ (la + 1)) (g0 : 2 ^ lb ≤ b) (g1 : b < 2 ^ (lb + 1)) (hba : b ≤ a) (q0 : 2 ^ 23 ≤ a / b) (q1 : a / b < 2 ^ (23 + 1)) (hx : -100 < x) (hx2 : x < 100) :
  ∃ up : Bool, (up = true ↔ b < 2 * (a % b) ∨ (2 * (a % b) = b ∧ a / b % 2 = 1)) ∧ real_rounded.j1 (k + 1) (Lm v) 0 [1] x (Lm a) (Lm b) = some (if up = true then (if a / b + 1 = 16777216 then (8388608, x + 1) else (a / b + 1, x)) else (a / b, x)) := by
 have hpb : (0 : Int) < 2 ^ lb := Int.pow_pos (by decide)
 have hr0 : 0 ≤ a % b := Int.emod_nonneg _ (by omega)
 have hr1 : a % b < b := Int.emod_lt_of_pos _ (by omega)
 have hb7 : (2 : Int) ^ (lb + 1) ≤ 2 ^ 8 := pow_mono (by omega)
 have hq0 : (8388608 : Int) ≤ a / b := q0
 have hq1 : a / b < 16777216 := q1
 have w1 : wrap64 (a / b) = a / b := wrap64_nn (by omega) (by omega)
 have s1 := shl_L (a % b) 1 hr0 (by omega) (by omega) (by simp; omega)
 simp at s1
 rw [real_rounded.j1, div_L k la lb a b (by omega) hla h0 h1 g0 g1 hba hlab]
 simp only [Option.bind_some]
 rw [bits_L k 23 _ (by omega) (by omega) q0 q1]
 simp only [Option.bind_some]
 rw [if_neg (by omega), small_L k _ (by omega) (by omega) (by omega), s1]
 simp only [Option.bind_some]
 rw [cmp_L k _ _ (by omega) (by omega) (by omega)]
 simp only [Option.bind_some, w1]
 by_cases hc : a % b * 2 = b
 ·rw [if_pos hc, if_neg (by omega), if_pos rfl]
  refine ⟨_, ?_, j_tail k x _ _ (by omega) hq0 hq1 hx hx2⟩
  rw [Int.tmod_eq_emod_of_nonneg (by omega), beq_iff_eq]
  omega
 ·rw [if_neg hc]
  by_cases hl : a % b * 2 < b
  ·rw [if_pos hl, if_neg (by omega), if_neg (by omega)]
   exact ⟨false, ⟨(fun h => by cases h), (fun h => by omega)⟩, j_tail k x _ _ (by omega) hq0 hq1 hx hx2⟩
  ·rw [if_neg hl, if_pos (by omega)]
   exact ⟨true, ⟨(fun h => by omega), (fun h => rfl)⟩, j_tail k x _ _ (by omega) hq0 hq1 hx hx2⟩
theorem rounded_M (k : Nat) (v : Int) (hk : 300 ≤ k) (h0 : 0 < v) (h1 : v < 2147483648) :
  ∃ q x up, real_rounded.f k (Lm v) 0 [1] = some (upd q x up) ∧ Quot v q x up := by
 obtain ⟨L, g0, g1⟩ := exists_log v h0
 have hL : L ≤ 30 := by
  by_cases h : L ≤ 30
  ·exact h
  ·have := pow_mono (show 31 ≤ L by omega)
   simp at this; omega
 obtain ⟨k, rfl⟩ : ∃ m, k = m + 6 := ⟨k - 6, by omega⟩
 unfold real_rounded.f
 rw [if_neg (by unfold Lm; rw [if_neg (by omega)]; simp), bits_L _ L v (by omega) (by omega) g0 g1]
 have b1 := bits_L (k + 6) 0 1 (by omega) (by omega) (by simp) (by simp)
 rw [show ([1] : List Int) = Lm 1 from rfl, b1]
 simp only [Option.bind_some]
 have hx : mx (-150) (wrap64 ((wrap64 ((wrap64 ((wrap64 ((L : Int) + 1 - (((0 : Nat) : Int) + 1))) + 0)) - 24)) - 1)) = (L : Int) - 25 := by
  rw [wrap64_nn (n := (L : Int) + 1 - (((0 : Nat) : Int) + 1)) (by omega) (by omega), wrap64_nn (n := (L : Int) + 1 - (((0 : Nat) : Int) + 1) + 0) (by omega) (by omega), wrap64_nn (n := (L : Int) + 1 - (((0 : Nat) : Int) + 1) + 0 - 24) (by omega) (by omega), wrap64_nn (by omega) (by omega)]
  unfold mx; split <;> omega
 rw [hx, show Lm 1 = ([1] : List Int) from rfl]
 obtain ⟨a, b, la, lb, e0, i1, i2, i3, i4, i5, i6, i7, i8, i9, i10, p1, p2⟩ := l0_step v L hL g0 g1 (k + 5) ((L : Int) - 25) 25 (by omega) (by omega) (by omega)
 rw [e0, j1_big (k + 4) v _ a b la lb 25 (by omega) i1 i2 i4 i5 i6 i7 i8 i9 i10 (by omega) (by omega) (by omega) (by omega)]
 clear e0 i1 i2 i3 i4 i5 i6 i7 i8 i9 i10 p1 p2 a b la lb
 obtain ⟨a, b, la, lb, e0, i1, i2, i3, i4, i5, i6, i7, i8, i9, i10, p1, p2⟩ := l0_step v L hL g0 g1 (k + 3) ((L : Int) - 25 + 1) 24 (by omega) (by omega) (by omega)
 rw [e0, j1_big (k + 2) v _ a b la lb 24 (by omega) i1 i2 i4 i5 i6 i7 i8 i9 i10 (by omega) (by omega) (by omega) (by omega)]
 clear e0 i1 i2 i3 i4 i5 i6 i7 i8 i9 i10 p1 p2 a b la lb
 obtain ⟨a, b, la, lb, e0, i1, i2, i3, i4, i5, i6, i7, i8, i9, i10, p1, p2⟩ := l0_step v L hL g0 g1 (k + 1) ((L : Int) - 25 + 1 + 1) 23 (by omega) (by omega) (by omega)
 obtain ⟨up, hup, e1⟩ := j1_last2 k v ((L : Int) - 25 + 1 + 1) a b la lb (by omega) i1 i2 i3 i4 i5 i6 i7 i8 i9 i10 (by omega) (by omega)
 rw [e0, e1]
 have hb : (0 : Int) < b := Int.lt_of_lt_of_le (Int.pow_pos (by decide)) i6
 refine ⟨a / b, (L : Int) - 25 + 1 + 1, up, rfl, a, b, hb, rfl, i9, i10, by omega, by omega, ?_, hup⟩
 by_cases hx : (L : Int) - 25 + 1 + 1 ≤ 0
 ·obtain ⟨rfl, ha⟩ := p1 hx
  rw [ha]
  have e : (2 : Int) ^ 151 = 2 * (2 ^ (-((L : Int) - 25 + 1 + 1)).toNat * 2 ^ ((L : Int) - 25 + 1 + 1 + 150).toNat) := by
   rw [← Int.pow_add, show (-((L : Int) - 25 + 1 + 1)).toNat + ((L : Int) - 25 + 1 + 1 + 150).toNat = 150 by omega, Int.mul_comm, ← Int.pow_succ]
  rw [e]
  simp only [Int.mul_one, Int.mul_assoc, Int.mul_left_comm]
 ·obtain ⟨rfl, hb2⟩ := p2 (by omega)
  rw [hb2]
  have e : (2 : Int) ^ ((L : Int) - 25 + 1 + 1 + 150).toNat = 2 ^ 150 * 2 ^ ((L : Int) - 25 + 1 + 1).toNat := by
   rw [← Int.pow_add]; congr 1; omega
  have e2 : (2 : Int) ^ 151 = 2 ^ 150 * 2 := Int.pow_succ ..
  rw [e, e2]
  simp only [Int.mul_assoc, Int.mul_left_comm, Int.mul_comm]
theorem hf_pos {n : Int} (h0 : 0 ≤ n) : 1 ≤ hf n := by
 have := hf_mono (Int.le_refl 0) h0
 rw [show hf 0 = 1 by decide] at this
 exact this
/-- real.FromInt is what the reference makes of it -/
theorem frI_rd (n : Int) (h0 : -2147483648 < n) (h1 : n < 2147483648) {lo lo' : Int} (hr : RdI ((if n < 0 then -n else n) * 2 ^ 151) lo lo') : frI n = (if n < 0 then -(atM lo') else atM lo', atE lo') := by
 unfold frI real_FromInt.f
 by_cases hz : n < 0
 ·rw [if_pos hz] at hr
  obtain ⟨q, x, up, e, hq⟩ := rounded_M 300 (-n) (by decide) (by omega) (by omega)
  have hu := quot_rd hq hr
  rw [if_pos hz, wrap_neg n hz h0, natOf_L 300 _ (by omega) (by omega) (by omega)]
  simp only [Option.bind_some]
  rw [e, hu]
  have hm : 0 ≤ atM lo' ∧ atM lo' ≤ 16777216 := by
   obtain ⟨a, b, _, _, q0, q1, _⟩ := hq
   have : (upd q x up).1 = atM lo' := by rw [hu]
   unfold upd at this
   split at this
   ·split at this <;> (simp at this; omega)
   ·simp at this; omega
  have w1 : wrap64 (-(atM lo')) = -(atM lo') := wrap64_nn (by omega) (by omega)
  simp [real_signed.f, hz, w1]
 ·rw [if_neg hz] at hr
  rw [if_neg hz, u64_nn (by omega) (by omega), natOf_L 300 _ (by omega) (by omega) (by omega)]
  simp only [Option.bind_some]
  by_cases h : n = 0
  ·subst h
   have hlo : lo = 0 := by
    obtain ⟨g0, g1, g2, _⟩ := hr
    rcases g2 with g2 | g2
    ·exact g2
    ·by_cases hl : lo = 0
     ·exact hl
     ·have := hf_pos (n := lo - 1) (by omega)
      omega
   have hl := hr.2.2.2.2
   rw [hlo, if_neg (fun h => by have := h.1; rw [show hf 0 = 1 by decide] at this; simp at this)] at hl
   rw [hl]
   decide +kernel
  ·obtain ⟨q, x, up, e, hq⟩ := rounded_M 300 n (by decide) (by omega) (by omega)
   have hu := quot_rd hq hr
   rw [e, hu]
   simp [real_signed.f, hz]
end Go.Proofs.Q
end
section
namespace Go.Proofs.Q
open RowKit Shelf Pw Pl Pm
theorem valid_bd {c d : Int} (hin : -9223372036854775808 ≤ c) (h : real_Valid.f c d = some true) : (c = 0 ∧ d = 0) ∨ (c ≠ 0 ∧ -16777216 < c ∧ c < 16777216 ∧ -150 ≤ d ∧ d ≤ 150 ∧ (-150 < d → 8388608 ≤ c ∨ c ≤ -8388608)) := by
 unfold real_Valid.f at h
 by_cases h0 : (c == 0 && (d == 0)) = true
 ·simp at h0; exact .inl h0
 rw [if_neg h0] at h
 by_cases h1 : mx c (wrap64 (-c)) < 1
 ·rw [if_pos h1] at h; simp at h
 rw [if_neg h1] at h
 by_cases h2 : mx c (wrap64 (-c)) ≥ 16777216
 ·rw [if_pos h2] at h; simp at h
 rw [if_neg h2] at h
 have hc : -16777216 < c ∧ c < 16777216 ∧ c ≠ 0 ∧ mx c (wrap64 (-c)) = (if c < 0 then -c else c) := by
  unfold mx at h1 h2 ⊢
  unfold wrap64 at h1 h2 ⊢
  split at h1 <;> split at h2 <;> (split <;> omega)
 obtain ⟨c1, c2, c3, c4⟩ := hc
 refine .inr ⟨c3, c1, c2, ?_⟩
 by_cases h3 : d = -150
 ·exact ⟨by omega, by omega, by omega⟩
 rw [if_neg h3] at h
 by_cases h4 : mx c (wrap64 (-c)) ≥ 8388608
 ·rw [if_pos h4] at h
  rw [c4] at h4
  by_cases h5 : d > -150
  ·rw [if_pos h5] at h
   simp at h
   refine ⟨by omega, h, fun _ => ?_⟩
   split at h4 <;> omega
  ·rw [if_neg h5] at h; simp at h
 ·rw [if_neg h4] at h; simp at h
theorem shl_mul {m : Int} {n : Nat} (h : n ≤ 31) (h0 : -16777216 ≤ m) (h1 : m ≤ 16777216) : shl .i64 m (n : Int) = m * 2 ^ n := by
 have hp := pow2_up (a := n) (b := 31) h
 rw [show (2 : Int) ^ 31 = 2147483648 by decide] at hp
 have hp0 : (0 : Int) < 2 ^ n := Int.pow_pos (by decide)
 have b1 : m * 2 ^ n ≤ 16777216 * 2 ^ n := Int.mul_le_mul_of_nonneg_right h1 (by omega)
 have b2 : -16777216 * 2 ^ n ≤ m * 2 ^ n := Int.mul_le_mul_of_nonneg_right h0 (by omega)
 unfold shl
 rw [show min (n : Int).toNat IntKind.i64.bits = n by simp [IntKind.bits]; omega]
 exact i64_nn (by omega) (by omega)
theorem shr_div {m : Int} {n : Nat} (h : n < 60) : shr .i64 m (n : Int) = m / 2 ^ n := by
 unfold shr
 rw [show min (n : Int).toNat IntKind.i64.bits = n by simp [IntKind.bits]; omega]
/-- floor of both -/
theorem floor_eq (m e : Int) (h0 : -1099511627776 ≤ m) (h1 : m ≤ 1099511627776) (e0 : -40 ≤ e) (e1 : e ≤ 150) (hb : 0 ≤ e → -16777216 ≤ m ∧ m ≤ 16777216) (hbig : 8 < e → m = 0 ∨ 8388608 ≤ m ∨ m ≤ -8388608) :
  ∃ p, real_floor.f m e = some p ∧ real_whole.f p.1 p.2 = some (mad (flr m e)) := by
 have key : ∀ n : Int, (if n ≥ -2147483647 then some (n, decide (n ≤ 2147483647)) else some (n, false) : Option (Int × Bool)) = some (n, decide (¬ (n < -2147483647 ∨ 2147483647 < n))) := fun n => by
  by_cases a : n ≥ -2147483647
  ·rw [if_pos a]
   congr 2
   rw [decide_eq_decide]; omega
  ·rw [if_neg a]
   congr 2
   rw [eq_comm, decide_eq_false_iff_not]; omega
 have key2 : ∀ n : Int, real_whole.f n (decide (¬ (n < -2147483647 ∨ 2147483647 < n))) = some (mad (if n < -2147483647 ∨ 2147483647 < n then (0, false) else (n, true))) := fun n => by
  unfold real_whole.f mad
  by_cases a : n < -2147483647 ∨ 2147483647 < n
  ·simp [a]
  ·simp [a]
 unfold real_floor.f
 by_cases hm : m = 0
 ·subst hm
  exact ⟨_, by rw [if_pos rfl], by simp [real_whole.f, mad, flr]⟩
 rw [if_neg hm]
 by_cases h31 : e > 31
 ·exact ⟨_, by rw [if_pos h31], by simp [real_whole.f, mad, flr, hm, show 8 < e by omega]⟩
 rw [if_neg h31]
 by_cases hp : e ≥ 0
 ·obtain ⟨n, rfl⟩ : ∃ n : Nat, e = n := ⟨e.toNat, by omega⟩
  obtain ⟨c0, c1⟩ := hb hp
  rw [if_pos hp, if_pos hp, shl_mul (by omega) c0 c1, key]
  refine ⟨_, rfl, ?_⟩
  rw [key2]
  congr 2
  unfold flr
  rw [if_neg hm]
  by_cases h8 : 8 < (n : Int)
  ·rw [if_pos h8, if_pos ?_]
   have hp2 := pow2_up (show 9 ≤ n by omega)
   rw [show (2 : Int) ^ 9 = 512 by decide] at hp2
   rcases (hbig h8).resolve_left hm with g | g
   ·have : 8388608 * 512 ≤ m * 2 ^ n := Int.mul_le_mul g hp2 (by decide) (by omega)
    omega
   ·have : 8388608 * 512 ≤ (-m) * 2 ^ n := Int.mul_le_mul (by omega) hp2 (by decide) (by omega)
    rw [Int.neg_mul] at this
    omega
  ·rw [if_neg h8]
   have : flN m (n : Int) = m * 2 ^ n := by unfold flN; rw [if_pos hp]; rfl
   rw [this]
 ·obtain ⟨n, rfl⟩ : ∃ n : Nat, e = -(n : Int) := ⟨(-e).toNat, by omega⟩
  have hw : wrap64 (-(-(n : Int))) = n := by rw [wr64 (n := -(-(n : Int))) (by omega) (by omega)]; omega
  rw [if_neg hp, if_pos (show -(n : Int) > -60 by omega), hw, if_pos (show (0 : Int) ≤ (n : Int) by omega), shr_div (by omega), key]
  refine ⟨_, rfl, ?_⟩
  rw [key2]
  congr 2
  unfold flr
  have : flN m (-(n : Int)) = m / 2 ^ n := by unfold flN; rw [if_neg (by omega)]; congr 2; omega
  rw [if_neg hm, if_neg (show ¬ (8 : Int) < -(n : Int) by omega), this]
/-- Rounds of the reference is Round -/
theorem rn_eq {c d : Int} (hin : -9223372036854775808 ≤ c) (h : real_Valid.f c d = some true) : rnR c d = rnd c d := by
 have hb := valid_bd hin h
 unfold rnd real_Round.f
 rw [h]
 simp only [Option.bind_some, if_true]
 unfold rnR
 by_cases hd : 0 ≤ d
 ·rw [if_pos hd, if_pos hd]
  obtain ⟨p, h1, h2⟩ := floor_eq c d (by omega) (by omega) (by omega) (by omega) (fun _ => by omega) (fun h8 => by omega)
  rw [h1]
  simp only [Option.bind_some]
  rw [h2]
  rfl
 ·rw [if_neg hd, if_neg hd]
  by_cases hn : d < -40
  ·rw [if_pos hn, if_pos hn]; rfl
  ·rw [if_neg hn, if_neg hn]
   obtain ⟨s, hs⟩ : ∃ s : Nat, -d - 1 = s := ⟨(-d - 1).toNat, by omega⟩
   have hw : wrap64 (wrap64 (-d) - 1) = s := by rw [wr64 (n := -d) (by omega) (by omega), wr64 (by omega) (by omega)]; omega
   obtain ⟨q1, q2⟩ := pow_le40 (j := s) (by omega)
   have hsh : shl .i64 1 (s : Int) = 2 ^ s := by
    unfold shl
    rw [show min (s : Int).toNat IntKind.i64.bits = s by simp [IntKind.bits]; omega, Int.one_mul]
    exact i64_nn (by omega) (by omega)
   rw [hw, if_pos (by omega), hsh, wr64 (n := c + 2 ^ s) (by omega) (by omega), hs, Int.toNat_natCast]
   obtain ⟨p, h1, h2⟩ := floor_eq (c + 2 ^ s) d (by omega) (by omega) (by omega) (by omega) (fun _ => by omega) (fun h8 => by omega)
   rw [h1]
   simp only [Option.bind_some]
   rw [h2]
   rfl
end Go.Proofs.Q
end
section
namespace Go.Proofs.Q
open RowKit Shelf Pw Pl Pm
def Bq (b : Bool) (w : World) (e : Ending) (w' : World) : Prop := e = .returned (.bool b) ∧ Below w.heap.size w w'
def ivB (n : Int) : Bool := decide (-2147483647 ≤ n ∧ n ≤ 2147483647)
theorem rvalid1 (n : Int) (w : World) : Calls Tryz.prog 78 #[.int .i64 n] w (Bq (ivB n) w) := by
 by_cases h1 : -2147483647 ≤ n
 ·by_cases h2 : n ≤ 2147483647
  ·have hv : ivB n = true := by unfold ivB; simp; omega
   rw [hv]; clear hv
   go_enter Tryz.func78, Tryz.ntmps78
   go_wp2
   go_ret
   exact ⟨rfl, Below.refl _ _⟩
  ·have hv : ivB n = false := by unfold ivB; simp; omega
   rw [hv]; clear hv
   go_enter Tryz.func78, Tryz.ntmps78
   go_wp2
   go_ret
   exact ⟨rfl, Below.refl _ _⟩
 ·have hv : ivB n = false := by unfold ivB; simp; omega
  rw [hv]; clear hv
  go_enter Tryz.func78, Tryz.ntmps78
  go_wp2
  go_ret
  exact ⟨rfl, Below.refl _ _⟩
theorem rint (n : Int) (w : World) : Calls Tryz.prog 77 #[.int .i64 n] w fun e w' => e = .returned (.agg #[.int .i64 1, .int .i64 n, .int .i64 0, .int .i64 0, .bool false]) ∧ Below w.heap.size w w' := by
 go_enter Tryz.func77, Tryz.ntmps77
 go_wp2
 refine bodyPost_ret (v := .agg #[.int .i64 1, .int .i64 n, .int .i64 0, .int .i64 0, .bool false]) (by simp [results, Tryz.results77, go_sem]) rfl ⟨rfl, ?_⟩
 repeat (first | exact Below.refl _ _ | refine bA ?_ _)
theorem rreal (c d : Int) (w : World) : Calls Tryz.prog 68 #[.agg #[.int .i64 c, .int .i64 d]] w fun e w' => e = .returned (.agg #[.int .i64 2, .int .i64 0, .int .i64 c, .int .i64 d, .bool false]) ∧ Below w.heap.size w w' := by
 go_enter Tryz.func68, Tryz.ntmps68
 go_wp2
 refine bodyPost_ret (v := .agg #[.int .i64 2, .int .i64 0, .int .i64 c, .int .i64 d, .bool false]) (by simp [results, Tryz.results68, go_sem]) rfl ⟨rfl, ?_⟩
 repeat (first | exact Below.refl _ _ | refine bA ?_ _)
theorem rbool (b : Bool) (w : World) : Calls Tryz.prog 80 #[.bool b] w fun e w' => e = .returned (.agg #[.int .i64 3, .int .i64 0, .int .i64 0, .int .i64 0, .bool b]) ∧ Below w.heap.size w w' := by
 go_enter Tryz.func80, Tryz.ntmps80
 go_wp2
 refine bodyPost_ret (v := .agg #[.int .i64 3, .int .i64 0, .int .i64 0, .int .i64 0, .bool b]) (by simp [results, Tryz.results80, go_sem]) rfl ⟨rfl, ?_⟩
 repeat (first | exact Below.refl _ _ | refine bA ?_ _)
def mgn (c : Int) : Int := if c < 0 then -c else c
def rvB (c d : Int) : Bool := if c = 0 then decide (d = 0) else decide (mgn c < 16777216 ∧ -150 ≤ d ∧ d ≤ 150 ∧ (8388608 ≤ mgn c ∨ d = -150))
theorem rvalid2 (c d : Int) (h0 : -9223372036854775808 ≤ c) (h1 : c ≤ 9223372036854775807) (w : World) : Calls Tryz.prog 79 #[.agg #[.int .i64 c, .int .i64 d]] w (Bq (rvB c d) w) := by
 have hal : Below w.heap.size w (w.alloc (.cells #[.int .i64 c, .int .i64 d] 36)) := bA (Below.refl _ _) _
 by_cases hc : c = 0
 ·subst hc
  by_cases hd : d = 0
  ·subst hd
   go_enter Tryz.func79, Tryz.ntmps79
   go_wp2
   go_ret
   exact ⟨rfl, hal⟩
  ·have b1 : (d == 0) = false := beq_eq_false_iff_ne.mpr hd
   have hv : rvB 0 d = false := by unfold rvB; simp [hd]
   rw [hv]; clear hv hd
   go_enter Tryz.func79, Tryz.ntmps79
   go_wp2
   go_ret
   exact ⟨rfl, hal⟩
 have hcb : (c == 0) = false := beq_eq_false_iff_ne.mpr hc
 by_cases hn : c < 0
 ·by_cases hmin : c = -9223372036854775808
  ·subst hmin
   have hv : rvB (-9223372036854775808) d = false := by unfold rvB mgn; simp
   rw [hv]; clear hv hc hcb
   have hw : wrap64 9223372036854775808 = -9223372036854775808 := by unfold wrap64; decide
   go_enter Tryz.func79, Tryz.ntmps79
   go_wp2
   go_ret
   exact ⟨rfl, hal⟩
  ·have hm0 : ¬ (-c : Int) < 0 := by omega
   have hm1 : -9223372036854775807 ≤ c := by omega
   have hm2 : (-c == 0) = false := beq_eq_false_iff_ne.mpr (by omega)
   by_cases g1 : -c < 16777216
   ·by_cases g2 : d < -150
    ·have hv : rvB c d = false := by unfold rvB mgn; rw [if_neg hc]; simp; omega
     rw [hv]; clear hv hc hcb
     go_enter Tryz.func79, Tryz.ntmps79
     go_wp2
     go_ret
     exact ⟨rfl, hal⟩
    ·by_cases g3 : 150 < d
     ·have hv : rvB c d = false := by unfold rvB mgn; rw [if_neg hc]; simp; omega
      rw [hv]; clear hv hc hcb
      go_enter Tryz.func79, Tryz.ntmps79
      go_wp2
      go_ret
      exact ⟨rfl, hal⟩
     ·by_cases g4 : 8388608 ≤ -c
      ·have hv : rvB c d = true := by unfold rvB mgn; rw [if_neg hc]; simp; omega
       rw [hv]; clear hv hc hcb
       go_enter Tryz.func79, Tryz.ntmps79
       go_wp2
       go_ret
       exact ⟨rfl, hal⟩
      ·by_cases g5 : d = -150
       ·have b5 : (d == -150) = true := beq_iff_eq.mpr g5
        have hv : rvB c d = true := by unfold rvB mgn; rw [if_neg hc]; simp; omega
        rw [hv]; clear hv hc hcb
        have g6 := Lib.hid g5
        clear g5
        go_enter Tryz.func79, Tryz.ntmps79
        go_wp2
        go_ret
        exact ⟨rfl, hal⟩
       ·have b5 : (d == -150) = false := beq_eq_false_iff_ne.mpr g5
        have hv : rvB c d = false := by unfold rvB mgn; rw [if_neg hc]; simp; omega
        rw [hv]; clear hv hc hcb
        go_enter Tryz.func79, Tryz.ntmps79
        go_wp2
        go_ret
        exact ⟨rfl, hal⟩
   ·have hv : rvB c d = false := by unfold rvB mgn; rw [if_neg hc]; simp; omega
    rw [hv]; clear hv hc hcb
    go_enter Tryz.func79, Tryz.ntmps79
    go_wp2
    go_ret
    exact ⟨rfl, hal⟩
 ·have hm0 : 0 < c := by omega
  by_cases g1 : c < 16777216
  ·by_cases g2 : d < -150
   ·have hv : rvB c d = false := by unfold rvB mgn; rw [if_neg hc]; simp; omega
    rw [hv]; clear hv hc hcb
    go_enter Tryz.func79, Tryz.ntmps79
    go_wp2
    go_ret
    exact ⟨rfl, hal⟩
   ·by_cases g3 : 150 < d
    ·have hv : rvB c d = false := by unfold rvB mgn; rw [if_neg hc]; simp; omega
     rw [hv]; clear hv hc hcb
     go_enter Tryz.func79, Tryz.ntmps79
     go_wp2
     go_ret
     exact ⟨rfl, hal⟩
    ·by_cases g4 : 8388608 ≤ c
     ·have hv : rvB c d = true := by unfold rvB mgn; rw [if_neg hc]; simp; omega
      rw [hv]; clear hv hc hcb
      go_enter Tryz.func79, Tryz.ntmps79
      go_wp2
      go_ret
      exact ⟨rfl, hal⟩
     ·by_cases g5 : d = -150
      ·have b5 : (d == -150) = true := beq_iff_eq.mpr g5
       have hv : rvB c d = true := by unfold rvB mgn; rw [if_neg hc]; simp; omega
       rw [hv]; clear hv hc hcb
       have g6 := Lib.hid g5
       clear g5
       go_enter Tryz.func79, Tryz.ntmps79
       go_wp2
       go_ret
       exact ⟨rfl, hal⟩
      ·have b5 : (d == -150) = false := beq_eq_false_iff_ne.mpr g5
       have hv : rvB c d = false := by unfold rvB mgn; rw [if_neg hc]; simp; omega
       rw [hv]; clear hv hc hcb
       go_enter Tryz.func79, Tryz.ntmps79
       go_wp2
       go_ret
       exact ⟨rfl, hal⟩
  ·have hv : rvB c d = false := by unfold rvB mgn; rw [if_neg hc]; simp; omega
   rw [hv]; clear hv hc hcb
   go_enter Tryz.func79, Tryz.ntmps79
   go_wp2
   go_ret
   exact ⟨rfl, hal⟩
theorem rvB_real {c d : Int} (h0 : -9223372036854775808 ≤ c) (h1 : c ≤ 9223372036854775807) : rvB c d = true ↔ real_Valid.f c d = some true := by
 constructor
 ·intro h
  unfold rvB at h
  by_cases hc : c = 0
  ·rw [if_pos hc] at h; simp at h; subst hc h; rfl
  ·rw [if_neg hc] at h
   simp at h
   obtain ⟨g1, g2, g3, g4⟩ := h
   have hm : mx c (wrap64 (-c)) = mgn c := by
    unfold mgn at g1 ⊢
    unfold mx
    rw [wr64 (n := -c) (by split at g1 <;> omega) (by split at g1 <;> omega)]
    split <;> split <;> omega
   unfold real_Valid.f
   have hm1 : 1 ≤ mgn c := by unfold mgn; split <;> omega
   rw [if_neg (by simp [hc]), hm, if_neg (by omega), if_neg (by omega)]
   by_cases hd : d = -150
   ·rw [if_pos hd]
   ·rw [if_neg hd, if_pos (by omega), if_pos (by omega)]; simp [g3]
 ·intro h
  rcases valid_bd h0 h with ⟨rfl, rfl⟩ | ⟨g0, g1, g2, g3, g4, g5⟩
  ·rfl
  ·unfold rvB
   rw [if_neg g0]
   unfold mgn
   simp
   split <;> omega
theorem real_total (c d : Int) : ∃ b, real_Valid.f c d = some b := by
 unfold real_Valid.f
 repeat' split
 all_goals exact ⟨_, rfl⟩
end Go.Proofs.Q
end
section
namespace Go.Proofs.Q
open RowKit Pw Pl Pm
theorem take_next {α : Type} {l r : List α} {d : α} {j : Nat} (h : l.drop j = d :: r) : l.take (j + 1) = l.take j ++ [d] := by
 have hj := lt_drop h
 rw [List.take_add_one]
 have : l[j]? = some d := by
  have := congrArg (fun x => x[0]?) h
  simpa using this
 rw [this]; rfl
theorem prodOk_bad {l : List S54} {d : S54} (h : d ∈ l) (hd : d.f1 < d.f0) : ∀ n, prodOk l n = none := by
 induction l with
 | nil => cases h
 | cons e r ih =>
  intro n
  unfold prodOk
  by_cases he : ext e < 1 ∨ 1000 < ext e
  ·rw [if_pos he]
  ·rw [if_neg he]
   split
   ·rfl
   ·rcases List.mem_cons.1 h with rfl | h
    ·unfold ext at he; omega
    ·exact ih h _
theorem err_l2 (l : List S54) (hn : ∀ d ∈ l, near d) (hp : ∀ d ∈ l, d.f0 ≤ d.f1) (h4 : l.length ≤ 4) : ∀ (r : List S54) (j : Nat) (n : Int), l.drop j = r → 1 ≤ n → n ≤ 1000 → Ev (fun k => manorboyref08_Error.l2 k l n (j : Int)) (if prodOk r n = none then 3 else 0) := by
 intro r
 induction r with
 | nil =>
  intro j n h _ _
  refine Ev.one fun k => ?_
  simp only [manorboyref08_Error.l2, if_neg (not_lt_nil h), prodOk]
  rfl
 | cons d r ih =>
  intro j n h h1 h2
  have hj := lt_drop h
  have hm := mem_drop h
  obtain ⟨a1, a2, a3, a4⟩ := hn d hm
  have hle := hp d hm
  have e1 : wrap64 (d.f1 - d.f0) = d.f1 - d.f0 := wrap64_id (by omega) (by omega)
  have e2 : wrap64 (d.f1 - d.f0 + 1) = ext d := wrap64_id (by omega) (by omega)
  have e3 : wrap64 ((j : Int) + 1) = ((j + 1 : Nat) : Int) := by rw [wrap64_id (by omega) (by omega)]; rfl
  have hx : 1 ≤ ext d := by unfold ext; omega
  have c1 : (j : Int) < (l.length : Int) := by omega
  have c2 : (0 : Int) ≤ (j : Int) := by omega
  by_cases hbig : 1000 < ext d
  ·have em : mn (ext d) 1001 = 1001 := by unfold mn; split <;> omega
   have ew : wrap64 (n * 1001) = n * 1001 := wrap64_id (by omega) (by omega)
   refine Ev.one fun k => ?_
   simp only [manorboyref08_Error.l2, if_pos c1, if_pos c2, rdT_drop h, e1, e2, em, ew]
   have ep : prodOk (d :: r) n = none := by rw [prodOk, if_pos (by omega)]
   rw [ep, if_pos (by omega), if_pos rfl]
  ·have em : mn (ext d) 1001 = ext d := by unfold mn; split <;> omega
   have hlow : 1 ≤ n * ext d := by
    have := Int.mul_le_mul h1 hx (by omega) (by omega)
    simpa using this
   have hup : n * ext d ≤ 1000 * 1000 := Int.mul_le_mul h2 (by omega) (by omega) (by omega)
   have ew : wrap64 (n * ext d) = n * ext d := wrap64_id (by omega) (by omega)
   by_cases hc : 1000 < n * ext d
   ·refine Ev.one fun k => ?_
    simp only [manorboyref08_Error.l2, if_pos c1, if_pos c2, rdT_drop h, e1, e2, em, ew]
    have ep : prodOk (d :: r) n = none := by rw [prodOk, if_neg (by omega), if_pos hc]
    rw [ep, if_pos (by omega), if_pos rfl]
   ·have ep : prodOk (d :: r) n = prodOk r (n * ext d) := by rw [prodOk, if_neg (by omega), if_neg (by omega)]
    rw [ep]
    refine Ev.succ (ih (j + 1) (n * ext d) (drop_next h) hlow (by omega)) fun k => ?_
    simp only [manorboyref08_Error.l2, if_pos c1, if_pos c2, rdT_drop h, e1, e2, em, ew, e3]
    rw [if_neg (by omega)]
theorem err_l1 (l : List S54) (hn : ∀ d ∈ l, near d) (h4 : l.length ≤ 4) : ∀ (r : List S54) (j : Nat), l.drop j = r → (∀ d ∈ l.take j, d.f0 ≤ d.f1) → Ev (fun k => manorboyref08_Error.l1 k l 1 (j : Int)) (if prodOk l 1 = none then 3 else 0) := by
 intro r
 induction r with
 | nil =>
  intro j h ht
  have hj := List.drop_eq_nil_iff.1 h
  rw [List.take_of_length_le hj] at ht
  refine Ev.succ (err_l2 l hn ht h4 l 0 1 rfl (by omega) (by omega)) fun k => ?_
  simp only [manorboyref08_Error.l1, if_neg (not_lt_nil h)]
  rfl
 | cons d r ih =>
  intro j h ht
  have hj := lt_drop h
  have e3 : wrap64 ((j : Int) + 1) = ((j + 1 : Nat) : Int) := by rw [wrap64_id (by omega) (by omega)]; rfl
  have c1 : (j : Int) < (l.length : Int) := by omega
  have c2 : (0 : Int) ≤ (j : Int) := by omega
  by_cases hc : d.f1 < d.f0
  ·rw [if_pos (prodOk_bad (mem_drop h) hc 1)]
   refine Ev.one fun k => ?_
   simp only [manorboyref08_Error.l1, if_pos c1, if_pos c2, rdT_drop h]
   rw [if_pos (by omega)]
  ·refine Ev.succ (ih (j + 1) (drop_next h) ?_) fun k => ?_
   ·rw [take_next h]
    intro e he
    rcases List.mem_append.1 he with he | he
    ·exact ht e he
    ·rw [List.mem_singleton.1 he]; omega
   ·simp only [manorboyref08_Error.l1, if_pos c1, if_pos c2, rdT_drop h, e3]
    rw [if_neg (by omega)]
theorem far_near {d : S54} : dimFar d = false ↔ near d := by
 unfold dimFar farB near
 simp only [Bool.or_eq_false_iff, decide_eq_false_iff_not]
 omega
theorem err_l0 (l : List S54) (h1 : 1 ≤ l.length) (h4 : l.length ≤ 4) : ∀ (r : List S54) (j : Nat), l.drop j = r → (∀ d ∈ l.take j, near d) → Ev (fun k => manorboyref08_Error.l0 k l (j : Int)) (errOf l) := by
 intro r
 induction r with
 | nil =>
  intro j h ht
  have hj := List.drop_eq_nil_iff.1 h
  rw [List.take_of_length_le hj] at ht
  have hd : isDimsB l = true := by
   unfold isDimsB
   simp only [Bool.and_eq_true, decide_eq_true_eq, Bool.not_eq_true', List.any_eq_false]
   exact ⟨⟨h1, h4⟩, fun d hd => by rw [far_near.2 (ht d hd)]; simp⟩
  have := err_l1 l ht h4 l 0 rfl (by simp)
  unfold errOf
  rw [if_neg (by rw [hd]; simp)]
  refine Ev.succ this fun k => ?_
  simp only [manorboyref08_Error.l0, if_neg (not_lt_nil h)]
  rfl
 | cons d r ih =>
  intro j h ht
  have hj := lt_drop h
  have e3 : wrap64 ((j : Int) + 1) = ((j + 1 : Nat) : Int) := by rw [wrap64_id (by omega) (by omega)]; rfl
  have c1 : (j : Int) < (l.length : Int) := by omega
  have c2 : (0 : Int) ≤ (j : Int) := by omega
  by_cases hc : near d
  ·have hc' := hc
   obtain ⟨a1, a2, a3, a4⟩ := hc'
   refine Ev.succ (ih (j + 1) (drop_next h) ?_) fun k => ?_
   ·rw [take_next h]
    intro e he
    rcases List.mem_append.1 he with he | he
    ·exact ht e he
    ·rw [List.mem_singleton.1 he]; exact hc
   ·simp only [manorboyref08_Error.l0, if_pos c1, if_pos c2, rdT_drop h, e3]
    rw [if_neg (by omega), if_neg (by omega), if_neg (by omega), if_neg (by omega)]
  ·have hE : errOf l = 1 := by
    unfold errOf
    rw [if_pos]
    unfold isDimsB
    have : l.any dimFar = true := List.any_eq_true.2 ⟨d, mem_drop h, by
     cases hf : dimFar d with
     | true => rfl
     | false => exact absurd (far_near.1 hf) hc⟩
    rw [this]; simp
   rw [hE]
   refine Ev.one fun k => ?_
   simp only [manorboyref08_Error.l0, if_pos c1, if_pos c2, rdT_drop h]
   unfold near at hc
   by_cases b1 : d.f0 < -2147483647
   ·rw [if_pos b1]
   ·rw [if_neg b1]
    by_cases b2 : d.f0 > 2147483647
    ·rw [if_pos b2]
    ·rw [if_neg b2]
     by_cases b3 : d.f1 < -2147483647
     ·rw [if_pos b3]
     ·rw [if_neg b3, if_pos (by omega)]
/-- the specification's word on a list of dimensions -/
theorem ref_err (l : List S54) : Ev (fun k => manorboyref08_Error.f k l) (errOf l) := by
 by_cases h1 : 1 ≤ l.length
 ·by_cases h4 : l.length ≤ 4
  ·have := err_l0 l h1 h4 l 0 rfl (by simp)
   obtain ⟨K, hK⟩ := this
   refine ⟨K + 1, fun k hk => ?_⟩
   obtain ⟨k, rfl⟩ : ∃ m, k = m + 1 := ⟨k - 1, by omega⟩
   have hk := hK k (by omega)
   simp only [manorboyref08_Error.f, if_neg (show ¬ ((l.length : Int) < 1) by omega), show decide ((l.length : Int) > 4) = false by simp; omega, manorboyref08_Error.j0]
   simpa using hk
  ·have hE : errOf l = 1 := by unfold errOf isDimsB; rw [if_pos (by simp; omega)]
   rw [hE]
   refine Ev.one fun k => ?_
   simp only [manorboyref08_Error.f, if_neg (show ¬ ((l.length : Int) < 1) by omega), show decide ((l.length : Int) > 4) = true by simp; omega, manorboyref08_Error.j0, if_true]
 ·have hE : errOf l = 1 := by unfold errOf isDimsB; rw [if_pos (by simp; omega)]
  rw [hE]
  refine Ev.one fun k => ?_
  simp only [manorboyref08_Error.f, if_pos (show ((l.length : Int) < 1) by omega), manorboyref08_Error.j0, if_true]
end Go.Proofs.Q
end
