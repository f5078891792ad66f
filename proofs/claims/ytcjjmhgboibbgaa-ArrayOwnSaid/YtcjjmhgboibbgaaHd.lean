import Derived.Test.YtcjjmhgboibbgaaHc
import Derived.Outline
namespace Go.Proofs.Ytcjjmhgboibbgaa.Q
open Go.RowKit Go.Proofs.YtcjjmhgboibbgaaW.PrintWords Go.Proofs.YtcjjmhgboibbgaaW.PrintLast Go.Proofs.YtcjjmhgboibbgaaW.PrintMore
set_option linter.unusedVariables false
set_option linter.unusedSimpArgs false

theorem info3' : (Try.prog.info? 3).map (fun i => (i.zero, i.size, i.bytes)) = some (some (.int .i64 0), 1, 8) := by kernel_rfl
set_option maxHeartbeats 1000000 in
theorem strides_calls (A : Option Addr) (c : Nat) (l : List S40) (w : World) (hr : Kd.C k40 w A l.length l) (hc : l.length ≤ c) (hm : l.length ≤ 4) (hp : Proper l) (hq : prodOk l 1 = some (prodL l)) :
    Calls Try.prog 37 #[.slice A l.length c] w fun e w' => ∃ v : Value, e = .returned (.tuple #[v, .int .i64 (fstL l)]) ∧ Kd.R (Kd.int .i64) 3 w' w.heap.size (fun _ => True) v (strL l) ∧ Below w.heap.size w w' := by
  have HR := Lib.hid hr; clear hr
  have HPP := Lib.hid hp; clear hp
  have HQ := Lib.hid hq; clear hq
  have hmk := print_make (P := Try.prog) 23 3 .i64 8 Try.underlying23 info3' (by decide) l.length (by omega)
  go_enter Try.func37, Try.ntmps37
  go_wp2_with (go_at_call 35; refine (sizes_ok _ _ l _ _ HR.out hc hm HPP.out.1 HQ.out).mono ?_; rintro e w2 ⟨x0, x1, x2, x3, rfl, hb2, hb3⟩; (have HX := Lib.hid hb3); clear hb3; (have HB := Lib.hid hb2); clear hb2)
  go_loopw [8, 9, 10] (fun n f i wr => ∃ (z : Int) (j : Nat), i = .int .i64 z ∧ -1 ≤ z ∧ z < l.length ∧ Hid (z = (j : Int) - 1 ∧ j ≤ l.length) ∧ n = .int .i64 (prodL (l.drop j)) ∧ f = .int .i64 (fstL (l.drop j)) ∧
      Hid (Below w.heap.size w wr) ∧ Hid (wr.ownsRow w.heap.size 3 1 (.slice (some ⟨w2.heap.size + 1, 0, none⟩) l.length l.length) l.length (nums .i64 (List.replicate j 0 ++ strL (l.drop j)))) ∧ Hid (Four wr w2.heap.size 71 [x0, x1, x2, x3]))
    (fun _ _ i _ => (intOf i + 1).toNat)
  case atStart =>
    refine ⟨_, l.length, rfl, by omega, by omega, Lib.hid ⟨by omega, Nat.le_refl _⟩, by simp [prodL], by simp [fstL], ?_, ?_, ?_⟩
    · exact Lib.hid (below_alloc (below_alloc HB.out _) _)
    · have := own_made (w2.alloc (.cells #[.int .i64 x0, .int .i64 x1, .int .i64 x2, .int .i64 x3] 71)) w.heap.size 3 .i64 l.length (by have := HB.out.size; rw [World.size_alloc]; omega) (by omega)
      rw [World.size_alloc] at this
      simpa [strL] using Lib.hid this
    · exact Lib.hid ((Four.new _ _ _ _ _ _).alloc _)
  case round =>
    obtain ⟨z, j, rfl, hz1, hz2, HZ, rfl, rfl, HB2, HO, HF⟩ := hrel
    by_cases hz : 0 ≤ z
    · obtain ⟨k, hk⟩ : ∃ k : Nat, j = k + 1 := ⟨j - 1, by have := HZ.out; omega⟩
      subst hk
      obtain rfl : z = (k : Int) := by have := HZ.out; omega
      have hlt : k < l.length := by omega
      obtain ⟨ad, e1, h0, _⟩ := at_T40 HR.out (k : Int) (by omega) (by omega)
      have ek : rd_T40 l (k : Int) = l[k] := by simp [rd_T40, List.getD, hlt]
      rw [ek] at h0
      cases e1
      replace h0 := (HB2.out.cell (World.block_lt_of_cell? w _ h0)).trans h0
      simp only [Int.toNat_natCast] at h0
      have hn := HPP.out.1 _ (List.getElem_mem hlt)
      have he := HPP.out.2.1 _ (List.getElem_mem hlt)
      have hcons := List.drop_eq_getElem_cons hlt
      have hpd := HPP.out.drop (k + 1)
      have hpk := HPP.out.drop k
      have fb := fstL_bd _ hpd
      rw [List.length_drop] at fb
      have pb1 := hpd.pos
      have pb2 := hpd.2.2
      have pk1 := hpk.pos
      have pk2 := hpk.2.2
      have hX := HX.out k (by omega)
      rw [List.getElem?_eq_getElem hlt] at hX
      have hcell := HF.out.cell k (by omega)
      have hcv : [x0, x1, x2, x3].getD k 0 = ext l[k] := by rw [List.getD, hX]; rfl
      rw [hcv] at hcell
      obtain ⟨ho1, ho2⟩ := own_at HO.out (k : Int) (by omega) (by omega)
      have hst := (own_store HO.out (k : Int) (prodL (l.drop (k + 1)))).1
      simp only [Int.toNat_natCast] at ho1 ho2 hst
      have hset : (List.replicate (k + 1) 0 ++ strL (l.drop (k + 1))).set k (prodL (l.drop (k + 1))) = List.replicate k 0 ++ strL (l.drop k) := by
        rw [hcons, strL, List.replicate_succ', List.append_assoc]
        rw [List.set_append_right _ _ (by simp)]
        simp
      rw [hset] at hst
      have hfar := HF.out.far (p := ⟨w2.heap.size + 1, k, none⟩) (by simp) (.int .i64 (prodL (l.drop (k + 1))))
      have hcell2 := hfar.cell k (by omega)
      rw [hcv] at hcell2
      have hadl : ad.block < w.heap.size := by
        obtain ⟨ad', e2, g0, _⟩ := at_T40 HR.out (k : Int) (by omega) (by omega)
        cases e2
        have := World.block_lt_of_cell? w _ g0
        rwa [add_block] at this
      have hsz2 := HB.out.size
      have h02 : (wr.setCell ⟨w2.heap.size + 1, k, none⟩ (.int .i64 (prodL (l.drop (k + 1))))).cell? (ad.add (k * 2)) = some (.int .i64 l[k].f0) := by
        rw [World.cell?_setCell_other]
        · exact h0
        · intro he
          have := congrArg Addr.block he
          rw [add_block] at this
          simp at this
          omega
      have mb := mul_bd _ l[k].f0 pb1 pb2 hn.1 hn.2.1
      have hpe : prodL (l.drop k) = prodL (l.drop (k + 1)) * ext l[k] := by rw [hcons, prodL, Int.mul_comm]
      have hfe : fstL (l.drop k) = fstL (l.drop (k + 1)) - prodL (l.drop (k + 1)) * l[k].f0 := by rw [hcons, fstL]
      rw [hpe] at pk1 pk2
      obtain ⟨fb1, fb2⟩ := fb
      have HPE := Lib.hid hpe; have HFE := Lib.hid hfe
      have HST := Lib.hid hst; have HFR := Lib.hid hfar
      clear hpe hfe hst hfar hset hcell hcv hX hcons hn he hpd hpk ek h0
      generalize prodL (l.drop (k + 1)) = pp at *
      generalize fstL (l.drop (k + 1)) = ff at *
      generalize l[k].f0 = dl at *
      generalize ext l[k] = de at *
      have fb3 : ff - pp * dl ≤ 9223372036854775807 := by omega
      have fb4 : -9223372036854775808 ≤ ff - pp * dl := by omega
      clear fb1 fb2
      go_wp2
      go_roundw
      case rel => exact ⟨_, k, rfl, by omega, by omega, Lib.hid ⟨by omega, by omega⟩, by rw [HPE.out], by rw [HFE.out], Lib.hid (below_set HB2.out (by omega)), HST, HFR⟩
      case measure => simp [intOf]
    · have hj : Hid (j = 0) := Lib.hid (by have := HZ.out; omega)
      have hj0 := hj.out; subst hj0
      simp only [List.drop_zero, List.replicate_zero, List.nil_append] at HO ⊢
      have hl := strL_length l
      have HO2 : Hid (Kd.R (Kd.int .i64) 3 wr w.heap.size (fun _ => True) (.slice (some ⟨w2.heap.size + 1, 0, none⟩) l.length l.length) (strL l)) := Lib.hid (Kd.R_of_own (enc := Value.int .i64) (h1 := fun _ => rfl) (by rw [hl]; exact HO.out) (fun _ _ => trivial))
      clear hl hj
      go_wp2
      go_ret2
      exact ⟨_, rfl, HO2.out, HB2.out⟩
end Go.Proofs.Ytcjjmhgboibbgaa.Q
