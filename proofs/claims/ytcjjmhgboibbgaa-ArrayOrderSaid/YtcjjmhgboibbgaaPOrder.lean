import Derived.Test.YtcjjmhgboibbgaaPDa
import Derived.Test.YtcjjmhgboibbgaaQ15
namespace Go.Proofs.Ytcjjmhgboibbgaa.Q
open Go.RowKit Go.Proofs.Rf Go.Proofs.YtcjjmhgboibbgaaW.PrintWords Go.Proofs.YtcjjmhgboibbgaaW.PrintLast Go.Proofs.YtcjjmhgboibbgaaW.PrintMore
set_option linter.unusedVariables false
set_option linter.unusedSimpArgs false
theorem sanity_f : manorboylaw08_sanity.f = some true := rfl
/-! ### the order -/
theorem less_l (l : List S40) (hp : Proper l) (h4 : l.length ≤ 4) (A B : List Int) (hA : A.length = l.length) (hB : B.length = l.length) : ∀ (r : List S40) (j : Nat) (m n : Int), l.drop j = r → A.drop j = subsAt r m → B.drop j = subsAt r n → 0 ≤ m → m < prodL r → 0 ≤ n → n < prodL r → Ev (fun k => manorboylaw08_less.l0 k A B (j : Int)) (decide (m < n)) := by
  intro r
  induction r with
  | nil =>
    intro j m n h ha hb m0 m1 n0 n1
    simp only [prodL] at m1 n1
    have hj := List.drop_eq_nil_iff.1 h
    have c : ¬ ((j : Int) < (A.length : Int)) := by omega
    refine Ev.one fun k => ?_
    simp only [manorboylaw08_less.l0, if_neg c, show decide (m < n) = false from decide_eq_false (by omega)]
  | cons d r ih =>
    intro j m n h ha hb m0 m1 n0 n1
    have hj := lt_drop h
    have hr : Proper r := by rw [← drop_next h]; exact hp.drop _
    have hP := hr.pos
    obtain ⟨x1, x2, x3, x4⟩ := div_lt (e := ext d) m0 hP m1
    obtain ⟨y1, y2, y3, y4⟩ := div_lt (e := ext d) n0 hP n1
    have em := Int.mul_ediv_add_emod m (prodL r)
    have en := Int.mul_ediv_add_emod n (prodL r)
    simp only [subsAt] at ha hb
    have c1 : (j : Int) < (A.length : Int) := by omega
    have c2 : (0 : Int) ≤ (j : Int) := by omega
    have c3 : (j : Int) < (B.length : Int) := by omega
    by_cases hq : m / prodL r = n / prodL r
    · rw [hq] at em
      have e : decide (m < n) = decide (m % prodL r < n % prodL r) := by
        by_cases hlt : m % prodL r < n % prodL r
        · rw [decide_eq_true hlt, decide_eq_true (by omega)]
        · rw [decide_eq_false hlt, decide_eq_false (by omega)]
      rw [e]
      refine Ev.succ (ih (j + 1) _ _ (drop_next h) (drop_next ha) (drop_next hb) x3 x4 y3 y4) fun k => ?_
      simp only [manorboylaw08_less.l0, if_pos c1, if_pos c2, if_pos c3, rd_drop ha, rd_drop hb, hq, if_true, wrap_next (j := j) (by omega)]
    · have hne : ¬ (d.f0 + m / prodL r = d.f0 + n / prodL r) := by omega
      have e : decide (d.f0 + m / prodL r < d.f0 + n / prodL r) = decide (m < n) := by
        rcases Int.lt_or_gt_of_ne hq with hlt | hgt
        · have := Int.mul_le_mul_of_nonneg_left (show m / prodL r + 1 ≤ n / prodL r by omega) (show 0 ≤ prodL r by omega)
          rw [Int.mul_add] at this
          rw [decide_eq_true (by omega), decide_eq_true (by omega)]
        · have := Int.mul_le_mul_of_nonneg_left (show n / prodL r + 1 ≤ m / prodL r by omega) (show 0 ≤ prodL r by omega)
          rw [Int.mul_add] at this
          rw [decide_eq_false (by omega), decide_eq_false (by omega)]
      refine Ev.one fun k => ?_
      simp only [manorboylaw08_less.l0, if_pos c1, if_pos c2, if_pos c3, rd_drop ha, rd_drop hb, if_neg hne, e]
theorem less_ev (l : List S40) (hp : Proper l) (h4 : l.length ≤ 4) (m n : Int) (m0 : 0 ≤ m) (m1 : m < prodL l) (n0 : 0 ≤ n) (n1 : n < prodL l) : Ev (fun k => manorboylaw08_less.f k (subsAt l m) (subsAt l n)) (decide (m < n)) :=
  less_l l hp h4 _ _ (subsAt_len l m) (subsAt_len l n) l 0 m n rfl rfl rfl m0 m1 n0 n1
theorem subsAt_zero : ∀ l : List S40, subsAt l 0 = l.map (·.f0)
  | [] => rfl
  | d :: r => by simp [subsAt, subsAt_zero r]
theorem order_l0 (l : List S40) (h4 : l.length ≤ 4) (x1 x3 : Int) (x18 : List Int) (hend : Ev (fun k => manorboylaw08_ArrayOrder.j3 k l x1 x3 (subsAt l 0) x18) true) : ∀ (r : List S40) (j : Nat), l.drop j = r → Ev (fun k => manorboylaw08_ArrayOrder.l0 k l x1 x3 (subsAt l 0) x18 (j : Int)) true := by
  intro r
  have hl : ((subsAt l 0).length : Int) = (l.length : Int) := by rw [subsAt_len]
  induction r with
  | nil =>
    intro j h
    refine Ev.succ hend fun k => ?_
    simp only [manorboylaw08_ArrayOrder.l0, hl, if_neg (not_lt_nil h)]
  | cons d r ih =>
    intro j h
    have hj := lt_drop h
    have c1 : (j : Int) < (l.length : Int) := by omega
    have c2 : (0 : Int) ≤ (j : Int) := by omega
    have e : rd (subsAt l 0) (j : Int) = d.f0 := by
      have : (subsAt l 0).drop j = d.f0 :: r.map (·.f0) := by rw [subsAt_zero, ← List.map_drop, h]; rfl
      exact rd_drop this
    refine Ev.succ (ih (j + 1) (drop_next h)) fun k => ?_
    simp only [manorboylaw08_ArrayOrder.l0, hl, if_pos c1, if_pos c2, e, rdT_drop h, if_true, wrap_next (j := j) (by omega)]
/-! ### one step on -/
theorem plc_set : ∀ (l : List S40) (ks : List Int) (j : Nat), ks.length = l.length → ∀ (d : S40) (r : List S40), l.drop j = d :: r → plc l (ks.set j (rd ks (j : Int) + 1)) = plc l ks + prodL r
  | [], _, j, _, d, r, h => by simp at h
  | e :: l, [], j, hl, d, r, h => by simp at hl
  | e :: l, k :: ks, 0, hl, d, r, h => by
    simp only [List.drop_zero, List.cons.injEq] at h
    obtain ⟨rfl, rfl⟩ := h
    have : rd (k :: ks) ((0 : Nat) : Int) = k := rfl
    rw [this]
    simp only [List.set_cons_zero, plc, Int.mul_sub, Int.mul_add]
    omega
  | e :: l, k :: ks, j + 1, hl, d, r, h => by
    have h' : l.drop j = d :: r := by simpa using h
    have ih := plc_set l ks j (by simpa using hl) d r h'
    have e1 : rd (k :: ks) ((j + 1 : Nat) : Int) = rd ks (j : Int) := by
      simp only [rd]
      rfl
    rw [e1]
    simp only [List.set_cons_succ, plc]
    rw [ih]
    omega
theorem inB_set : ∀ (l : List S40) (ks : List Int) (j : Nat) (x : Int), inB l ks = true → ∀ (d : S40) (r : List S40), l.drop j = d :: r → rd ks (j : Int) ≤ x → inB l (ks.set j x) = decide (x ≤ d.f1)
  | [], _, j, x, _, d, r, h, _ => by simp at h
  | e :: l, [], j, x, hb, d, r, h, _ => by simp [inB] at hb
  | e :: l, k :: ks, 0, x, hb, d, r, h, hx => by
    simp only [List.drop_zero, List.cons.injEq] at h
    obtain ⟨rfl, rfl⟩ := h
    have e1 : rd (k :: ks) ((0 : Nat) : Int) = k := rfl
    rw [e1] at hx
    simp only [inB, Bool.and_eq_true, decide_eq_true_eq] at hb
    simp only [List.set_cons_zero, inB, hb.2, Bool.and_true]
    by_cases hc : x ≤ e.f1
    · rw [decide_eq_true hc, decide_eq_true (by omega)]
    · rw [decide_eq_false hc, decide_eq_false (by omega)]
  | e :: l, k :: ks, j + 1, x, hb, d, r, h, hx => by
    have h' : l.drop j = d :: r := by simpa using h
    simp only [inB, Bool.and_eq_true, decide_eq_true_eq] at hb
    have e1 : rd (k :: ks) ((j + 1 : Nat) : Int) = rd ks (j : Int) := by
      simp only [rd]
      rfl
    rw [e1] at hx
    have ih := inB_set l ks j x hb.2 d r h' hx
    simp only [List.set_cons_succ, inB, ih, decide_eq_true hb.1, Bool.true_and]
theorem rd_set (ks : List Int) (j : Nat) (x : Int) (hj : j < ks.length) : rd (ks.set j x) (j : Int) = x := by
  simp [rd, List.getD, hj]
theorem rd_in : ∀ (l : List S40) (ks : List Int) (j : Nat), inB l ks = true → ∀ (d : S40) (r : List S40), l.drop j = d :: r → d.f0 ≤ rd ks (j : Int) ∧ rd ks (j : Int) ≤ d.f1
  | [], _, j, _, d, r, h => by simp at h
  | e :: l, [], j, hb, d, r, h => by simp [inB] at hb
  | e :: l, k :: ks, 0, hb, d, r, h => by
    simp only [List.drop_zero, List.cons.injEq] at h
    obtain ⟨rfl, rfl⟩ := h
    simp only [inB, Bool.and_eq_true, decide_eq_true_eq] at hb
    exact hb.1
  | e :: l, k :: ks, j + 1, hb, d, r, h => by
    have h' : l.drop j = d :: r := by simpa using h
    simp only [inB, Bool.and_eq_true, decide_eq_true_eq] at hb
    have := rd_in l ks j hb.2 d r h'
    simp only [rd] at this ⊢
    exact this
theorem order_j3 {l : List S40} (he : errOf l = 0) (m a3 : Int) (m0 : 0 ≤ m) (m1 : m < prodL l) (h3 : 0 ≤ a3 ∧ a3 ≤ 255) : Ev (fun k => manorboylaw08_ArrayOrder.j3 k l m a3 (subsAt l m) (strL l)) true := by
  obtain ⟨_, hp, _, hl1, hl4⟩ := errOf_zero he
  have w3 : wrap64 a3 = a3 := wrap64_id (by omega) (by omega)
  obtain ⟨j, hj⟩ : ∃ j : Nat, Int.tmod a3 (l.length : Int) = (j : Int) := ⟨(Int.tmod a3 (l.length : Int)).toNat, by
    rw [Int.tmod_eq_emod_of_nonneg h3.1]
    have := Int.emod_nonneg a3 (show (l.length : Int) ≠ 0 by omega)
    omega⟩
  have hjl : j < l.length := by
    have := Int.emod_lt_of_pos a3 (show 0 < (l.length : Int) by omega)
    rw [Int.tmod_eq_emod_of_nonneg h3.1] at hj
    omega
  obtain ⟨d, r, hd⟩ : ∃ d r, l.drop j = d :: r := ⟨_, _, List.drop_eq_getElem_cons hjl⟩
  have hin := inB_subs l (ext_pos hp) m m0 m1
  have hpl := plc_subs l (ext_pos hp) m m0 m1
  have hr := rd_in l _ j hin d r hd
  have hn := hp.1 d (mem_drop hd)
  unfold near at hn
  have hpr : Proper r := by rw [← drop_next hd]; exact hp.drop _
  have w5 : wrap64 (rd (subsAt l m) (j : Int) + 1) = rd (subsAt l m) (j : Int) + 1 := wrap64_id (by omega) (by omega)
  have c0 : ¬ ((l.length : Int) = 0) := by omega
  have c1 : (0 : Int) ≤ (j : Int) := by omega
  have c2 : (j : Int) < (l.length : Int) := by omega
  have hsl : ((subsAt l m).length : Int) = (l.length : Int) := by rw [subsAt_len]
  have hstl : ((strL l).length : Int) = (l.length : Int) := by rw [strL_length]
  have hset := rd_set (subsAt l m) j (rd (subsAt l m) (j : Int) + 1) (by rw [subsAt_len]; exact hjl)
  have hinS := inB_set l (subsAt l m) j (rd (subsAt l m) (j : Int) + 1) hin d r hd (by omega)
  have hplS := plc_set l (subsAt l m) j (subsAt_len l m) d r hd
  have hlenS : ((subsAt l m).set j (rd (subsAt l m) (j : Int) + 1)).length = l.length := by rw [List.length_set, subsAt_len]
  have hle := hp.2.2
  have w6 : wrap64 (m + prodL r) = m + prodL r := wrap64_id (by have := hpr.pos; omega) (by have := hpr.2.2; omega)
  refine Ev.one fun k => ?_
  simp only [manorboylaw08_ArrayOrder.j3, w3, hj, if_neg c0, if_pos c1, hsl, if_pos c2, Option.bind_some, Int.toNat_natCast, w5, array_Offset.f, if_pos he, hset, rdT_drop hd, offF_eq, if_pos hlenS, hinS, hplS, hpl, sanity_f, if_true, hstl, strL_rd hd, w6]
  by_cases hc : rd (subsAt l m) (j : Int) + 1 ≤ d.f1
  · rw [if_neg (by omega), if_pos (decide_eq_true hc)]
    simp
  · rw [if_pos (by omega), if_neg (by simp; omega)]
    rfl
/-- The law ArrayOrder, with no program in sight. -/
theorem pure_order (l : List S40) (a1 a2 a3 : Int) (_ : (Lit.int .i64 a1).wf = true) (_ : (Lit.int .i64 a2).wf = true) (w : (Lit.int .u8 a3).wf = true) : ∃ k, manorboylaw08_ArrayOrder.f k l a1 a2 a3 = some true := by
  have h3 : 0 ≤ a3 ∧ a3 ≤ 255 := by
    simp only [Lit.wf, IntKind.min, IntKind.max, IntKind.signed, IntKind.bits, Bool.and_eq_true, decide_eq_true_eq] at w
    simpa using w
  by_cases he : errOf l = 0
  · obtain ⟨_, hp, _, hl1, hl4⟩ := errOf_zero he
    have hP := hp.pos
    have e1 : array_Size.f l = some (prodL l, 0) := by rw [array_Size.f, if_pos he]
    have c6 : ¬ ((l.length : Int) > 6) := by omega
    by_cases ha1 : a1 < 0
    · refine ⟨1, ?_⟩
      simp only [manorboylaw08_ArrayOrder.f, e1, Option.bind_some, if_neg c6, if_true, if_pos ha1, manorboylaw08_ArrayOrder.j0, sanity_f]
    · by_cases ha2 : a2 < 0
      · refine ⟨1, ?_⟩
        simp only [manorboylaw08_ArrayOrder.f, e1, Option.bind_some, if_neg c6, if_true, if_neg ha1, decide_eq_true ha2, manorboylaw08_ArrayOrder.j0, sanity_f]
      · obtain ⟨m, hm⟩ : ∃ m, Int.tmod a1 (prodL l) = m := ⟨_, rfl⟩
        obtain ⟨n, hn⟩ : ∃ n, Int.tmod a2 (prodL l) = n := ⟨_, rfl⟩
        have m0 : 0 ≤ m := by rw [← hm, Int.tmod_eq_emod_of_nonneg (by omega)]; exact Int.emod_nonneg _ (by omega)
        have m1 : m < prodL l := by rw [← hm, Int.tmod_eq_emod_of_nonneg (by omega)]; exact Int.emod_lt_of_pos _ (by omega)
        have n0 : 0 ≤ n := by rw [← hn, Int.tmod_eq_emod_of_nonneg (by omega)]; exact Int.emod_nonneg _ (by omega)
        have n1 : n < prodL l := by rw [← hn, Int.tmod_eq_emod_of_nonneg (by omega)]; exact Int.emod_lt_of_pos _ (by omega)
        obtain ⟨K1, h1⟩ := less_ev l hp hl4 m n m0 m1 n0 n1
        have s1 : array_SubscriptsH.f l m = some (subsAt l m, 0) := by rw [subs_ok he, if_pos ⟨m0, m1⟩]
        have s2 : array_SubscriptsH.f l n = some (subsAt l n, 0) := by rw [subs_ok he, if_pos ⟨n0, n1⟩]
        have o1 : array_Offset.f l (subsAt l m) = some (m, 0) := by rw [array_Offset.f, if_pos he, offF_eq, if_pos (subsAt_len l m), if_pos (inB_subs l (ext_pos hp) m m0 m1), plc_subs l (ext_pos hp) m m0 m1]
        have o2 : array_Offset.f l (subsAt l n) = some (n, 0) := by rw [array_Offset.f, if_pos he, offF_eq, if_pos (subsAt_len l n), if_pos (inB_subs l (ext_pos hp) n n0 n1), plc_subs l (ext_pos hp) n n0 n1]
        have st : array_Strides.f l = some (strL l, fstL l, 0) := by rw [array_Strides.f, if_pos he]
        have hj3 := order_j3 he m a3 m0 m1 h3
        have hj1 : Ev (fun k => manorboylaw08_ArrayOrder.j1 k l m a3 (subsAt l m) (strL l) false) true := by
          by_cases hz : m = 0
          · subst hz
            refine Ev.succ (order_l0 l hl4 0 a3 (strL l) hj3 l 0 rfl) fun k => ?_
            simp only [manorboylaw08_ArrayOrder.j1, Bool.false_eq_true, if_false, if_true]
            rfl
          · refine Ev.succ hj3 fun k => ?_
            simp only [manorboylaw08_ArrayOrder.j1, Bool.false_eq_true, if_false, if_neg hz]
        obtain ⟨K2, h2⟩ := hj1
        refine ⟨K1 + K2 + 1, ?_⟩
        have a1' := h1 (K1 + K2) (by omega)
        have a2' := h2 (K1 + K2) (by omega)
        simp only [manorboylaw08_ArrayOrder.f, e1, Option.bind_some, if_neg c6, if_true, if_neg ha1, decide_eq_false ha2, manorboylaw08_ArrayOrder.j0, Bool.false_eq_true, if_false, if_neg (show ¬ prodL l ≤ 0 by omega), if_neg (show ¬ prodL l = 0 by omega), hm, hn, s1, s2, o1, o2, st, a1', bne_self_eq_false, strL_length]
        exact a2'
  · have e1 : array_Size.f l = some (0, errOf l) := by rw [array_Size.f, if_neg he]
    refine ⟨1, ?_⟩
    simp only [manorboylaw08_ArrayOrder.f, e1, Option.bind_some, if_neg he, manorboylaw08_ArrayOrder.j0, if_true, sanity_f]
    split <;> rfl
end Go.Proofs.Ytcjjmhgboibbgaa.Q
