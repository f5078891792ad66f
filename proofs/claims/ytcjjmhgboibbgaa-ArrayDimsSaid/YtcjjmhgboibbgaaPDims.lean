import Derived.Test.YtcjjmhgboibbgaaPDb
import Derived.Test.YtcjjmhgboibbgaaQ13
namespace Go.Proofs.Ytcjjmhgboibbgaa.Q
open Go.RowKit Go.Proofs.Rf Go.Proofs.YtcjjmhgboibbgaaW.PrintWords Go.Proofs.YtcjjmhgboibbgaaW.PrintLast Go.Proofs.YtcjjmhgboibbgaaW.PrintMore
set_option linter.unusedVariables false
set_option linter.unusedSimpArgs false
theorem sanity_f : manorboylaw08_sanity.f = some true := rfl
theorem same_ints (a : List Int) (h4 : a.length ≤ 1000) : Ev (fun k => manorboylaw08_sameInts.f k a a) true := by
  obtain ⟨K, h⟩ := same_ints_l a h4 a 0 rfl
  refine ⟨K, fun k hk => ?_⟩
  show manorboylaw08_sameInts.f k a a = some true
  unfold manorboylaw08_sameInts.f
  rw [if_pos rfl]
  exact h k hk
/-! ### the linear form -/
def dot : List Int → List Int → Int
  | x :: r, y :: q => x * y + dot r q
  | _, _ => 0
theorem dot_plc : ∀ (l : List S40) (s : List Int), s.length = l.length → fstL l + dot (strL l) s = plc l s
  | [], [], _ => rfl
  | d :: r, k :: s, h => by
    have ih := dot_plc r s (by simpa using h)
    simp only [fstL, strL, dot, plc, Int.mul_sub]
    omega
theorem strL_bd : ∀ (l : List S40), Proper l → ∀ x ∈ strL l, 1 ≤ x ∧ x ≤ 1000
  | [], _, x, h => by simp [strL] at h
  | d :: r, hp, x, h => by
    have hr : Proper r := hp.drop 1
    simp only [strL, List.mem_cons] at h
    rcases h with rfl | h
    · exact ⟨hr.pos, hr.2.2⟩
    · exact strL_bd r hr x h
theorem inB_bd : ∀ (l : List S40), (∀ d ∈ l, near d) → ∀ s, inB l s = true → ∀ y ∈ s, -2147483647 ≤ y ∧ y ≤ 2147483647
  | [], _, [], _, y, h => by cases h
  | [], _, _ :: _, h, _, _ => by simp [inB] at h
  | _ :: _, _, [], h, _, _ => by simp [inB] at h
  | d :: r, hn, k :: s, hb, y, h => by
    simp only [inB, Bool.and_eq_true, decide_eq_true_eq] at hb
    have := hn d (by simp)
    unfold near at this
    rcases List.mem_cons.1 h with rfl | h
    · omega
    · exact inB_bd r (fun d hd => hn d (by simp [hd])) s hb.2 y h
theorem dims_l1 (x13 : List Int) (x14 : Int) (x17 : List (List Int)) (x20 : Nat) (s : List Int) (rest : List (List Int)) (hs : x17.drop x20 = s :: rest) (h13 : x13.length ≤ 4) (hl : s.length = x13.length) (h17 : x17.length ≤ 1000)
    (hx : ∀ x ∈ x13, 1 ≤ x ∧ x ≤ 1000) (hy : ∀ y ∈ s, -2147483647 ≤ y ∧ y ≤ 2147483647)
    (hend : Ev (fun k => manorboylaw08_ArrayDims.l0 k x13 x14 x17 ((x20 + 1 : Nat) : Int)) true) :
    ∀ (r q : List Int) (i : Nat) (sum : Int), x13.drop i = r → s.drop i = q → -2147483647000 * (4 + (i : Int)) ≤ sum → sum ≤ 2147483647000 * (4 + (i : Int)) → sum + dot r q = (x20 : Int) → Ev (fun k => manorboylaw08_ArrayDims.l1 k x13 x14 x17 (x20 : Int) sum (i : Int)) true := by
  have h20 := lt_drop hs
  have b1 : (0 : Int) ≤ (x20 : Int) := by omega
  have b2 : (x20 : Int) < (x17.length : Int) := by omega
  intro r
  induction r with
  | nil =>
    intro q i sum h hq hlo hhi he
    have hi := List.drop_eq_nil_iff.1 h
    have hq2 : q = [] := by rw [← hq]; exact List.drop_eq_nil_iff.2 (by omega)
    subst hq2
    simp only [dot] at he
    refine Ev.succ hend fun k => ?_
    simp only [manorboylaw08_ArrayDims.l1, if_neg (not_lt_nil h), wrap_next (j := x20) (by omega)]
    rw [if_pos (by omega)]
  | cons x r ih =>
    intro q i sum h hq hlo hhi he
    have hi := lt_drop h
    cases q with
    | nil => have := List.drop_eq_nil_iff.1 hq; omega
    | cons y q =>
      have hi2 := lt_drop hq
      have c1 : (i : Int) < (x13.length : Int) := by omega
      have c2 : (0 : Int) ≤ (i : Int) := by omega
      have c3 : (i : Int) < (s.length : Int) := by omega
      obtain ⟨g1, g2⟩ := hx x (mem_drop h)
      obtain ⟨g3, g4⟩ := hy y (mem_drop hq)
      have hm := mul_bd x y g1 g2 g3 g4
      have w1 : wrap64 (x * y) = x * y := wrap64_id (by omega) (by omega)
      have w2 : wrap64 (sum + x * y) = sum + x * y := wrap64_id (by omega) (by omega)
      simp only [dot] at he
      refine Ev.succ (ih q (i + 1) (sum + x * y) (drop_next h) (drop_next hq) (by push_cast; omega) (by push_cast; omega) (by omega)) fun k => ?_
      simp only [manorboylaw08_ArrayDims.l1, if_pos c1, if_pos c2, if_pos b1, if_pos b2, rdL_drop hs, if_pos c3, rd_drop h, rd_drop hq, w1, w2, wrap_next (j := i) (by omega)]
theorem dims_l0 (l : List S40) (he : errOf l = 0) : ∀ (q : List (List Int)) (j : Nat), (allS l).drop j = q → Ev (fun k => manorboylaw08_ArrayDims.l0 k (strL l) (fstL l) (allS l) (j : Int)) true := by
  obtain ⟨_, hp, _, h1, h4⟩ := errOf_zero he
  have hlen := allS_len2 l (ext_pos hp)
  have hle := hp.2.2
  intro q
  induction q with
  | nil =>
    intro j h
    refine Ev.one fun k => ?_
    have hl : ((strL l).length : Int) = (l.length : Int) := by rw [strL_length]
    have w : wrap64 ((l.length : Int) - 1) = ((l.length - 1 : Nat) : Int) := by rw [wrap64_id (by omega) (by omega)]; omega
    have c1 : (0 : Int) ≤ ((l.length - 1 : Nat) : Int) := by omega
    have c2 : ((l.length - 1 : Nat) : Int) < (l.length : Int) := by omega
    have hd : ∃ d, l.drop (l.length - 1) = [d] := by
      have : (l.drop (l.length - 1)).length = 1 := by simp; omega
      match hq : l.drop (l.length - 1), this with
      | [d], _ => exact ⟨d, rfl⟩
    obtain ⟨d, hd⟩ := hd
    simp only [manorboylaw08_ArrayDims.l0, if_neg (not_lt_nil h), sanity_f, Option.bind_some, if_true, hl, w, if_pos c1, if_pos c2, strL_rd hd, prodL]
    rfl
  | cons s q ih =>
    intro j h
    have hj := lt_drop h
    have c1 : (j : Int) < ((allS l).length : Int) := by omega
    have hsj : (allS l)[j]? = some s := by
      have := congrArg (fun x => x[0]?) h
      simpa using this
    have hget := allS_get l (ext_pos hp) j (by omega)
    rw [hsj] at hget
    have hse : s = subsAt l j := Option.some.inj hget
    have hin : inB l s = true := by rw [hse]; exact inB_subs l (ext_pos hp) j (by omega) (by omega)
    have hpl : plc l s = j := by rw [hse]; exact plc_subs l (ext_pos hp) j (by omega) (by omega)
    have hsl := inB_len l s hin
    have hf := fstL_bd l hp
    have hdot := dot_plc l s hsl
    refine Ev.succ (dims_l1 (strL l) (fstL l) (allS l) j s q h (by rw [strL_length]; exact h4) (by rw [strL_length]; exact hsl) (by omega) (strL_bd l hp) (inB_bd l hp.1 s hin) (ih (j + 1) (drop_next h)) (strL l) s 0 (fstL l) rfl rfl (by simp; omega) (by simp; omega) (by omega)) fun k => ?_
    simp only [manorboylaw08_ArrayDims.l0, if_pos c1]
    rfl
/-- The law ArrayDims, with no program in sight. -/
theorem pure_dims (l : List S40) (ks : List Int) (a : Int) (_ : (Lit.int .i64 a).wf = true) : ∃ k, manorboylaw08_ArrayDims.f k l ks a = some true := by
  obtain ⟨w, hw, hw6⟩ := few_word l ks
  cases w with
  | false => exact ⟨1, by simp only [manorboylaw08_ArrayDims.f, hw, Option.bind_some, Bool.false_eq_true, if_false, sanity_f]⟩
  | true =>
    obtain ⟨K1, h1⟩ := ref_err l
    by_cases he : errOf l = 0
    · obtain ⟨_, hp, _, hl1, hl4⟩ := errOf_zero he
      have hlen := allS_len2 l (ext_pos hp)
      have hle := hp.2.2
      obtain ⟨K2, h2⟩ := ref_all he
      obtain ⟨K3, h3⟩ := ref_off he ks
      obtain ⟨K4, h4⟩ := dims_l0 l he (allS l) 0 rfl
      have e1 : array_Size.f l = some (prodL l, 0) := by rw [array_Size.f, if_pos he]
      have e2 : array_Offset.f l ks = some (offF l ks) := by rw [array_Offset.f, if_pos he]
      have e3 : array_Strides.f l = some (strL l, fstL l, 0) := by rw [array_Strides.f, if_pos he]
      have e4 := subs_ok he a
      by_cases hin : 0 ≤ a ∧ a < prodL l
      · rw [if_pos hin] at e4
        obtain ⟨K5, h5⟩ := same_ints (subsAt l a) (by rw [subsAt_len]; omega)
        refine ⟨K1 + K2 + K3 + K4 + K5 + 4, ?_⟩
        have a1 := h1 (K1 + K2 + K3 + K4 + K5 + 4) (by omega)
        have a2 := h2 (K1 + K2 + K3 + K4 + K5 + 4) (by omega)
        have a3 := h3 (K1 + K2 + K3 + K4 + K5 + 3) (by omega)
        have a4 := h4 (K1 + K2 + K3 + K4 + K5) (by omega)
        have a5 := h5 (K1 + K2 + K3 + K4 + K5 + 1) (by omega)
        rw [he] at a1
        have b1 : decide (a ≥ prodL l) = false := decide_eq_false (by omega)
        have b2 : a < ((allS l).length : Int) := by omega
        simp only [manorboylaw08_ArrayDims.f, hw, e1, e2, e3, e4, a1, a2, Option.bind_some, if_true, hlen, strL_length, bne_self_eq_false, manorboylaw08_ArrayDims.j0, Bool.false_eq_true, if_false, a3, manorboylaw08_ArrayDims.j1, if_neg (show ¬ a < 0 by omega), b1, manorboylaw08_ArrayDims.j2, if_pos hin.1, if_pos b2, if_pos hin.2, allS_subs (ext_pos hp) hin.1 hin.2, a5, manorboylaw08_ArrayDims.j3]
        exact a4
      · rw [if_neg hin] at e4
        refine ⟨K1 + K2 + K3 + K4 + 4, ?_⟩
        have a1 := h1 (K1 + K2 + K3 + K4 + 4) (by omega)
        have a2 := h2 (K1 + K2 + K3 + K4 + 4) (by omega)
        have a3 := h3 (K1 + K2 + K3 + K4 + 3) (by omega)
        have a4 := h4 (K1 + K2 + K3 + K4) (by omega)
        rw [he] at a1
        by_cases h0 : a < 0
        · simp only [manorboylaw08_ArrayDims.f, hw, e1, e2, e3, e4, a1, a2, Option.bind_some, if_true, hlen, strL_length, bne_self_eq_false, manorboylaw08_ArrayDims.j0, Bool.false_eq_true, if_false, a3, manorboylaw08_ArrayDims.j1, if_pos h0, manorboylaw08_ArrayDims.j2, List.length_nil, manorboylaw08_ArrayDims.j3]
          exact a4
        · have b1 : decide (a ≥ prodL l) = true := decide_eq_true (by omega)
          simp only [manorboylaw08_ArrayDims.f, hw, e1, e2, e3, e4, a1, a2, Option.bind_some, if_true, hlen, strL_length, bne_self_eq_false, manorboylaw08_ArrayDims.j0, Bool.false_eq_true, if_false, a3, manorboylaw08_ArrayDims.j1, if_neg h0, b1, manorboylaw08_ArrayDims.j2, List.length_nil, manorboylaw08_ArrayDims.j3]
          exact a4
    · have e1 : array_Size.f l = some (0, errOf l) := by rw [array_Size.f, if_neg he]
      have e2 : array_Offset.f l ks = some (0, errOf l) := by rw [array_Offset.f, if_neg he]
      have e3 : array_Strides.f l = some ([], 0, errOf l) := by rw [array_Strides.f, if_neg he]
      have e4 := subs_bad he a
      refine ⟨K1, ?_⟩
      have a1 := h1 K1 (by omega)
      simp only [manorboylaw08_ArrayDims.f, hw, e1, e2, e3, e4, a1, Option.bind_some, if_true, he, if_false, sanity_f, List.length_nil]
      simp [wrap64]
end Go.Proofs.Ytcjjmhgboibbgaa.Q
