import Derived.Test.YtcjjmhgboibbgaaPb
import Derived.Test.YtcjjmhgboibbgaaQ17
namespace Go.Proofs.Ytcjjmhgboibbgaa.Q
open Go.RowKit Go.Proofs.YtcjjmhgboibbgaaW.PrintWords Go.Proofs.YtcjjmhgboibbgaaW.PrintLast Go.Proofs.YtcjjmhgboibbgaaW.PrintMore
set_option linter.unusedVariables false
set_option linter.unusedSimpArgs false
theorem sanity_f : manorboylaw08_sanity.f = some true := rfl
theorem few_nil (l : List S40) : manorboylaw08_few.f l ([] : List Int) = some (decide (l.length ≤ 6)) := by
  unfold manorboylaw08_few.f
  by_cases h : l.length ≤ 6
  · rw [if_pos (by omega)]; simp [h]
  · rw [if_neg (by omega)]; simp [h]
/-- The law ArrayCommon, with no program in sight. -/
theorem pure_common (a b : List S40) : ∃ k, manorboylaw08_ArrayCommon.f k a b = some true := by
  obtain ⟨K1, h1⟩ := ref_err a
  obtain ⟨K2, h2⟩ := ref_err b
  by_cases h6 : a.length ≤ 6 ∧ b.length ≤ 6
  · by_cases ha : errOf a = 0
    · by_cases hb : errOf b = 0
      · by_cases hl : a.length = b.length
        · have h4 := (errOf_zero ha).2.2.2.2
          obtain ⟨K3, h3⟩ := ref_common a b hl h4
          have hcf : commonF a b = commonGo a b [] := by rw [commonF, if_pos ha, if_pos hb, if_pos hl]
          rcases commonGo_word a b [] with hw | hw
          · have hlen := commonGo_len a b [] hl hw
            obtain ⟨K4, h5⟩ := same_dims (commonGo a b []).1 (by rw [hlen]; simp; omega)
            refine ⟨K1 + K2 + K3 + K4 + 4, ?_⟩
            simp only [manorboylaw08_ArrayCommon.f, few_nil, h6.1, h6.2, decide_true, Option.bind_some, if_true, Bool.not_true, manorboylaw08_ArrayCommon.j0, array_Common.f, hcf, Bool.false_eq_true, if_false, h1 _ (show K1 ≤ K1 + K2 + K3 + K4 + 3 by omega), h2 _ (show K2 ≤ K1 + K2 + K3 + K4 + 3 by omega), ha, hb, manorboylaw08_ArrayCommon.j1, hl, bne_self_eq_false, manorboylaw08_ArrayCommon.j2, manorboylaw08_ArrayCommon.j3, h3 _ (show K3 ≤ K1 + K2 + K3 + K4 by omega), hw, sanity_f, h5 _ (show K4 ≤ K1 + K2 + K3 + K4 by omega)]
          · refine ⟨K1 + K2 + K3 + 4, ?_⟩
            simp only [manorboylaw08_ArrayCommon.f, few_nil, h6.1, h6.2, decide_true, Option.bind_some, if_true, Bool.not_true, manorboylaw08_ArrayCommon.j0, array_Common.f, hcf, Bool.false_eq_true, if_false, h1 _ (show K1 ≤ K1 + K2 + K3 + 3 by omega), h2 _ (show K2 ≤ K1 + K2 + K3 + 3 by omega), ha, hb, manorboylaw08_ArrayCommon.j1, hl, bne_self_eq_false, manorboylaw08_ArrayCommon.j2, manorboylaw08_ArrayCommon.j3, h3 _ (show K3 ≤ K1 + K2 + K3 by omega), hw, sanity_f]
            simp
        · have hcf : commonF a b = ([], 10) := by rw [commonF, if_pos ha, if_pos hb, if_neg hl]
          have hne : ((a.length : Int) != (b.length : Int)) = true := by simp; omega
          refine ⟨K1 + K2 + 4, ?_⟩
          simp only [manorboylaw08_ArrayCommon.f, few_nil, h6.1, h6.2, decide_true, Option.bind_some, if_true, Bool.not_true, manorboylaw08_ArrayCommon.j0, array_Common.f, hcf, Bool.false_eq_true, if_false, h1 _ (show K1 ≤ K1 + K2 + 3 by omega), h2 _ (show K2 ≤ K1 + K2 + 3 by omega), ha, hb, manorboylaw08_ArrayCommon.j1, hne, manorboylaw08_ArrayCommon.j2, manorboylaw08_ArrayCommon.j3, sanity_f]
          simp
      · have hcf : commonF a b = ([], errOf b) := by rw [commonF, if_pos ha, if_neg hb]
        refine ⟨K1 + K2 + 4, ?_⟩
        simp only [manorboylaw08_ArrayCommon.f, few_nil, h6.1, h6.2, decide_true, Option.bind_some, if_true, Bool.not_true, manorboylaw08_ArrayCommon.j0, array_Common.f, hcf, Bool.false_eq_true, if_false, h1 _ (show K1 ≤ K1 + K2 + 3 by omega), h2 _ (show K2 ≤ K1 + K2 + 3 by omega), ha, hb, manorboylaw08_ArrayCommon.j1, manorboylaw08_ArrayCommon.j2, manorboylaw08_ArrayCommon.j3, sanity_f]
        simp
    · have hcf : commonF a b = ([], errOf a) := by rw [commonF, if_neg ha]
      refine ⟨K1 + K2 + 4, ?_⟩
      simp only [manorboylaw08_ArrayCommon.f, few_nil, h6.1, h6.2, decide_true, Option.bind_some, if_true, Bool.not_true, manorboylaw08_ArrayCommon.j0, array_Common.f, hcf, Bool.false_eq_true, if_false, h1 _ (show K1 ≤ K1 + K2 + 3 by omega), ha, manorboylaw08_ArrayCommon.j1, manorboylaw08_ArrayCommon.j2, manorboylaw08_ArrayCommon.j3, sanity_f]
      simp
  · refine ⟨1, ?_⟩
    by_cases h7 : a.length ≤ 6
    · have h8 : ¬ b.length ≤ 6 := fun h => h6 ⟨h7, h⟩
      simp only [manorboylaw08_ArrayCommon.f, few_nil, h7, h8, decide_true, decide_false, Option.bind_some, if_true, Bool.not_false, manorboylaw08_ArrayCommon.j0, sanity_f]
    · simp only [manorboylaw08_ArrayCommon.f, few_nil, h7, decide_false, Option.bind_some, if_true, Bool.false_eq_true, if_false, manorboylaw08_ArrayCommon.j0, sanity_f]
end Go.Proofs.Ytcjjmhgboibbgaa.Q
