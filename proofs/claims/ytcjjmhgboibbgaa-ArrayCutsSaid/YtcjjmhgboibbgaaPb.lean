import Derived.Test.YtcjjmhgboibbgaaPa
import Derived.Test.YtcjjmhgboibbgaaHArrC
import Derived.Test.YtcjjmhgboibbgaaQ16
namespace Go.Proofs.Ytcjjmhgboibbgaa.Q
open Go.RowKit Go.Proofs.YtcjjmhgboibbgaaW.PrintWords Go.Proofs.YtcjjmhgboibbgaaW.PrintLast Go.Proofs.YtcjjmhgboibbgaaW.PrintMore
set_option linter.unusedVariables false
set_option linter.unusedSimpArgs false
theorem wrap_next {j : Nat} (h : (j : Int) < 9223372036854775807) : wrap64 ((j : Int) + 1) = ((j + 1 : Nat) : Int) := by rw [wrap64_id (by omega) (by omega)]; rfl
theorem ref_common_l (a b : List S40) (hl : a.length = b.length) (h4 : a.length ≤ 4) : ∀ (r s : List S40) (j : Nat) (acc : List S40), a.drop j = r → b.drop j = s → acc.length ≤ j → Ev (fun k => manorboyref08_Common.l0 k a b acc (j : Int)) ((commonGo r s acc).1, decide ((commonGo r s acc).2 = 0)) := by
  intro r
  induction r with
  | nil =>
    intro s j acc h hs _
    refine Ev.one fun k => ?_
    simp only [manorboyref08_Common.l0, if_neg (not_lt_nil h), commonGo]
    simp
  | cons d r ih =>
    intro s j acc h hs ha
    have hj := lt_drop h
    cases s with
    | nil => have := List.drop_eq_nil_iff.1 hs; omega
    | cons e s =>
      have c1 : (j : Int) < (a.length : Int) := by omega
      have c2 : (0 : Int) ≤ (j : Int) := by omega
      have c3 : (j : Int) < (b.length : Int) := by omega
      have c4 : acc.length < 8796093022208 := by omega
      have e3 := wrap_next (j := j) (by omega)
      by_cases hc : (cut d e).f1 < (cut d e).f0
      · refine Ev.one fun k => ?_
        simp only [manorboyref08_Common.l0, if_pos c1, if_pos c2, if_pos c3, rdT_drop h, rdT_drop hs, commonGo, if_pos hc]
        rw [if_pos (show mx d.f0 e.f0 > mn d.f1 e.f1 from hc)]
        rfl
      · have := ih s (j + 1) (acc ++ [cut d e]) (drop_next h) (drop_next hs) (by simp; omega)
        simp only [commonGo, if_neg hc]
        refine Ev.succ this fun k => ?_
        simp only [manorboyref08_Common.l0, if_pos c1, if_pos c2, if_pos c3, rdT_drop h, rdT_drop hs, if_pos c4, e3]
        rw [if_neg (show ¬ (mx d.f0 e.f0 > mn d.f1 e.f1) from hc)]
        rfl
theorem ref_common (a b : List S40) (hl : a.length = b.length) (h4 : a.length ≤ 4) : Ev (fun k => manorboyref08_Common.f k a b) ((commonGo a b []).1, decide ((commonGo a b []).2 = 0)) :=
  ref_common_l a b hl h4 a b 0 [] rfl rfl (by simp)
theorem same_dims_l (a : List S40) (h4 : a.length ≤ 1000) : ∀ (r : List S40) (j : Nat), a.drop j = r → Ev (fun k => manorboyref08_SameDims.l0 k a a (j : Int)) true := by
  intro r
  induction r with
  | nil =>
    intro j h
    refine Ev.one fun k => ?_
    simp only [manorboyref08_SameDims.l0, if_neg (not_lt_nil h)]
  | cons d r ih =>
    intro j h
    have hj := lt_drop h
    have c1 : (j : Int) < (a.length : Int) := by omega
    have c2 : (0 : Int) ≤ (j : Int) := by omega
    refine Ev.succ (ih (j + 1) (drop_next h)) fun k => ?_
    simp only [manorboyref08_SameDims.l0, if_pos c1, if_pos c2, rdT_drop h, wrap_next (j := j) (by omega)]
    simp
theorem same_dims (a : List S40) (h4 : a.length ≤ 1000) : Ev (fun k => manorboyref08_SameDims.f k a a) true := by
  obtain ⟨K, h⟩ := same_dims_l a h4 a 0 rfl
  refine ⟨K, fun k hk => ?_⟩
  show manorboyref08_SameDims.f k a a = some true
  unfold manorboyref08_SameDims.f
  rw [if_pos rfl]
  exact h k hk
theorem commonGo_word : ∀ (a b acc : List S40), (commonGo a b acc).2 = 0 ∨ (commonGo a b acc) = ([], 5)
  | [], _, _ => .inl (by simp [commonGo])
  | _ :: _, [], _ => .inl (by simp [commonGo])
  | d :: r, e :: s, acc => by
    simp only [commonGo]
    split
    · exact .inr rfl
    · exact commonGo_word r s _
theorem commonGo_len : ∀ (a b acc : List S40), a.length = b.length → (commonGo a b acc).2 = 0 → (commonGo a b acc).1.length = acc.length + a.length
  | [], _, _, _, _ => by simp [commonGo]
  | _ :: _, [], _, h, _ => by simp at h
  | d :: r, e :: s, acc, h, h0 => by
    simp only [commonGo] at h0 ⊢
    split at h0
    · cases h0
    · rename_i hc
      rw [if_neg hc, commonGo_len r s _ (by simpa using h) h0]
      simp; omega
theorem errOf_range (l : List S40) : errOf l = 0 ∨ errOf l = 1 ∨ errOf l = 3 := by
  unfold errOf
  split
  · exact .inr (.inl rfl)
  · split
    · exact .inr (.inr rfl)
    · exact .inl rfl
end Go.Proofs.Ytcjjmhgboibbgaa.Q
