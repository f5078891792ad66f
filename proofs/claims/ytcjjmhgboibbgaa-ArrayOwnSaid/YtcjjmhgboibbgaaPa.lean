import Derived.Test.YtcjjmhgboibbgaaHArrB
import Derived.Test.YtcjjmhgboibbgaaQ11
namespace Go.Proofs.Ytcjjmhgboibbgaa.Q
open Go.RowKit Go.Proofs.YtcjjmhgboibbgaaW.PrintWords Go.Proofs.YtcjjmhgboibbgaaW.PrintLast Go.Proofs.YtcjjmhgboibbgaaW.PrintMore
set_option linter.unusedVariables false
set_option linter.unusedSimpArgs false
/-- with rounds enough, the answer is r -/
def Ev {α : Type} (F : Nat → Option α) (r : α) : Prop := ∃ K, ∀ k, K ≤ k → F k = some r
theorem Ev.succ {α : Type} {F G : Nat → Option α} {r : α} (h : Ev G r) (e : ∀ k, F (k + 1) = G k) : Ev F r := by
  obtain ⟨K, h⟩ := h
  refine ⟨K + 1, fun k hk => ?_⟩
  obtain ⟨k, rfl⟩ : ∃ m, k = m + 1 := ⟨k - 1, by omega⟩
  rw [e]; exact h k (by omega)
theorem Ev.const {α : Type} {F : Nat → Option α} {r : α} (e : ∀ k, F k = some r) : Ev F r := ⟨0, fun k _ => e k⟩
theorem Ev.one {α : Type} {F : Nat → Option α} {r : α} (e : ∀ k, F (k + 1) = some r) : Ev F r := Ev.succ (Ev.const (F := fun _ => some r) fun _ => rfl) e
theorem Ev.congr {α : Type} {F G : Nat → Option α} {r : α} (h : Ev G r) (e : ∀ k, F k = G k) : Ev F r := by
  obtain ⟨K, h⟩ := h
  exact ⟨K, fun k hk => (e k).trans (h k hk)⟩
theorem Ev.bind {α β : Type} {A : Nat → Option α} {B : Nat → α → Option β} {t : α} {r : β} (ht : Ev A t) (h : Ev (fun k => B k t) r) : Ev (fun k => (A k).bind (B k)) r := by
  obtain ⟨K, ht⟩ := ht
  obtain ⟨L, h⟩ := h
  refine ⟨max K L, fun k hk => ?_⟩
  show (A k).bind (B k) = some r
  rw [ht k (by omega)]
  exact h k (by omega)
theorem Ev.at {α : Type} {F : Nat → Option α} {r : α} (h : Ev F r) : ∃ k, F k = some r := by
  obtain ⟨K, h⟩ := h
  exact ⟨K, h K (Nat.le_refl _)⟩
theorem wrap64_id {n : Int} (h0 : -9223372036854775808 ≤ n) (h1 : n ≤ 9223372036854775807) : wrap64 n = n := by
  unfold wrap64; omega
theorem rdT_drop {l r : List S40} {d : S40} {j : Nat} (h : l.drop j = d :: r) : rd_T40 l (j : Int) = d := by
  have : l[j]? = some d := by
    have := congrArg (fun x => x[0]?) h
    simpa using this
  simp [rd_T40, List.getD, this]
theorem lt_drop {α : Type} {l r : List α} {d : α} {j : Nat} (h : l.drop j = d :: r) : j < l.length := by
  rcases Nat.lt_or_ge j l.length with h1 | h1
  · exact h1
  · rw [List.drop_eq_nil_of_le h1] at h; cases h
theorem drop_next {α : Type} {l r : List α} {d : α} {j : Nat} (h : l.drop j = d :: r) : l.drop (j + 1) = r := by
  have := congrArg List.tail h
  simpa [List.tail_drop] using this
theorem mem_drop {α : Type} {l r : List α} {d : α} {j : Nat} (h : l.drop j = d :: r) : d ∈ l := List.mem_of_mem_drop (i := j) (by rw [h]; simp)
theorem take_next {α : Type} {l r : List α} {d : α} {j : Nat} (h : l.drop j = d :: r) : l.take (j + 1) = l.take j ++ [d] := by
  have hj := lt_drop h
  rw [List.take_add_one]
  have : l[j]? = some d := by
    have := congrArg (fun x => x[0]?) h
    simpa using this
  rw [this]; rfl
theorem not_lt_nil {α : Type} {l : List α} {j : Nat} (h : l.drop j = []) : ¬ ((j : Int) < (l.length : Int)) := by
  have := List.drop_eq_nil_iff.1 h
  omega

theorem prodOk_bad {l : List S40} {d : S40} (h : d ∈ l) (hd : d.f1 < d.f0) : ∀ n, prodOk l n = none := by
  induction l with
  | nil => cases h
  | cons e r ih =>
    intro n
    unfold prodOk
    by_cases he : ext e < 1 ∨ 1000 < ext e
    · rw [if_pos he]
    · rw [if_neg he]
      split
      · rfl
      · rcases List.mem_cons.1 h with rfl | h
        · unfold ext at he; omega
        · exact ih h _
theorem err_l2 (l : List S40) (hn : ∀ d ∈ l, near d) (hp : ∀ d ∈ l, d.f0 ≤ d.f1) (h4 : l.length ≤ 4) : ∀ (r : List S40) (j : Nat) (n : Int), l.drop j = r → 1 ≤ n → n ≤ 1000 → Ev (fun k => manorboyref08_Error.l2 k l n (j : Int)) (if prodOk r n = none then 3 else 0) := by
  intro r
  induction r with
  | nil =>
    intro j n h _ _
    refine Ev.one fun k => ?_
    simp only [manorboyref08_Error.l2, if_neg (not_lt_nil h), prodOk]
    rfl
  | cons d r ih =>
    intro j n h h1 h2
    have hj := lt_drop h
    have hm := mem_drop h
    obtain ⟨a1, a2, a3, a4⟩ := hn d hm
    have hle := hp d hm
    have e1 : wrap64 (d.f1 - d.f0) = d.f1 - d.f0 := wrap64_id (by omega) (by omega)
    have e2 : wrap64 (d.f1 - d.f0 + 1) = ext d := wrap64_id (by omega) (by omega)
    have e3 : wrap64 ((j : Int) + 1) = ((j + 1 : Nat) : Int) := by rw [wrap64_id (by omega) (by omega)]; rfl
    have hx : 1 ≤ ext d := by unfold ext; omega
    have c1 : (j : Int) < (l.length : Int) := by omega
    have c2 : (0 : Int) ≤ (j : Int) := by omega
    by_cases hbig : 1000 < ext d
    · have em : mn (ext d) 1001 = 1001 := by unfold mn; split <;> omega
      have ew : wrap64 (n * 1001) = n * 1001 := wrap64_id (by omega) (by omega)
      refine Ev.one fun k => ?_
      simp only [manorboyref08_Error.l2, if_pos c1, if_pos c2, rdT_drop h, e1, e2, em, ew]
      have ep : prodOk (d :: r) n = none := by rw [prodOk, if_pos (by omega)]
      rw [ep, if_pos (by omega), if_pos rfl]
    · have em : mn (ext d) 1001 = ext d := by unfold mn; split <;> omega
      have hlow : 1 ≤ n * ext d := by
        have := Int.mul_le_mul h1 hx (by omega) (by omega)
        simpa using this
      have hup : n * ext d ≤ 1000 * 1000 := Int.mul_le_mul h2 (by omega) (by omega) (by omega)
      have ew : wrap64 (n * ext d) = n * ext d := wrap64_id (by omega) (by omega)
      by_cases hc : 1000 < n * ext d
      · refine Ev.one fun k => ?_
        simp only [manorboyref08_Error.l2, if_pos c1, if_pos c2, rdT_drop h, e1, e2, em, ew]
        have ep : prodOk (d :: r) n = none := by rw [prodOk, if_neg (by omega), if_pos hc]
        rw [ep, if_pos (by omega), if_pos rfl]
      · have ep : prodOk (d :: r) n = prodOk r (n * ext d) := by rw [prodOk, if_neg (by omega), if_neg (by omega)]
        rw [ep]
        refine Ev.succ (ih (j + 1) (n * ext d) (drop_next h) hlow (by omega)) fun k => ?_
        simp only [manorboyref08_Error.l2, if_pos c1, if_pos c2, rdT_drop h, e1, e2, em, ew, e3]
        rw [if_neg (by omega)]
theorem err_l1 (l : List S40) (hn : ∀ d ∈ l, near d) (h4 : l.length ≤ 4) : ∀ (r : List S40) (j : Nat), l.drop j = r → (∀ d ∈ l.take j, d.f0 ≤ d.f1) → Ev (fun k => manorboyref08_Error.l1 k l 1 (j : Int)) (if prodOk l 1 = none then 3 else 0) := by
  intro r
  induction r with
  | nil =>
    intro j h ht
    have hj := List.drop_eq_nil_iff.1 h
    rw [List.take_of_length_le hj] at ht
    refine Ev.succ (err_l2 l hn ht h4 l 0 1 rfl (by omega) (by omega)) fun k => ?_
    simp only [manorboyref08_Error.l1, if_neg (not_lt_nil h)]
    rfl
  | cons d r ih =>
    intro j h ht
    have hj := lt_drop h
    have e3 : wrap64 ((j : Int) + 1) = ((j + 1 : Nat) : Int) := by rw [wrap64_id (by omega) (by omega)]; rfl
    have c1 : (j : Int) < (l.length : Int) := by omega
    have c2 : (0 : Int) ≤ (j : Int) := by omega
    by_cases hc : d.f1 < d.f0
    · rw [if_pos (prodOk_bad (mem_drop h) hc 1)]
      refine Ev.one fun k => ?_
      simp only [manorboyref08_Error.l1, if_pos c1, if_pos c2, rdT_drop h]
      rw [if_pos (by omega)]
    · refine Ev.succ (ih (j + 1) (drop_next h) ?_) fun k => ?_
      · rw [take_next h]
        intro e he
        rcases List.mem_append.1 he with he | he
        · exact ht e he
        · rw [List.mem_singleton.1 he]; omega
      · simp only [manorboyref08_Error.l1, if_pos c1, if_pos c2, rdT_drop h, e3]
        rw [if_neg (by omega)]
theorem far_near {d : S40} : dimFar d = false ↔ near d := by
  unfold dimFar farB near
  simp only [Bool.or_eq_false_iff, decide_eq_false_iff_not]
  omega
theorem err_l0 (l : List S40) (h1 : 1 ≤ l.length) (h4 : l.length ≤ 4) : ∀ (r : List S40) (j : Nat), l.drop j = r → (∀ d ∈ l.take j, near d) → Ev (fun k => manorboyref08_Error.l0 k l (j : Int)) (errOf l) := by
  intro r
  induction r with
  | nil =>
    intro j h ht
    have hj := List.drop_eq_nil_iff.1 h
    rw [List.take_of_length_le hj] at ht
    have hd : isDimsB l = true := by
      unfold isDimsB
      simp only [Bool.and_eq_true, decide_eq_true_eq, Bool.not_eq_true', List.any_eq_false]
      exact ⟨⟨h1, h4⟩, fun d hd => by rw [far_near.2 (ht d hd)]; simp⟩
    have := err_l1 l ht h4 l 0 rfl (by simp)
    unfold errOf
    rw [if_neg (by rw [hd]; simp)]
    refine Ev.succ this fun k => ?_
    simp only [manorboyref08_Error.l0, if_neg (not_lt_nil h)]
    rfl
  | cons d r ih =>
    intro j h ht
    have hj := lt_drop h
    have e3 : wrap64 ((j : Int) + 1) = ((j + 1 : Nat) : Int) := by rw [wrap64_id (by omega) (by omega)]; rfl
    have c1 : (j : Int) < (l.length : Int) := by omega
    have c2 : (0 : Int) ≤ (j : Int) := by omega
    by_cases hc : near d
    · have hc' := hc
      obtain ⟨a1, a2, a3, a4⟩ := hc'
      refine Ev.succ (ih (j + 1) (drop_next h) ?_) fun k => ?_
      · rw [take_next h]
        intro e he
        rcases List.mem_append.1 he with he | he
        · exact ht e he
        · rw [List.mem_singleton.1 he]; exact hc
      · simp only [manorboyref08_Error.l0, if_pos c1, if_pos c2, rdT_drop h, e3]
        rw [if_neg (by omega), if_neg (by omega), if_neg (by omega), if_neg (by omega)]
    · have hE : errOf l = 1 := by
        unfold errOf
        rw [if_pos]
        unfold isDimsB
        have : l.any dimFar = true := List.any_eq_true.2 ⟨d, mem_drop h, by
          cases hf : dimFar d with
          | true => rfl
          | false => exact absurd (far_near.1 hf) hc⟩
        rw [this]; simp
      rw [hE]
      refine Ev.one fun k => ?_
      simp only [manorboyref08_Error.l0, if_pos c1, if_pos c2, rdT_drop h]
      unfold near at hc
      by_cases b1 : d.f0 < -2147483647
      · rw [if_pos b1]
      · rw [if_neg b1]
        by_cases b2 : d.f0 > 2147483647
        · rw [if_pos b2]
        · rw [if_neg b2]
          by_cases b3 : d.f1 < -2147483647
          · rw [if_pos b3]
          · rw [if_neg b3, if_pos (by omega)]
/-- the specification's word on a list of dimensions -/
theorem ref_err (l : List S40) : Ev (fun k => manorboyref08_Error.f k l) (errOf l) := by
  by_cases h1 : 1 ≤ l.length
  · by_cases h4 : l.length ≤ 4
    · have := err_l0 l h1 h4 l 0 rfl (by simp)
      obtain ⟨K, hK⟩ := this
      refine ⟨K + 1, fun k hk => ?_⟩
      obtain ⟨k, rfl⟩ : ∃ m, k = m + 1 := ⟨k - 1, by omega⟩
      have hk := hK k (by omega)
      simp only [manorboyref08_Error.f, if_neg (show ¬ ((l.length : Int) < 1) by omega), show decide ((l.length : Int) > 4) = false by simp; omega, manorboyref08_Error.j0]
      simpa using hk
    · have hE : errOf l = 1 := by unfold errOf isDimsB; rw [if_pos (by simp; omega)]
      rw [hE]
      refine Ev.one fun k => ?_
      simp only [manorboyref08_Error.f, if_neg (show ¬ ((l.length : Int) < 1) by omega), show decide ((l.length : Int) > 4) = true by simp; omega, manorboyref08_Error.j0, if_true]
  · have hE : errOf l = 1 := by unfold errOf isDimsB; rw [if_pos (by simp; omega)]
    rw [hE]
    refine Ev.one fun k => ?_
    simp only [manorboyref08_Error.f, if_pos (show ((l.length : Int) < 1) by omega), manorboyref08_Error.j0, if_true]
end Go.Proofs.Ytcjjmhgboibbgaa.Q
