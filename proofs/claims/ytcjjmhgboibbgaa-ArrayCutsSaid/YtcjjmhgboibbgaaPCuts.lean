import Derived.Test.YtcjjmhgboibbgaaPb
import Derived.Test.YtcjjmhgboibbgaaQ18
namespace Go.Proofs.Ytcjjmhgboibbgaa.Q
open Go.RowKit Go.Proofs.YtcjjmhgboibbgaaW.PrintWords Go.Proofs.YtcjjmhgboibbgaaW.PrintLast Go.Proofs.YtcjjmhgboibbgaaW.PrintMore
set_option linter.unusedVariables false
set_option linter.unusedSimpArgs false
theorem sanity_f : manorboylaw08_sanity.f = some true := rfl
theorem few_nil (l : List S40) : manorboylaw08_few.f l ([] : List Int) = some (decide (l.length ≤ 6)) := by
  unfold manorboylaw08_few.f
  by_cases h : l.length ≤ 6
  · rw [if_pos (by omega)]; simp [h]
  · rw [if_neg (by omega)]; simp [h]
theorem few_word (l : List S40) (s : List Int) : ∃ b, manorboylaw08_few.f l s = some b ∧ (b = true → l.length ≤ 6 ∧ s.length ≤ 6) := by
  unfold manorboylaw08_few.f
  by_cases h : l.length ≤ 6
  · rw [if_pos (by omega)]; exact ⟨_, rfl, fun hb => ⟨h, by rw [decide_eq_true_eq] at hb; omega⟩⟩
  · rw [if_neg (by omega)]; exact ⟨_, rfl, fun hb => by cases hb⟩
/-! ### plain facts -/
/-- is within the bounds -/
def inB : List S40 → List Int → Bool
  | [], [] => true
  | d :: r, k :: ks => decide (d.f0 ≤ k ∧ k ≤ d.f1) && inB r ks
  | _, _ => false
theorem offGo_word : ∀ (l : List S40) (s ks : List Int) (n : Int), s.length = l.length → ks.length = l.length → ((offGo l s ks n).2 = 0 ∨ (offGo l s ks n).2 = 3) ∧ ((offGo l s ks n).2 = 0 ↔ inB l ks = true)
  | [], [], [], n, _, _ => by simp [offGo, inB]
  | d :: r, x :: ss, k :: ks, n, h1, h2 => by
    have ih := offGo_word r ss ks (n + x * k) (by simpa using h1) (by simpa using h2)
    simp only [offGo, inB]
    split
    · rename_i h; exact ⟨.inr rfl, by simp; omega⟩
    · split
      · rename_i h; exact ⟨.inr rfl, by simp; omega⟩
      · refine ⟨ih.1, ih.2.trans ?_⟩
        rw [Bool.and_eq_true, decide_eq_true_eq]
        exact ⟨fun h => ⟨by omega, h⟩, fun h => h.2⟩
theorem inB_len : ∀ (l : List S40) (ks : List Int), inB l ks = true → ks.length = l.length
  | [], [], _ => rfl
  | [], _ :: _, h => by simp [inB] at h
  | _ :: _, [], h => by simp [inB] at h
  | d :: r, k :: ks, h => by
    simp only [inB, Bool.and_eq_true] at h
    simp [inB_len r ks h.2]
/-- Offset's word, of proper dimensions -/
theorem off_word {l : List S40} (h : errOf l = 0) (ks : List Int) : ∃ n e, array_Offset.f l ks = some (n, e) ∧ (e = 0 ↔ inB l ks = true) := by
  refine ⟨(offF l ks).1, (offF l ks).2, by rw [array_Offset.f, if_pos h], ?_⟩
  unfold offF
  split
  · rename_i hk
    exact (offGo_word l (strL l) ks _ (strL_length l) hk).2
  · rename_i hk
    exact ⟨fun h => by simp at h, fun h => absurd (inB_len _ _ h) hk⟩
theorem inBounds_word {l : List S40} (h : errOf l = 0) (ks : List Int) : manorboylaw08_inBounds.f l ks = some (inB l ks) := by
  obtain ⟨n, e, h1, h2⟩ := off_word h ks
  unfold manorboylaw08_inBounds.f
  rw [h1]
  simp only [Option.bind_some, Option.some.injEq]
  cases hb : inB l ks with
  | true => rw [h2.2 hb]; rfl
  | false =>
    have : e ≠ 0 := fun h0 => by rw [h2.1 h0] at hb; cases hb
    simp [this]
/-- the common dimensions, one by one -/
def cuts (a b : List S40) : List S40 := (a.zip b).map fun p => cut p.1 p.2
theorem commonGo_cuts : ∀ (a b acc : List S40), (commonGo a b acc).2 = 0 → a.length = b.length → (commonGo a b acc).1 = acc ++ cuts a b
  | [], [], acc, _, _ => by simp [commonGo, cuts]
  | d :: r, e :: s, acc, h, hl => by
    simp only [commonGo] at h ⊢
    split at h
    · cases h
    · rename_i hc
      rw [if_neg hc, commonGo_cuts r s _ h (by simpa using hl)]
      simp [cuts]
theorem cut_comm (d e : S40) : cut d e = cut e d := by
  unfold cut mx mn
  congr 1
  · split <;> split <;> omega
  · split <;> split <;> omega
theorem cuts_comm : ∀ a b : List S40, cuts a b = cuts b a
  | [], [] => rfl
  | [], _ :: _ => rfl
  | _ :: _, [] => rfl
  | d :: r, e :: s => by
    have := cuts_comm r s
    simp only [cuts] at this ⊢
    simp only [List.zip_cons_cons, List.map_cons, this, cut_comm d e]
theorem commonGo_zero : ∀ (a b acc : List S40), a.length = b.length → ((commonGo a b acc).2 = 0 ↔ ∀ c ∈ cuts a b, c.f0 ≤ c.f1)
  | [], [], acc, _ => by simp [commonGo, cuts]
  | d :: r, e :: s, acc, hl => by
    have ih := commonGo_zero r s (acc ++ [cut d e]) (by simpa using hl)
    simp only [commonGo]
    have hs : cuts (d :: r) (e :: s) = cut d e :: cuts r s := by simp [cuts]
    rw [hs]
    split
    · rename_i hc
      simp only [List.mem_cons, forall_eq_or_imp]
      constructor
      · intro h; simp at h
      · intro h; omega
    · rename_i hc
      rw [ih]
      simp only [List.mem_cons, forall_eq_or_imp]
      constructor
      · intro h; exact ⟨by omega, h⟩
      · intro h; exact h.2
theorem commonF_comm (a b : List S40) (ha : errOf a = 0) (hb : errOf b = 0) (hl : a.length = b.length) : commonF a b = commonF b a := by
  rw [commonF, commonF, if_pos ha, if_pos hb, if_pos hl, if_pos hb, if_pos ha, if_pos hl.symm]
  rcases commonGo_word a b [] with h | h
  · have h2 : (commonGo b a []).2 = 0 := by rw [commonGo_zero b a [] hl.symm, cuts_comm]; exact (commonGo_zero a b [] hl).1 h
    exact Prod.ext (by rw [commonGo_cuts a b [] h hl, commonGo_cuts b a [] h2 hl.symm, cuts_comm]) (by rw [h, h2])
  · rcases commonGo_word b a [] with h' | h'
    · have h2 : (commonGo a b []).2 = 0 := by rw [commonGo_zero a b [] hl, cuts_comm]; exact (commonGo_zero b a [] hl.symm).1 h'
      rw [h] at h2; simp at h2
    · rw [h, h']
theorem inB_cuts : ∀ (a b : List S40) (ks : List Int), a.length = b.length → inB (cuts a b) ks = (inB a ks && inB b ks)
  | [], [], [], _ => rfl
  | [], [], _ :: _, _ => rfl
  | d :: r, e :: s, [], _ => rfl
  | d :: r, e :: s, k :: ks, hl => by
    have ih := inB_cuts r s ks (by simpa using hl)
    have hs : cuts (d :: r) (e :: s) = cut d e :: cuts r s := by simp [cuts]
    rw [hs]
    simp only [inB, ih]
    have : decide ((cut d e).f0 ≤ k ∧ k ≤ (cut d e).f1) = (decide (d.f0 ≤ k ∧ k ≤ d.f1) && decide (e.f0 ≤ k ∧ k ≤ e.f1)) := by
      rw [← Bool.decide_and]
      congr 1
      unfold cut mx mn
      apply propext
      simp only
      split <;> split <;> omega
    rw [this]
    cases decide (d.f0 ≤ k ∧ k ≤ d.f1) <;> cases decide (e.f0 ≤ k ∧ k ≤ e.f1) <;> simp
theorem prodOk_ok : ∀ (l : List S40) (n : Int), (∀ d ∈ l, 1 ≤ ext d) → 1 ≤ n → n * prodL l ≤ 1000 → prodOk l n = some (n * prodL l)
  | [], n, _, _, _ => by simp [prodOk, prodL]
  | d :: r, n, he, hn, h => by
    have h1 := he d (by simp)
    have hr : 1 ≤ prodL r := prodL_pos r fun e hm => he e (by simp [hm])
    simp only [prodL] at h ⊢
    have hnd : 1 ≤ n * ext d := by
      have := Int.mul_le_mul hn h1 (by omega) (by omega)
      simpa using this
    have hle : n * ext d ≤ n * (ext d * prodL r) := by
      rw [← Int.mul_assoc]
      have := Int.mul_le_mul_of_nonneg_left hr (show 0 ≤ n * ext d by omega)
      simpa using this
    have hd : ext d ≤ n * ext d := by
      have := Int.mul_le_mul_of_nonneg_right hn (show 0 ≤ ext d by omega)
      simpa using this
    rw [prodOk, if_neg (by omega), if_neg (by omega), prodOk_ok r (n * ext d) (fun e hm => he e (by simp [hm])) hnd (by rw [Int.mul_assoc]; exact h), Int.mul_assoc]
theorem errOf_ok {l : List S40} (h1 : 1 ≤ l.length) (h4 : l.length ≤ 4) (hn : ∀ d ∈ l, near d) (he : ∀ d ∈ l, 1 ≤ ext d) (hp : prodL l ≤ 1000) : errOf l = 0 := by
  have hd : isDimsB l = true := by
    unfold isDimsB
    simp only [Bool.and_eq_true, decide_eq_true_eq, Bool.not_eq_true', List.any_eq_false]
    exact ⟨⟨h1, h4⟩, fun d hd => by rw [far_near.2 (hn d hd)]; simp⟩
  unfold errOf
  rw [if_neg (by rw [hd]; simp), if_neg]
  rw [prodOk_ok l 1 he (by omega) (by omega)]
  simp
theorem cut_near {d e : S40} (h : near d) (h' : near e) : near (cut d e) := by
  unfold near at *
  unfold cut mx mn
  simp only
  split <;> split <;> omega
theorem cut_ext (d e : S40) : ext (cut d e) ≤ ext d := by
  unfold ext cut mx mn
  simp only
  split <;> split <;> omega
theorem cuts_len : ∀ a b : List S40, a.length = b.length → (cuts a b).length = a.length
  | a, b, h => by simp [cuts, h]
theorem cuts_near : ∀ a b : List S40, (∀ d ∈ a, near d) → (∀ d ∈ b, near d) → ∀ c ∈ cuts a b, near c
  | [], _, _, _, c, h => by simp [cuts] at h
  | _ :: _, [], _, _, c, h => by simp [cuts] at h
  | d :: r, e :: s, ha, hb, c, h => by
    have hs : cuts (d :: r) (e :: s) = cut d e :: cuts r s := by simp [cuts]
    rw [hs] at h
    rcases List.mem_cons.1 h with rfl | h
    · exact cut_near (ha d (by simp)) (hb e (by simp))
    · exact cuts_near r s (fun x hx => ha x (by simp [hx])) (fun x hx => hb x (by simp [hx])) c h
theorem cuts_prod : ∀ a b : List S40, a.length = b.length → (∀ d ∈ a, 1 ≤ ext d) → (∀ c ∈ cuts a b, 1 ≤ ext c) → prodL (cuts a b) ≤ prodL a
  | [], [], _, _, _ => by simp [cuts, prodL]
  | d :: r, e :: s, hl, ha, hc => by
    have hs : cuts (d :: r) (e :: s) = cut d e :: cuts r s := by simp [cuts]
    rw [hs] at hc ⊢
    simp only [prodL]
    have h1 := hc (cut d e) (by simp)
    have ih := cuts_prod r s (by simpa using hl) (fun x hx => ha x (by simp [hx])) (fun x hx => hc x (by simp [hx]))
    have hp : 1 ≤ prodL (cuts r s) := prodL_pos _ fun x hx => hc x (by simp [hx])
    exact Int.mul_le_mul (cut_ext d e) ih (by omega) (by have := ha d (by simp); omega)
theorem cuts_errOf {a b : List S40} (ha : errOf a = 0) (hb : errOf b = 0) (hl : a.length = b.length) (hc : ∀ c ∈ cuts a b, c.f0 ≤ c.f1) : errOf (cuts a b) = 0 := by
  obtain ⟨_, pa, _, h1, h4⟩ := errOf_zero ha
  obtain ⟨_, pb, _, _, _⟩ := errOf_zero hb
  have he : ∀ c ∈ cuts a b, 1 ≤ ext c := fun c h => by have := hc c h; unfold ext; omega
  refine errOf_ok (by rw [cuts_len a b hl]; exact h1) (by rw [cuts_len a b hl]; exact h4) (cuts_near a b pa.1 pb.1) he ?_
  have := cuts_prod a b hl (fun d hd => (pa.2.1 d hd).1) he
  have := pa.2.2
  omega
theorem cut_self {d : S40} : cut d d = d := by
  unfold cut mx mn
  simp
theorem cuts_self : ∀ a : List S40, cuts a a = a
  | [] => rfl
  | d :: r => by
    have hs : cuts (d :: r) (d :: r) = cut d d :: cuts r r := by simp [cuts]
    rw [hs, cut_self, cuts_self r]
theorem commonF_self {a : List S40} (ha : errOf a = 0) : commonF a a = (a, 0) := by
  have pa := (errOf_zero ha).2.1
  have h0 : (commonGo a a []).2 = 0 := by
    rw [commonGo_zero a a [] rfl, cuts_self]
    intro c hc
    have := (pa.2.1 c hc).1
    unfold ext at this; omega
  rw [commonF, if_pos ha, if_pos ha, if_pos rfl]
  exact Prod.ext (by rw [commonGo_cuts a a [] h0 rfl, cuts_self]; rfl) h0
theorem inB_empty : ∀ (l : List S40) (ks : List Int) (c : S40), c ∈ l → c.f1 < c.f0 → inB l ks = false
  | [], _, c, h, _ => by cases h
  | d :: r, [], _, _, _ => rfl
  | d :: r, k :: ks, c, h, hc => by
    simp only [inB]
    rcases List.mem_cons.1 h with rfl | h
    · have : decide (c.f0 ≤ k ∧ k ≤ c.f1) = false := by simp; omega
      rw [this]; rfl
    · rw [inB_empty r ks c h hc]; simp
/-! ### the law -/
theorem cuts_l0 (x0 x1 : List S40) (x2 : List Int) (x7 : List S40) (x8 : Int) (x9 : List S40) (x10 : Int) (h6 : x0.length ≤ 6) (hend : Ev (fun k => manorboylaw08_ArrayCuts.l0 k x0 x1 x2 x7 x8 x9 x10 x0 (x0.length : Int)) true) :
    ∀ (r : List S40) (j : Nat), x0.drop j = r → j ≤ x0.length → Ev (fun k => manorboylaw08_ArrayCuts.l0 k x0 x1 x2 x7 x8 x9 x10 x0 (j : Int)) true := by
  intro r
  induction r with
  | nil =>
    intro j h hj
    have := List.drop_eq_nil_iff.1 h
    obtain rfl : j = x0.length := by omega
    exact hend
  | cons d r ih =>
    intro j h hj
    have hj := lt_drop h
    have c1 : (j : Int) < (x0.length : Int) := by omega
    have c2 : (0 : Int) ≤ (j : Int) := by omega
    refine Ev.succ (ih (j + 1) (drop_next h) (by omega)) fun k => ?_
    simp only [manorboylaw08_ArrayCuts.l0, if_pos c1, if_pos c2, rdT_drop h, wrap_next (j := j) (by omega)]
    simp
theorem cuts_l1 (x0 x1 : List S40) (x2 : List Int) (x7 : List S40) (h6 : x7.length ≤ 6) (hend : Ev (fun k => manorboylaw08_ArrayCuts.l1 k x0 x1 x2 x7 x7 (x7.length : Int)) true) :
    ∀ (r : List S40) (j : Nat), x7.drop j = r → j ≤ x7.length → Ev (fun k => manorboylaw08_ArrayCuts.l1 k x0 x1 x2 x7 x7 (j : Int)) true := by
  intro r
  induction r with
  | nil =>
    intro j h hj
    have := List.drop_eq_nil_iff.1 h
    obtain rfl : j = x7.length := by omega
    exact hend
  | cons d r ih =>
    intro j h hj
    have hj := lt_drop h
    have c1 : (j : Int) < (x7.length : Int) := by omega
    have c2 : (0 : Int) ≤ (j : Int) := by omega
    refine Ev.succ (ih (j + 1) (drop_next h) (by omega)) fun k => ?_
    simp only [manorboylaw08_ArrayCuts.l1, if_pos c1, if_pos c2, rdT_drop h, wrap_next (j := j) (by omega)]
    simp
/-- what stands behind the first loop -/
theorem cuts_end {a b : List S40} (ks : List Int) (own : List S40) : Ev (fun k => manorboylaw08_ArrayCuts.l0 k a b ks (commonF a b).1 (commonF a b).2 (commonF b a).1 (commonF b a).2 own (own.length : Int)) true := by
  have nlt : ¬ ((own.length : Int) < (own.length : Int)) := by omega
  by_cases ha : errOf a = 0
  · by_cases hb : errOf b = 0
    · by_cases hl : a.length = b.length
      · rw [commonF_comm b a hb ha hl.symm]
        have hcf : commonF a b = commonGo a b [] := by rw [commonF, if_pos ha, if_pos hb, if_pos hl]
        rcases commonGo_word a b [] with hw | hw
        · have hc := (commonGo_zero a b [] hl).1 hw
          have e1 : commonF a b = (cuts a b, 0) := by rw [hcf]; exact Prod.ext (commonGo_cuts a b [] hw hl) hw
          rw [e1]
          have hE := cuts_errOf ha hb hl hc
          have h4 := (errOf_zero hE).2.2.2.2
          have hend : Ev (fun k => manorboylaw08_ArrayCuts.l1 k a b ks (cuts a b) (cuts a b) ((cuts a b).length : Int)) true := by
            refine Ev.one fun k => ?_
            have n2 : ¬ (((cuts a b).length : Int) < ((cuts a b).length : Int)) := by omega
            simp only [manorboylaw08_ArrayCuts.l1, if_neg n2, sanity_f, Option.bind_some, if_true, inBounds_word hE, inBounds_word ha, inBounds_word hb, inB_cuts a b ks hl]
            cases inB a ks <;> cases inB b ks <;> simp
          obtain ⟨K, hK⟩ := cuts_l1 a b ks (cuts a b) (by omega) hend (cuts a b) 0 rfl (by omega)
          refine ⟨K + 2, fun k hk => ?_⟩
          obtain ⟨k, rfl⟩ : ∃ m, k = m + 2 := ⟨k - 2, by omega⟩
          have := hK k (by omega)
          simp only [manorboylaw08_ArrayCuts.l0, if_neg nlt, if_true, manorboylaw08_ArrayCuts.j3, bne_self_eq_false, Bool.false_eq_true, if_false]
          exact this
        · rw [hcf, hw]
          refine Ev.one fun k => ?_
          have hno : (inB a ks && inB b ks) = false := by
            rw [← inB_cuts a b ks hl]
            have : ¬ ∀ c ∈ cuts a b, c.f0 ≤ c.f1 := fun h => by
              have := (commonGo_zero a b [] hl).2 h
              rw [hw] at this; simp at this
            simp only [Classical.not_forall] at this
            obtain ⟨c, hc, hlt⟩ := this
            exact inB_empty _ ks c hc (by omega)
          simp only [manorboylaw08_ArrayCuts.l0, if_neg nlt, sanity_f, Option.bind_some, if_true, inBounds_word ha, inBounds_word hb, show ¬ ((5 : Int) = 0) by omega, if_false]
          cases h1 : inB a ks <;> cases h2 : inB b ks <;> simp_all
      · have e1 : commonF a b = ([], 10) := by rw [commonF, if_pos ha, if_pos hb, if_neg hl]
        have e2 : commonF b a = ([], 10) := by rw [commonF, if_pos hb, if_pos ha, if_neg (fun h => hl h.symm)]
        rw [e1, e2]
        refine Ev.one fun k => ?_
        simp only [manorboylaw08_ArrayCuts.l0, if_neg nlt, sanity_f, Option.bind_some, if_true, show ¬ ((10 : Int) = 0) by omega, show ¬ ((10 : Int) = 5) by omega, if_false]
    · have e1 : commonF a b = ([], errOf b) := by rw [commonF, if_pos ha, if_neg hb]
      have e2 : commonF b a = ([], errOf b) := by rw [commonF, if_neg hb]
      have n5 : ¬ (errOf b = 5) := by rcases errOf_range b with h | h | h <;> omega
      rw [e1, e2]
      refine Ev.one fun k => ?_
      simp only [manorboylaw08_ArrayCuts.l0, if_neg nlt, sanity_f, Option.bind_some, if_true, hb, n5, if_false]
  · have e1 : commonF a b = ([], errOf a) := by rw [commonF, if_neg ha]
    have n5 : ¬ (errOf a = 5) := by rcases errOf_range a with h | h | h <;> omega
    have n0 : ¬ ((commonF b a).2 = 0) := by
      rw [commonF]
      split
      · exact ha
      · assumption
    rw [e1]
    refine Ev.one fun k => ?_
    simp only [manorboylaw08_ArrayCuts.l0, if_neg nlt, sanity_f, Option.bind_some, if_true, ha, n5, n0, if_false]
/-- The law ArrayCuts, with no program in sight. -/
theorem pure_cuts (a b : List S40) (ks : List Int) : ∃ k, manorboylaw08_ArrayCuts.f k a b ks = some true := by
  obtain ⟨w, hw, hw6⟩ := few_word a ks
  cases w with
  | false => exact ⟨1, by simp only [manorboylaw08_ArrayCuts.f, hw, Option.bind_some, Bool.false_eq_true, if_false, manorboylaw08_ArrayCuts.j0, if_true, sanity_f]⟩
  | true =>
    obtain ⟨h6, _⟩ := hw6 rfl
    by_cases hb6 : b.length ≤ 6
    · by_cases ha : errOf a = 0
      · obtain ⟨K, hK⟩ := cuts_l0 a b ks _ _ _ _ h6 (cuts_end ks a) a 0 rfl (by omega)
        refine ⟨K + 2, ?_⟩
        have := hK K (by omega)
        simp only [manorboylaw08_ArrayCuts.f, hw, few_nil, hb6, decide_true, Bool.not_true, Option.bind_some, Bool.false_eq_true, if_false, if_true, manorboylaw08_ArrayCuts.j0, array_Common.f, array_Size.f, ha, commonF_self ha, bne_self_eq_false, manorboylaw08_ArrayCuts.j1]
        exact this
      · have e1 : commonF a a = ([], errOf a) := by rw [commonF, if_neg ha]
        obtain ⟨K, hK⟩ := cuts_end (a := a) (b := b) ks []
        refine ⟨K + 2, ?_⟩
        have := hK K (by omega)
        simp only [manorboylaw08_ArrayCuts.f, hw, few_nil, hb6, decide_true, Bool.not_true, Option.bind_some, Bool.false_eq_true, if_false, if_true, manorboylaw08_ArrayCuts.j0, array_Common.f, array_Size.f, ha, e1, manorboylaw08_ArrayCuts.j1]
        exact this
    · exact ⟨1, by simp only [manorboylaw08_ArrayCuts.f, hw, few_nil, hb6, decide_false, Bool.not_false, Option.bind_some, Bool.false_eq_true, if_false, manorboylaw08_ArrayCuts.j0, if_true, sanity_f]⟩
end Go.Proofs.Ytcjjmhgboibbgaa.Q
