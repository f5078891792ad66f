import Derived.Test.YtcjjmhgboibbgaaPDa
import Derived.Test.YtcjjmhgboibbgaaQ12
import Derived.Test.YtcjjmhgboibbgaaQ8
namespace Go.Proofs.Ytcjjmhgboibbgaa.Q
open Go.RowKit Go.Proofs.Rf Go.Proofs.YtcjjmhgboibbgaaW.PrintWords Go.Proofs.YtcjjmhgboibbgaaW.PrintLast Go.Proofs.YtcjjmhgboibbgaaW.PrintMore
set_option linter.unusedVariables false
set_option linter.unusedSimpArgs false
/-! ### the specification's Offset -/
theorem ref_in_l (l : List S40) (ks : List Int) (h4 : l.length ≤ 4) : ∀ (r : List S40) (s : List Int) (j : Nat), l.drop j = r → ks.drop j = s → s.length = r.length → Ev (fun k => manorboyref08_In.l0 k l ks (j : Int)) (inB r s) := by
  intro r
  induction r with
  | nil =>
    intro s j h hs hl
    cases s with
    | cons x s => simp at hl
    | nil =>
      refine Ev.one fun k => ?_
      simp only [manorboyref08_In.l0, if_neg (not_lt_nil h), inB]
  | cons d r ih =>
    intro s j h hs hl
    cases s with
    | nil => simp at hl
    | cons x s =>
      have hj := lt_drop h
      have hj2 := lt_drop hs
      have c1 : (j : Int) < (l.length : Int) := by omega
      have c2 : (0 : Int) ≤ (j : Int) := by omega
      have c3 : (j : Int) < (ks.length : Int) := by omega
      have e3 := wrap_next (j := j) (by omega)
      by_cases b1 : x < d.f0
      · have : decide (d.f0 ≤ x ∧ x ≤ d.f1) = false := decide_eq_false (by omega)
        refine Ev.one fun k => ?_
        simp only [manorboyref08_In.l0, if_pos c1, if_pos c2, if_pos c3, rdT_drop h, rd_drop hs, if_pos b1, inB, this, Bool.false_and]
      · by_cases b2 : x > d.f1
        · have : decide (d.f0 ≤ x ∧ x ≤ d.f1) = false := decide_eq_false (by omega)
          refine Ev.one fun k => ?_
          simp only [manorboyref08_In.l0, if_pos c1, if_pos c2, if_pos c3, rdT_drop h, rd_drop hs, if_neg b1, if_pos b2, inB, this, Bool.false_and]
        · have : decide (d.f0 ≤ x ∧ x ≤ d.f1) = true := decide_eq_true (by omega)
          have e : inB (d :: r) (x :: s) = inB r s := by simp only [inB, this, Bool.true_and]
          rw [e]
          refine Ev.succ (ih s (j + 1) (drop_next h) (drop_next hs) (by simpa using hl)) fun k => ?_
          simp only [manorboyref08_In.l0, if_pos c1, if_pos c2, if_pos c3, rdT_drop h, rd_drop hs, if_neg b1, if_neg b2, e3]
theorem ref_checked (l : List S40) (ks : List Int) (h4 : l.length ≤ 4) : Ev (fun k => manorboyref08_Checked.f k l ks) (if ks.length = l.length then (if inB l ks = true then 0 else 3) else 10) := by
  by_cases hl : ks.length = l.length
  · obtain ⟨K, hK⟩ := ref_in_l l ks h4 l ks 0 rfl rfl hl
    refine ⟨K, fun k hk => ?_⟩
    have h1 := hK k hk
    show manorboyref08_Checked.f k l ks = _
    unfold manorboyref08_Checked.f manorboyref08_In.f
    rw [if_pos (by omega), if_pos hl, show manorboyref08_In.l0 k l ks 0 = some (inB l ks) from h1]
    simp only [Option.bind_some]
    split <;> rfl
  · refine ⟨0, fun k _ => ?_⟩
    show manorboyref08_Checked.f k l ks = _
    unfold manorboyref08_Checked.f
    rw [if_neg (by omega), if_neg hl]
theorem ref_place_l (l : List S40) (ks : List Int) (hp : Proper l) (h4 : l.length ≤ 4) : ∀ (r : List S40) (s : List Int) (j : Nat) (acc : Int), l.drop j = r → ks.drop j = s → inB r s = true → 0 ≤ acc → (acc + 1) * prodL r ≤ 1000 → Ev (fun k => manorboyref08_place.l0 k l ks acc (j : Int)) (acc * prodL r + plc r s) := by
  intro r
  induction r with
  | nil =>
    intro s j acc h hs hb h0 h1
    cases s with
    | cons x s => simp [inB] at hb
    | nil =>
      refine Ev.one fun k => ?_
      simp only [manorboyref08_place.l0, if_neg (not_lt_nil h), plc, prodL]
      simp
  | cons d r ih =>
    intro s j acc h hs hb h0 h1
    cases s with
    | nil => simp [inB] at hb
    | cons x s =>
      have hj := lt_drop h
      have hj2 := lt_drop hs
      have c1 : (j : Int) < (l.length : Int) := by omega
      have c2 : (0 : Int) ≤ (j : Int) := by omega
      have c3 : (j : Int) < (ks.length : Int) := by omega
      have e3 := wrap_next (j := j) (by omega)
      have hpd : Proper (d :: r) := by rw [← h]; exact hp.drop _
      have hpr : Proper r := by rw [← drop_next h]; exact hp.drop _
      have hP := hpr.pos
      have hx := hpd.2.1 d (by simp)
      have hn := hpd.1 d (by simp)
      unfold near at hn
      simp only [inB, Bool.and_eq_true, decide_eq_true_eq] at hb
      have he : ext d = d.f1 - d.f0 + 1 := rfl
      simp only [prodL] at h1
      have m1 : acc * ext d ≤ 1000 * 1000 := by
        have a1 : acc + 1 ≤ 1000 := by
          have : 1 ≤ ext d * prodL r := by
            have := Int.mul_le_mul hx.1 hP (by omega) (by omega)
            simpa using this
          have := Int.mul_le_mul_of_nonneg_left this (show 0 ≤ acc + 1 by omega)
          omega
        exact Int.mul_le_mul (by omega) hx.2 (by omega) (by omega)
      have m0 : 0 ≤ acc * ext d := Int.mul_nonneg h0 (by omega)
      have m2 : (acc * ext d + x - d.f0 + 1) * prodL r ≤ 1000 := by
        have a1 : acc * ext d + x - d.f0 + 1 ≤ (acc + 1) * ext d := by rw [Int.add_mul]; omega
        have := Int.mul_le_mul_of_nonneg_right a1 (show 0 ≤ prodL r by omega)
        rw [Int.mul_assoc] at this
        omega
      have w1 : wrap64 (d.f1 - d.f0) = d.f1 - d.f0 := wrap64_id (by omega) (by omega)
      have w2 : wrap64 (d.f1 - d.f0 + 1) = ext d := wrap64_id (by omega) (by omega)
      have w3 : wrap64 (acc * ext d) = acc * ext d := wrap64_id (by omega) (by omega)
      have w4 : wrap64 (acc * ext d + x) = acc * ext d + x := wrap64_id (by omega) (by omega)
      have w5 : wrap64 (acc * ext d + x - d.f0) = acc * ext d + x - d.f0 := wrap64_id (by omega) (by omega)
      have := ih s (j + 1) (acc * ext d + x - d.f0) (drop_next h) (drop_next hs) hb.2 (by omega) m2
      have e : acc * prodL (d :: r) + plc (d :: r) (x :: s) = (acc * ext d + x - d.f0) * prodL r + plc r s := by
        simp only [prodL, plc]
        rw [show acc * ext d + x - d.f0 = acc * ext d + (x - d.f0) by omega, Int.add_mul, Int.mul_assoc, Int.mul_comm (x - d.f0)]
        omega
      rw [e]
      refine Ev.succ this fun k => ?_
      simp only [manorboyref08_place.l0, if_pos c1, if_pos c2, if_pos c3, rdT_drop h, rd_drop hs, w1, w2, w3, w4, w5, e3]
theorem ref_off {l : List S40} (he : errOf l = 0) (ks : List Int) : Ev (fun k => manorboyref08_Offset.f k l ks) (offF l ks) := by
  obtain ⟨_, hp, _, h1, h4⟩ := errOf_zero he
  obtain ⟨K1, hK1⟩ := ref_err l
  obtain ⟨K2, hK2⟩ := ref_checked l ks h4
  rw [offF_eq]
  by_cases hl : ks.length = l.length
  · rw [if_pos hl]
    cases hb : inB l ks with
    | true =>
      obtain ⟨K3, hK3⟩ := ref_place_l l ks hp h4 l ks 0 0 rfl rfl hb (by omega) (by have := hp.2.2; omega)
      refine ⟨K1 + K2 + K3, fun k hk => ?_⟩
      have a1 := hK1 k (by omega)
      have a2 := hK2 k (by omega)
      have a3 : manorboyref08_place.l0 k l ks 0 0 = _ := hK3 k (by omega)
      simp only [hl, hb, if_true, he] at a1 a2
      simp only [manorboyref08_Offset.f, a1, a2, manorboyref08_place.f, a3, Option.bind_some, if_true]
      simp
    | false =>
      refine ⟨K1 + K2, fun k hk => ?_⟩
      have a1 := hK1 k (by omega)
      have a2 := hK2 k (by omega)
      simp only [hl, hb, if_true, he, Bool.false_eq_true, if_false] at a1 a2
      simp only [manorboyref08_Offset.f, a1, a2, Option.bind_some, if_true]
      simp
  · rw [if_neg hl]
    refine ⟨K1 + K2, fun k hk => ?_⟩
    have a1 := hK1 k (by omega)
    have a2 := hK2 k (by omega)
    simp only [hl, if_false, he] at a1 a2
    simp only [manorboyref08_Offset.f, a1, a2, Option.bind_some, if_true]
    simp
/-! ### all subscript lists -/
theorem allS_snoc (d : S40) : ∀ l : List S40, allS (l ++ [d]) = (allS l).flatMap fun p => (ints d.f0 (ext d).toNat).map fun s => p ++ [s]
  | [] => by
    show (ints d.f0 (ext d).toNat).flatMap (fun k => [[k]]) = _
    simp only [allS, List.flatMap_cons, List.flatMap_nil, List.append_nil, List.nil_append]
    rw [List.map_eq_flatMap]
  | e :: l => by
    have ih := allS_snoc d l
    show (ints e.f0 (ext e).toNat).flatMap (fun k => (allS (l ++ [d])).map (k :: ·)) = _
    rw [ih]
    show _ = ((ints e.f0 (ext e).toNat).flatMap fun k => (allS l).map (k :: ·)).flatMap _
    rw [List.flatMap_assoc]
    congr 1
    funext k
    rw [List.map_flatMap, List.flatMap_map]
    congr 1
    funext p
    simp [List.map_map, Function.comp_def]
theorem ints_succ (x : Int) (m : Nat) : ints x (m + 1) = x :: ints (x + 1) m := by
  unfold ints
  rw [List.range_succ_eq_map]
  simp only [List.map_cons, List.map_map]
  congr 1
  · simp
  · apply List.map_congr_left
    intro a _
    simp only [Function.comp_apply]
    push_cast
    omega
theorem rdL_drop {l r : List (List Int)} {d : List Int} {j : Nat} (h : l.drop j = d :: r) : rd_L6 l (j : Int) = d := by
  have : l[j]? = some d := by
    have := congrArg (fun x => x[0]?) h
    simpa using this
  simp [rd_L6, List.getD, this]
theorem all_l2 {R : List (List Int)} (l : List S40) (x3 : List (List Int)) (i x6 : Nat) (d : S40) (rl : List S40) (p : List Int) (q : List (List Int)) (hd : l.drop i = d :: rl) (hq : x3.drop x6 = p :: q) (hp4 : p.length ≤ 4) (h4 : l.length ≤ 4) (h3 : x3.length ≤ 1000) (hn : near d) :
    ∀ (m : Nat) (x7 : Int) (x5 : List (List Int)), x7 + (m : Int) = d.f1 + 1 → -2147483647 ≤ x7 → x5.length + m ≤ 3000000 → Ev (fun k => manorboyref08_All.l1 k l x3 (i : Int) (x5 ++ (ints x7 m).map (fun s => p ++ [s])) ((x6 + 1 : Nat) : Int)) R → Ev (fun k => manorboyref08_All.l2 k l x3 (i : Int) x5 (x6 : Int) x7) R := by
  have hi := lt_drop hd
  have h6 := lt_drop hq
  have c1 : (0 : Int) ≤ (i : Int) := by omega
  have c2 : (i : Int) < (l.length : Int) := by omega
  have c3 : (0 : Int) ≤ (x6 : Int) := by omega
  have c4 : (x6 : Int) < (x3.length : Int) := by omega
  unfold near at hn
  intro m
  induction m with
  | zero =>
    intro x7 x5 hm hlo hb h
    refine Ev.succ h fun k => ?_
    simp only [manorboyref08_All.l2, if_pos c1, if_pos c2, rdT_drop hd, wrap_next (j := x6) (by omega)]
    rw [if_neg (by omega)]
    simp [ints]
  | succ m ih =>
    intro x7 x5 hm hlo hb h
    have c5 : x7 ≤ d.f1 := by omega
    have e7 : wrap64 (x7 + 1) = x7 + 1 := wrap64_id (by omega) (by omega)
    have c6 : ([] : List Int).length + p.length < 17592186044416 := by simp; omega
    have c7 : p.length < 17592186044416 := by omega
    have c8 : x5.length < 5864062014805 := by omega
    refine Ev.succ (ih (x7 + 1) (x5 ++ [p ++ [x7]]) (by push_cast at hm; omega) (by omega) (by simp; omega) ?_) fun k => ?_
    · rw [ints_succ] at h
      simpa using h
    · simp only [manorboyref08_All.l2, if_pos c1, if_pos c2, if_pos c3, if_pos c4, rdT_drop hd, rdL_drop hq, if_pos c5, Option.bind_some, List.nil_append, if_pos c6, if_pos c7, if_pos c8, e7]
theorem all_l1 {R : List (List Int)} (l : List S40) (x3 : List (List Int)) (i : Nat) (d : S40) (rl : List S40) (hd : l.drop i = d :: rl) (h4 : l.length ≤ 4) (h3 : x3.length ≤ 1000) (hp4 : ∀ p ∈ x3, p.length ≤ 4) (hn : near d) (he : 1 ≤ ext d ∧ ext d ≤ 1000) :
    ∀ (q : List (List Int)) (x6 : Nat) (x5 : List (List Int)), x3.drop x6 = q → x5.length + q.length * 1000 ≤ 2000000 → Ev (fun k => manorboyref08_All.l0 k l (x5 ++ q.flatMap fun p => (ints d.f0 (ext d).toNat).map fun s => p ++ [s]) ((i + 1 : Nat) : Int)) R → Ev (fun k => manorboyref08_All.l1 k l x3 (i : Int) x5 (x6 : Int)) R := by
  have hi := lt_drop hd
  have c1 : (0 : Int) ≤ (i : Int) := by omega
  have c2 : (i : Int) < (l.length : Int) := by omega
  intro q
  induction q with
  | nil =>
    intro x6 x5 hq hb h
    refine Ev.succ h fun k => ?_
    have hx := List.drop_eq_nil_iff.1 hq
    have c3 : ¬ ((x6 : Int) < (x3.length : Int)) := by omega
    simp only [manorboyref08_All.l1, if_neg c3, wrap_next (j := i) (by omega), List.flatMap_nil, List.append_nil]
  | cons p q ih =>
    intro x6 x5 hq hb h
    have h6 := lt_drop hq
    have c3 : (x6 : Int) < (x3.length : Int) := by omega
    have hl : ((ints d.f0 (ext d).toNat).map fun s => p ++ [s]).length = (ext d).toNat := by simp [ints]
    have he2 : ext d = d.f1 - d.f0 + 1 := rfl
    have hn' := hn
    unfold near at hn'
    simp only [List.length_cons] at hb
    have hlen : (x5 ++ (ints d.f0 (ext d).toNat).map fun s => p ++ [s]).length = x5.length + (ext d).toNat := by rw [List.length_append, hl]
    have := ih (x6 + 1) (x5 ++ (ints d.f0 (ext d).toNat).map fun s => p ++ [s]) (drop_next hq) (by rw [hlen]; omega) (by
      rw [List.flatMap_cons] at h
      simpa [List.append_assoc] using h)
    refine Ev.succ (all_l2 l x3 i x6 d rl p q hd hq (hp4 p (mem_drop hq)) h4 h3 hn (ext d).toNat d.f0 x5 (by omega) (by omega) (by omega) this) fun k => ?_
    simp only [manorboyref08_All.l1, if_pos c1, if_pos c2, if_pos c3, rdT_drop hd]
theorem prodL_app : ∀ a b : List S40, prodL (a ++ b) = prodL a * prodL b
  | [], b => by simp [prodL]
  | d :: a, b => by simp only [List.cons_append, prodL, prodL_app a b, Int.mul_assoc]
theorem prodL_take {l : List S40} (hp : Proper l) (i : Nat) : prodL (l.take i) ≤ 1000 := by
  have h1 := prodL_app (l.take i) (l.drop i)
  rw [List.take_append_drop] at h1
  have h2 := (hp.drop i).pos
  have h3 : 1 ≤ prodL (l.take i) := prodL_pos _ fun d hd => (hp.2.1 d (List.mem_of_mem_take hd)).1
  have h4 := Int.mul_le_mul_of_nonneg_left h2 (show 0 ≤ prodL (l.take i) by omega)
  have := hp.2.2
  omega
theorem all_l0 (l : List S40) (hp : Proper l) (h4 : l.length ≤ 4) : ∀ (r : List S40) (i : Nat), l.drop i = r → Ev (fun k => manorboyref08_All.l0 k l (allS (l.take i)) (i : Int)) (allS l) := by
  intro r
  induction r with
  | nil =>
    intro i h
    have hj := List.drop_eq_nil_iff.1 h
    rw [List.take_of_length_le hj]
    refine Ev.one fun k => ?_
    simp only [manorboyref08_All.l0, if_neg (not_lt_nil h)]
  | cons d r ih =>
    intro i h
    have hi := lt_drop h
    have c2 : (i : Int) < (l.length : Int) := by omega
    have hlen : ((allS (l.take i)).length : Int) ≤ 1000 := by
      rw [allS_len2 _ fun d hd => (hp.2.1 d (List.mem_of_mem_take hd)).1]
      exact prodL_take hp i
    have := all_l1 (R := allS l) l (allS (l.take i)) i d r h h4 (by omega) (fun p hpm => by
      have := allS_length _ p hpm
      rw [this, List.length_take]; omega) (hp.1 d (mem_drop h)) (hp.2.1 d (mem_drop h)) (allS (l.take i)) 0 [] rfl (by simp; omega) (by
      have := ih (i + 1) (drop_next h)
      rw [take_next h, allS_snoc] at this
      simpa using this)
    refine Ev.succ this fun k => ?_
    simp only [manorboyref08_All.l0, if_pos c2]
    rfl
theorem ref_all {l : List S40} (he : errOf l = 0) : Ev (fun k => manorboyref08_All.f k l) (allS l) := by
  obtain ⟨_, hp, _, h1, h4⟩ := errOf_zero he
  exact all_l0 l hp h4 l 0 rfl
/-! ### equal lists -/
theorem same_ints_l (a : List Int) (h4 : a.length ≤ 1000) : ∀ (r : List Int) (j : Nat), a.drop j = r → Ev (fun k => manorboylaw08_sameInts.l0 k a a (j : Int)) true := by
  intro r
  induction r with
  | nil =>
    intro j h
    refine Ev.one fun k => ?_
    have := not_lt_nil h
    simp [manorboylaw08_sameInts.l0, this]
  | cons d r ih =>
    intro j h
    have hj := lt_drop h
    have c1 : (j : Int) < (a.length : Int) := by omega
    have c2 : (0 : Int) ≤ (j : Int) := by omega
    refine Ev.succ (ih (j + 1) (drop_next h)) fun k => ?_
    simp only [manorboylaw08_sameInts.l0, if_pos c1, if_pos c2, rd_drop h, wrap_next (j := j) (by omega)]
    simp
end Go.Proofs.Ytcjjmhgboibbgaa.Q
