import Derived.Test.YtcjjmhgboibbgaaPa
import Derived.Test.YtcjjmhgboibbgaaHArrS
import Derived.Test.YtcjjmhgboibbgaaHIb
import Derived.Test.YtcjjmhgboibbgaaQ4
namespace Go.Proofs.Ytcjjmhgboibbgaa.Q
open Go.RowKit Go.Proofs.Rf Go.Proofs.YtcjjmhgboibbgaaW.PrintWords Go.Proofs.YtcjjmhgboibbgaaW.PrintLast Go.Proofs.YtcjjmhgboibbgaaW.PrintMore
set_option linter.unusedVariables false
set_option linter.unusedSimpArgs false
theorem wrap_next {j : Nat} (h : (j : Int) < 9223372036854775807) : wrap64 ((j : Int) + 1) = ((j + 1 : Nat) : Int) := by rw [wrap64_id (by omega) (by omega)]; rfl
theorem rd_drop {l r : List Int} {d : Int} {j : Nat} (h : l.drop j = d :: r) : rd l (j : Int) = d := by
  have : l[j]? = some d := by
    have := congrArg (fun x => x[0]?) h
    simpa using this
  simp [rd, List.getD, this]
theorem few_word (l : List S40) (s : List Int) : ∃ b, manorboylaw08_few.f l s = some b ∧ (b = true → l.length ≤ 6 ∧ s.length ≤ 6) := by
  unfold manorboylaw08_few.f
  by_cases h : l.length ≤ 6
  · rw [if_pos (by omega)]; exact ⟨_, rfl, fun hb => ⟨h, by rw [decide_eq_true_eq] at hb; omega⟩⟩
  · rw [if_neg (by omega)]; exact ⟨_, rfl, fun hb => by cases hb⟩
/-- is within the bounds -/
def inB : List S40 → List Int → Bool
  | [], [] => true
  | d :: r, k :: ks => decide (d.f0 ≤ k ∧ k ≤ d.f1) && inB r ks
  | _, _ => false
theorem inB_len : ∀ (l : List S40) (ks : List Int), inB l ks = true → ks.length = l.length
  | [], [], _ => rfl
  | [], _ :: _, h => by simp [inB] at h
  | _ :: _, [], h => by simp [inB] at h
  | d :: r, k :: ks, h => by
    simp only [inB, Bool.and_eq_true] at h
    simp [inB_len r ks h.2]
/-- the place of a subscript list -/
def plc : List S40 → List Int → Int
  | d :: r, k :: ks => prodL r * (k - d.f0) + plc r ks
  | _, _ => 0
theorem offGo_in : ∀ (l : List S40) (ks : List Int) (n : Int), inB l ks = true → offGo l (strL l) ks n = (n + (plc l ks - fstL l), 0)
  | [], [], n, _ => by simp [offGo, plc, fstL, strL]
  | [], _ :: _, _, h => by simp [inB] at h
  | _ :: _, [], _, h => by simp [inB] at h
  | d :: r, k :: ks, n, h => by
    simp only [inB, Bool.and_eq_true, decide_eq_true_eq] at h
    simp only [strL, offGo]
    rw [if_neg (by omega), if_neg (by omega), offGo_in r ks _ h.2]
    simp only [plc, fstL, Int.mul_sub, Prod.mk.injEq, and_true]
    omega
theorem offGo_out : ∀ (l : List S40) (s ks : List Int) (n : Int), s.length = l.length → ks.length = l.length → inB l ks = false → offGo l s ks n = (0, 3)
  | [], [], [], n, _, _, h => by simp [inB] at h
  | d :: r, x :: ss, k :: ks, n, h1, h2, h => by
    simp only [offGo]
    split
    · rfl
    · split
      · rfl
      · refine offGo_out r ss ks _ (by simpa using h1) (by simpa using h2) ?_
        have : decide (d.f0 ≤ k ∧ k ≤ d.f1) = true := decide_eq_true (by omega)
        simpa [inB, this] using h
theorem offF_eq (l : List S40) (ks : List Int) : offF l ks = if ks.length = l.length then (if inB l ks = true then (plc l ks, 0) else (0, 3)) else (0, 10) := by
  unfold offF
  by_cases hk : ks.length = l.length
  · rw [if_pos hk, if_pos hk]
    cases hb : inB l ks with
    | true =>
      rw [if_pos rfl, offGo_in l ks _ hb]
      simp only [Prod.mk.injEq, and_true]; omega
    | false => rw [if_neg (by simp), offGo_out l _ ks _ (strL_length l) hk hb]
  · rw [if_neg hk, if_neg hk]
/-- the subscripts at a place -/
def subsAt : List S40 → Int → List Int
  | [], _ => []
  | d :: r, a => (d.f0 + a / prodL r) :: subsAt r (a % prodL r)
theorem subsAt_len : ∀ (l : List S40) (a : Int), (subsAt l a).length = l.length
  | [], _ => rfl
  | d :: r, a => by simp [subsAt, subsAt_len r]
theorem div_lt {a e p : Int} (h0 : 0 ≤ a) (hp : 1 ≤ p) (h : a < e * p) : 0 ≤ a / p ∧ a / p < e ∧ 0 ≤ a % p ∧ a % p < p :=
  ⟨Int.ediv_nonneg h0 (by omega), Int.ediv_lt_of_lt_mul (by omega) h, Int.emod_nonneg _ (by omega), Int.emod_lt_of_pos _ (by omega)⟩
theorem ext_pos {l : List S40} (h : Proper l) : ∀ d ∈ l, 1 ≤ ext d := fun d hd => (h.2.1 d hd).1
theorem inB_subs : ∀ (l : List S40), (∀ d ∈ l, 1 ≤ ext d) → ∀ a : Int, 0 ≤ a → a < prodL l → inB l (subsAt l a) = true
  | [], _, _, _, _ => rfl
  | d :: r, h, a, h0, h1 => by
    have hr : ∀ d ∈ r, 1 ≤ ext d := fun e he => h e (by simp [he])
    obtain ⟨x1, x2, x3, x4⟩ := div_lt (e := ext d) h0 (prodL_pos r hr) h1
    simp only [subsAt, inB, Bool.and_eq_true, decide_eq_true_eq]
    refine ⟨?_, inB_subs r hr _ x3 x4⟩
    unfold ext at x2
    omega
theorem plc_subs : ∀ (l : List S40), (∀ d ∈ l, 1 ≤ ext d) → ∀ a : Int, 0 ≤ a → a < prodL l → plc l (subsAt l a) = a
  | [], _, a, h0, h1 => by simp only [prodL] at h1; simp only [plc, subsAt]; omega
  | d :: r, h, a, h0, h1 => by
    have hr : ∀ d ∈ r, 1 ≤ ext d := fun e he => h e (by simp [he])
    obtain ⟨x1, x2, x3, x4⟩ := div_lt (e := ext d) h0 (prodL_pos r hr) h1
    simp only [subsAt, plc, plc_subs r hr _ x3 x4]
    have := Int.mul_ediv_add_emod a (prodL r)
    have e : d.f0 + a / prodL r - d.f0 = a / prodL r := by omega
    rw [e]; exact this
/-- one list after another, each of the same length -/
theorem flat_get {α β : Type} (f : α → List β) (P : Nat) : ∀ (L : List α), (∀ x ∈ L, (f x).length = P) → ∀ i j, j < P → (L.flatMap f)[i * P + j]? = (L[i]?).bind fun x => (f x)[j]?
  | [], _, i, j, _ => by simp
  | x :: L, h, i, j, hj => by
    have hx := h x (by simp)
    rw [List.flatMap_cons]
    cases i with
    | zero =>
      rw [List.getElem?_append_left (by omega)]
      simp
    | succ i =>
      rw [List.getElem?_append_right (by rw [hx, Nat.succ_mul]; omega), hx, show (i + 1) * P + j - P = i * P + j by rw [Nat.succ_mul]; omega, flat_get f P L (fun y hy => h y (by simp [hy])) i j hj]
      simp
theorem allS_len2 : ∀ l : List S40, (∀ d ∈ l, 1 ≤ ext d) → ((allS l).length : Int) = prodL l
  | [], _ => rfl
  | d :: r, h => by
    have hd := h d (List.mem_cons_self ..)
    have ih := allS_len2 r fun d hd => h d (List.mem_cons_of_mem _ hd)
    rw [allS, List.length_flatMap]
    simp only [List.length_map, List.map_const', List.sum_replicate_nat]
    rw [show (ints d.f0 (ext d).toNat).length = (ext d).toNat by simp [ints]]
    simp only [prodL, ← ih]
    push_cast
    rw [Int.toNat_of_nonneg (by omega)]
theorem allS_get : ∀ (l : List S40), (∀ d ∈ l, 1 ≤ ext d) → ∀ a : Nat, (a : Int) < prodL l → (allS l)[a]? = some (subsAt l a)
  | [], _, a, h => by
    simp only [prodL] at h
    obtain rfl : a = 0 := by omega
    rfl
  | d :: r, h, a, h1 => by
    have hr : ∀ d ∈ r, 1 ≤ ext d := fun e he => h e (by simp [he])
    have hP := allS_len2 r hr
    have hp := prodL_pos r hr
    obtain ⟨x1, x2, x3, x4⟩ := div_lt (e := ext d) (show (0 : Int) ≤ a by omega) hp h1
    obtain ⟨P, hPe⟩ : ∃ P, P = (allS r).length := ⟨_, rfl⟩
    rw [← hPe] at hP
    rw [← hP] at x1 x2 x3 x4
    have y1 : (a : Int) / (P : Int) = ((a / P : Nat) : Int) := rfl
    have y2 : (a : Int) % (P : Int) = ((a % P : Nat) : Int) := rfl
    rw [y1] at x1 x2
    rw [y2] at x3 x4
    have hd := Nat.div_add_mod a P
    have := flat_get (fun k => (allS r).map (k :: ·)) P (ints d.f0 (ext d).toNat) (fun x _ => by simp [hPe]) (a / P) (a % P) (by omega)
    rw [show a / P * P + a % P = a by rw [Nat.mul_comm]; exact hd] at this
    rw [allS, this]
    have hi : (ints d.f0 (ext d).toNat)[a / P]? = some (d.f0 + ((a / P : Nat) : Int)) := by
      unfold ints
      rw [List.getElem?_map, List.getElem?_range (by omega)]
      rfl
    rw [hi]
    simp only [Option.bind_some, List.getElem?_map, allS_get r hr (a % P) (by rw [← hP]; exact x4), Option.map_some, subsAt, ← hP, y1, y2]
theorem allS_subs {l : List S40} (h : ∀ d ∈ l, 1 ≤ ext d) {a : Int} (h0 : 0 ≤ a) (h1 : a < prodL l) : rd_L6 (allS l) a = subsAt l a := by
  have := allS_get l h a.toNat (by omega)
  rw [Int.toNat_of_nonneg h0] at this
  simp [rd_L6, List.getD, this]
/-! ### Subscripts -/
theorem strL_rd {l r : List S40} {d : S40} {j : Nat} (h : l.drop j = d :: r) : rd (strL l) (j : Int) = prodL r := by
  have := strL_get l j (lt_drop h)
  rw [drop_next h] at this
  simp [rd, List.getD, this]
theorem subs_l0 (l : List S40) (hp : Proper l) (h4 : l.length ≤ 4) : ∀ (r : List S40) (j : Nat) (acc : List Int) (off : Int) (k : Nat), l.drop j = r → acc.length ≤ j → r.length < k → 0 ≤ off → off < prodL r → array_Subscripts.l0 k off (strL l) acc l (l.length : Int) (j : Int) = some (acc ++ subsAt r off, 0) := by
  intro r
  induction r with
  | nil =>
    intro j acc off k h ha hk h0 h1
    obtain ⟨k, rfl⟩ : ∃ m, k = m + 1 := ⟨k - 1, by simp at hk; omega⟩
    simp only [array_Subscripts.l0, if_neg (not_lt_nil h), subsAt, List.append_nil]
  | cons d r ih =>
    intro j acc off k h ha hk h0 h1
    obtain ⟨k, rfl⟩ : ∃ m, k = m + 1 := ⟨k - 1, by simp at hk; omega⟩
    have hj := lt_drop h
    have hpr : Proper r := by rw [← drop_next h]; exact hp.drop _
    have hpd : Proper (d :: r) := by rw [← h]; exact hp.drop _
    have hP := hpr.pos
    obtain ⟨x1, x2, x3, x4⟩ := div_lt (e := ext d) h0 hP h1
    have hx := (hpd.2.1 d (by simp)).2
    have hn := hpd.1 d (by simp)
    unfold near at hn
    have c1 : (j : Int) < (l.length : Int) := by omega
    have c2 : (0 : Int) ≤ (j : Int) := by omega
    have c3 : (j : Int) < ((strL l).length : Int) := by rw [strL_length]; exact c1
    have c4 : acc.length < 17592186044416 := by omega
    have e1 : Int.tdiv off (prodL r) = off / prodL r := Int.tdiv_eq_ediv_of_nonneg h0
    have e2 : Int.tmod off (prodL r) = off % prodL r := Int.tmod_eq_emod_of_nonneg h0
    have e4 : wrap64 (off / prodL r) = off / prodL r := wrap64_id (by omega) (by omega)
    have e5 : wrap64 (d.f0 + off / prodL r) = d.f0 + off / prodL r := wrap64_id (by omega) (by omega)
    have := ih (j + 1) (acc ++ [d.f0 + off / prodL r]) (off % prodL r) k (drop_next h) (by simp; omega) (by simp at hk; omega) x3 x4
    simp only [array_Subscripts.l0, if_pos c1, if_pos c2, if_pos c3, strL_rd h, rdT_drop h, if_pos c4, e1, e2, e4, e5, wrap_next (j := j) (by omega)]
    rw [if_neg (by omega), this]
    simp [subsAt]
theorem subs_ok {l : List S40} (he : errOf l = 0) (a : Int) : array_SubscriptsH.f l a = some (if 0 ≤ a ∧ a < prodL l then (subsAt l a, 0) else ([], 3)) := by
  obtain ⟨_, hp, _, h1, h4⟩ := errOf_zero he
  have hc : array_checked.f [l] = some 0 := by rw [array_checked.f, if_pos (by simp), checkedL_one, he]
  have hz : array_sizes.f l = some (exA l 0, exA l 1, exA l 2, exA l 3, prodL l, true) := by rw [array_sizes.f, if_pos he]
  have hs : array_strides.f l = some (strL l, fstL l) := by rw [array_strides.f, if_pos he]
  unfold array_SubscriptsH.f array_Subscripts.f
  by_cases h0 : 0 ≤ a
  · by_cases h2 : a < prodL l
    · rw [if_pos ⟨h0, h2⟩]
      have hl := subs_l0 l hp h4 l 0 [] a 99 rfl (by simp) (by omega) h0 h2
      simp only [hc, hz, hs, Option.bind_some, if_true, if_neg (show ¬ a < 0 by omega), show decide (a ≥ prodL l) = false by simp; omega, array_Subscripts.j0, Bool.false_eq_true, if_false]
      simpa using hl
    · rw [if_neg (fun h => h2 h.2)]
      simp only [hc, hz, hs, Option.bind_some, if_true, if_neg (show ¬ a < 0 by omega), show decide (a ≥ prodL l) = true by simp; omega, array_Subscripts.j0]
  · rw [if_neg (fun h => h0 h.1)]
    simp only [hc, hz, hs, Option.bind_some, if_true, if_pos (show a < 0 by omega), array_Subscripts.j0]
theorem subs_bad {l : List S40} (he : errOf l ≠ 0) (a : Int) : array_SubscriptsH.f l a = some ([], errOf l) := by
  have hc : array_checked.f [l] = some (errOf l) := by rw [array_checked.f, if_pos (by simp), checkedL_one]
  unfold array_SubscriptsH.f array_Subscripts.f
  simp only [hc, Option.bind_some, if_neg he]
end Go.Proofs.Ytcjjmhgboibbgaa.Q
