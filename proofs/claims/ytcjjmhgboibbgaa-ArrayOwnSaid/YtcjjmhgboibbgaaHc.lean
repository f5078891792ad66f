import Derived.Test.YtcjjmhgboibbgaaHb
import Derived.Outline
namespace Go.Proofs.Ytcjjmhgboibbgaa.Q
open Go.RowKit Go.Proofs.YtcjjmhgboibbgaaW.PrintWords Go.Proofs.YtcjjmhgboibbgaaW.PrintLast Go.Proofs.YtcjjmhgboibbgaaW.PrintMore
set_option linter.unusedVariables false
set_option linter.unusedSimpArgs false

theorem isDimsB_near {l : List S40} (h : isDimsB l = true) : 1 ≤ l.length ∧ l.length ≤ 4 ∧ ∀ d ∈ l, near d := by
  simp only [isDimsB, Bool.and_eq_true, decide_eq_true_eq, Bool.not_eq_true', List.any_eq_false] at h
  refine ⟨h.1.1, h.1.2, fun d hd => ?_⟩
  have := h.2 d hd
  simp only [dimFar, farB, Bool.or_eq_true, decide_eq_true_eq] at this
  unfold near; omega

def errOf (l : List S40) : Int := if isDimsB l = false then 1 else if prodOk l 1 = none then 3 else 0
def checkedL : List (List S40) → Int
  | [] => 0
  | l :: r => if errOf l = 0 then checkedL r else errOf l

theorem sizes_no (A : Option Addr) (c : Nat) (l : List S40) (w : World) (hr : Kd.C k40 w A l.length l) (hc : l.length ≤ c) (hm : l.length ≤ 4) (hn : ∀ d ∈ l, near d) (hp : prodOk l 1 = none) :
    Calls Try.prog 35 #[.slice A l.length c] w fun e w' => ∃ x0 x1 x2 x3 : Int, e = .returned (.tuple #[.agg #[.int .i64 x0, .int .i64 x1, .int .i64 x2, .int .i64 x3], .int .i64 0, .bool false]) ∧ Below w.heap.size w w' :=
  (sizes_calls A c l w hr hc hm hn).mono fun e w' ⟨x0, x1, x2, x3, n, ok, he, hb, h⟩ => by
    rcases h with ⟨_, rfl, rfl⟩ | ⟨h1, _⟩
    · exact ⟨x0, x1, x2, x3, he, hb⟩
    · rw [hp] at h1; cases h1
theorem sizes_ok (A : Option Addr) (c : Nat) (l : List S40) (w : World) (n : Int) (hr : Kd.C k40 w A l.length l) (hc : l.length ≤ c) (hm : l.length ≤ 4) (hn : ∀ d ∈ l, near d) (hp : prodOk l 1 = some n) :
    Calls Try.prog 35 #[.slice A l.length c] w fun e w' => ∃ x0 x1 x2 x3 : Int, e = .returned (.tuple #[.agg #[.int .i64 x0, .int .i64 x1, .int .i64 x2, .int .i64 x3], .int .i64 n, .bool true]) ∧ Below w.heap.size w w' ∧ ∀ j, j < 4 → [x0, x1, x2, x3][j]? = some (((l[j]?).map ext).getD 0) :=
  (sizes_calls A c l w hr hc hm hn).mono fun e w' ⟨x0, x1, x2, x3, m, ok, he, hb, h⟩ => by
    rcases h with ⟨h1, _⟩ | ⟨h1, rfl, h2⟩
    · rw [hp] at h1; cases h1
    · obtain rfl : n = m := by rw [hp] at h1; exact Option.some.inj h1
      exact ⟨x0, x1, x2, x3, he, hb, h2⟩

set_option maxHeartbeats 1000000 in
theorem checked_calls (A : Option Addr) (c : Nat) (ls : List (List S40)) (w : World) (hr : Kd.C (Kd.slice 40 k40) w A ls.length ls) (hc : ls.length ≤ c) (hm : ls.length ≤ 4) :
    Calls Try.prog 34 #[.slice A ls.length c] w fun e w' => e = .returned (.int .i64 (checkedL ls)) ∧ Below w.heap.size w w' := by
  have HR := Lib.hid hr; clear hr
  go_enter Try.func34, Try.ntmps34
  go_wp2
  go_loopw [4, 5, 6, 7, 10] (fun _ _ _ _ i wr => ∃ k : Nat, k ≤ ls.length ∧ i = .int .i64 k ∧ Hid (checkedL (ls.drop k) = checkedL ls) ∧ Hid (Below w.heap.size w wr)) (fun _ _ _ _ i _ => ls.length - (intOf i).toNat)
  case atStart => exact ⟨0, Nat.zero_le _, rfl, Lib.hid rfl, Lib.hid (Below.refl _ _)⟩
  case round =>
    obtain ⟨k, hk, rfl, HP, HB⟩ := hrel
    by_cases hlt : k < ls.length
    · obtain ⟨ad, A0, c0, e1, h0, hcc, h1⟩ := at_L2 HR.out (k : Int) (by omega) (by omega)
      have HP2 := HP.out
      rw [List.drop_eq_getElem_cons hlt] at HP2
      have ek : rd_L2 ls (k : Int) = ls[k] := by simp [rd_L2, List.getD, hlt]
      rw [ek] at h0 h1 hcc
      cases e1
      replace h0 := (HB.out.cell (World.block_lt_of_cell? w _ h0)).trans h0
      have H1 := Lib.hid (Kd.C_below h1 HB.out); clear h1
      simp only [Int.toNat_natCast] at h0
      simp only [checkedL, errOf] at HP2
      generalize hd : ls[k] = l at *
      clear hd
      have HP3 := Lib.hid HP2; clear HP2 ek
      cases hi : isDimsB l with
      | false =>
        have HI := Lib.hid hi; clear hi
        go_wp2_with (go_at_call 56; refine (isDims_calls _ _ l _ H1.out hcc).mono ?_; rintro e w' ⟨rfl, hb⟩; rw [HI.out])
        go_ret
        exact ⟨ret_int (by have := HP3.out; simpa [HI.out] using this), below_step HB.out hb⟩
      | true =>
        have HI := Lib.hid hi; clear hi
        obtain ⟨hl1, hl4, hn⟩ := isDimsB_near HI.out
        have HN := Lib.hid hn; clear hn
        cases hq : prodOk l 1 with
        | none =>
          have HQ := Lib.hid hq; clear hq
          go_wp2_with (first | (go_at_call 56; refine (isDims_calls _ _ l _ H1.out hcc).mono ?_; rintro e w1 ⟨rfl, hb⟩; rw [HI.out]) | (go_at_call 35; refine (sizes_no _ _ l _ (Kd.C_below H1.out hb) hcc hl4 HN.out HQ.out).mono ?_; rintro e w2 ⟨x0, x1, x2, x3, rfl, hb2⟩))
          go_ret
          exact ⟨ret_int (by have := HP3.out; simpa [HI.out, HQ.out] using this), below_alloc (below_step (below_step HB.out hb) hb2) _⟩
        | some n =>
          have HQ := Lib.hid hq; clear hq
          go_wp2_with (first | (go_at_call 56; refine (isDims_calls _ _ l _ H1.out hcc).mono ?_; rintro e w1 ⟨rfl, hb⟩; rw [HI.out]) | (go_at_call 35; refine (sizes_ok _ _ l _ n (Kd.C_below H1.out hb) hcc hl4 HN.out HQ.out).mono ?_; rintro e w2 ⟨x0, x1, x2, x3, rfl, hb2, hb3⟩; clear hb3))
          go_roundw
          case rel => exact ⟨k + 1, by omega, by go_num, Lib.hid (by have := HP3.out; simpa [HI.out, HQ.out] using this), Lib.hid (below_alloc (below_step (below_step HB.out hb) hb2) _)⟩
          case measure => simp [intOf]; omega
    · have HFE : Hid (checkedL ls = 0) := Lib.hid (by rw [← HP.out, List.drop_eq_nil_of_le (by omega)]; rfl)
      go_wp2
      go_ret
      exact ⟨ret_int HFE.out.symm, HB.out⟩

def prodL : List S40 → Int
  | [] => 1
  | d :: r => ext d * prodL r
theorem prodOk_spec : ∀ (l : List S40) (m n : Int), 1 ≤ m → m ≤ 1000 → prodOk l m = some n → (∀ d ∈ l, 1 ≤ ext d ∧ ext d ≤ 1000) ∧ n = m * prodL l ∧ n ≤ 1000 := by
  intro l
  induction l with
  | nil =>
    intro m n h1 h2 h
    simp only [prodOk, Option.some.injEq] at h
    exact ⟨by simp, by simp [prodL, h], by omega⟩
  | cons d r ih =>
    intro m n h1 h2 h
    simp only [prodOk] at h
    by_cases c1 : ext d < 1 ∨ 1000 < ext d
    · rw [if_pos c1] at h; cases h
    · rw [if_neg c1] at h
      by_cases c2 : 1000 < m * ext d
      · rw [if_pos c2] at h; cases h
      · rw [if_neg c2] at h
        have b2 : 1 ≤ m * ext d := by
          have := Int.mul_le_mul h1 (show 1 ≤ ext d by omega) (by omega) (by omega); omega
        obtain ⟨g1, g2, g3⟩ := ih _ _ b2 (by omega) h
        refine ⟨fun x hx => ?_, by rw [g2, prodL, Int.mul_assoc], g3⟩
        rcases List.mem_cons.1 hx with rfl | hx
        · omega
        · exact g1 x hx
theorem prodL_pos : ∀ l : List S40, (∀ d ∈ l, 1 ≤ ext d) → 1 ≤ prodL l
  | [], _ => by simp [prodL]
  | d :: r, h => by
    have h1 := h d (by simp)
    have h2 := prodL_pos r (fun x hx => h x (by simp [hx]))
    have := Int.mul_le_mul h1 h2 (by omega) (by omega)
    simp only [prodL]; omega
theorem prodL_drop : ∀ (l : List S40) (j : Nat), (∀ d ∈ l, 1 ≤ ext d) → prodL (l.drop j) ≤ prodL l
  | [], j, _ => by simp
  | d :: r, 0, _ => by simp
  | d :: r, j + 1, h => by
    have h1 := h d (by simp)
    have h2 := prodL_pos r (fun x hx => h x (by simp [hx]))
    have h3 := prodL_drop r j (fun x hx => h x (by simp [hx]))
    have := Int.mul_le_mul h1 (Int.le_refl (prodL r)) (by omega) (by omega)
    simp only [List.drop_succ_cons, prodL]; omega
def strL : List S40 → List Int
  | [] => []
  | _ :: r => prodL r :: strL r
def fstL : List S40 → Int
  | [] => 0
  | d :: r => fstL r - prodL r * d.f0
theorem strL_length (l : List S40) : (strL l).length = l.length := by
  induction l with
  | nil => rfl
  | cons d r ih => simp [strL, ih]
theorem mul_bd (p x : Int) (h1 : 1 ≤ p) (h2 : p ≤ 1000) (h3 : -2147483647 ≤ x) (h4 : x ≤ 2147483647) : -2147483647000 ≤ p * x ∧ p * x ≤ 2147483647000 := by
  rcases Int.le_total 0 x with h | h
  · have a := Int.mul_le_mul h2 h4 h (by omega)
    have b := Int.mul_nonneg (show 0 ≤ p by omega) h
    omega
  · have a := Int.mul_le_mul h2 (show -x ≤ 2147483647 by omega) (by omega) (by omega)
    have b := Int.mul_nonneg (show 0 ≤ p by omega) (show 0 ≤ -x by omega)
    have e : p * -x = -(p * x) := Int.mul_neg ..
    omega
/-- what is proper -/
def Proper (l : List S40) : Prop := (∀ d ∈ l, near d) ∧ (∀ d ∈ l, 1 ≤ ext d ∧ ext d ≤ 1000) ∧ prodL l ≤ 1000
theorem Proper.drop {l : List S40} (h : Proper l) (j : Nat) : Proper (l.drop j) :=
  ⟨fun d hd => h.1 d (List.mem_of_mem_drop hd), fun d hd => h.2.1 d (List.mem_of_mem_drop hd), Int.le_trans (prodL_drop l j (fun d hd => (h.2.1 d hd).1)) h.2.2⟩
theorem Proper.pos {l : List S40} (h : Proper l) : 1 ≤ prodL l := prodL_pos l fun d hd => (h.2.1 d hd).1
theorem fstL_bd : ∀ l : List S40, Proper l → -2147483647000 * (l.length : Int) ≤ fstL l ∧ fstL l ≤ 2147483647000 * (l.length : Int)
  | [], _ => by simp [fstL]
  | d :: r, h => by
    have hr : Proper r := h.drop 1
    have h1 := fstL_bd r hr
    have h2 := h.1 d (by simp)
    unfold near at h2
    have h3 := mul_bd (prodL r) d.f0 hr.pos hr.2.2 h2.1 h2.2.1
    simp only [fstL, List.length_cons]
    omega
theorem proper_of {l : List S40} {n : Int} (hn : ∀ d ∈ l, near d) (h : prodOk l 1 = some n) : Proper l ∧ n = prodL l := by
  obtain ⟨h1, h2, h3⟩ := prodOk_spec l 1 n (by omega) (by omega) h
  exact ⟨⟨hn, h1, by omega⟩, by omega⟩
end Go.Proofs.Ytcjjmhgboibbgaa.Q
