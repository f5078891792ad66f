import Derived.Test.YtcjjmhgboibbgaaQ0
import Derived.Lib.Hide
import Derived.WalkSpells
import Derived.Outline
import Derived.Laws.EntriesVeiled
namespace Go.Proofs.Ytcjjmhgboibbgaa.Q
open Go.RowKit Go.Proofs.YtcjjmhgboibbgaaW.PrintWords Go.Proofs.YtcjjmhgboibbgaaW.PrintLast Go.Proofs.YtcjjmhgboibbgaaW.PrintMore
set_option linter.unusedVariables false
set_option linter.unusedSimpArgs false

theorem ret_int {k : IntKind} {a b : Int} (h : a = b) : Ending.returned (.int k a) = .returned (.int k b) := by rw [h]
theorem ret_bool {a b : Bool} (h : a = b) : Ending.returned (.bool a) = .returned (.bool b) := by rw [h]

def farB (n : Int) : Bool := decide (n < -2147483647 ∨ 2147483647 < n)
theorem far_calls (n : Int) (w : World) :
    Calls Try.prog 72 #[.int .i64 n] w fun e w' => e = .returned (.bool (farB n)) ∧ w = w' := by
  unfold farB
  by_cases h1 : n < -2147483647
  · go_enter Try.func72, Try.ntmps72
    go_wp2
    go_ret
    exact ⟨by simp [h1], rfl⟩
  · go_enter Try.func72, Try.ntmps72
    go_wp2
    go_ret
    exact ⟨by simp; omega, rfl⟩

def dimFar (d : S40) : Bool := farB d.f0 || farB d.f1
theorem dimFar_calls (d : S40) (p : Addr) (w : World) (hp : w.cell? p = some (.func (.func 72) #[] #[])) :
    Calls Try.prog 74 #[.agg #[.int .i64 d.f0, .int .i64 d.f1], .pointer (some p)] w fun e w' => e = .returned (.bool (dimFar d)) ∧ Below w.heap.size w w' := by
  have hlt := World.block_lt_of_cell? w p hp
  unfold dimFar
  cases h0 : farB d.f0 with
  | true =>
    have H0 := Lib.hid h0; clear h0
    go_enter Try.func74, Try.ntmps74
    go_wp2_with (go_at_call 72; refine (far_calls _ _).mono ?_; rintro e w' ⟨rfl, rfl⟩; rw [H0.out])
    go_ret
    exact ⟨by simp, below_alloc (Below.refl _ _) _⟩
  | false =>
    have H0 := Lib.hid h0; clear h0
    go_enter Try.func74, Try.ntmps74
    go_wp2_with (go_at_call 72; refine (far_calls _ _).mono ?_; rintro e w' ⟨rfl, rfl⟩; try rw [H0.out])
    go_ret
    exact ⟨by simp, below_alloc (Below.refl _ _) _⟩

/-- slices.IndexFunc over dims with isDims$2. -/
def firstFar : List S40 → Int → Int
  | [], _ => -1
  | d :: r, i => if dimFar d then i else firstFar r (i + 1)
theorem index_calls (A : Option Addr) (c : Nat) (l : List S40) (p : Addr) (w : World) (hr : Kd.C k40 w A l.length l) (hc : l.length ≤ c) (hm : l.length ≤ 4) (hp : w.cell? p = some (.func (.func 72) #[] #[])) :
    Calls Try.prog 80 #[.slice A l.length c, .func (.func 74) #[] #[.pointer (some p)]] w fun e w' => e = .returned (.int .i64 (firstFar l 0)) ∧ Below w.heap.size w w' := by
  have HR := Lib.hid hr; clear hr
  go_enter Try.func80, Try.ntmps80
  go_wp2
  go_loopw [5, 8] (fun _ i wr => ∃ k : Nat, k ≤ l.length ∧ i = .int .i64 k ∧ Hid (firstFar (l.drop k) k = firstFar l 0) ∧ Hid (Below w.heap.size w wr)) (fun _ i _ => l.length - (intOf i).toNat)
  case atStart => exact ⟨0, Nat.zero_le _, rfl, Lib.hid rfl, Lib.hid (Below.refl _ _)⟩
  case round =>
    obtain ⟨k, hk, rfl, HF, HB⟩ := hrel
    by_cases hlt : k < l.length
    · obtain ⟨ad, e1, h0, h1⟩ := at_T40 HR.out (k : Int) (by omega) (by omega)
      have HF2 := HF.out
      rw [List.drop_eq_getElem_cons hlt] at HF2
      have ek : rd_T40 l (k : Int) = l[k] := by simp [rd_T40, List.getD, hlt]
      rw [ek] at h0 h1
      cases e1
      replace h0 := (HB.out.cell (World.block_lt_of_cell? w _ h0)).trans h0
      replace h1 := (HB.out.cell (World.block_lt_of_cell? w _ h1)).trans h1
      have hp2 := (HB.out.cell (World.block_lt_of_cell? w _ hp)).trans hp
      simp only [Int.toNat_natCast] at h0 h1
      simp only [firstFar] at HF2
      have HF3 := Lib.hid HF2; clear HF2 ek
      clear hp
      cases hd : dimFar l[k] with
      | true =>
        have HD := Lib.hid hd; clear hd
        go_wp2_with (go_at_call 74; refine (dimFar_calls _ _ _ hp2).mono ?_; rintro e w' ⟨rfl, hb⟩; rw [HD.out])
        go_ret
        exact ⟨ret_int (by have := HF3.out; rw [if_pos HD.out] at this; exact this), below_step HB.out hb⟩
      | false =>
        have HD := Lib.hid hd; clear hd
        go_wp2_with (go_at_call 74; refine (dimFar_calls _ _ _ hp2).mono ?_; rintro e w' ⟨rfl, hb⟩; rw [HD.out])
        go_roundw
        case rel => exact ⟨k + 1, by omega, by go_num, Lib.hid (by have := HF3.out; rw [if_neg (by simp [HD.out])] at this; simpa using this), Lib.hid (below_step HB.out hb)⟩
        case measure => simp [intOf]; omega
    · have HFE : Hid (firstFar l 0 = -1) := Lib.hid (by rw [← HF.out, List.drop_eq_nil_of_le (by omega)]; rfl)
      go_wp2
      go_ret
      exact ⟨ret_int HFE.out.symm, HB.out⟩

theorem firstFar_any (l : List S40) : ∀ i : Int, 0 ≤ i → decide (0 ≤ firstFar l i) = l.any dimFar := by
  induction l with
  | nil => intro i _; simp [firstFar]
  | cons d r ih =>
    intro i hi
    simp only [firstFar, List.any_cons]
    by_cases h : dimFar d = true
    · simp [h, hi]
    · simpa [h] using ih (i + 1) (by omega)
theorem contains_calls (A : Option Addr) (c : Nat) (l : List S40) (p : Addr) (w : World) (hr : Kd.C k40 w A l.length l) (hc : l.length ≤ c) (hm : l.length ≤ 4) (hp : w.cell? p = some (.func (.func 72) #[] #[])) :
    Calls Try.prog 73 #[.slice A l.length c, .func (.func 74) #[] #[.pointer (some p)]] w fun e w' => e = .returned (.bool (l.any dimFar)) ∧ Below w.heap.size w w' := by
  have HA := Lib.hid (firstFar_any l 0 (Int.le_refl _))
  go_enter Try.func73, Try.ntmps73
  go_wp2_with (go_at_call 80; refine (index_calls _ _ l _ _ hr hc hm hp).mono ?_; rintro e w' ⟨rfl, hb⟩)
  go_ret
  exact ⟨ret_bool HA.out, hb⟩
def isDimsB (l : List S40) : Bool := decide (1 ≤ l.length) && decide (l.length ≤ 4) && !l.any dimFar
theorem isDims_calls (A : Option Addr) (c : Nat) (l : List S40) (w : World) (hr : Kd.C k40 w A l.length l) (hc : l.length ≤ c) :
    Calls Try.prog 56 #[.slice A l.length c] w fun e w' => e = .returned (.bool (isDimsB l)) ∧ Below w.heap.size w w' := by
  have hmf : ∀ (fn : Fn) (first cap : Array Value) (w : World), (Instr.makeFunc fn first cap).run Try.prog w = .ok (.func fn first cap) w := fun _ _ _ _ => rfl
  by_cases h1 : 1 ≤ l.length
  · by_cases h2 : l.length ≤ 4
    · have HR := Lib.hid hr; clear hr
      have HE : Hid (isDimsB l = !l.any dimFar) := Lib.hid (by simp [isDimsB, h1, h2])
      go_enter Try.func56, Try.ntmps56
      go_wp2_with (go_at_call 73; refine (contains_calls _ _ l ⟨w.heap.size, 0, none⟩ _ ?hr hc h2 ?hp).mono ?_; rotate_left 2; rintro e w' ⟨rfl, hb⟩)
      case hr => exact Kd.C_below HR.out (below_alloc (Below.refl _ _) _)
      case hp => simp [go_sem]
      go_ret
      exact ⟨ret_bool HE.out.symm, below_step (below_alloc (Below.refl _ _) _) hb⟩
    · have HE : Hid (isDimsB l = false) := Lib.hid (by simp [isDimsB, h2])
      go_enter Try.func56, Try.ntmps56
      go_wp2
      go_ret
      exact ⟨ret_bool HE.out.symm, below_alloc (Below.refl _ _) _⟩
  · have HE : Hid (isDimsB l = false) := Lib.hid (by simp [isDimsB, h1])
    go_enter Try.func56, Try.ntmps56
    go_wp2
    go_ret
    exact ⟨ret_bool HE.out.symm, below_alloc (Below.refl _ _) _⟩
end Go.Proofs.Ytcjjmhgboibbgaa.Q
