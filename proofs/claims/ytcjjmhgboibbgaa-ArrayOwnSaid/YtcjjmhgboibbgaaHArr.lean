import Derived.Test.YtcjjmhgboibbgaaHd
namespace Go.Proofs.Ytcjjmhgboibbgaa.Q
open Go.RowKit Go.Proofs.YtcjjmhgboibbgaaW.PrintWords Go.Proofs.YtcjjmhgboibbgaaW.PrintLast Go.Proofs.YtcjjmhgboibbgaaW.PrintMore
set_option linter.unusedVariables false
set_option linter.unusedSimpArgs false

theorem at_int {w : World} {A : Option Addr} {n : Nat} {xs : List Int} (h : Kd.C (Kd.int .i64) w A n xs) (i : Nat) (hi : i < n) : ∃ ad, A = some ad ∧ w.cell? (ad.add i) = some (.int .i64 (xs.getD i 0)) := by
  have h2 := (Kd.reads_of_C (d := (0 : Int)) h)
  obtain ⟨hl, _, h3⟩ := h2
  have h4 := Kd.C_get h 0 (i : Int) (by omega) (by omega)
  obtain ⟨ad, c, e, _, hK, hc⟩ := h4
  obtain ⟨rfl⟩ := hK
  exact ⟨ad, e, by simpa [show (Kd.int .i64).sz = 1 from rfl] using hc 0 _ rfl⟩
/-- A new row of slices. -/
theorem C_rows (W : World) (vs : List Value) (ls : List (List S40)) (hl : vs.length = ls.length) (h9 : ls.length ≤ 9)
    (h : ∀ (j : Nat) (l : List S40), ls[j]? = some l → ∃ (A : Option Addr) (c : Nat), vs[j]? = some (Value.slice A l.length c) ∧ l.length ≤ c ∧ Kd.C k40 W A l.length l) :
    Kd.C (Kd.slice 40 k40) (W.alloc (.cells vs.toArray 22)) (some ⟨W.heap.size, 0, none⟩) ls.length ls := by
  refine ⟨rfl, by omega, fun _ => ⟨⟨W.heap.size, 0, none⟩, rfl, fun j l hj => ?_⟩⟩
  obtain ⟨A, c, hv, hc, hC⟩ := h j l hj
  refine ⟨[.slice A l.length c], rfl, ⟨A, c, rfl, hc, Kd.C_below hC (below_alloc (Below.refl _ _) _)⟩, fun i u hu => ?_⟩
  cases i with
  | succ i => simp at hu
  | zero =>
    simp only [List.getElem?_cons_zero, Option.some.injEq] at hu
    subst hu
    rw [show (Kd.slice 40 k40).sz = 1 from rfl, Nat.mul_one, Nat.add_zero, add_plain, blk_cell (heap_alloc_new _ _)]
    simpa using hv
theorem C_one (W : World) (A : Option Addr) (c : Nat) (l : List S40) (hc : l.length ≤ c) (h : Kd.C k40 W A l.length l) :
    Kd.C (Kd.slice 40 k40) (W.alloc (.cells #[.slice A l.length c] 22)) (some ⟨W.heap.size, 0, none⟩) [l].length [l] := by
  refine C_rows W [.slice A l.length c] [l] rfl (by simp) fun j l' hj => ?_
  cases j with
  | zero => simp at hj; subst hj; exact ⟨A, c, rfl, hc, h⟩
  | succ j => simp at hj
theorem C_two (W : World) (A : Option Addr) (c : Nat) (l : List S40) (hc : l.length ≤ c) (h : Kd.C k40 W A l.length l) (A1 : Option Addr) (c1 : Nat) (l1 : List S40) (hc1 : l1.length ≤ c1) (h1 : Kd.C k40 W A1 l1.length l1) :
    Kd.C (Kd.slice 40 k40) (W.alloc (.cells #[.slice A l.length c, .slice A1 l1.length c1] 22)) (some ⟨W.heap.size, 0, none⟩) [l, l1].length [l, l1] := by
  refine C_rows W [.slice A l.length c, .slice A1 l1.length c1] [l, l1] rfl (by simp) fun j l' hj => ?_
  match j, hj with
  | 0, hj => simp at hj; subst hj; exact ⟨A, c, rfl, hc, h⟩
  | 1, hj => simp at hj; subst hj; exact ⟨A1, c1, rfl, hc1, h1⟩
  | j + 2, hj => simp at hj

theorem errOf_zero {l : List S40} (h : errOf l = 0) : isDimsB l = true ∧ Proper l ∧ prodOk l 1 = some (prodL l) ∧ 1 ≤ l.length ∧ l.length ≤ 4 := by
  unfold errOf at h
  cases hi : isDimsB l with
  | false => simp [hi] at h
  | true =>
    obtain ⟨h1, h4, hn⟩ := isDimsB_near hi
    cases hq : prodOk l 1 with
    | none => simp [hi, hq] at h
    | some n =>
      obtain ⟨hp, rfl⟩ := proper_of hn hq
      exact ⟨rfl, hp, rfl, h1, h4⟩
theorem checkedL_one (l : List S40) : checkedL [l] = errOf l := by
  simp only [checkedL]; split <;> simp_all


/-! what the print is told -/
def array_checked.f (l0 : List (List (S40))) : Option (Int) := if l0.length ≤ 4 then some (checkedL l0) else none
theorem array_checked.calls (A0 : Option Addr) (c0 : Nat) (l0 : List (List (S40))) (r : Int) (w : World) (hr0 : Kd.C (Kd.slice 40 k40) w A0 l0.length l0) (hc0 : l0.length ≤ c0) (h : array_checked.f l0 = some r) :
    Calls Try.prog 34 #[.slice A0 l0.length c0] w fun e w' => e = .returned (.int .i64 r) ∧ Below w.heap.size w w' := by
  unfold array_checked.f at h
  by_cases h4 : l0.length ≤ 4
  · rw [if_pos h4] at h
    obtain rfl := Option.some.inj h
    exact checked_calls A0 c0 l0 w hr0 hc0 h4
  · rw [if_neg h4] at h; cases h

def exA (l : List S40) (j : Nat) : Int := ((l[j]?).map ext).getD 0
def array_sizes.f (l0 : List (S40)) : Option (Int × Int × Int × Int × Int × Bool) := if errOf l0 = 0 then some (exA l0 0, exA l0 1, exA l0 2, exA l0 3, prodL l0, true) else none
theorem array_sizes.calls (A0 : Option Addr) (c0 : Nat) (l0 : List (S40)) (r1 : Int) (r2 : Int) (r3 : Int) (r4 : Int) (r5 : Int) (r6 : Bool) (w : World) (hr0 : Kd.C k40 w A0 l0.length l0) (hc0 : l0.length ≤ c0) (h : array_sizes.f l0 = some (r1, r2, r3, r4, r5, r6)) :
    Calls Try.prog 35 #[.slice A0 l0.length c0] w fun e w' => e = .returned (.tuple #[.agg #[.int .i64 r1, .int .i64 r2, .int .i64 r3, .int .i64 r4], .int .i64 r5, .bool r6]) ∧ Below w.heap.size w w' := by
  unfold array_sizes.f at h
  by_cases he : errOf l0 = 0
  · rw [if_pos he] at h
    simp only [Option.some.injEq, Prod.mk.injEq] at h
    obtain ⟨rfl, rfl, rfl, rfl, rfl, rfl⟩ := h
    obtain ⟨_, hp, hq, h1, h4⟩ := errOf_zero he
    refine (sizes_ok A0 c0 l0 w _ hr0 hc0 h4 hp.1 hq).mono fun e w' ⟨x0, x1, x2, x3, h, hb, hx⟩ => ⟨?_, hb⟩
    have g0 := hx 0 (by omega)
    have g1 := hx 1 (by omega)
    have g2 := hx 2 (by omega)
    have g3 := hx 3 (by omega)
    simp only [List.getElem?_cons_zero, List.getElem?_cons_succ, Option.some.injEq] at g0 g1 g2 g3
    rw [h, g0, g1, g2, g3]; rfl
  · rw [if_neg he] at h; cases h

def array_strides.f (l0 : List (S40)) : Option (List Int × Int) := if errOf l0 = 0 then some (strL l0, fstL l0) else none
theorem array_strides.calls (A0 : Option Addr) (c0 : Nat) (l0 : List (S40)) (r1 : List Int) (r2 : Int) (w : World) (hr0 : Kd.C k40 w A0 l0.length l0) (hc0 : l0.length ≤ c0) (h : array_strides.f l0 = some (r1, r2)) :
    Calls Try.prog 37 #[.slice A0 l0.length c0] w fun e w' => ∃ v0_ : Value, e = .returned (.tuple #[v0_, .int .i64 r2]) ∧ Kd.R (Kd.int .i64) 3 w' w.heap.size (fun _ => True) v0_ r1 ∧ Below w.heap.size w w' := by
  unfold array_strides.f at h
  by_cases he : errOf l0 = 0
  · rw [if_pos he] at h
    simp only [Option.some.injEq, Prod.mk.injEq] at h
    obtain ⟨rfl, rfl⟩ := h
    obtain ⟨_, hp, hq, h1, h4⟩ := errOf_zero he
    exact strides_calls A0 c0 l0 w hr0 hc0 h4 hp hq
  · rw [if_neg he] at h; cases h
end Go.Proofs.Ytcjjmhgboibbgaa.Q
