import Derived.Test.YtcjjmhgboibbgaaHc3
namespace Go.Proofs.Ytcjjmhgboibbgaa.Q
open Go.RowKit Go.Shelf Go.Proofs.Rf Go.Proofs.YtcjjmhgboibbgaaW.PrintWords Go.Proofs.YtcjjmhgboibbgaaW.PrintLast Go.Proofs.YtcjjmhgboibbgaaW.PrintMore
set_option linter.unusedVariables false
set_option linter.unusedSimpArgs false
/-- the way on which the dimensions change -/
def Changes (t : Int) (ds : List S40) (es : List S59) (l1 : List S40) : Prop :=
  isTy t = true ∧ checkF t ds es = some 0 ∧ errOf ds = 0 ∧ errOf l1 = 0 ∧ l1.length = ds.length ∧ allSame l1 ds = false ∧ (es.length : Int) = prodL ds
instance (t : Int) (ds : List S40) (es : List S59) (l1 : List S40) : Decidable (Changes t ds es l1) := by unfold Changes; exact inferInstance
def array_Resize.f (a0_0 : Int) (l0_1 : List (S40)) (l0_2 : List (S59)) (l1 : List (S40)) : Option (Int × (List (S40)) × (List (S59)) × Int) :=
  if Changes a0_0 l0_1 l0_2 l1 then some (a0_0, l1, resL a0_0 l0_1 l0_2 l1, 0) else none
theorem C_some {α : Type} {d : Kd α} {w : World} {A : Option Addr} {n : Nat} {xs : List α} (h : d.C w A n xs) (h0 : 0 < n) : ∃ ad, A = some ad := by
  obtain ⟨ad, e, _⟩ := h.2.2 h0
  exact ⟨ad, e⟩
theorem array_Resize.calls (a0_0 : Int) (A0_1 : Option Addr) (c0_1 : Nat) (l0_1 : List (S40)) (A0_2 : Option Addr) (c0_2 : Nat) (l0_2 : List (S59)) (A1 : Option Addr) (c1 : Nat) (l1 : List (S40)) (r1 : Int) (r2 : List (S40)) (r3 : List (S59)) (r4 : Int) (w : World) (hr0_1 : Kd.C k40 w A0_1 l0_1.length l0_1) (hc0_1 : l0_1.length ≤ c0_1) (hr0_2 : Kd.C k59 w A0_2 l0_2.length l0_2) (hc0_2 : l0_2.length ≤ c0_2) (hr1 : Kd.C k40 w A1 l1.length l1) (hc1 : l1.length ≤ c1) (h : array_Resize.f a0_0 l0_1 l0_2 l1 = some (r1, r2, r3, r4)) :
    Calls Try.prog 27 #[.agg #[.int .i64 a0_0, .slice A0_1 l0_1.length c0_1, .slice A0_2 l0_2.length c0_2], .slice A1 l1.length c1] w fun e w' => ∃ v1_ v2_ : Value, e = .returned (.tuple #[.agg #[.int .i64 r1, v1_, v2_], .int .i64 r4]) ∧ Kd.R k40 40 w' w.heap.size (fun _ => True) v1_ r2 ∧ Kd.R k59 59 w' w.heap.size (fun _ => True) v2_ r3 ∧ Below w.heap.size w w' := by
  unfold array_Resize.f at h
  by_cases hc : Changes a0_0 l0_1 l0_2 l1
  · rw [if_pos hc] at h
    simp only [Option.some.injEq, Prod.mk.injEq] at h
    obtain ⟨rfl, rfl, rfl, rfl⟩ := h
    obtain ⟨ht, hchk, hd, hl, hlen, hne, hm⟩ := hc
    obtain ⟨_, hp, _, h1, _⟩ := errOf_zero hd
    have hp1 := hp.pos
    obtain ⟨ad1, rfl⟩ := C_some hr0_1 h1
    obtain ⟨ad2, rfl⟩ := C_some hr0_2 (by omega)
    obtain ⟨ad3, rfl⟩ := C_some hr1 (by omega)
    rw [hlen] at hr1 hc1 ⊢
    refine ((callsIn_wide (n := 0)).1 (resize_walk a0_0 ad1 ad2 ad3 c0_1 c0_2 c1 l0_1.length l0_2.length l0_1 l1 l0_2 w hr0_1 hc0_1 hr0_2 hc0_2 hr1 hc1 ht hchk hd hl hne hm)).mono ?_
    rintro e w' ⟨v1, v2, he, h1, h2, h3⟩
    exact ⟨v1, v2, he, h1, h2, h3⟩
  · rw [if_neg hc] at h; cases h
end Go.Proofs.Ytcjjmhgboibbgaa.Q
