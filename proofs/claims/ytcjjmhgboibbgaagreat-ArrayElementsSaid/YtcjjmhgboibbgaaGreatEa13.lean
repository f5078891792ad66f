/-
 Texts of the proof, in build order: words that the walks use, contracts of functions, plain facts.
-/
import Derived.WideKeyRuns
import Derived.Deep.MidRow
import Derived.Test.YtcjjmhgboibbgaaGreatEa12
set_option maxHeartbeats 40000000
set_option maxRecDepth 100000
set_option linter.unusedVariables false
set_option linter.unusedSimpArgs false
section
namespace Go.Proofs.Q
open RowKit Shelf Rf Pw Pl Pm
theorem lt15 {T : Array Value} {a2 a8 a9 a10 : Value} (hs : T.size = 79) (h2 : T[2]? = some a2) (h8 : T[8]? = some a8) (h9 : T[9]? = some a9) (h10 : T[10]? = some a10) : ∃ u : Nat → Value, T = List.toArray (u 0 :: u 1 :: a2 :: u 3 :: u 4 :: u 5 :: u 6 :: u 7 :: a8 :: a9 :: a10 :: u 11 :: u 12 :: u 13 :: u 14 :: u 15 :: u 16 :: u 17 :: u 18 :: u 19 :: u 20 :: u 21 :: u 22 :: u 23 :: u 24 :: u 25 :: u 26 :: u 27 :: u 28 :: u 29 :: u 30 :: u 31 :: u 32 :: u 33 :: u 34 :: u 35 :: u 36 :: u 37 :: u 38 :: u 39 :: u 40 :: u 41 :: u 42 :: u 43 :: u 44 :: u 45 :: u 46 :: u 47 :: u 48 :: u 49 :: u 50 :: u 51 :: u 52 :: u 53 :: u 54 :: u 55 :: u 56 :: u 57 :: u 58 :: u 59 :: u 60 :: u 61 :: u 62 :: u 63 :: u 64 :: u 65 :: u 66 :: u 67 :: u 68 :: u 69 :: u 70 :: u 71 :: u 72 :: u 73 :: u 74 :: u 75 :: u 76 :: u 77 :: u 78 :: []) := by
 refine ⟨fun i => T[i]?.getD undef, ?_⟩
 apply Array.ext_getElem?
 intro i
 rcases Nat.lt_or_ge i 79 with hi | hi
 ·have hall : ∀ n, n < 79 → T[n]? = some (T[n]?.getD undef) := fun n hn => by rw [Array.getElem?_eq_getElem (by omega)]; rfl
  match i, hi with
  | 0, _ => exact hall 0 (by omega)
  | 1, _ => exact hall 1 (by omega)
  | 2, _ => exact h2
  | 3, _ => exact hall 3 (by omega)
  | 4, _ => exact hall 4 (by omega)
  | 5, _ => exact hall 5 (by omega)
  | 6, _ => exact hall 6 (by omega)
  | 7, _ => exact hall 7 (by omega)
  | 8, _ => exact h8
  | 9, _ => exact h9
  | 10, _ => exact h10
  | 11, _ => exact hall 11 (by omega)
  | 12, _ => exact hall 12 (by omega)
  | 13, _ => exact hall 13 (by omega)
  | 14, _ => exact hall 14 (by omega)
  | 15, _ => exact hall 15 (by omega)
  | 16, _ => exact hall 16 (by omega)
  | 17, _ => exact hall 17 (by omega)
  | 18, _ => exact hall 18 (by omega)
  | 19, _ => exact hall 19 (by omega)
  | 20, _ => exact hall 20 (by omega)
  | 21, _ => exact hall 21 (by omega)
  | 22, _ => exact hall 22 (by omega)
  | 23, _ => exact hall 23 (by omega)
  | 24, _ => exact hall 24 (by omega)
  | 25, _ => exact hall 25 (by omega)
  | 26, _ => exact hall 26 (by omega)
  | 27, _ => exact hall 27 (by omega)
  | 28, _ => exact hall 28 (by omega)
  | 29, _ => exact hall 29 (by omega)
  | 30, _ => exact hall 30 (by omega)
  | 31, _ => exact hall 31 (by omega)
  | 32, _ => exact hall 32 (by omega)
  | 33, _ => exact hall 33 (by omega)
  | 34, _ => exact hall 34 (by omega)
  | 35, _ => exact hall 35 (by omega)
  | 36, _ => exact hall 36 (by omega)
  | 37, _ => exact hall 37 (by omega)
  | 38, _ => exact hall 38 (by omega)
  | 39, _ => exact hall 39 (by omega)
  | 40, _ => exact hall 40 (by omega)
  | 41, _ => exact hall 41 (by omega)
  | 42, _ => exact hall 42 (by omega)
  | 43, _ => exact hall 43 (by omega)
  | 44, _ => exact hall 44 (by omega)
  | 45, _ => exact hall 45 (by omega)
  | 46, _ => exact hall 46 (by omega)
  | 47, _ => exact hall 47 (by omega)
  | 48, _ => exact hall 48 (by omega)
  | 49, _ => exact hall 49 (by omega)
  | 50, _ => exact hall 50 (by omega)
  | 51, _ => exact hall 51 (by omega)
  | 52, _ => exact hall 52 (by omega)
  | 53, _ => exact hall 53 (by omega)
  | 54, _ => exact hall 54 (by omega)
  | 55, _ => exact hall 55 (by omega)
  | 56, _ => exact hall 56 (by omega)
  | 57, _ => exact hall 57 (by omega)
  | 58, _ => exact hall 58 (by omega)
  | 59, _ => exact hall 59 (by omega)
  | 60, _ => exact hall 60 (by omega)
  | 61, _ => exact hall 61 (by omega)
  | 62, _ => exact hall 62 (by omega)
  | 63, _ => exact hall 63 (by omega)
  | 64, _ => exact hall 64 (by omega)
  | 65, _ => exact hall 65 (by omega)
  | 66, _ => exact hall 66 (by omega)
  | 67, _ => exact hall 67 (by omega)
  | 68, _ => exact hall 68 (by omega)
  | 69, _ => exact hall 69 (by omega)
  | 70, _ => exact hall 70 (by omega)
  | 71, _ => exact hall 71 (by omega)
  | 72, _ => exact hall 72 (by omega)
  | 73, _ => exact hall 73 (by omega)
  | 74, _ => exact hall 74 (by omega)
  | 75, _ => exact hall 75 (by omega)
  | 76, _ => exact hall 76 (by omega)
  | 77, _ => exact hall 77 (by omega)
  | 78, _ => exact hall 78 (by omega)
  | n + 79, hi => exact absurd hi (by omega)
 ·rw [Array.getElem?_eq_none (by omega), Array.getElem?_eq_none (by simp; omega)]
theorem lt21 {T : Array Value} {a2 a8 a9 a11 a12 : Value} (hs : T.size = 79) (h2 : T[2]? = some a2) (h8 : T[8]? = some a8) (h9 : T[9]? = some a9) (h11 : T[11]? = some a11) (h12 : T[12]? = some a12) : ∃ u : Nat → Value, T = List.toArray (u 0 :: u 1 :: a2 :: u 3 :: u 4 :: u 5 :: u 6 :: u 7 :: a8 :: a9 :: u 10 :: a11 :: a12 :: u 13 :: u 14 :: u 15 :: u 16 :: u 17 :: u 18 :: u 19 :: u 20 :: u 21 :: u 22 :: u 23 :: u 24 :: u 25 :: u 26 :: u 27 :: u 28 :: u 29 :: u 30 :: u 31 :: u 32 :: u 33 :: u 34 :: u 35 :: u 36 :: u 37 :: u 38 :: u 39 :: u 40 :: u 41 :: u 42 :: u 43 :: u 44 :: u 45 :: u 46 :: u 47 :: u 48 :: u 49 :: u 50 :: u 51 :: u 52 :: u 53 :: u 54 :: u 55 :: u 56 :: u 57 :: u 58 :: u 59 :: u 60 :: u 61 :: u 62 :: u 63 :: u 64 :: u 65 :: u 66 :: u 67 :: u 68 :: u 69 :: u 70 :: u 71 :: u 72 :: u 73 :: u 74 :: u 75 :: u 76 :: u 77 :: u 78 :: []) := by
 refine ⟨fun i => T[i]?.getD undef, ?_⟩
 apply Array.ext_getElem?
 intro i
 rcases Nat.lt_or_ge i 79 with hi | hi
 ·have hall : ∀ n, n < 79 → T[n]? = some (T[n]?.getD undef) := fun n hn => by rw [Array.getElem?_eq_getElem (by omega)]; rfl
  match i, hi with
  | 0, _ => exact hall 0 (by omega)
  | 1, _ => exact hall 1 (by omega)
  | 2, _ => exact h2
  | 3, _ => exact hall 3 (by omega)
  | 4, _ => exact hall 4 (by omega)
  | 5, _ => exact hall 5 (by omega)
  | 6, _ => exact hall 6 (by omega)
  | 7, _ => exact hall 7 (by omega)
  | 8, _ => exact h8
  | 9, _ => exact h9
  | 10, _ => exact hall 10 (by omega)
  | 11, _ => exact h11
  | 12, _ => exact h12
  | 13, _ => exact hall 13 (by omega)
  | 14, _ => exact hall 14 (by omega)
  | 15, _ => exact hall 15 (by omega)
  | 16, _ => exact hall 16 (by omega)
  | 17, _ => exact hall 17 (by omega)
  | 18, _ => exact hall 18 (by omega)
  | 19, _ => exact hall 19 (by omega)
  | 20, _ => exact hall 20 (by omega)
  | 21, _ => exact hall 21 (by omega)
  | 22, _ => exact hall 22 (by omega)
  | 23, _ => exact hall 23 (by omega)
  | 24, _ => exact hall 24 (by omega)
  | 25, _ => exact hall 25 (by omega)
  | 26, _ => exact hall 26 (by omega)
  | 27, _ => exact hall 27 (by omega)
  | 28, _ => exact hall 28 (by omega)
  | 29, _ => exact hall 29 (by omega)
  | 30, _ => exact hall 30 (by omega)
  | 31, _ => exact hall 31 (by omega)
  | 32, _ => exact hall 32 (by omega)
  | 33, _ => exact hall 33 (by omega)
  | 34, _ => exact hall 34 (by omega)
  | 35, _ => exact hall 35 (by omega)
  | 36, _ => exact hall 36 (by omega)
  | 37, _ => exact hall 37 (by omega)
  | 38, _ => exact hall 38 (by omega)
  | 39, _ => exact hall 39 (by omega)
  | 40, _ => exact hall 40 (by omega)
  | 41, _ => exact hall 41 (by omega)
  | 42, _ => exact hall 42 (by omega)
  | 43, _ => exact hall 43 (by omega)
  | 44, _ => exact hall 44 (by omega)
  | 45, _ => exact hall 45 (by omega)
  | 46, _ => exact hall 46 (by omega)
  | 47, _ => exact hall 47 (by omega)
  | 48, _ => exact hall 48 (by omega)
  | 49, _ => exact hall 49 (by omega)
  | 50, _ => exact hall 50 (by omega)
  | 51, _ => exact hall 51 (by omega)
  | 52, _ => exact hall 52 (by omega)
  | 53, _ => exact hall 53 (by omega)
  | 54, _ => exact hall 54 (by omega)
  | 55, _ => exact hall 55 (by omega)
  | 56, _ => exact hall 56 (by omega)
  | 57, _ => exact hall 57 (by omega)
  | 58, _ => exact hall 58 (by omega)
  | 59, _ => exact hall 59 (by omega)
  | 60, _ => exact hall 60 (by omega)
  | 61, _ => exact hall 61 (by omega)
  | 62, _ => exact hall 62 (by omega)
  | 63, _ => exact hall 63 (by omega)
  | 64, _ => exact hall 64 (by omega)
  | 65, _ => exact hall 65 (by omega)
  | 66, _ => exact hall 66 (by omega)
  | 67, _ => exact hall 67 (by omega)
  | 68, _ => exact hall 68 (by omega)
  | 69, _ => exact hall 69 (by omega)
  | 70, _ => exact hall 70 (by omega)
  | 71, _ => exact hall 71 (by omega)
  | 72, _ => exact hall 72 (by omega)
  | 73, _ => exact hall 73 (by omega)
  | 74, _ => exact hall 74 (by omega)
  | 75, _ => exact hall 75 (by omega)
  | 76, _ => exact hall 76 (by omega)
  | 77, _ => exact hall 77 (by omega)
  | 78, _ => exact hall 78 (by omega)
  | n + 79, hi => exact absurd hi (by omega)
 ·rw [Array.getElem?_eq_none (by omega), Array.getElem?_eq_none (by simp; omega)]
theorem region15' {T : Array Value} {l : Nat} {Q : Exit → Act → World → Prop} {ds : List Deferred} {ba bo bk bm c ne ce k ge oe : Nat} {A : Option Addr} {ae : Addr} {ks : List Int} {x : S38} {W : World} {R : World → Prop}
  (hT : T.size = 79) (hT2 : T[2]? = some (.pointer (some ⟨ba, 0, none⟩))) (hT8 : T[8]? = some (.pointer (some ⟨bo, 0, none⟩))) (hT9 : T[9]? = some (.pointer (some ⟨bk, 0, none⟩))) (hT10 : T[10]? = some (.slice A ks.length c))
  (hmp : W.cell? ⟨bo, 0, none⟩ = some (.map (some bm))) (hel : W.cell? ⟨ba, 2, none⟩ = some (.slice (some ae) ne ce)) (hk : W.cell? ⟨bk, 0, none⟩ = some (.int .i64 (k : Int))) (hkn : k < ne) (hadd : ae.add (k * 5) = ⟨ge, oe, none⟩)
  (e0 : W.cell? ⟨ge, oe, none⟩ = some (.int .i64 x.f0)) (e1 : W.cell? ⟨ge, oe + 1, none⟩ = some (.int .i64 x.f1)) (e2 : W.cell? ⟨ge, oe + 2, none⟩ = some (.int .i64 x.f2.f0)) (e3 : W.cell? ⟨ge, oe + 3, none⟩ = some (.int .i64 x.f2.f1)) (e4 : W.cell? ⟨ge, oe + 4, none⟩ = some (.bool x.f3))
  (hC : Kd.C (Kd.int .i64) W A ks.length ks) (h0 : 0 < ks.length) (h4 : ks.length ≤ 4)
  (hup : ∀ w, Kb (fun _ => False) W w → ∃ w', (Instr.mapUpdate 60 (.map (some bm)) (keyV ks) (v59 x)).run Tryz.prog w = .ok () w' ∧ R w')
  (hQ : ∀ (u' : Nat → Value) (w' : World), R w' → Q .normal { tmps := List.toArray (u' 0 :: u' 1 :: .pointer (some ⟨ba, 0, none⟩) :: u' 3 :: u' 4 :: u' 5 :: u' 6 :: u' 7 :: .pointer (some ⟨bo, 0, none⟩) :: .pointer (some ⟨bk, 0, none⟩) :: .slice A ks.length c :: u' 11 :: u' 12 :: u' 13 :: u' 14 :: u' 15 :: u' 16 :: u' 17 :: u' 18 :: u' 19 :: u' 20 :: u' 21 :: u' 22 :: u' 23 :: u' 24 :: u' 25 :: u' 26 :: u' 27 :: u' 28 :: u' 29 :: u' 30 :: u' 31 :: u' 32 :: u' 33 :: u' 34 :: u' 35 :: u' 36 :: u' 37 :: u' 38 :: u' 39 :: u' 40 :: u' 41 :: u' 42 :: u' 43 :: u' 44 :: u' 45 :: u' 46 :: u' 47 :: u' 48 :: u' 49 :: u' 50 :: u' 51 :: u' 52 :: u' 53 :: u' 54 :: u' 55 :: u' 56 :: u' 57 :: u' 58 :: u' 59 :: u' 60 :: u' 61 :: u' 62 :: u' 63 :: u' 64 :: u' 65 :: u' 66 :: u' 67 :: u' 68 :: u' 69 :: u' 70 :: u' 71 :: u' 72 :: u' 73 :: u' 74 :: u' 75 :: u' 76 :: u' 77 :: u' 78 :: []), defers := ds } w') :
  (Code.region 15 ops15 true).wpIn (Fence.wide.inRound l) 0 Tryz.prog Q { tmps := T, defers := ds } W := by
 obtain ⟨u, rfl⟩ := lt15 hT hT2 hT8 hT9 hT10
 exact region15 hmp hel hk hkn hadd e0 e1 e2 e3 e4 hC h0 h4 hup hQ
theorem region21' {T : Array Value} {l : Nat} {Q : Exit → Act → World → Prop} {ds : List Deferred} {ba bo bk br bm c : Nat} {A : Option Addr} {ks : List Int} {v : S38} {b : Bool} {W : World}
  (hT : T.size = 79) (hT2 : T[2]? = some (.pointer (some ⟨ba, 0, none⟩))) (hT8 : T[8]? = some (.pointer (some ⟨bo, 0, none⟩))) (hT9 : T[9]? = some (.pointer (some ⟨bk, 0, none⟩))) (hT11 : T[11]? = some (.pointer (some ⟨br, 0, none⟩))) (hT12 : T[12]? = some (.slice A ks.length c))
  (hmp : W.cell? ⟨bo, 0, none⟩ = some (.map (some bm))) (hC : Kd.C (Kd.int .i64) W A ks.length ks) (h0 : 0 < ks.length) (h4 : ks.length ≤ 4)
  (hlook : ∀ w, Kb (fun _ => False) W w → (Instr.lookup 60 (.map (some bm)) (keyV ks) true).run Tryz.prog w = .ok (.tuple #[.agg #[.int .i64 v.f0, .int .i64 v.f1, .int .i64 v.f2.f0, .int .i64 v.f2.f1, .bool v.f3], .bool b]) w)
  (hQ : ∀ (u' : Nat → Value) (g : Nat) (w' : World), Kb (fun _ => False) W w' → W.heap.size ≤ g → w'.heap[g]? = some (.cells #[.int .i64 v.f0, .int .i64 v.f1, .int .i64 v.f2.f0, .int .i64 v.f2.f1, .bool v.f3] 38) → Q .normal { tmps := List.toArray (u' 0 :: u' 1 :: .pointer (some ⟨ba, 0, none⟩) :: u' 3 :: u' 4 :: u' 5 :: u' 6 :: u' 7 :: .pointer (some ⟨bo, 0, none⟩) :: .pointer (some ⟨bk, 0, none⟩) :: u' 10 :: .pointer (some ⟨br, 0, none⟩) :: .slice A ks.length c :: .pointer (some ⟨g, 0, none⟩) :: .bool b :: u' 15 :: u' 16 :: u' 17 :: u' 18 :: u' 19 :: u' 20 :: u' 21 :: u' 22 :: u' 23 :: u' 24 :: u' 25 :: u' 26 :: u' 27 :: u' 28 :: u' 29 :: u' 30 :: u' 31 :: u' 32 :: u' 33 :: u' 34 :: u' 35 :: u' 36 :: u' 37 :: u' 38 :: u' 39 :: u' 40 :: u' 41 :: u' 42 :: u' 43 :: u' 44 :: u' 45 :: u' 46 :: u' 47 :: u' 48 :: u' 49 :: u' 50 :: u' 51 :: u' 52 :: u' 53 :: u' 54 :: u' 55 :: u' 56 :: u' 57 :: u' 58 :: u' 59 :: u' 60 :: u' 61 :: u' 62 :: u' 63 :: u' 64 :: u' 65 :: u' 66 :: u' 67 :: u' 68 :: u' 69 :: u' 70 :: u' 71 :: u' 72 :: u' 73 :: u' 74 :: u' 75 :: u' 76 :: u' 77 :: u' 78 :: []), defers := ds } w') :
  (Code.region 21 ops21 true).wpIn (Fence.wide.inRound l) 0 Tryz.prog Q { tmps := T, defers := ds } W := by
 obtain ⟨u, rfl⟩ := lt21 hT hT2 hT8 hT9 hT11 hT12
 exact region21 hmp hC h0 h4 hlook hQ
def flat59 (L : List S38) : List Value := (L.map c59).flatten
theorem flat59_cons (x : S38) (L : List S38) : flat59 (x :: L) = c59 x ++ flat59 L := by simp [flat59]
theorem flat59_length (L : List S38) : (flat59 L).length = L.length * 5 := by
 induction L with
 | nil => rfl
 | cons x L ih => rw [flat59_cons, List.length_append, ih]; simp [c59]; omega
theorem flat_chunk : ∀ (L : List S38) (j : Nat) (x : S38), L[j]? = some x → ((flat59 L).drop (j * 5)).take 5 = c59 x
 | [], j, x, h => by simp at h
 | y :: L, 0, x, h => by simp at h; subst h; rw [flat59_cons]; rfl
 | y :: L, j + 1, x, h => by
  rw [flat59_cons, show (j + 1) * 5 = 5 + j * 5 by omega, ← List.drop_drop, show (c59 y ++ flat59 L).drop 5 = flat59 L from rfl]
  exact flat_chunk L j x (by simpa using h)
theorem flat_Reps (W : World) (base : Nat) (ok : Nat → Prop) (L : List S38) : Reps (k38.M W base ok) 5 L (flat59 L) :=
 ⟨flat59_length L, fun j p hj => by rw [flat_chunk L j p hj]; exact k38_mkM _ _ _ p⟩
theorem Reps_flat {W : World} {base : Nat} {ok : Nat → Prop} : ∀ (L : List S38) (inner : List Value), Reps (k38.M W base ok) 5 L inner → inner = flat59 L
 | [], inner, h => by have := h.1; simp at this; subst this; rfl
 | x :: L, inner, h => by
  have h0 := k38_openM (h.2 0 x rfl)
  simp only [Nat.zero_mul, List.drop_zero] at h0
  have hr : Reps (k38.M W base ok) 5 L (inner.drop 5) := ⟨by have := h.1; simp at this ⊢; omega, fun j p hj => by
   have := h.2 (j + 1) p (by simpa using hj)
   rwa [show (j + 1) * 5 = 5 + j * 5 by omega, ← List.drop_drop] at this⟩
  rw [flat59_cons, ← Reps_flat L _ hr, ← List.take_append_drop 5 inner, h0]
  rfl
theorem set5 (v : S38) (rest : List Value) : ∀ (L : List S38) (j : Nat), j < L.length →
  (((((flat59 L ++ rest).set (j * 5) (.int .i64 v.f0)).set (j * 5 + 1) (.int .i64 v.f1)).set (j * 5 + 2) (.int .i64 v.f2.f0)).set (j * 5 + 3) (.int .i64 v.f2.f1)).set (j * 5 + 4) (.bool v.f3) = flat59 (L.set j v) ++ rest
 | [], j, h => by simp at h
 | y :: L, 0, h => by rw [List.set_cons_zero, flat59_cons, flat59_cons]; rfl
 | y :: L, j + 1, h => by
  have ih := set5 v rest L j (by simpa using h)
  rw [List.set_cons_succ, flat59_cons, flat59_cons, List.append_assoc, List.append_assoc, ← ih]
  rw [show (j + 1) * 5 = j * 5 + 5 by omega]
  rfl
def outL (f : List Int → S38) (z : S38) (N : Nat) (pre : List (List Int)) : List S38 := pre.map f ++ List.replicate (N - pre.length) z
theorem outL_length (f : List Int → S38) (z : S38) (N : Nat) (pre : List (List Int)) (h : pre.length ≤ N) : (outL f z N pre).length = N := by simp [outL]; omega
theorem outL_set (f : List Int → S38) (z : S38) (N : Nat) (pre : List (List Int)) (ks : List Int) (h : pre.length < N) : (outL f z N pre).set pre.length (f ks) = outL f z N (pre ++ [ks]) := by
 obtain ⟨q, rfl⟩ : ∃ q, N = pre.length + (q + 1) := ⟨N - pre.length - 1, by omega⟩
 simp only [outL, List.length_append, List.length_singleton]
 rw [show pre.length + (q + 1) - pre.length = q + 1 by omega, show pre.length + (q + 1) - (pre.length + 1) = q by omega, List.replicate_succ, List.set_append_right _ _ (by simp)]
 simp
theorem outL_same (f : List Int → S38) (z : S38) (N : Nat) (pre : List (List Int)) (ks : List Int) (h : pre.length < N) (hz : f ks = z) : outL f z N (pre ++ [ks]) = outL f z N pre := by
 obtain ⟨q, rfl⟩ : ∃ q, N = pre.length + (q + 1) := ⟨N - pre.length - 1, by omega⟩
 simp only [outL, List.length_append, List.length_singleton]
 rw [show pre.length + (q + 1) - pre.length = q + 1 by omega, show pre.length + (q + 1) - (pre.length + 1) = q by omega, List.replicate_succ]
 simp [hz]
theorem outL_all (f : List Int → S38) (z : S38) (N : Nat) (pre : List (List Int)) (h : pre.length = N) : outL f z N pre = pre.map f := by simp [outL, h]
theorem outL_nil (f : List Int → S38) (z : S38) (N : Nat) : outL f z N [] = List.replicate N z := by simp [outL]
theorem storeIn {F : Fence} {n : Nat} {P : Program} {ops : Array Oper} {rest : List Oper} {o : Oper} {a : Act} {w W2 : World} {Q : Exit → Act → World → Prop} (hgd : o.guard = none) (ty : TypeId) (x y : Operand) (ho : o.op = .store ty x y)
  (b off : Nat) (cells : Array Value) (hx : a.eval x = .pointer (some ⟨b, off, none⟩)) (hy : a.eval y = .agg cells)
  (ht : w.there b off cells.size) (hi : (P.info? ty).map (·.size) = some cells.size) (h1 : cells.all (·.oneCell') = true) (hW : w.setCells b off cells.toList = W2)
  (h : wpListIn F n P ops Q rest (a.put o.dst undef) W2) : wpListIn F n P ops Q (o :: rest) a w := by
 refine wpListIn_plain hgd fun K hK' => ?_
 have hrun := run_storeAt_mid (P := P) w b off ty cells ht hi h1
 unfold Oper.wpIn
 refine ⟨?_, ?_⟩
 ·simp [Oper.about, ho]
 ·rw [Oper.semAt_plain F _ _ (by rw [ho]; intro c hc'; cases hc')]
  simp only [execOp, ho, hx, hy]
  rw [Sem.run_bind, hrun, hW]
  exact hK' _ _ h
theorem setCells5 {w : World} {g j : Nat} {cur : Array Value} {L : List S38} {rest : List Value} (x : S38) (hg : w.heap[g]? = some (.cells cur 38)) (hc : cur.toList = flat59 L ++ rest) (hj : j < L.length) :
  ∃ W2 cur2, w.setCells g (j * 5) [.int .i64 x.f0, .int .i64 x.f1, .int .i64 x.f2.f0, .int .i64 x.f2.f1, .bool x.f3] = W2 ∧ W2.heap[g]? = some (.cells cur2 38) ∧ cur2.size = cur.size ∧ cur2.toList = flat59 (L.set j x) ++ rest ∧ Kb (fun i => i = g) w W2 := by
 refine ⟨_, ((((cur.setIfInBounds (j * 5) (.int .i64 x.f0)).setIfInBounds (j * 5 + 1) (.int .i64 x.f1)).setIfInBounds (j * 5 + 2) (.int .i64 x.f2.f0)).setIfInBounds (j * 5 + 3) (.int .i64 x.f2.f1)).setIfInBounds (j * 5 + 4) (.bool x.f3), rfl, ?_, by simp, ?_, ?_⟩
 ·exact blk_set (blk_set (blk_set (blk_set (blk_set hg _ _) _ _) _ _) _ _) _ _
 ·simp only [Array.toList_setIfInBounds, hc]
  exact set5 x rest L j hj
 ·have hk : ∀ (V : World) (o : Nat) (q : Value), Kb (fun i => i = g) w V → Kb (fun i => i = g) w (V.setCell ⟨g, o, none⟩ q) := fun V o q h => h.setCell (.inl rfl) q
  exact hk _ _ _ (hk _ _ _ (hk _ _ _ (hk _ _ _ (hk _ _ _ (Kb.refl _ w)))))
theorem leaves_marks2 {P : Program} {fn : Func} {tmps : Array Value} {R : Ending → World → Prop} {lo : Nat} : ∀ (ds : List Deferred) (b : Nat) (W : World), Marks W lo ds b →
  (∀ W', Kb (fun i => lo ≤ i ∧ ∃ q, W.heap[i]? = some (.deferred q)) W W' → ∃ v, (results fn tmps).run P W' = .ok v W' ∧ R (.returned v) W') → LeavesInM Fence.wide 0 P fn tmps R ds .returning W
 | [], _, W, _, h => h W (Kb.refl _ _)
 | d :: ds, b, W, ⟨r, hd, h1, h2, h3, h4⟩, h => by
  have hk : Kb (fun i => i = r) W (W.putObj r (.deferred none)) := Kb.putObj (M := fun i => i = r) (Kb.refl _ W) (r := r) (.inl rfl) _
  refine ⟨by simp, .inl ⟨r, _, by rw [hd], run_takeDeferred h3, leaves_marks2 ds r _ (h4.kept hk (fun i _ hi => by omega)) (fun W' hk' => h W' ?_)⟩⟩
  refine (hk.mono (fun i (e : i = r) => by rw [e]; exact ⟨h1, _, h3⟩)).trans (hk'.mono ?_)
  rintro i ⟨hi, q, hq⟩
  by_cases e : i = r
  ·rw [e]; exact ⟨h1, _, h3⟩
  ·rw [World.putObj_heap_other e] at hq; exact ⟨hi, q, hq⟩
def resL (t : Int) (ds : List S54) (es : List S38) (l1 : List S54) : List S38 := (allS l1).map fun s => (lookL ((allS ds).zip es) s).getD (z38t t)
def ResizePost (t : Int) (l1 : List S54) (xs : List S38) (w : World) (en : Ending) (w' : World) : Prop :=
 ∃ v1 v2, en = .returned (.tuple #[.agg #[.int .i64 t, v1, v2], .int .i64 0]) ∧ k54.R 54 w' w.heap.size (fun _ => True) v1 l1 ∧ k38.R 38 w' w.heap.size (fun _ => True) v2 xs ∧ Below w.heap.size w w'
theorem box3b {w1 w2 : World} {g : Nat} {x y z : Value} {ty : Nat} (h : w1.heap[g]? = some (.cells #[x, y, z] ty)) (hb : Below w1.heap.size w1 w2) :
  w2.heap[g]? = some (.cells #[x, y, z] ty) ∧ w2.cell? ⟨g, 0, none⟩ = some x ∧ w2.cell? ⟨g, 1, none⟩ = some y ∧ w2.cell? ⟨g, 2, none⟩ = some z ∧ g < w2.heap.size := by
 have h2 := kB h hb
 exact ⟨h2, by rw [kC h2 0]; rfl, by rw [kC h2 1]; rfl, by rw [kC h2 2]; rfl, blk_lt h2⟩
theorem gen_wpIn {F : Fence} {n : Nat} {P : Program} {c : Code} {Q : Exit → Act → World → Prop} {a : Act} {W : World} (h : ∀ Vp, Vp = W → c.wpIn F n P Q a Vp) : c.wpIn F n P Q a W := h W rfl
attribute [local go_sem] Oper.semAt_some sel_true
theorem resize_walk (t : Int) (ad1 ad2 ad3 : Addr) (c1 c2 c3 n m : Nat) (ds l1 : List S54) (es : List S38) (w : World)
  (hr1 : Kd.C k54 w (some ad1) n ds) (hc1 : n ≤ c1) (hr2 : Kd.C k38 w (some ad2) m es) (hc2 : m ≤ c2) (hr3 : Kd.C k54 w (some ad3) n l1) (hc3 : n ≤ c3)
  (ht : isTy t = true) (hchk : checkF t ds es = some 0) (hd : errOf ds = 0) (hl : errOf l1 = 0) (hne : allSame l1 ds = false) (hm : (m : Int) = prodL ds) :
  CallsIn Fence.wide 0 Tryz.prog 7 #[.agg #[.int .i64 t, .slice (some ad1) n c1, .slice (some ad2) m c2], .slice (some ad3) n c3] w (ResizePost t l1 (resL t ds es l1) w) := by
 have e1 : Hid (ds.length = n) := Lib.hid hr1.1
 have e2 : Hid (es.length = m) := Lib.hid hr2.1
 have e3 : Hid (l1.length = n) := Lib.hid hr3.1
 obtain ⟨_, hp1, hq1, hn1, hn4⟩ := errOf_zero hd
 have hP1 : Hid (Proper ds) := Lib.hid hp1
 have hP3 : Hid (Proper l1) := Lib.hid (errOf_zero hl).2.1
 rw [e1.out] at hn1 hn4
 have HR1 := Lib.hid hr1
 have HR2 := Lib.hid hr2
 have HR3 := Lib.hid hr3
 have HT := Lib.hid ht
 have HCK := Lib.hid hchk
 have HD := Lib.hid hd
 have HL := Lib.hid hl
 have HNE := Lib.hid hne
 have HM := Lib.hid hm
 clear hr1 hr2 hr3 ht hchk hd hl hne hm hp1 hq1
 have hmm : ∀ W : World, (Instr.makeMap 60 none).run Tryz.prog W = .ok (.map (some W.heap.size)) (W.alloc (.map #[] 0)) := fun W => by simp [Instr.makeMap, go_sem]
 have hm1000 : m ≤ 1000 := by have := hP1.out.2.2; have := HM.out; omega
 have hnn : ((n : Int) != (n : Int)) = false := by simp
 refine callsIn_of_wp_marks Tryz.func7 rfl trivial ?_
 simp only [Tryz.ntmps7, List.size_toArray, List.length_cons, List.length_nil, Nat.reduceAdd, Nat.reduceSub, Array.replicate_succ, Array.replicate_zero, List.push_toArray, List.append_toArray, List.nil_append, List.cons_append]
 gi_wp2
 have b0 : ((w.alloc (.cells #[.int .i64 t, .slice (some ad1) n c1, .slice (some ad2) m c2] 25)).alloc (.cells #[.int .i64 0, .slice none 0 0, .slice none 0 0] 25)).heap[w.heap.size]? = some (.cells #[.int .i64 t, .slice (some ad1) n c1, .slice (some ad2) m c2] 25) := kA (heap_alloc_new w _) _
 have r0 : ((w.alloc (.cells #[.int .i64 t, .slice (some ad1) n c1, .slice (some ad2) m c2] 25)).alloc (.cells #[.int .i64 0, .slice none 0 0, .slice none 0 0] 25)).heap[w.heap.size + 1]? = some (.cells #[.int .i64 0, .slice none 0 0, .slice none 0 0] 25) := by
  have := heap_alloc_new (w.alloc (.cells #[.int .i64 t, .slice (some ad1) n c1, .slice (some ad2) m c2] 25)) (.cells #[.int .i64 0, .slice none 0 0, .slice none 0 0] 25); rwa [World.size_alloc] at this
 have hW0 : Below w.heap.size w ((w.alloc (.cells #[.int .i64 t, .slice (some ad1) n c1, .slice (some ad2) m c2] 25)).alloc (.cells #[.int .i64 0, .slice none 0 0, .slice none 0 0] 25)) := bA (bA (Below.refl _ _) _) _
 generalize ((w.alloc (.cells #[.int .i64 t, .slice (some ad1) n c1, .slice (some ad2) m c2] 25)).alloc (.cells #[.int .i64 0, .slice none 0 0, .slice none 0 0] 25)) = W0 at *
 have hck := (callsIn_wide (n := 0)).2 (check_calls t (some ad1) c1 ds (some ad2) c2 es 0 W0 (by rw [e1.out]; exact Kd.C_below HR1.out hW0) (by rw [e1.out]; exact hc1) (by rw [e2.out]; exact Kd.C_below HR2.out hW0) HCK.out)
 rw [e1.out, e2.out] at hck
 refine ⟨trivial, rfl, hck.mono ?_⟩
 rintro e w1 ⟨rfl, hb1⟩
 clear hck
 obtain ⟨b1, x1, y1, z1, g1⟩ := box3b b0 hb1
 obtain ⟨r1, _, _, _, _⟩ := box3b r0 hb1
 have hW1 := bS hW0 hb1
 clear b0 r0 hW0 hb1
 gi_wp2
 have hch := (callsIn_wide (n := 0)).2 (checked_calls (some ⟨w1.heap.size, 0, none⟩) 1 [l1] (w1.alloc (.cells #[.slice (some ad3) l1.length c3] 22)) (C_one w1 (some ad3) c3 l1 (by rw [e3.out]; exact hc3) (by rw [e3.out]; exact Kd.C_below HR3.out hW1)) (Nat.le_refl _) (by simp))
 rw [e3.out, checkedL_one, HL.out] at hch
 refine ⟨trivial, rfl, hch.mono ?_⟩
 rintro e w2 ⟨rfl, hb2⟩
 clear hch
 obtain ⟨b2, x2, y2, z2, g2⟩ := box3b (kA b1 _) hb2
 obtain ⟨r2, _, _, _, _⟩ := box3b (kA r1 _) hb2
 have hW2 := bS (bA hW1 _) hb2
 clear b1 x1 y1 z1 g1 r1 hW1 hb2
 gi_wp2
 refine ⟨trivial, rfl, ((callsIn_wide (n := 0)).2 (equalFunc_calls (some ad3) (some ad1) c3 c1 n l1 ds w2 (Kd.C_below HR3.out hW2) (Kd.C_below HR1.out hW2) hn4)).mono ?_⟩
 rintro e w3 ⟨rfl, hb3⟩
 rw [HNE.out]
 obtain ⟨b3, x3, y3, z3, g3⟩ := box3b b2 hb3
 obtain ⟨r3, _, _, _, _⟩ := box3b r2 hb3
 have hW3 := bS hW2 hb3
 clear b2 x2 y2 z2 g2 r2 hW2 hb3
 have b4 := kA (kA (kA b3 (.map #[] 0)) (.cells #[.map (some w3.heap.size)] 60)) (.cells #[.int .i64 0] 3)
 have r4 := kA (kA (kA r3 (.map #[] 0)) (.cells #[.map (some w3.heap.size)] 60)) (.cells #[.int .i64 0] 3)
 have y4 : (((w3.alloc (.map #[] 0)).alloc (.cells #[.map (some w3.heap.size)] 60)).alloc (.cells #[.int .i64 0] 3)).cell? ⟨w.heap.size, 1, none⟩ = some (.slice (some ad1) n c1) := by rw [kC b4 1]; rfl
 gi_wp2
 refine ⟨trivial, rfl, (subscripts_in _ _ _ _).mono ?_⟩
 rintro e W1 ⟨rfl, rfl⟩
 gi_wp2
 have m4 : (((w3.alloc (.map #[] 0)).alloc (.cells #[.map (some w3.heap.size)] 60)).alloc (.cells #[.int .i64 0] 3)).heap[w3.heap.size]? = some (.map #[] 0) := kA (kA (heap_alloc_new w3 _) _) _
 have o4 : (((w3.alloc (.map #[] 0)).alloc (.cells #[.map (some w3.heap.size)] 60)).alloc (.cells #[.int .i64 0] 3)).heap[w3.heap.size + 1]? = some (.cells #[.map (some w3.heap.size)] 60) := by
  have := heap_alloc_new (w3.alloc (.map #[] 0)) (.cells #[.map (some w3.heap.size)] 60); rw [World.size_alloc] at this; exact kA this _
 have k4 : (((w3.alloc (.map #[] 0)).alloc (.cells #[.map (some w3.heap.size)] 60)).alloc (.cells #[.int .i64 0] 3)).heap[w3.heap.size + 1 + 1]? = some (.cells #[.int .i64 0] 3) := by
  have := heap_alloc_new ((w3.alloc (.map #[] 0)).alloc (.cells #[.map (some w3.heap.size)] 60)) (.cells #[.int .i64 0] 3); rw [World.size_alloc, World.size_alloc] at this; exact this
 have hW4 := bA (bA (bA hW3 (.map #[] 0)) (.cells #[.map (some w3.heap.size)] 60)) (.cells #[.int .i64 0] 3)
 have hsz4 : (((w3.alloc (.map #[] 0)).alloc (.cells #[.map (some w3.heap.size)] 60)).alloc (.cells #[.int .i64 0] 3)).heap.size = w3.heap.size + 3 := by simp
 generalize (((w3.alloc (.map #[] 0)).alloc (.cells #[.map (some w3.heap.size)] 60)).alloc (.cells #[.int .i64 0] 3)) = W4 at *
 generalize hbm : w3.heap.size = bm at *
 clear hbm b3 x3 y3 z3 r3 hW3
 have b5 := kA b4 (.cells #[.slice (some ad1) n c1] 22)
 have r5 := kA r4 (.cells #[.slice (some ad1) n c1] 22)
 have m5 := kA m4 (.cells #[.slice (some ad1) n c1] 22)
 have o5 := kA o4 (.cells #[.slice (some ad1) n c1] 22)
 have k5 := kA k4 (.cells #[.slice (some ad1) n c1] 22)
 have p5 := heap_alloc_new W4 (.cells #[.slice (some ad1) n c1] 22)
 have hW5 := bA hW4 (.cells #[.slice (some ad1) n c1] 22)
 have hsz5 : (W4.alloc (.cells #[.slice (some ad1) n c1] 22)).heap.size = bm + 4 := by simp [hsz4]
 rw [hsz4] at p5
 clear b4 r4 m4 o4 k4 hW4 y4
 generalize hpb : W4.heap.size = pb at *
 cases hsz4
 generalize (W4.alloc (.cells #[.slice (some ad1) n c1] 22)) = W5 at *
 clear hpb
 have hL1 : Lies (fun i => i = bm ∨ i = bm + 1 + 1) (bm + 3) (some ad1) c1 ds W5 := ⟨by rw [e1.out]; exact hc1, fun V hV => by
  rw [e1.out]
  refine ⟨?_, Kd.C_below HR1.out (hW5.trans (hV.below (by omega) ?_))⟩
  ·have := hV.obj (by rintro ((h | h) | h) <;> omega) p5
   rw [kC this 0]; rfl
  ·rintro i ((h | h) | h) <;> omega⟩
 have hTame : Tame ds := ⟨by rw [e1.out]; omega, fun d hd => ⟨hP1.out.1 d hd, hP1.out.2.1 d hd⟩⟩
 have hlenS : (allS ds).length = m := by have := allS_len ds fun d hd => (hP1.out.2.1 d hd).1; have := HM.out; omega
 refine rf_outer' (gf := 60) (lb := #[.pointer (some ⟨bm + 3, 0, none⟩)]) rfl (fun _ _ => rfl)
  (fun V => ((∃ es' ck, V.heap[bm]? = some (.map es' ck) ∧ Ents es'.toList ((allS ds).zip es)) ∧ V.heap[bm + 1 + 1]? = some (.cells #[.int .i64 ((allS ds).length : Int)] 3)) ∧ Kb (fun i => i = bm ∨ i = bm + 1 + 1) W5 V ∧ V.heap[W5.heap.size]? = some (.deferred (some [])))
  (fun fn => outer_run (I := fun pre V => (∃ es' ck, V.heap[bm]? = some (.map es' ck) ∧ Ents es'.toList (pre.zip es)) ∧ V.heap[bm + 1 + 1]? = some (.cells #[.int .i64 (pre.length : Int)] 3)) hTame (by rintro i (h | h) <;> omega) hL1 ?_ ?_ ?_) ?_
 ·exact ⟨⟨#[], 0, m5, rfl⟩, k5⟩
 ·rintro pre V V' ⟨⟨es', ck, h1, h2⟩, h3⟩ hk
  exact ⟨⟨es', ck, hk.obj (by omega) h1, h2⟩, hk.obj (by omega) h3⟩
 ·rintro pre ks V v R' ⟨rest, hrest⟩ ⟨⟨es', ck, hmb, hents⟩, hkb⟩ hkV hl hrd hfin
  have hkslen := allS_length ds ks (by rw [hrest]; simp)
  rw [e1.out] at hkslen
  have hprel : pre.length < m := by rw [← hlenS, hrest]; simp
  have hnone := fresh_key (l := ds) (by rw [e1.out]; exact hn4) hrest es
  have hVl := (Array.getElem?_eq_some_iff.1 hl).1
  have hfar : ∀ g o oo, g < bm + 4 → W5.heap[g]? = some o → g ≠ bm → g ≠ bm + 1 + 1 → (V.putObj (W5.heap.size + 1) oo).heap[g]? = some o := fun g o oo hg h n1 n2 =>
   (World.putObj_heap_other (by omega)).trans (hkV.obj (by rintro (h | h); exact n1 h; exact n2 h) h)
  have hputK : ∀ oo, Kb (fun i => i = W5.heap.size + 1) V (V.putObj (W5.heap.size + 1) oo) := fun oo => Kb.putObj (M := fun i => i = W5.heap.size + 1) (Kb.refl _ V) (r := W5.heap.size + 1) (.inl rfl) _
  have hBw : ∀ oo, Below w.heap.size w (V.putObj (W5.heap.size + 1) oo) := fun oo => hW5.trans ((hkV.trans' (hputK oo) (fun i h => .inr (by omega))).below (by omega) (by rintro i (h | h) <;> omega))
  obtain ⟨A9, q9, rfl, hq9, hC9⟩ := hrd
  have hC9' := fun oo => C_put_loop hC9 hl oo
  have hmb' := fun oo => (World.putObj_heap_other (o := oo) (show bm ≠ W5.heap.size + 1 by omega)).trans hmb
  have hkb' := fun oo => (World.putObj_heap_other (o := oo) (show bm + 1 + 1 ≠ W5.heap.size + 1 by omega)).trans hkb
  have HX := Lib.hid hfin
  have HXR := Lib.hid hC9
  clear hfin hC9
  obtain ⟨ad, ea, E0, E1, E2, E3, E4⟩ := at_T38 HR2.out (pre.length : Int) (by omega) (by omega)
  cases ea
  simp only [Int.toNat_natCast] at E0 E1 E2 E3 E4
  obtain ⟨ge, oe, hadd⟩ := addr_of E0
  rw [hadd] at E0 E1 E2 E3 E4
  simp only [Nat.add_zero] at E0 E1 E2 E3 E4
  generalize hxx : rd_T38 es (pre.length : Int) = x at E0 E1 E2 E3 E4
  have E0' := fun oo => ((hBw oo).cell (World.block_lt_of_cell? w _ E0)).trans E0
  have E1' := fun oo => ((hBw oo).cell (World.block_lt_of_cell? w _ E1)).trans E1
  have E2' := fun oo => ((hBw oo).cell (World.block_lt_of_cell? w _ E2)).trans E2
  have E3' := fun oo => ((hBw oo).cell (World.block_lt_of_cell? w _ E3)).trans E3
  have E4' := fun oo => ((hBw oo).cell (World.block_lt_of_cell? w _ E4)).trans E4
  clear E0 E1 E2 E3 E4
  have hcx := fun oo => kC (hkb' oo) 0
  have hox := fun oo => hfar (bm + 1) _ oo (by omega) o5 (by omega) (by omega)
  have hax := fun oo => hfar (w.heap.size) _ oo (by omega) b5 (by omega) (by omega)
  have HS5 := Lib.hid hsz5; clear hsz5
  have HVl := Lib.hid hVl; clear hVl
  have HKS := Lib.hid hkslen; clear hkslen
  refine rf_round hl rfl ?_
  gi_wp2
  refine gen_wpIn fun Vp hVp => ?_
  have HVK : Hid (Kb (fun i => i = W5.heap.size + 1) V Vp) := Lib.hid (by rw [hVp]; exact hputK _)
  have hmp9 : Vp.heap[bm]? = some (.map es' ck) := by rw [hVp]; exact hmb' _
  have hkp9 : Vp.heap[bm + 1 + 1]? = some (.cells #[.int .i64 (pre.length : Int)] 3) := by rw [hVp]; exact hkb' _
  have hop9 : Vp.heap[bm + 1]? = some (.cells #[.map (some bm)] 60) := by rw [hVp]; exact hox _
  have hap9 : Vp.heap[w.heap.size]? = some (.cells #[.int .i64 t, .slice (some ad1) n c1, .slice (some ad2) m c2] 25) := by rw [hVp]; exact hax _
  have F0 : Vp.cell? ⟨ge, oe, none⟩ = some (.int .i64 x.f0) := by rw [hVp]; exact E0' _
  have F1 : Vp.cell? ⟨ge, oe + 1, none⟩ = some (.int .i64 x.f1) := by rw [hVp]; exact E1' _
  have F2 : Vp.cell? ⟨ge, oe + 2, none⟩ = some (.int .i64 x.f2.f0) := by rw [hVp]; exact E2' _
  have F3 : Vp.cell? ⟨ge, oe + 3, none⟩ = some (.int .i64 x.f2.f1) := by rw [hVp]; exact E3' _
  have F4 : Vp.cell? ⟨ge, oe + 4, none⟩ = some (.bool x.f3) := by rw [hVp]; exact E4' _
  have hCp : Kd.C (Kd.int .i64) Vp A9 ks.length ks := by rw [hVp]; exact hC9' _
  have HVp := Lib.hid hVp
  clear hVp E0' E1' E2' E3' E4' hC9' hax hox hkb' hmb' hcx hBw hputK hfar
  refine region15' (W := Vp) (bm := bm) (ba := w.heap.size) (bo := bm + 1) (bk := bm + 1 + 1) (c := q9) (ne := m) (ce := c2) (k := pre.length) (ge := ge) (oe := oe) (A := A9) (ae := ad2) (ks := ks) (x := x) (R := fun w' => (∃ es2 ck2, w'.heap[bm]? = some (.map es2 ck2) ∧ Ents es2.toList ((pre ++ [ks]).zip es)) ∧ Kb (fun i => i = bm) Vp w') rfl rfl rfl rfl rfl (kC hop9 0) (kC hap9 2) (kC hkp9 0) hprel hadd F0 F1 F2 F3 F4 hCp ?_ ?_ ?_ ?_
  ·have := HKS.out; omega
  ·have := HKS.out; omega
  ·intro w9 hk9
   obtain ⟨W', es9, hrun, h1, h2, h3⟩ := update88 ks x w9 bm ck es' (pre.zip es) (hk9.obj (fun h => h) hmp9) hents hnone
   refine ⟨W', hrun, ⟨es9, ck + 1, h1, ?_⟩, (hk9.mono fun _ h => h.elim).trans h3⟩
   rw [zip_snoc ks z38 pre es (by rw [e2.out]; exact hprel)]
   rw [show es.getD pre.length z38 = x from by rw [← hxx]; rfl]
   exact h2
  ·rintro u9 w9 ⟨⟨es2, ck2, hm9, hen9⟩, hk9⟩
   have hkc := hk9.obj (show ¬ (bm + 1 + 1 = bm) by omega) hkp9
   have hkc0 : w9.cell? ⟨bm + 1 + 1, 0, none⟩ = some (.int .i64 (pre.length : Int)) := by rw [kC hkc 0]; rfl
   have hkf0 := kF hkc 0
   have HKC := Lib.hid hkc; clear hkc
   have HM9 := Lib.hid hm9; clear hm9
   gi_wp2
   have hLb : bm + 1 + 1 ≠ W5.heap.size + 1 := by have := HS5.out; omega
   refine HX.out _ ⟨⟨es2, ck2, ?_, hen9⟩, ?_⟩ ?_
   ·exact (Below.heap_setCell _ _ _ bm (by simp; omega)).trans HM9.out
   ·have := blk_set HKC.out 0 (.int .i64 ((pre.length : Int) + 1))
    simpa using this
   ·rw [← HVp.out]
    exact (hk9.mono fun i h => .inl h).setCell (.inl (.inr rfl)) _
 ·rintro V Wa ⟨⟨⟨es', ck, hmb, hents⟩, hkb⟩, hkV, hmk⟩ hkW hVl
  have hno : ∀ g, g < bm + 4 → ¬ (g = W5.heap.size + 1) := fun g hg h => by omega
  have hge : ∀ g o, g < bm + 4 → g ≠ bm → g ≠ bm + 1 + 1 → W5.heap[g]? = some o → Wa.heap[g]? = some o := fun g o hg n1 n2 h => hkW.obj (hno g hg) (hkV.obj (by rintro (h | h); exact n1 h; exact n2 h) h)
  have am := hkW.obj (hno bm (by omega)) hmb
  have ak := hkW.obj (hno (bm + 1 + 1) (by omega)) hkb
  have ab := hge _ _ (by omega) (by omega) (by omega) b5
  have ar := hge _ _ (by omega) (by omega) (by omega) r5
  have ao := hge _ _ (by omega) (by omega) (by omega) o5
  have amk : Wa.heap[W5.heap.size]? = some (.deferred (some [])) := hkW.obj (by omega) hmk
  have hBa : Below w.heap.size w Wa := hW5.trans ((hkV.trans' hkW (fun i h => .inr (by omega))).below (by omega) (by rintro i (h | h) <;> omega))
  have hWal : W5.heap.size + 1 < Wa.heap.size := by have := hkW.size; omega
  have at0 : Wa.cell? ⟨w.heap.size, 0, none⟩ = some (.int .i64 t) := by rw [kC ab 0]; rfl
  clear hmb hkb hge hmk hkW hkV hVl b5 r5 m5 o5 k5 p5 hL1
  have hN3 : (prodL l1).toNat = (allS l1).length := by have := allS_len l1 fun d hd => (hP3.out.2.1 d hd).1; omega
  have hfr := (callsIn_wide (n := 0)).2 (fresh_calls t HT.out ad3 c3 l1 Wa (by rw [e3.out]; exact Kd.C_below HR3.out hBa) (by rw [e3.out]; exact hc3) HL.out)
  rw [e3.out, hN3] at hfr
  have hN1 : 1 ≤ (allS l1).length := by have := hP3.out.pos; have := allS_len l1 fun d hd => (hP3.out.2.1 d hd).1; omega
  have hN2 : (allS l1).length ≤ 1000 := by have := hP3.out.2.2; have := allS_len l1 fun d hd => (hP3.out.2.1 d hd).1; omega
  have HFR := Lib.hid hfr; clear hfr
  have HN3 := Lib.hid hN3; clear hN3
  have HS5 := Lib.hid hsz5; clear hsz5
  gi_wp2
  refine ⟨trivial, rfl, HFR.out.mono ?_⟩
  rintro e Wb ⟨v1, v2, rfl, hv1, hv2, hbB⟩
  obtain ⟨A1', q1', rfl⟩ := Kd.R_slice hv1
  rw [e3.out] at hv1
  obtain ⟨g2, cap2, rfl, hg2a, hg2b, cells2, hcells2⟩ := Kd.R_form hv2 (by simp; omega)
  rw [List.length_replicate] at hv2 
  have bm' := kB am hbB
  have bk' := kB ak hbB
  have bb' := kB ab hbB
  have br' := kB ar hbB
  have bo' := kB ao hbB
  have bmk' := kB amk hbB
  have hBb := bS hBa hbB
  have HV1 := Lib.hid hv1
  have HV2 := Lib.hid hv2
  clear hv1 hv2 am ak ab ar ao amk hBa at0 HFR
  have hlb := blk_lt bk'
  have hkc : Wb.cell? ⟨bm + 1 + 1, 0, none⟩ = some (.int .i64 ((allS ds).length : Int)) := by rw [kC bk' 0]; rfl
  have hkf := kF bk' 0
  gi_wp2
  refine ⟨trivial, rfl, (subscripts_in _ _ _ _).mono ?_⟩
  rintro e W1 ⟨rfl, rfl⟩
  have hWab : Wa.heap.size ≤ Wb.heap.size := hbB.size
  have hbm9 : bm + 4 = W5.heap.size := HS5.out.symm
  have cset : ∀ g o, g < Wb.heap.size → g ≠ bm + 1 + 1 → Wb.heap[g]? = some o → (((Wb.setCell ⟨bm + 1 + 1, 0, none⟩ (.int .i64 0)).alloc (.cells #[.int .i64 t, .slice A1' l1.length q1', .slice (some ⟨g2, 0, none⟩) (allS l1).length cap2] 25)).alloc (.cells #[.slice (some ad3) n c3] 22)).heap[g]? = some o := fun g o hg hn h =>
   kA (kA ((Below.heap_setCell _ _ _ g hn).trans h) _) _
  have cm := cset _ _ (by omega) (by omega) bm'
  have cb := cset _ _ (by omega) (by omega) bb'
  have cr := cset _ _ (by omega) (by omega) br'
  have co := cset _ _ (by omega) (by omega) bo'
  have cmk := cset _ _ (by omega) (by omega) bmk'
  have ck0 : (((Wb.setCell ⟨bm + 1 + 1, 0, none⟩ (.int .i64 0)).alloc (.cells #[.int .i64 t, .slice A1' l1.length q1', .slice (some ⟨g2, 0, none⟩) (allS l1).length cap2] 25)).alloc (.cells #[.slice (some ad3) n c3] 22)).heap[bm + 1 + 1]? = some (.cells #[.int .i64 0] 3) := by
   have := blk_set bk' 0 (.int .i64 0)
   exact kA (kA (by simpa using this) _) _
  have hszs : (Wb.setCell ⟨bm + 1 + 1, 0, none⟩ (.int .i64 0)).heap.size = Wb.heap.size := by simp [World.setCell]
  have cout : (((Wb.setCell ⟨bm + 1 + 1, 0, none⟩ (.int .i64 0)).alloc (.cells #[.int .i64 t, .slice A1' l1.length q1', .slice (some ⟨g2, 0, none⟩) (allS l1).length cap2] 25)).alloc (.cells #[.slice (some ad3) n c3] 22)).heap[Wb.heap.size]? = some (.cells #[.int .i64 t, .slice A1' l1.length q1', .slice (some ⟨g2, 0, none⟩) (allS l1).length cap2] 25) := by
   have := heap_alloc_new (Wb.setCell ⟨bm + 1 + 1, 0, none⟩ (.int .i64 0)) (.cells #[.int .i64 t, .slice A1' l1.length q1', .slice (some ⟨g2, 0, none⟩) (allS l1).length cap2] 25); rw [hszs] at this; exact kA this _
  have cp : (((Wb.setCell ⟨bm + 1 + 1, 0, none⟩ (.int .i64 0)).alloc (.cells #[.int .i64 t, .slice A1' l1.length q1', .slice (some ⟨g2, 0, none⟩) (allS l1).length cap2] 25)).alloc (.cells #[.slice (some ad3) n c3] 22)).heap[Wb.heap.size + 1]? = some (.cells #[.slice (some ad3) n c3] 22) := by
   have := heap_alloc_new ((Wb.setCell ⟨bm + 1 + 1, 0, none⟩ (.int .i64 0)).alloc (.cells #[.int .i64 t, .slice A1' l1.length q1', .slice (some ⟨g2, 0, none⟩) (allS l1).length cap2] 25)) (.cells #[.slice (some ad3) n c3] 22); rwa [World.size_alloc, hszs] at this
  have hszc : (((Wb.setCell ⟨bm + 1 + 1, 0, none⟩ (.int .i64 0)).alloc (.cells #[.int .i64 t, .slice A1' l1.length q1', .slice (some ⟨g2, 0, none⟩) (allS l1).length cap2] 25)).alloc (.cells #[.slice (some ad3) n c3] 22)).heap.size = Wb.heap.size + 2 := by simp [hszs]
  have hBc : Below w.heap.size w (((Wb.setCell ⟨bm + 1 + 1, 0, none⟩ (.int .i64 0)).alloc (.cells #[.int .i64 t, .slice A1' l1.length q1', .slice (some ⟨g2, 0, none⟩) (allS l1).length cap2] 25)).alloc (.cells #[.slice (some ad3) n c3] 22)) := bA (bA (bT hBb (by omega)) _) _
  have hstay : ∀ k, Wa.heap.size ≤ k → k < Wb.heap.size → (((Wb.setCell ⟨bm + 1 + 1, 0, none⟩ (.int .i64 0)).alloc (.cells #[.int .i64 t, .slice A1' l1.length q1', .slice (some ⟨g2, 0, none⟩) (allS l1).length cap2] 25)).alloc (.cells #[.slice (some ad3) n c3] 22)).heap[k]? = Wb.heap[k]? := fun k h1 h2 => by
   have hk := Array.getElem?_eq_getElem h2
   rw [hk]; exact cset k _ h2 (by omega) hk
  have HV1c := Lib.hid (R_stay HV1.out hstay)
  have HV2c := Lib.hid (R_stay HV2.out hstay)
  generalize (((Wb.setCell ⟨bm + 1 + 1, 0, none⟩ (.int .i64 0)).alloc (.cells #[.int .i64 t, .slice A1' l1.length q1', .slice (some ⟨g2, 0, none⟩) (allS l1).length cap2] 25)).alloc (.cells #[.slice (some ad3) n c3] 22)) = Wc at *
  have hpw : ((Wb.setCell ⟨bm + 1 + 1, 0, none⟩ (.int .i64 0)).alloc (.cells #[.int .i64 t, .slice A1' l1.length q1', .slice (some ⟨g2, 0, none⟩) (allS l1).length cap2] 25)).heap.size = Wb.heap.size + 1 := by simp [hszs]
  rw [hpw]
  clear hpw hstay cset bm' bk' bb' br' bo' bmk' hBb HV1 HV2 hkc hkf hcells2 hbB
  gi_wp2
  obtain ⟨f, hf⟩ : ∃ f : List Int → S38, f = fun s => (lookL ((allS ds).zip es) s).getD (z38t t) := ⟨_, rfl⟩
  obtain ⟨N, hN⟩ : ∃ N, N = (allS l1).length := ⟨_, rfl⟩
  have hraw : ∃ cur rest, Wc.heap[g2]? = some (.cells cur 38) ∧ cur.size = cap2 * 5 ∧ cur.toList = flat59 (outL f (z38t t) N []) ++ rest ∧ N ≤ cap2 ∧ cap2 ≤ maxLen := by
   obtain ⟨_, inner, ⟨hlen, hh⟩, hreps⟩ := HV2c.out
   have hin := Reps_flat _ _ hreps
   rcases hh with ⟨h, _⟩ | ⟨g, cap, cur, hv, hb, hh, hnc, hcm, hcs, htk⟩
   ·cases h
   ·injection hv with hv1 hv2 hv3
    injection hv1 with hv1
    injection hv1 with hv1
    subst hv1 hv3
    refine ⟨cur, cur.toList.drop (N * 5), hh, by simpa [show k38.sz = 5 from rfl] using hcs, ?_, by rw [hN]; simpa using hnc, hcm⟩
    rw [outL_nil, hN, ← hin, ← htk]
    simp [show k38.sz = 5 from rfl]
  obtain ⟨cur0, rest0, hc0, hcs0, hcl0, hNc, hcm⟩ := hraw
  have HF := Lib.hid hf
  have HN := Lib.hid hN
  have HCM := Lib.hid hcm
  clear hcm
  have HN12 := Lib.hid (show 1 ≤ N ∧ N ≤ 1000 by rw [hN]; exact ⟨hN1, hN2⟩)
  clear hN1 hN2
  have hg2n : g2 ≠ bm + 1 + 1 := by omega
  have hg2n' : g2 ≠ bm := by omega
  have hL2 : Lies (fun i => i = bm + 1 + 1 ∨ i = g2) (Wb.heap.size + 1) (some ad3) c3 l1 Wc := ⟨by rw [e3.out]; exact hc3, fun V hV => by
   rw [e3.out]
   refine ⟨?_, Kd.C_below HR3.out (hBc.trans (hV.below (by omega) ?_))⟩
   ·have := hV.obj (by rintro ((h | h) | h) <;> omega) cp
    rw [kC this 0]; rfl
   ·rintro i ((h | h) | h) <;> omega⟩
  have hTame3 : Tame l1 := ⟨by rw [e3.out]; omega, fun d hd => ⟨hP3.out.1 d hd, hP3.out.2.1 d hd⟩⟩
  refine rf_outer' (gf := 60) (lb := #[.pointer (some ⟨Wb.heap.size + 1, 0, none⟩)]) rfl (fun _ _ => rfl)
   (fun V => (V.heap[bm + 1 + 1]? = some (.cells #[.int .i64 ((allS l1).length : Int)] 3) ∧ ∃ cur rest, V.heap[g2]? = some (.cells cur 38) ∧ cur.size = cap2 * 5 ∧ cur.toList = flat59 (outL f (z38t t) N (allS l1)) ++ rest) ∧ Kb (fun i => i = bm + 1 + 1 ∨ i = g2) Wc V ∧ V.heap[Wc.heap.size]? = some (.deferred (some [])))
   (fun fn => outer_run (I := fun pre V => V.heap[bm + 1 + 1]? = some (.cells #[.int .i64 (pre.length : Int)] 3) ∧ ∃ cur rest, V.heap[g2]? = some (.cells cur 38) ∧ cur.size = cap2 * 5 ∧ cur.toList = flat59 (outL f (z38t t) N pre) ++ rest) hTame3 (by rintro i (h | h) <;> omega) hL2 ?_ ?_ ?_) ?_
  ·exact ⟨ck0, cur0, rest0, hc0, hcs0, hcl0⟩
  ·rintro pre V V' ⟨h1, cur, rest, h2, h3, h4⟩ hk
   exact ⟨hk.obj (by omega) h1, cur, rest, hk.obj (by omega) h2, h3, h4⟩
  ·rintro pre ks V v R' ⟨rest9, hrest⟩ ⟨hkb, cur, rest, hcb, hcs, hcl⟩ hkV hl hrd hfin
   have hkslen := allS_length l1 ks (by rw [hrest]; simp)
   rw [e3.out] at hkslen
   have hprel : pre.length < N := by rw [HN.out, hrest]; simp
   have hVl := (Array.getElem?_eq_some_iff.1 hl).1
   have hfar : ∀ g o oo, g < Wc.heap.size → Wc.heap[g]? = some o → g ≠ bm + 1 + 1 → g ≠ g2 → (V.putObj (Wc.heap.size + 1) oo).heap[g]? = some o := fun g o oo hg h n1 n2 =>
    (World.putObj_heap_other (by omega)).trans (hkV.obj (by rintro (h | h); exact n1 h; exact n2 h) h)
   have hputK : ∀ oo, Kb (fun i => i = Wc.heap.size + 1) V (V.putObj (Wc.heap.size + 1) oo) := fun oo => Kb.putObj (M := fun i => i = Wc.heap.size + 1) (Kb.refl _ V) (r := Wc.heap.size + 1) (.inl rfl) _
   obtain ⟨A9, q9, rfl, hq9, hC9⟩ := hrd
   have hC9' := fun oo => C_put_loop hC9 hl oo
   have hkb' := fun oo => (World.putObj_heap_other (o := oo) (show bm + 1 + 1 ≠ Wc.heap.size + 1 by omega)).trans hkb
   have hcb' := fun oo => (World.putObj_heap_other (o := oo) (show g2 ≠ Wc.heap.size + 1 by omega)).trans hcb
   have hox := fun oo => hfar (bm + 1) _ oo (by omega) co (by omega) (by omega)
   have hmx := fun oo => hfar bm _ oo (by omega) cm (by omega) (by omega)
   have hqx := fun oo => hfar Wb.heap.size _ oo (by omega) cout (by omega) (by omega)
   have HX := Lib.hid hfin
   clear hfin hC9
   have HSC := Lib.hid hszc; clear hszc
   have HVl := Lib.hid hVl; clear hVl
   have HKS := Lib.hid hkslen; clear hkslen
   clear hrest
   refine rf_round hl rfl ?_
   gi_wp2
   refine gen_wpIn fun Vp hVp => ?_
   have hkp9 : Vp.heap[bm + 1 + 1]? = some (.cells #[.int .i64 (pre.length : Int)] 3) := by rw [hVp]; exact hkb' _
   have hop9 : Vp.heap[bm + 1]? = some (.cells #[.map (some bm)] 60) := by rw [hVp]; exact hox _
   have hmp9 : Vp.heap[bm]? = some (.map es' ck) := by rw [hVp]; exact hmx _
   have hqp9 : Vp.heap[Wb.heap.size]? = some (.cells #[.int .i64 t, .slice A1' l1.length q1', .slice (some ⟨g2, 0, none⟩) (allS l1).length cap2] 25) := by rw [hVp]; exact hqx _
   have hcp9 : Vp.heap[g2]? = some (.cells cur 38) := by rw [hVp]; exact hcb' _
   have hCp : Kd.C (Kd.int .i64) Vp A9 ks.length ks := by rw [hVp]; exact hC9' _
   have HVp := Lib.hid hVp
   clear hVp hC9' hkb' hcb' hox hmx hqx hfar hputK
   refine region21' (W := Vp) (bm := bm) (ba := w.heap.size) (bo := bm + 1) (bk := bm + 1 + 1) (br := Wb.heap.size) (c := q9) (A := A9) (ks := ks) (v := (lookL ((allS ds).zip es) ks).getD z38) (b := (lookL ((allS ds).zip es) ks).isSome) rfl rfl rfl rfl rfl rfl (kC hop9 0) hCp ?_ ?_ ?_ ?_
   ·have := HKS.out; omega
   ·have := HKS.out; omega
   ·intro w9 hk9
    exact lookup88 ks w9 bm ck es' _ (hk9.obj (fun h => h) hmp9) hents
   ·intro u9 g9 w9 hk9 hg9 hgc9
    have kk := hk9.obj (fun h => h) hkp9
    have qq := hk9.obj (fun h => h) hqp9
    have cc := hk9.obj (fun h => h) hcp9
    have hkc0 : w9.cell? ⟨bm + 1 + 1, 0, none⟩ = some (.int .i64 (pre.length : Int)) := by rw [kC kk 0]; rfl
    have hkf0 := kF kk 0
    have hLb : bm + 1 + 1 ≠ Wc.heap.size + 1 := by have := HSC.out; omega
    have hN9 := HN12.out
    cases hlk : lookL ((allS ds).zip es) ks with
    | none =>
     have hfk : f ks = z38t t := by rw [HF.out]; simp [hlk]
     have HFK := Lib.hid hfk; clear hfk
     have HKK := Lib.hid kk; clear kk
     have HCC := Lib.hid cc; clear cc
     simp only [Option.isSome_none]
     clear hlk
     gi_wp2
     have hw1 := blk_set HKK.out 0 (.int .i64 ((pre.length : Int) + 1))
     have hfinal := HX.out (w9.setCell ⟨bm + 1 + 1, 0, none⟩ (.int .i64 ((pre.length : Int) + 1))) ⟨by simpa using hw1, cur, rest, (Below.heap_setCell w9 ⟨bm + 1 + 1, 0, none⟩ _ g2 hg2n).trans HCC.out, hcs, by rw [outL_same f (z38t t) N pre ks hprel HFK.out]; exact hcl⟩
      (by rw [← HVp.out]; exact (hk9.mono fun _ h => h.elim).setCell (.inl (.inl rfl)) _)
     refine ⟨?_, ?_⟩
     ·exact hfinal.1
     ·exact hfinal.2
    | some x =>
     have hfk : f ks = x := by rw [HF.out]; simp [hlk]
     have HFK := Lib.hid hfk; clear hfk
     have HKK := Lib.hid kk; clear kk
     obtain ⟨W2, cur2, hW2, hc2', hs2, hl2, hk2⟩ := setCells5 (g := g2) (j := pre.length) x cc hcl (by rw [outL_length f _ N pre (by omega)]; exact hprel)
     have hthere : w9.there g2 (pre.length * 5) 5 := fun j hj => by
      rw [kC cc, kF cc]
      exact ⟨by rw [Array.getElem?_eq_getElem (by rw [hcs]; omega)]; rfl, rfl⟩
     have hg2l := blk_lt cc
     have kk2 := hk2.obj (Ne.symm hg2n) HKK.out
     have hkc2 : W2.cell? ⟨bm + 1 + 1, 0, none⟩ = some (.int .i64 (pre.length : Int)) := by rw [kC kk2 0]; rfl
     have hkf2 := kF kk2 0
     have KK2 := Lib.hid kk2; clear kk2
     have HC2 := Lib.hid hc2'; clear hc2'
     have HW2 := Lib.hid hW2; clear hW2
     have HTH := Lib.hid hthere; clear hthere
     clear cc
     have d0 : w9.cell? ⟨g9, 0, none⟩ = some (.int .i64 x.f0) := by rw [kC hgc9 0, hlk]; rfl
     have d1 : w9.cell? ⟨g9, 1, none⟩ = some (.int .i64 x.f1) := by rw [kC hgc9 1, hlk]; rfl
     have d2 : w9.cell? ⟨g9, 2, none⟩ = some (.int .i64 x.f2.f0) := by rw [kC hgc9 2, hlk]; rfl
     have d3 : w9.cell? ⟨g9, 3, none⟩ = some (.int .i64 x.f2.f1) := by rw [kC hgc9 3, hlk]; rfl
     have d4 : w9.cell? ⟨g9, 4, none⟩ = some (.bool x.f3) := by rw [kC hgc9 4, hlk]; rfl
     have qc : w9.cell? ⟨Wb.heap.size, 2, none⟩ = some (.slice (some ⟨g2, 0, none⟩) (allS l1).length cap2) := by rw [kC qq 2]; rfl
     have hpl9 : pre.length < (allS l1).length := by rw [← HN.out]; exact hprel
     simp only [Option.isSome_some]
     have HG9 := Lib.hid hgc9; clear hgc9 hlk
     have HQ9 := Lib.hid qq; clear qq
     gi_wp2_with (refine storeIn rfl 38 (.tmp 75) (.tmp 74) rfl g2 (pre.length * 5) #[.int .i64 x.f0, .int .i64 x.f1, .int .i64 x.f2.f0, .int .i64 x.f2.f1, .bool x.f3] rfl rfl HTH.out (by kernel_rfl) (by simp [Value.oneCell']) HW2.out ?_)
     have hw1 := blk_set KK2.out 0 (.int .i64 ((pre.length : Int) + 1))
     have hfinal := HX.out (W2.setCell ⟨bm + 1 + 1, 0, none⟩ (.int .i64 ((pre.length : Int) + 1))) ⟨by simpa using hw1, cur2, rest, (Below.heap_setCell W2 ⟨bm + 1 + 1, 0, none⟩ _ g2 hg2n).trans HC2.out, by rw [hs2]; exact hcs, by rw [← outL_set f (z38t t) N pre ks hprel, HFK.out]; exact hl2⟩
      (by rw [← HVp.out]; exact ((hk9.mono fun _ h => h.elim).trans (hk2.mono fun i h => .inr h)).setCell (.inl (.inl rfl)) _)
     refine ⟨?_, ?_⟩
     ·exact hfinal.1
     ·exact hfinal.2
  ·rintro V Wd ⟨⟨hkb, cur, rest, hcb, hcs, hcl⟩, hkV, hmk⟩ hkW hVl
   have hge : ∀ g o, g < Wc.heap.size → g ≠ bm + 1 + 1 → g ≠ g2 → Wc.heap[g]? = some o → Wd.heap[g]? = some o := fun g o hg n1 n2 h => hkW.obj (by omega) (hkV.obj (by rintro (h | h); exact n1 h; exact n2 h) h)
   have dr := hge _ _ (by omega) (by omega) (by omega) cr
   have dout := hge _ _ (by omega) (by omega) (by omega) cout
   have dmk := hge _ _ (by omega) (by omega) (by omega) cmk
   have dmk2 := hkW.obj (by omega) hmk
   have dc := hkW.obj (by omega) hcb
   have hBd : Below w.heap.size w Wd := hBc.trans ((hkV.trans' hkW (fun i h => .inr (by omega))).below (by omega) (by rintro i (h | h) <;> omega))
   have o0 : Wd.cell? ⟨Wb.heap.size, 0, none⟩ = some (.int .i64 t) := by rw [kC dout 0]; rfl
   have o1 : Wd.cell? ⟨Wb.heap.size, 1, none⟩ = some (.slice A1' l1.length q1') := by rw [kC dout 1]; rfl
   have o2 : Wd.cell? ⟨Wb.heap.size, 2, none⟩ = some (.slice (some ⟨g2, 0, none⟩) (allS l1).length cap2) := by rw [kC dout 2]; rfl
   have q0 : Wd.cell? ⟨w.heap.size + 1, 0, none⟩ = some (.int .i64 0) := by rw [kC dr 0]; rfl
   have q1 : Wd.cell? ⟨w.heap.size + 1, 1, none⟩ = some (.slice none 0 0) := by rw [kC dr 1]; rfl
   have q2 : Wd.cell? ⟨w.heap.size + 1, 2, none⟩ = some (.slice none 0 0) := by rw [kC dr 2]; rfl
   have z0 := kF dr 0
   have z1 := kF dr 1
   have z2 := kF dr 2
   have HDR := Lib.hid dr; clear dr
   have HDK := Lib.hid dmk; clear dmk
   have HDK2 := Lib.hid dmk2; clear dmk2
   have HDC := Lib.hid dc; clear dc
   gi_wp2
   have hset : ∀ g, g ≠ w.heap.size + 1 → (((Wd.setCell ⟨w.heap.size + 1, 0, none⟩ (.int .i64 t)).setCell ⟨w.heap.size + 1, 1, none⟩ (.slice A1' l1.length q1')).setCell ⟨w.heap.size + 1, 2, none⟩ (.slice (some ⟨g2, 0, none⟩) (allS l1).length cap2)).heap[g]? = Wd.heap[g]? := fun g hg => by
    rw [Below.heap_setCell _ _ _ g hg, Below.heap_setCell _ _ _ g hg, Below.heap_setCell _ _ _ g hg]
   have fr : (((Wd.setCell ⟨w.heap.size + 1, 0, none⟩ (.int .i64 t)).setCell ⟨w.heap.size + 1, 1, none⟩ (.slice A1' l1.length q1')).setCell ⟨w.heap.size + 1, 2, none⟩ (.slice (some ⟨g2, 0, none⟩) (allS l1).length cap2)).heap[w.heap.size + 1]? = some (.cells #[.int .i64 t, .slice A1' l1.length q1', .slice (some ⟨g2, 0, none⟩) (allS l1).length cap2] 25) := by
    have := blk_set (blk_set (blk_set HDR.out 0 (.int .i64 t)) 1 (.slice A1' l1.length q1')) 2 (.slice (some ⟨g2, 0, none⟩) (allS l1).length cap2)
    simpa using this
   have hBf : Below w.heap.size w (((Wd.setCell ⟨w.heap.size + 1, 0, none⟩ (.int .i64 t)).setCell ⟨w.heap.size + 1, 1, none⟩ (.slice A1' l1.length q1')).setCell ⟨w.heap.size + 1, 2, none⟩ (.slice (some ⟨g2, 0, none⟩) (allS l1).length cap2)) := bT (bT (bT hBd (by omega)) (by omega)) (by omega)
   generalize (((Wd.setCell ⟨w.heap.size + 1, 0, none⟩ (.int .i64 t)).setCell ⟨w.heap.size + 1, 1, none⟩ (.slice A1' l1.length q1')).setCell ⟨w.heap.size + 1, 2, none⟩ (.slice (some ⟨g2, 0, none⟩) (allS l1).length cap2)) = Wf at *
   have hm1 := (hset Wc.heap.size (by omega)).trans HDK2.out
   have hm2 := (hset W5.heap.size (by omega)).trans HDK.out
   refine leaves_marks2 (lo := w.heap.size) _ (Wc.heap.size + 1) _ ⟨Wc.heap.size, rfl, by omega, by omega, hm1, ⟨W5.heap.size, rfl, by omega, by omega, hm2, trivial⟩⟩ fun W' hk => ?_
   have hres := hk.obj (by rintro ⟨_, q, hq⟩; rw [fr] at hq; cases hq) fr
   have hc2 := hk.obj (by rintro ⟨_, q, hq⟩; rw [hset g2 (by omega), HDC.out] at hq; cases hq) ((hset g2 (by omega)).trans HDC.out)
   have u0 : W'.cell? ⟨w.heap.size + 1, 0, none⟩ = some (.int .i64 t) := by rw [kC hres 0]; rfl
   have u1 : W'.cell? ⟨w.heap.size + 1, 1, none⟩ = some (.slice A1' l1.length q1') := by rw [kC hres 1]; rfl
   have u2 : W'.cell? ⟨w.heap.size + 1, 2, none⟩ = some (.slice (some ⟨g2, 0, none⟩) (allS l1).length cap2) := by rw [kC hres 2]; rfl
   refine ⟨.tuple #[.agg #[.int .i64 t, .slice A1' l1.length q1', .slice (some ⟨g2, 0, none⟩) (allS l1).length cap2], .int .i64 0], ?_, _, _, rfl, ?_, ?_, ?_⟩
   ·simp [results, Tryz.results7, go_sem, u0, u1, u2]
   ·have hv1n := HV1c.out
    rw [← e3.out] at hv1n
    have h1 := Kd.R_bound (Kd.R_types hv1n hc0 (by intro q hq; simp [show k54.E = [] from rfl] at hq; omega))
    have hwa : w.heap.size ≤ Wa.heap.size := by omega
    refine Kd.R_lower (Kd.R_mono (Kd.R_step h1 ?_) (fun _ _ => trivial)) hwa
    rintro k ⟨⟨_, hkg⟩, hkb1, hkl, q, _, cells, hcells⟩ _
    have hkn : k ≠ bm + 1 + 1 := by omega
    have hV := hkV.block k hkl (by rintro (h | h); exact hkn h; exact hkg h)
    have hWk := hkW.block k (by have := hkV.size; omega) (show ¬ (k = Wc.heap.size + 1) by omega)
    have hWd : Wd.heap[k]? = some (.cells cells q (0, 0)) := (hWk.trans hV).trans hcells
    have hWf := (hset k (by omega)).trans hWd
    rw [hcells]
    exact hk.obj (by rintro ⟨_, q2, hq⟩; rw [hWf] at hq; cases hq) hWf
   ·refine ⟨fun _ _ => trivial, flat59 (resL t ds es l1), ⟨?_, .inr ⟨g2, cap2, cur, ?_, by omega, hc2, ?_, HCM.out, by simpa [show k38.sz = 5 from rfl] using hcs, ?_⟩⟩, flat_Reps _ _ _ _⟩
    ·rw [flat59_length]; rfl
    ·simp [resL]
    ·simp only [resL, List.length_map]; rw [← HN.out]; exact hNc
    ·rw [hcl, outL_all f (z38t t) N (allS l1) HN.out.symm, HF.out]
     exact List.take_left' (by rw [flat59_length]; simp [resL, show k38.sz = 5 from rfl])
   ·exact ⟨hk.os.trans hBf.os, hk.tape.trans hBf.tape, hk.output.trans hBf.output, Nat.le_trans hBf.size hk.size, fun i hi => (hk.block i (Nat.lt_of_lt_of_le hi hBf.size) (fun h => by omega)).trans (hBf.block i hi)⟩
end Go.Proofs.Q
end
