/-
 Texts of the proof, in build order: words that the walks use, contracts of functions, plain facts.
-/
import Derived.Deep.SlicePairs
import Derived.ChangeSlices
import Derived.ChangeArms
import Derived.WalkKit
import Derived.ProofKit
import Derived.OpenShut
import Derived.ShutString
import Derived.ChangeOld
import Derived.Below
import Derived.SizedLaws
import Derived.Deep.Slices
import Derived.Lib.SmallJoins
import Derived.Test.YtcjjmhgboibbgaaGreatEa3
set_option maxHeartbeats 40000000
set_option maxRecDepth 100000
set_option linter.unusedVariables false
set_option linter.unusedSimpArgs false
section
namespace Go.Proofs.Q
open RowKit ChangeShapes WideShapes ChangeAt Deep Pw Pl Pm
theorem list_of {α : Type} (n : Nat) (p : Nat → α → Prop) (h : ∀ i, i < n → ∃ x, p i x) : ∃ xs : List α, xs.length = n ∧ ∀ (i : Nat) (x : α), xs[i]? = some x → p i x := by
 induction n with
 | zero => exact ⟨[], rfl, fun i x hx => by simp at hx⟩
 | succ n ih =>
  obtain ⟨xs, hl, hx⟩ := ih fun i hi => h i (by omega)
  obtain ⟨x, hp⟩ := h n (by omega)
  refine ⟨xs ++ [x], by simp [hl], fun i y hy => ?_⟩
  rcases Nat.lt_or_ge i xs.length with hi | hi
  ·rw [List.getElem?_append_left hi] at hy; exact hx i y hy
  ·rw [List.getElem?_append_right hi] at hy
   have h0 : i - xs.length = 0 := by
    rcases Nat.eq_zero_or_pos (i - xs.length) with h0 | h0
    ·exact h0
    ·rw [List.getElem?_eq_none (by simp; omega)] at hy; cases hy
   rw [h0] at hy
   have hi2 : i = n := by omega
   simp only [List.getElem?_cons_zero, Option.some.injEq] at hy
   rw [hi2, ← hy]; exact hp
section
variable {H : Type} {enc : TypeId × Value → H} {W : World} {base : Nat} {spare : Nat → Bool} {held : Bool}
/-- A slice of dimensions that came in. -/
theorem open_dims {a : Option Addr} {len cap : Nat} {d : DataW H} {p : List MemPlace} (h : DataW.Trod enc Tryz.prog W base spare held 22 (.slice a len cap) d p) :
  ∃ xs : List S54, xs.length = len ∧ len ≤ cap ∧ Kd.C k54 W a len xs := by
 obtain ⟨fuel, hf⟩ := h
 rcases open_slice_pairs Tryz.underlying22 Tryz.underlying54 (by kernel_rfl) rfl rfl (by kernel_rfl) (by kernel_rfl) hf with ⟨hc, _⟩ | ⟨x, l, c, m, n, V0, V1, D0, D1, P0, P1, hc, _, hl, hm, hmm, hx, hall⟩
 ·simp [Value.cells] at hc
  obtain ⟨rfl, rfl, rfl⟩ := hc
  exact ⟨[], rfl, Nat.le_refl _, Kd.C_nil _ _⟩
 ·simp [Value.cells] at hc
  obtain ⟨rfl, rfl, rfl⟩ := hc
  have hlm : len ≤ m := by rw [hmm]; split <;> omega
  obtain ⟨xs, hxl, hxs⟩ := list_of len (fun i (s : S54) => W.cell? (x.add (i * 2)) = some (.int .i64 s.f0) ∧ W.cell? (x.add (i * 2 + 1)) = some (.int .i64 s.f1)) (fun i hi => by
   obtain ⟨c0, c1, t0, t1⟩ := hall i (by omega)
   obtain ⟨n0, e0, _, _⟩ := DataW.trod_int Tryz.underlying3 t0
   obtain ⟨n1, e1, _, _⟩ := DataW.trod_int Tryz.underlying3 t1
   simp only [List.cons.injEq, and_true] at e0 e1
   rw [e0] at c0
   rw [e1] at c1
   exact ⟨⟨n0, n1⟩, c0, c1⟩)
  refine ⟨xs, hxl, hl, hxl, by unfold maxLen at hm; omega, fun _ => ⟨x, rfl, fun j s hj => ?_⟩⟩
  refine ⟨[.int .i64 s.f0, .int .i64 s.f1], rfl, k54_mk W s, fun i u hu => ?_⟩
  obtain ⟨c0, c1⟩ := hxs j s hj
  match i, hu with
  | 0, hu => simp only [List.getElem?_cons_zero, Option.some.injEq] at hu; subst hu; exact c0
  | 1, hu => simp only [List.getElem?_cons_succ, List.getElem?_cons_zero, Option.some.injEq] at hu; subst hu; exact c1
  | i + 2, hu => simp at hu
/-- A slice of whole numbers that came in. -/
theorem open_subs {a : Option Addr} {len cap : Nat} {d : DataW H} {p : List MemPlace} {t : Nat} (ht : Tryz.prog.underlying t = some (.slice 3)) (h : DataW.Trod enc Tryz.prog W base spare held t (.slice a len cap) d p) :
  ∃ xs : List Int, xs.length = len ∧ len ≤ cap ∧ Kd.C (Kd.int .i64) W a len xs := by
 obtain ⟨fuel, hf⟩ := h
 rcases open_ints ht Tryz.underlying3 (by kernel_rfl) hf with ⟨hc, _⟩ | ⟨x, l, c, zs, hc, _, hl, hm, hz, _, hcell, _⟩
 ·simp [Value.cells] at hc
  obtain ⟨rfl, rfl, rfl⟩ := hc
  exact ⟨[], rfl, Nat.le_refl _, Kd.C_nil _ _⟩
 ·simp [Value.cells] at hc
  obtain ⟨rfl, rfl, rfl⟩ := hc
  have hlz : len ≤ zs.length := by rw [hz]; split <;> omega
  refine ⟨zs.take len, by simp; omega, hl, Kd.C_of_reads (d := (0 : Int)) ⟨by simp; omega, by unfold maxLen at hm; omega, fun _ => ⟨x, rfl, fun j hj => ?_⟩⟩⟩
  have e : (zs.take len).getD j 0 = zs.getD j 0 := by simp [List.getD, hj]
  rw [e]
  exact hcell j (by omega)
end
end Go.Proofs.Q
namespace Go.Proofs.Q
open RowKit ChangeShapes WideShapes ChangeAt Deep Joins Pw Pl Pm
section
variable {H : Type} {enc : TypeId × Value → H} {W : World} {base : Nat} {spare : Nat → Bool} {held : Bool}
theorem lit_i64 {n : Int} (h : (Lit.int .i64 n).wf = true) : -9223372036854775808 ≤ n ∧ n ≤ 9223372036854775807 := by
 simp [Lit.wf] at h
 exact ⟨Int.le_trans (by decide) h.1, h.2⟩
theorem one_value {fuel : Nat} {cs : List Value} {x : DataW H × List MemPlace} (h : DataW.trod enc Tryz.prog W base spare held fuel 38 cs = some x) : ∃ s : S38, cs = [.int .i64 s.f0, .int .i64 s.f1, .int .i64 s.f2.f0, .int .i64 s.f2.f1, .bool s.f3] ∧ (-9223372036854775808 ≤ s.f2.f0 ∧ s.f2.f0 ≤ 9223372036854775807) := by
 obtain ⟨y0, y1, y2, y3, n, _, hl, h0, h1, h2, h3⟩ := trod_struct4 Tryz.underlying38 h
 have c3 : Tryz.prog.cellsOf 3 = 1 := by kernel_rfl
 have c4 : Tryz.prog.cellsOf 4 = 1 := by kernel_rfl
 have c57 : Tryz.prog.cellsOf 36 = 2 := by kernel_rfl
 have c59 : Tryz.prog.cellsOf 38 = 5 := by kernel_rfl
 rw [c59] at hl
 match cs, hl with
 | [a, b, c, d, e], _ =>
  simp only [c3, c4, c57] at h0 h1 h2 h3
  obtain ⟨i0, e0, _, _⟩ := DataW.trod_int Tryz.underlying3 h0
  obtain ⟨i1, e1, _, _⟩ := DataW.trod_int Tryz.underlying3 h1
  obtain ⟨b0, e3, _⟩ := DataW.trod_bool Tryz.underlying4 h3
  obtain ⟨z0, z1, n2, _, _, g0, g1⟩ := trod_struct2 Tryz.underlying36 h2
  simp only [c3] at g0 g1
  obtain ⟨j0, e4, _, w4⟩ := DataW.trod_int Tryz.underlying3 g0
  obtain ⟨j1, e5, _, _⟩ := DataW.trod_int Tryz.underlying3 g1
  simp at e0 e1 e3 e4 e5
  subst e0 e1 e3 e4 e5
  exact ⟨⟨i0, i1, ⟨j0, j1⟩, b0⟩, rfl, lit_i64 w4⟩
theorem open_vals {fuel : Nat} {cs : List Value} {x : DataW H × List MemPlace} (h : DataW.trod enc Tryz.prog W base spare held fuel 23 cs = some x) :
  ∃ (a : Option Addr) (cap : Nat) (es : List S38), cs = [.slice a es.length cap] ∧ es.length ≤ cap ∧ Kd.C k38 W a es.length es ∧ ∀ s ∈ es, (-9223372036854775808 ≤ s.f2.f0 ∧ s.f2.f0 ≤ 9223372036854775807) := by
 have c59 : Tryz.prog.cellsOf 38 = 5 := by kernel_rfl
 rcases open_slice Tryz.underlying23 h with ⟨hc, _⟩ | ⟨a, len, cap, m, n, D, Pl, hc, _, hl, hm, hmm, _, hall⟩
 ·exact ⟨none, 0, [], hc, Nat.le_refl _, Kd.C_nil _ _, fun _ h => by cases h⟩
 ·have hlm : len ≤ m := by rw [hmm]; split <;> omega
  rw [c59] at hall
  obtain ⟨es, hel, hes⟩ := list_of len (fun i (s : S38) => (-9223372036854775808 ≤ s.f2.f0 ∧ s.f2.f0 ≤ 9223372036854775807) ∧ ∀ j u, [Value.int .i64 s.f0, .int .i64 s.f1, .int .i64 s.f2.f0, .int .i64 s.f2.f1, .bool s.f3][j]? = some u → W.cell? (a.add (i * 5 + j)) = some u) (fun i hi => by
   obtain ⟨cs', hcs, ht⟩ := hall i (by omega)
   obtain ⟨s, rfl, h6⟩ := one_value ht
   refine ⟨s, h6, fun j u hj => ?_⟩
   obtain ⟨_, _, hat⟩ := World.cells?_some hcs
   have hj5 : j < 5 := by
    have := (List.getElem?_eq_some_iff.1 hj).1
    simpa using this
   have := hat j hj5
   rw [← Go.Deep.add_add, this, hj])
  refine ⟨some a, cap, es, by rw [hel]; exact hc, by omega, ⟨rfl, by unfold maxLen at hm; omega, fun _ => ⟨a, rfl, fun j s hj => ?_⟩⟩, fun s hs => ?_⟩
  ·exact ⟨_, rfl, k38_mk W s, (hes j s hj).2⟩
  ·obtain ⟨i, hi, he⟩ := List.getElem_of_mem hs
   exact (hes i s (by rw [List.getElem?_eq_getElem hi, he])).1
theorem open_dims2 {fuel : Nat} {cs : List Value} {x : DataW H × List MemPlace} (h : DataW.trod enc Tryz.prog W base spare held fuel 22 cs = some x) :
  ∃ (a : Option Addr) (cap : Nat) (xs : List S54), cs = [.slice a xs.length cap] ∧ xs.length ≤ cap ∧ Kd.C k54 W a xs.length xs := by
 have key : ∀ (a : Option Addr) (len cap : Nat), cs = [.slice a len cap] → ∃ (a : Option Addr) (cap : Nat) (xs : List S54), cs = [.slice a xs.length cap] ∧ xs.length ≤ cap ∧ Kd.C k54 W a xs.length xs := by
  rintro a len cap rfl
  obtain ⟨xs, rfl, h1, h2⟩ := open_dims (a := a) (len := len) (cap := cap) (d := x.1) (p := x.2) ⟨fuel, h⟩
  exact ⟨a, cap, xs, rfl, h1, h2⟩
 rcases open_slice Tryz.underlying22 h with ⟨hc, _⟩ | ⟨a, len, cap, m, n, D, Pl, hc, _⟩
 ·exact key none 0 0 hc
 ·exact key (some a) len cap hc
/-- An array that came in. -/
theorem open_array {r : Reach} {b0 : Nat} {v : Value} {d : DataW H} {p : List MemPlace} (hv : Value.okWide Tryz.prog W r b0 25 v) (h : DataW.Trod enc Tryz.prog W base spare held 25 v d p) :
  ∃ (t : Int) (A1 : Option Addr) (c1 : Nat) (ds : List S54) (A2 : Option Addr) (c2 : Nat) (es : List S38), v = .agg #[.int .i64 t, .slice A1 ds.length c1, .slice A2 es.length c2] ∧ (ds.length ≤ c1 ∧ Kd.C k54 W A1 ds.length ds) ∧ (es.length ≤ c2 ∧ Kd.C k38 W A2 es.length es ∧ ∀ s ∈ es, (-9223372036854775808 ≤ s.f2.f0 ∧ s.f2.f0 ≤ 9223372036854775807)) := by
 obtain ⟨v0, v1, v2, y0, y1, y2, n, rfl, _, _, h0, h1, h2⟩ := open_agg3 Tryz.underlying25 (by kernel_rfl) (by kernel_rfl) hv h
 obtain ⟨t, e0, _, _⟩ := DataW.trod_int Tryz.underlying3 h0
 obtain ⟨A1, c1, ds, e1, g1, k1⟩ := open_dims2 h1
 obtain ⟨A2, c2, es, e2, g2, k2⟩ := open_vals h2
 simp only [List.cons.injEq, and_true] at e0 e1 e2
 subst e0 e1 e2
 exact ⟨t, A1, c1, ds, A2, c2, es, rfl, ⟨g1, k1⟩, ⟨g2, k2⟩⟩
end
end Go.Proofs.Q
end
section
namespace Go.Proofs.Q
open RowKit Pw Pl Pm
/-- a list of done operations, by its bits -/
def lq (n m : Nat) : Array Bool := ((List.range n).map m.testBit).toArray
section
variable {P : Program} {ops : Array Oper} {Q : Exit → Act → World → Prop} {md : Region.Mode} {S : World → Prop} {ds : List Nat} {T : Bool × List (List Nat × List Nat)} {B : List Nat} {oi : Oper} {v : Value} {fuel : Nat} {l : Array Bool} {a a' : Act} {w : World}
/-- pure_, its small proofs by themselves -/
theorem pv (i N n m : Nat) (HT : As (rtab md ops = T)) (h : wpAnyLast P md ops Q S ds fuel (lq n m) a' w) (hc : anyT T l.toList (lq n m).toList i = true := by kernel_rfl) (hi : ops[i]? = some oi := by rfl) (hN : oi.dst = some N := by rfl) (hQ : ∀ c a w, Q (.panic c) (a.put oi.dst v) w → Q (.panic c) a w := by exact fun _ _ _ h => h)
  (hw : Region.wanted oi (yielded ops a.tmps) = true := by rfl) (hy : ∀ w, (execOp a.eval oi).run P w = .ok (.value v) w := by (intro w'; go_simp; with_reducible rfl)) (ha : a.put (some N) v = a' := by (go_simp; rfl)) : wpAnyLast P md ops Q S ds (fuel + 1) l a w :=
 pure_ (lq n m) hi hN (any_of HT.out hc) hQ (Or.inl ⟨hw, hy⟩) ha h
/-- the same, for the print's texts -/
theorem pw (i N n m : Nat) (HT : As (rtab md ops = T)) (h : wpAnyLast P md ops Q S ds fuel (lq n m) a' w) (hc : anyT T l.toList (lq n m).toList i = true := by kernel_rfl) (hi : ops[i]? = some oi := by rfl) (hN : oi.dst = some N := by rfl) (hQ : ∀ c a w, Q (.panic c) (a.put oi.dst v) w → Q (.panic c) a w := by exact fun _ _ _ h => h)
  (hw : Region.wanted oi (yielded ops a.tmps) = true := by rfl) (hy : ∀ w, (execOp a.eval oi).run P w = .ok (.value v) w := by (intro w'; go_simp; with_reducible rfl)) (ha : a.put (some N) v = a' := by (simp only [Act.put, List.setIfInBounds_toArray, List.set_cons_zero, List.set_cons_succ, i64_w, i32_w]; rfl)) : wpAnyLast P md ops Q S ds (fuel + 1) l a w :=
 pure_ (lq n m) hi hN (any_of HT.out hc) hQ (Or.inl ⟨hw, hy⟩) ha h
/-- the same, for the print's texts -/
theorem pk (i N n m : Nat) (h : wpAnyLast P md ops Q S ds fuel (lq n m) a' w) (hc : anyB md ops l (lq n m) i = true := by kernel_rfl) (hi : ops[i]? = some oi := by rfl) (hN : oi.dst = some N := by rfl) (hQ : ∀ c a w, Q (.panic c) (a.put oi.dst v) w → Q (.panic c) a w := by exact fun _ _ _ h => h)
  (hw : Region.wanted oi (yielded ops a.tmps) = true := by rfl) (hy : ∀ w, (execOp a.eval oi).run P w = .ok (.value v) w := by (intro w'; go_simp; with_reducible rfl)) (ha : a.put (some N) v = a' := by (simp only [Act.put, List.setIfInBounds_toArray, List.set_cons_zero, List.set_cons_succ, i64_w, i32_w]; rfl)) : wpAnyLast P md ops Q S ds (fuel + 1) l a w :=
 pure_ (lq n m) hi hN hc hQ (Or.inl ⟨hw, hy⟩) ha h
/-- an operation that is not wanted -/
theorem uv (i N n m : Nat) (HT : As (rtab md ops = T)) (h : wpAnyLast P md ops Q S ds fuel (lq n m) a' w) (hc : anyT T l.toList (lq n m).toList i = true := by kernel_rfl) (hi : ops[i]? = some oi := by rfl) (hN : oi.dst = some N := by rfl) (hQ : ∀ c a w, Q (.panic c) (a.put oi.dst undef) w → Q (.panic c) a w := by exact fun _ _ _ h => h)
  (hw : Region.wanted oi (yielded ops a.tmps) = false := by rfl) (ha : a.put (some N) undef = a' := by (go_simp; rfl)) : wpAnyLast P md ops Q S ds (fuel + 1) l a w :=
 pure_ (lq n m) hi hN (any_of HT.out hc) hQ (Or.inr ⟨hw, rfl⟩) ha h
/-- the same, for the print's texts -/
theorem uw (i N n m : Nat) (HT : As (rtab md ops = T)) (h : wpAnyLast P md ops Q S ds fuel (lq n m) a' w) (hc : anyT T l.toList (lq n m).toList i = true := by kernel_rfl) (hi : ops[i]? = some oi := by rfl) (hN : oi.dst = some N := by rfl) (hQ : ∀ c a w, Q (.panic c) (a.put oi.dst undef) w → Q (.panic c) a w := by exact fun _ _ _ h => h)
  (hw : Region.wanted oi (yielded ops a.tmps) = false := by rfl) (ha : a.put (some N) undef = a' := by (simp only [Act.put, List.setIfInBounds_toArray, List.set_cons_zero, List.set_cons_succ, i64_w, i32_w]; rfl)) : wpAnyLast P md ops Q S ds (fuel + 1) l a w :=
 pure_ (lq n m) hi hN (any_of HT.out hc) hQ (Or.inr ⟨hw, rfl⟩) ha h
/-- take_ -/
theorem tv (i N n m : Nat) (HT : As (rtab md ops = T)) (HW : As (waitsOk T.2 B = true)) (hS : S w) (h : wpAnyLast P md ops Q S ds fuel (lq n m) a' w) (hc : takeW T B ds l.toList (lq n m).toList i = true := by kernel_rfl) (hi : ops[i]? = some oi := by rfl) (hN : oi.dst = some N := by rfl) (hQ : ∀ c a w, Q (.panic c) (a.put oi.dst v) w → Q (.panic c) a w := by exact fun _ _ _ h => h)
  (hw : Region.wanted oi (yielded ops a.tmps) = true := by rfl) (hy : ∀ w, S w → (execOp a.eval oi).run P w = .ok (.value v) w := by (intro w' hs; repeat (obtain ⟨_, hs⟩ := hs); go_simp; with_reducible rfl)) (ha : a.put (some N) v = a' := by (go_simp; rfl)) : wpAnyLast P md ops Q S ds (fuel + 1) l a w :=
 take_ (lq n m) hi hN (take_ofW HT.out HW.out hc) hQ (Or.inl ⟨hw, hy⟩) hS ha h
/-- the same, for the print's texts -/
theorem tw (i N n m : Nat) (HT : As (rtab md ops = T)) (HW : As (waitsOk T.2 B = true)) (hS : S w) (h : wpAnyLast P md ops Q S ds fuel (lq n m) a' w) (hc : takeW T B ds l.toList (lq n m).toList i = true := by kernel_rfl) (hi : ops[i]? = some oi := by rfl) (hN : oi.dst = some N := by rfl) (hQ : ∀ c a w, Q (.panic c) (a.put oi.dst v) w → Q (.panic c) a w := by exact fun _ _ _ h => h)
  (hw : Region.wanted oi (yielded ops a.tmps) = true := by rfl) (hy : ∀ w, S w → (execOp a.eval oi).run P w = .ok (.value v) w := by (intro w' hs; repeat (obtain ⟨_, hs⟩ := hs); go_simp; with_reducible rfl)) (ha : a.put (some N) v = a' := by (simp only [Act.put, List.setIfInBounds_toArray, List.set_cons_zero, List.set_cons_succ, i64_w, i32_w]; rfl)) : wpAnyLast P md ops Q S ds (fuel + 1) l a w :=
 take_ (lq n m) hi hN (take_ofW HT.out HW.out hc) hQ (Or.inl ⟨hw, hy⟩) hS ha h
/-- the same, for the print's texts -/
theorem tk (i N n m : Nat) (hS : S w) (h : wpAnyLast P md ops Q S ds fuel (lq n m) a' w) (hc : takeB md ops ds l (lq n m) i = true := by kernel_rfl) (hi : ops[i]? = some oi := by rfl) (hN : oi.dst = some N := by rfl) (hQ : ∀ c a w, Q (.panic c) (a.put oi.dst v) w → Q (.panic c) a w := by exact fun _ _ _ h => h)
  (hw : Region.wanted oi (yielded ops a.tmps) = true := by rfl) (hy : ∀ w, S w → (execOp a.eval oi).run P w = .ok (.value v) w := by (intro w' hs; repeat (obtain ⟨_, hs⟩ := hs); go_simp; with_reducible rfl)) (ha : a.put (some N) v = a' := by (simp only [Act.put, List.setIfInBounds_toArray, List.set_cons_zero, List.set_cons_succ, i64_w, i32_w]; rfl)) : wpAnyLast P md ops Q S ds (fuel + 1) l a w :=
 take_ (lq n m) hi hN hc hQ (Or.inl ⟨hw, hy⟩) hS ha h
/-- goesL_, bX, goes_, norm_, their small proofs by themselves -/
theorem gl {rest : List Oper} {R : Exit → Act → World → Prop} (N : Tmp) {f : FuncId} {fn : Func} {us : Array Operand} {ts : Array TypeId} (hf : P.funcs[f]? = some fn) (args : Array Value) (h : Calls P f args w fun e w' => ∃ v, e = .returned v ∧ wpList P ops R rest (a.put (some N) v) w') (hd : oi.dst = some N := by rfl) (hg : oi.guard = none := by rfl) (hname : (fn.name == "runtime.NumGoroutine") = false := by kernel_rfl) (hb : fn.body.isSome = true := by rfl)
  (hop : oi.op = .call { callee := .value (.func f), args := us, argTypes := ts } := by rfl) (hargs : us.map a.eval = args := by ((try simp only [List.map_toArray, List.map_cons, List.map_nil]); first | done | rfl | (simp only [List.length_drop, List.length_take]; rfl))) : wpList P ops R (oi :: rest) a w :=
 goesL_ (some N) hd hg hf hname hb args hop hargs h
theorem gs {N : Option Tmp} {K : Act → World → Prop} {f : FuncId} {fn : Func} {us : Array Operand} {ts : Array TypeId} (hf : P.funcs[f]? = some fn) (args : Array Value) (h : Calls P f args w fun e w' => ∃ v, e = .returned v ∧ K (a.put N v) w') (hname : (fn.name == "runtime.NumGoroutine") = false := by kernel_rfl) (hb : fn.body.isSome = true := by rfl) (hw : Region.wanted oi (yielded ops a.tmps) = true := by rfl) (hN : oi.dst = N := by rfl)
  (hop : oi.op = .call { callee := .value (.func f), args := us, argTypes := ts } := by rfl) (hargs : us.map a.eval = args := by ((try simp only [List.map_toArray, List.map_cons, List.map_nil]); first | done | rfl | (simp only [List.length_drop, List.length_take]; rfl))) : if Region.wanted oi (yielded ops a.tmps) = true then Oper.wp P oi a w K Q else K (a.put N undef) w :=
 goes_ hf hname hb args hw hN hop hargs h
theorem bx {rest : List Oper} {W : World} {R : Exit → Act → World → Prop} (N : Tmp) (cs : Array Value) (t : TypeId) (h : ∀ g, g = W.heap.size → ∀ w1, w1.heap[g]? = some (.cells cs t (0, 0)) → Below W.heap.size W w1 → wpList P ops R rest (a.put oi.dst (.pointer (some ⟨g, 0, none⟩))) w1) (hd : oi.dst = some N := by rfl) (hg : oi.guard = none := by rfl)
  (hr : (execOp a.eval oi).run P W = .ok (.value (.pointer (some ⟨W.heap.size, 0, none⟩))) (W.alloc (.cells cs t (0, 0))) := by first | (go_simp; done) | (go_simp; rfl)) : wpList P ops R (oi :: rest) a W :=
 bX hg hd hr h
theorem nm (N : Nat) (h : wpAnyLast P md ops Q S ds fuel l a' w) (ha : a.put (some N) v = a' := by (simp only [Act.put, List.setIfInBounds_toArray, List.set_cons_zero, List.set_cons_succ, i64_w, i32_w]; rfl)) : wpAnyLast P md ops Q S ds fuel l (a.put (some N) v) w :=
 norm_ ha h
theorem ng (N : Nat) (h : wpAnyLast P md ops Q S ds fuel l a' w) (ha : a.put (some N) v = a' := by (go_simp; rfl)) : wpAnyLast P md ops Q S ds fuel l (a.put (some N) v) w :=
 norm_ ha h
theorem od {p : Prop} [Decidable p] (h : decide p = true := by with_reducible assumption) : p := of_decide_eq_true h
theorem zz {s : Nat} {w W : World} (h : Below s w W := by repeat (first | exact HB.out | apply bA | apply bN | apply bD)) : Below s w W := h
end
end Go.Proofs.Q
end
