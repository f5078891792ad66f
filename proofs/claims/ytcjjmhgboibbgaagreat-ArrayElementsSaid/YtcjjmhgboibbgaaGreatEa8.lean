/-
 Texts of the proof, in build order: words that the walks use, contracts of functions, plain facts.
-/
import Derived.RangeFuncNested
import Derived.RangeFuncBound
import Derived.RangeFuncCalls
import Derived.RangeFuncLeaves
import Derived.Shelf.Abstract
import Derived.Shelf.RegionOpen
import Derived.WalkKit
import Derived.OwnWalkIn
import Derived.TacticsInMore
import Derived.LoopNIn
import Derived.LoopIn
import Derived.BigFrameIn
set_option maxHeartbeats 40000000
set_option maxRecDepth 100000
set_option linter.unusedVariables false
set_option linter.unusedSimpArgs false
section
namespace Go.Proofs.Rf
open RowKit
variable {P : Program}
/-- The world has gone on: blocks outside M are as they were. -/
structure Kb (M : Nat → Prop) (w W : World) : Prop where
 os : W.os = w.os
 tape : W.tape = w.tape
 output : W.output = w.output
 size : w.heap.size ≤ W.heap.size
 block : ∀ i, i < w.heap.size → ¬ M i → W.heap[i]? = w.heap[i]?
section
variable {M M' : Nat → Prop} {w W W' : World}
theorem Kb.refl (M : Nat → Prop) (w : World) : Kb M w w := ⟨rfl, rfl, rfl, Nat.le_refl _, fun _ _ _ => rfl⟩
theorem Kb.trans (h : Kb M w W) (k : Kb M W W') : Kb M w W' :=
 ⟨k.os.trans h.os, k.tape.trans h.tape, k.output.trans h.output, Nat.le_trans h.size k.size, fun i hi hm => (k.block i (by have := h.size; omega) hm).trans (h.block i hi hm)⟩
/-- the later step may turn, besides, what was not there yet -/
theorem Kb.trans' (h : Kb M w W) (k : Kb M' W W') (hM : ∀ i, M' i → M i ∨ w.heap.size ≤ i) : Kb M w W' :=
 ⟨k.os.trans h.os, k.tape.trans h.tape, k.output.trans h.output, Nat.le_trans h.size k.size, fun i hi hm => (k.block i (by have := h.size; omega) (fun h' => (hM i h').elim hm (fun a => by omega))).trans (h.block i hi hm)⟩
theorem Kb.of_below (h : Below w.heap.size w W) : Kb M w W := ⟨h.os, h.tape, h.output, h.size, fun i hi _ => h.block i hi⟩
theorem Kb.below {B : Nat} (h : Kb M w W) (hB : B ≤ w.heap.size) (hM : ∀ i, M i → B ≤ i) : Below B w W := ⟨h.os, h.tape, h.output, h.size, fun i hi => h.block i (by omega) (fun hm => by have := hM i hm; omega)⟩
theorem Kb.alloc (h : Kb M w W) (o : Obj) : Kb M w (W.alloc o) :=
 ⟨h.os, h.tape, h.output, by rw [World.size_alloc]; have := h.size; omega, fun i hi hm => (Below.heap_alloc W o i (by have := h.size; omega)).trans (h.block i hi hm)⟩
theorem Kb.drew (h : Kb M w W) : Kb M w W.drew := ⟨h.os, h.tape, h.output, h.size, h.block⟩
theorem Kb.drewN (h : Kb M w W) (n : Nat) : Kb M w (W.drewN n) := ⟨h.os, h.tape, h.output, h.size, h.block⟩
theorem Kb.setCell (h : Kb M w W) {p : Addr} (hp : M p.block ∨ w.heap.size ≤ p.block) (v : Value) : Kb M w (W.setCell p v) :=
 ⟨h.os, h.tape, h.output, by have := h.size; simpa [World.setCell] using this, fun i hi hm => (Below.heap_setCell W p v i (by rintro rfl; exact hp.elim hm (fun a => by omega))).trans (h.block i hi hm)⟩
theorem Kb.putObj (h : Kb M w W) {r : Nat} (hp : M r ∨ w.heap.size ≤ r) (o : Obj) : Kb M w (W.putObj r o) :=
 ⟨h.os, h.tape, h.output, by have := h.size; simpa using this, fun i hi hm => (World.putObj_heap_other (by rintro rfl; exact hp.elim hm (fun a => by omega))).trans (h.block i hi hm)⟩
theorem Kb.obj (h : Kb M w W) {i : Nat} {o : Obj} (hm : ¬ M i) (ho : w.heap[i]? = some o) : W.heap[i]? = some o := (h.block i (Array.getElem?_eq_some_iff.1 ho).1 hm).trans ho
theorem Kb.cell (h : Kb M w W) {a : Addr} {v : Value} (hm : ¬ M a.block) (hc : w.cell? a = some v) : W.cell? a = some v := by
 have hl := World.block_lt_of_cell? w a hc
 have := h.block a.block hl hm
 unfold World.cell? at hc ⊢
 rw [this]; exact hc
theorem Kb.mono (h : Kb M w W) (hM : ∀ i, M i → M' i) : Kb M' w W := ⟨h.os, h.tape, h.output, h.size, fun i hi hm => h.block i hi (fun x => hm (hM i x))⟩
end
/-- The record of a loop over a function. -/
def recOf (st : LoopState) (fn : FuncId) (tmps : Array Value) (ps : Array Tmp) (assign body : Code) (D : Nat) : Obj :=
 .loop { state := st, pending := none, fn, tmps, params := ps, assign, body, defers := D }
/-- 'for .. := range g { .. }' that no round leaves early: an outermost loop. -/
theorem rf_outer {g : Operand} {ps : Array Tmp} {assign body : Code} {Q : Exit → Act → World → Prop} {a : Act} {w : World} {gf : Nat} {lb : Array Value}
  (hg : a.eval g = .func (.func gf) #[] lb) (eg : ∀ args w, (callFunc gf args).run P w = .ok (.enter gf args) w) (R : World → Prop)
  (hcall : ∀ fn, CallsIn Fence.wide 0 P gf (#[.func (.yield (w.heap.size + 1)) #[] #[]] ++ lb) ((w.alloc (.deferred (some []))).alloc (recOf .ready fn a.tmps ps assign body w.heap.size))
   fun e W => (∃ v, e = .returned v) ∧ W.heap[w.heap.size + 1]? = some (recOf .ready fn a.tmps ps assign body w.heap.size) ∧ R W)
  (hdone : ∀ W fn, R W → W.heap[w.heap.size + 1]? = some (recOf .ready fn a.tmps ps assign body w.heap.size) →
   Q .normal { a with defers := { target := .collected w.heap.size, args := #[] } :: a.defers } (W.putObj (w.heap.size + 1) (recOf .exhausted fn a.tmps ps assign body w.heap.size))) :
  (Code.rangeFunc g ps assign body).wpIn Fence.wide 0 P Q a w := by
 refine wpIn_rangeFunc fun fn _ => ?_
 refine ⟨w.heap.size + 1, [{ target := .collected w.heap.size, args := #[] }], (w.alloc (.deferred (some []))).alloc (recOf .ready fn a.tmps ps assign body w.heap.size), { target := .fn (.func gf) lb, args := #[.func (.yield (w.heap.size + 1)) #[] #[]] }, (w.alloc (.deferred (some []))).alloc (recOf .ready fn a.tmps ps assign body w.heap.size), gf,
  #[.func (.yield (w.heap.size + 1)) #[] #[]] ++ lb, (w.alloc (.deferred (some []))).alloc (recOf .ready fn a.tmps ps assign body w.heap.size), run_enterLoop_outer _ _ _ _ _, ?_, fun _ _ => trivial, ?_, fun h => by simp [Fence.wide] at h, ?_⟩
 ·simp only [resolve, hg]
  simp [go_sem]
 ·simp [invoke, go_sem, eg]
 ·refine (hcall fn).mono ?_
  rintro e W ⟨⟨v, rfl⟩, hl, hR⟩
  refine ⟨none, _, run_endLoop hl (by simp), hdone W fn hR hl⟩
/-- What a round's body owes: it runs off its end, the record lying as it lay. -/
def roundEnd (l : Nat) (fn : FuncId) (tmps : Array Value) (ps : Array Tmp) (assign body : Code) (D : Nat) (R : World → Prop) : Exit → Act → World → Prop
 | .normal, _, W => W.heap[l]? = some (recOf .busy fn tmps ps assign body D) ∧ R (W.putObj l (recOf .ready fn tmps ps assign body D))
 | _, _, _ => False
theorem rf_round {l D : Nat} {fn : FuncId} {tmps : Array Value} {ps : Array Tmp} {assign body : Code} {args : Array Value} {W : World} {R : World → Prop}
  (hl : W.heap[l]? = some (recOf .ready fn tmps ps assign body D)) (hs : args.size = ps.size)
  (h : assign.wpIn (Fence.wide.inRound l) 0 P (Exit.then (fun a1 W1 => W1.heap[l]? = some (recOf .ready fn tmps ps assign body D) ∧
    body.wpIn (Fence.wide.inRound l) 0 P (roundEnd l fn tmps ps assign body D R) a1 (W1.putObj l (recOf .busy fn tmps ps assign body D))) (fun _ _ _ => False))
   { tmps := (ps.zip args).foldl (fun t (p, v) => t.setIfInBounds p v) tmps, defers := [] } W) :
  YieldAt Fence.wide 0 P l args W fun e W' => e = .returned (.bool true) ∧ R W' := by
 refine ⟨fn, _, assign, body, run_yield hl hs, roundIn_of_wpIn trivial (wpIn_mono h ?_)⟩
 rintro e a1 W1 hq
 cases e with
 | normal =>
  obtain ⟨hl1, hb⟩ := hq
  refine ⟨_, run_beginRound hl1 rfl, wpIn_mono hb ?_⟩
  rintro e a2 W3 hq
  cases e with
  | normal =>
   obtain ⟨h3, hR⟩ := hq
   exact ⟨_, _, run_endRound none h3, rfl, hR⟩
  | _ => exact hq.elim
 | _ => exact hq.elim
/-- The marks of loops that were walked to their end: each at a block below the one before it. -/
def Marks (W : World) (lo : Nat) : List Deferred → Nat → Prop
 | [], _ => True
 | d :: ds, b => ∃ r, d = { target := .collected r, args := #[] } ∧ lo ≤ r ∧ r < b ∧ W.heap[r]? = some (.deferred (some [])) ∧ Marks W lo ds r
theorem Marks.kept {W W' : World} {lo : Nat} {M : Nat → Prop} : ∀ {ds : List Deferred} {b : Nat}, Marks W lo ds b → Kb M W W' → (∀ i, lo ≤ i → i < b → ¬ M i) → Marks W' lo ds b
 | [], _, _, _, _ => trivial
 | _ :: _, _, ⟨r, hd, h1, h2, h3, h4⟩, hk, hM => ⟨r, hd, h1, h2, hk.obj (hM r h1 h2) h3, Marks.kept h4 hk (fun i a b => hM i a (Nat.lt_trans b h2))⟩
theorem Marks.le {W : World} {lo : Nat} : ∀ {ds : List Deferred} {b b' : Nat}, Marks W lo ds b → b ≤ b' → Marks W lo ds b'
 | [], _, _, _, _ => trivial
 | _ :: _, _, _, ⟨r, hd, h1, h2, h3⟩, hb => ⟨r, hd, h1, Nat.lt_of_lt_of_le h2 hb, h3⟩
theorem leaves_marks {fn : Func} {tmps : Array Value} {R : Ending → World → Prop} {lo : Nat} : ∀ (ds : List Deferred) (b : Nat) (W : World), Marks W lo ds b →
  (∀ W', Kb (fun i => lo ≤ i) W W' → ∃ v, (results fn tmps).run P W' = .ok v W' ∧ R (.returned v) W') → LeavesInM Fence.wide 0 P fn tmps R ds .returning W
 | [], _, W, _, h => h W (Kb.refl _ _)
 | d :: ds, b, W, ⟨r, hd, h1, h2, h3, h4⟩, h => by
  have hk : Kb (fun i => i = r) W (W.putObj r (.deferred none)) := Kb.putObj (M := fun i => i = r) (Kb.refl _ W) (r := r) (.inl rfl) _
  refine ⟨by simp, .inl ⟨r, _, by rw [hd], run_takeDeferred h3, leaves_marks ds r _ (h4.kept hk (fun i _ hi => by omega)) (fun W' hk' => h W' ?_)⟩⟩
  exact (hk.mono (fun i (e : i = r) => by rw [e]; exact h1)).trans hk'
end Go.Proofs.Rf
end
