/-
 Texts of the proof, in build order: words that the walks use, contracts of functions, plain facts.
-/
import Derived.Recover
import Derived.Lib.SliceRun
import Derived.Defers
import Derived.Deep.WholeRow
import Derived.Test.YtcjjmhgboibbgaaGreatEa9
import Derived.Test.YtcjjmhgboibbgaaGreatEa10
set_option maxHeartbeats 40000000
set_option maxRecDepth 100000
set_option linter.unusedVariables false
set_option linter.unusedSimpArgs false
section
namespace Go.Proofs.Q
open RowKit Shelf Rf Pw Pl Pm
theorem R_empty {α : Type} (d : Kd α) (e : Nat) (w w0 : World) (base g : Nat) (hb : base ≤ g) (hg : w.heap[g]? = some (.cells #[] e)) : d.R e w base (fun _ => True) (.slice (some ⟨g, 0, none⟩) 0 0) [] :=
 ⟨fun _ _ => trivial, [], ⟨by simp, .inr ⟨g, 0, #[], rfl, hb, hg, Nat.le_refl _, by simp [maxLen], by simp, by simp⟩⟩, Reps.none _ _⟩
theorem k54_KM {W W' : World} {base : Nat} {ok : Nat → Prop} (x : S54) (cs : List Value) (h : k54.K W x cs) : k54.M W' base ok x cs := by
 rw [k54_open h]; exact k54_mkM _ _ _ x
theorem k38_KM {W W' : World} {base : Nat} {ok : Nat → Prop} (x : S38) (cs : List Value) (h : k38.K W x cs) : k38.M W' base ok x cs := by
 rw [k38_open h]; exact k38_mkM _ _ _ x
def ClonePost {α : Type} (d : Kd α) (e : Nat) (xs : List α) (w : World) (en : Ending) (w' : World) : Prop := ∃ v, en = .returned v ∧ d.R e w' w.heap.size (fun _ => True) v xs ∧ Below w.heap.size w w'
theorem clone40_calls (ad : Addr) (n c : Nat) (ds : List S54) (hn : n ≤ 1000) (w : World) (hC : Kd.C k54 w (some ad) n ds) :
  Calls Tryz.prog 38 #[.slice (some ad) n c] w (ClonePost k54 54 ds w) := by
 have hnil : ∀ W : World, (binOp .eql 22 (.slice (some ad) n c) (.slice none 0 0)).run Tryz.prog W = .ok (.bool false) W := fun W => Lib.run_eql_slice_nil W 22 54 (some ad) n c 0 0 Tryz.underlying22
 have HC := Lib.hid hC; clear hC
 go_enter Tryz.func38, Tryz.ntmps38
 go_wp2_with (at_builtin; (refine Kd.R_append_rows k54 (Rr := k54.K (w.alloc (.cells #[] 54))) (w0 := w) w.heap.size rfl (.tmp 5) (.tmp 6) 22 54 (.agg #[.int .i64 0, .int .i64 0]) 16 rfl Tryz.underlying22 info54 rfl (by decide) (by omega) (.slice (some ⟨w.heap.size, 0, none⟩) 0 0) [] ds (some ad) n c (fun _ => True) (fun _ => False) rfl rfl ?aO ?aR ?aK (fun _ hk => hk.elim) (fun _ _ => trivial) ?aB ?aS ?aL ?_); (case aO => exact R_empty _ _ _ w _ _ (Nat.le_refl _) (heap_alloc_new _ _)); (case aR => exact Kd.C_below HC.out (bA (Below.refl _ _) _)); (case aK => exact fun x cs h => k54_KM x cs h); (case aB => exact bA (Below.refl _ _) _); (case aS => simp); (case aL => simp only [List.length_nil]; omega); intro v1 w2 ho hb hg hat; (have HO2 := Lib.hid ho); (have HB2 := Lib.hid hb); clear ho hb hg hat)
 go_ret
 exact ⟨_, rfl, HO2.out, HB2.out⟩
theorem clone59_calls (ad : Addr) (n c : Nat) (es : List S38) (hn : n ≤ 1000) (w : World) (hC : Kd.C k38 w (some ad) n es) :
  Calls Tryz.prog 59 #[.slice (some ad) n c] w (ClonePost k38 38 es w) := by
 have hnil : ∀ W : World, (binOp .eql 23 (.slice (some ad) n c) (.slice none 0 0)).run Tryz.prog W = .ok (.bool false) W := fun W => Lib.run_eql_slice_nil W 23 38 (some ad) n c 0 0 Tryz.underlying23
 have HC := Lib.hid hC; clear hC
 go_enter Tryz.func59, Tryz.ntmps59
 go_wp2_with (at_builtin; (refine Kd.R_append_rows k38 (Rr := k38.K (w.alloc (.cells #[] 38))) (w0 := w) w.heap.size rfl (.tmp 5) (.tmp 6) 23 38 (.agg #[.int .i64 0, .int .i64 0, .int .i64 0, .int .i64 0, .bool false]) 40 rfl Tryz.underlying23 info38 rfl (by decide) (by omega) (.slice (some ⟨w.heap.size, 0, none⟩) 0 0) [] es (some ad) n c (fun _ => True) (fun _ => False) rfl rfl ?aO ?aR ?aK (fun _ hk => hk.elim) (fun _ _ => trivial) ?aB ?aS ?aL ?_); (case aO => exact R_empty _ _ _ w _ _ (Nat.le_refl _) (heap_alloc_new _ _)); (case aR => exact Kd.C_below HC.out (bA (Below.refl _ _) _)); (case aK => exact fun x cs h => k38_KM x cs h); (case aB => exact bA (Below.refl _ _) _); (case aS => simp); (case aL => simp only [List.length_nil]; omega); intro v1 w2 ho hb hg hat; (have HO2 := Lib.hid ho); (have HB2 := Lib.hid hb); clear ho hb hg hat)
 go_ret
 exact ⟨_, rfl, HO2.out, HB2.out⟩
theorem run_copy_row_s {P : Program} (w : World) (dT sT ty elem : TypeId) (g o dLen dCap : Nat) (a : Addr) (sLen sCap sz : Nat) (cur : Array Value) (t : TypeId) (cs : List Value)
  (hu : P.underlying dT = some (.slice elem)) (hs : (P.info? elem).map (·.size) = some sz)
  (hg : w.heap[g]? = some (.cells cur t (0, 0))) (hn : cs.length = Nat.min sLen dLen * sz)
  (hsrc : ∀ j v, cs[j]? = some v → w.cell? (a.add j) = some v) (hfit : o + cs.length ≤ cur.size) (h1 : ∀ v ∈ cs, v.oneCell' = true) :
  (Builtin.copy_ #[dT, sT] ty #[.slice (some ⟨g, o, none⟩) dLen dCap, .slice (some a) sLen sCap]).run P w =
   .ok (goInt ((Nat.min sLen dLen : Nat) : Int)) (w.setRow g (cur.toList.take o ++ cs ++ cur.toList.drop (o + cs.length)).toArray) := by
 have hl := run_loadCells_list (P := P) w a cs hsrc
 have hst := run_storeCells_at P g o t cs 0 cur w hg (by simpa using hfit) h1
 cases hq : P.info? elem with
 | none => simp [hq] at hs
 | some i =>
  have hi : i.size = sz := by simpa [hq] using hs
  simp [Builtin.copy_, run_underlying hu, Builtin.lenOf, Builtin.firstCells, sizeOf, typeInfo, hq, hi, ← hn, hl, hst]
theorem mul_one_n : ∀ n : Fin 1001, bits_Mul.f 1 (n.val : Int) = some (0, (n.val : Int)) := by decide +kernel
def c59 (x : S38) : List Value := [.int .i64 x.f0, .int .i64 x.f1, .int .i64 x.f2.f0, .int .i64 x.f2.f1, .bool x.f3]
def reps59 (k : Nat) (x : S38) : List Value := (List.replicate k (c59 x)).flatten
theorem reps59_length (k : Nat) (x : S38) : (reps59 k x).length = k * 5 := by simp [reps59, c59]
theorem reps59_add (j k : Nat) (x : S38) : reps59 (j + k) x = reps59 j x ++ reps59 k x := by simp [reps59, ← List.replicate_append_replicate]
theorem reps59_take (j k : Nat) (x : S38) (h : j ≤ k) : (reps59 k x).take (j * 5) = reps59 j x := by
 obtain ⟨m, rfl⟩ : ∃ m, k = j + m := ⟨k - j, by omega⟩
 rw [reps59_add, List.take_left' (reps59_length j x)]
theorem reps59_one : ∀ (k : Nat) (x : S38), ∀ u ∈ reps59 k x, u.oneCell' = true := by
 intro k x u hu
 simp only [reps59, List.mem_flatten, List.mem_replicate] at hu
 obtain ⟨l, ⟨_, rfl⟩, hu⟩ := hu
 simp only [c59, List.mem_cons, List.not_mem_nil, or_false] at hu
 rcases hu with rfl | rfl | rfl | rfl | rfl <;> rfl
theorem reps59_Reps (W : World) (base : Nat) (ok : Nat → Prop) (x : S38) : ∀ k, Reps (k38.M W base ok) 5 (List.replicate k x) (reps59 k x)
 | 0 => ⟨by simp [reps59], by simp⟩
 | k + 1 => by
  have := (reps59_Reps W base ok x k).snoc (p := x) (c := c59 x) (k38_mkM _ _ _ x) rfl
  rw [reps59_add k 1, show List.replicate (k + 1) x = List.replicate k x ++ [x] from List.replicate_succ']
  simpa [reps59] using this
theorem repeat_calls (x : S38) (ad : Addr) (c n : Nat) (h1 : 1 ≤ n) (h2 : n ≤ 1000) (w : World) (hC : Kd.C k38 w (some ad) 1 [x]) :
  Calls Tryz.prog 62 #[.slice (some ad) 1 c, .int .i64 (n : Int)] w (ClonePost k38 38 (List.replicate n x) w) := by
 have hsrc : Hid (∀ j u, (c59 x)[j]? = some u → w.cell? (ad.add j) = some u) := Lib.hid (by
  obtain ⟨ad', e, hc⟩ := hC.2.2 (by omega)
  cases e
  obtain ⟨c, hl, hk, hc⟩ := hc 0 x rfl
  rw [k38_open hk] at hc
  intro j u hu
  simpa using hc j u hu)
 have HC := Lib.hid hC; clear hC
 have hmul : Hid (bits_Mul.f 1 (n : Int) = some (0, (n : Int))) := Lib.hid (mul_one_n ⟨n, by omega⟩)
 have hwu : IntKind.u64.wrap (n : Int) = n := by simp [IntKind.wrap, IntKind.bits, IntKind.signed]; omega
 obtain ⟨i0, hi, hzz⟩ := Option.map_eq_some_iff.1 info38
 simp only [Prod.mk.injEq] at hzz
 obtain ⟨hz0, hz1, hz2⟩ := hzz
 have hmk : ∀ W : World, (Instr.makeSlice 23 (.int .i64 (n : Int)) (.int .i64 (n : Int))).run Tryz.prog W = .ok (.slice (some ⟨W.heap.size, 0, none⟩) n n) (W.alloc (.cells (madeCells (Value.cells (.agg #[.int .i64 0, .int .i64 0, .int .i64 0, .int .i64 0, .bool false])) (n * 5)) 38)) := by
  intro W
  have := run_make (P := Tryz.prog) (w := W) 23 38 i0 _ Tryz.underlying23 hi hz0 .i64 .i64 (n : Int) (n : Int) (by omega) (by omega) (by rw [hz2]; omega) (by omega)
  simpa [hz1] using this
 clear hz0 hz2 hi
 generalize hZ : madeCells (Value.cells (.agg #[.int .i64 0, .int .i64 0, .int .i64 0, .int .i64 0, .bool false])) (n * 5) = Z at hmk
 have hZs : Hid (Z.size = n * 5) := Lib.hid (by rw [← hZ]; exact size_madeCells _ _)
 clear hZ
 obtain ⟨cur1, hcur1⟩ : ∃ cur1 : Array Value, cur1 = (Z.toList.take 0 ++ c59 x ++ Z.toList.drop (0 + (c59 x).length)).toArray := ⟨_, rfl⟩
 have hcp1 : ∀ q ty, (Builtin.copy_ #[23, 23] ty #[.slice (some ⟨w.heap.size, 0, none⟩) n n, .slice (some ad) 1 c]).run Tryz.prog ((w.drewN q).alloc (.cells Z 38)) = .ok (.int .i64 1) ((w.drewN q).alloc (.cells cur1 38)) := by
  intro q ty
  have hg : ((w.drewN q).alloc (.cells Z 38)).heap[w.heap.size]? = some (.cells Z 38 (0, 0)) := World.alloc_heap_new (w.drewN q) _
  have := run_copy_row_s (P := Tryz.prog) ((w.drewN q).alloc (.cells Z 38)) 23 23 ty 38 w.heap.size 0 n n ad 1 c 5 Z 38 (c59 x) Tryz.underlying23 (by kernel_rfl) hg (by rw [show Nat.min 1 n = 1 from Nat.min_eq_left h1]; rfl) ?_ (by rw [hZs.out]; simp [c59]; omega) (by intro u hu; exact reps59_one 1 x u (by simpa [reps59] using hu))
  ·rw [this, ← hcur1, show Nat.min 1 n = 1 from Nat.min_eq_left h1]
   congr 1
   exact World.setRow_alloc_new (w.drewN q) _ _ _
  ·intro j u hu
   have h1 := hsrc.out j u hu
   have hl := World.block_lt_of_cell? w _ h1
   refine (World.cell?_of_block ?_).trans h1
   exact Below.heap_alloc (w.drewN q) _ _ hl
 have hst : Hid (cur1.size = n * 5 ∧ cur1.toList.take (1 * 5) = reps59 1 x) := Lib.hid (by
  subst hcur1
  constructor
  ·simp [hZs.out, c59]; omega
  ·simp [reps59, c59])
 clear hcur1 hmul hsrc
 have hmul : Hid (bits_Mul.f 1 (n : Int) = some (0, (n : Int))) := Lib.hid (mul_one_n ⟨n, by omega⟩)
 go_enter Tryz.func62, Tryz.ntmps62
 go_wp2_with (go_at_call 85; refine (bits_Mul.calls 1 (n : Int) 0 (n : Int) _ hmul.out).mono ?_; rintro e w' ⟨rfl, ⟨q, rfl⟩⟩)
 go_loopw [8] (fun i wr => ∃ (k : Nat) (cur : Array Value), 1 ≤ k ∧ k ≤ n ∧ i = .int .i64 k ∧ Hid (cur.size = n * 5 ∧ cur.toList.take (k * 5) = reps59 k x) ∧ Hid (wr.heap[w.heap.size]? = some (.cells cur 38 (0, 0))) ∧ Hid (Below w.heap.size w wr)) (fun i _ => n - (intOf i).toNat)
 case atStart => exact ⟨1, cur1, Nat.le_refl _, h1, rfl, hst, Lib.hid (World.alloc_heap_new (w.drewN q) _), Lib.hid ⟨rfl, rfl, rfl, by simp, fun i hi => Below.heap_alloc (w.drewN q) _ _ hi⟩⟩
 case round =>
  obtain ⟨k, cur, hk1, hk, rfl, HF, HG, HB⟩ := hrel
  by_cases hlt : k < n
  ·obtain ⟨i5, hi5, hz5⟩ := Option.map_eq_some_iff.1 (show (Tryz.prog.info? 38).map (fun i => i.size) = some 5 by kernel_rfl)
   have hcut := cut_from (P := Tryz.prog) 23 38 .i64 Tryz.underlying23 hi5 5 hz5 (some ⟨w.heap.size, 0, none⟩) n n k (by omega) (by omega)
   simp only [Int.toNat_natCast, Option.map_some, add_at, Nat.zero_add, if_neg (show ¬ n = k by omega)] at hcut
   obtain ⟨m, hm⟩ : ∃ m, m = Nat.min k (n - k) := ⟨_, rfl⟩
   have hm2 : m ≤ k ∧ m ≤ n - k ∧ 1 ≤ m := by rw [hm]; simp only [Nat.min_def]; split <;> omega
   obtain ⟨hm3, hm4, hm5⟩ := hm2
   obtain ⟨cur2, hcur2⟩ : ∃ cur2 : Array Value, cur2 = (cur.toList.take (k * 5) ++ reps59 m x ++ cur.toList.drop (k * 5 + (reps59 m x).length)).toArray := ⟨_, rfl⟩
   have hcp : ∀ ty, (Builtin.copy_ #[23, 23] ty #[.slice (some ⟨w.heap.size, k * 5, none⟩) (n - k) (n - k), .slice (some ⟨w.heap.size, 0, none⟩) k n]).run Tryz.prog wr.drew = .ok (.int .i64 m) (wr.drew.setRow w.heap.size cur2) := by
    intro ty
    have := run_copy_row_s (P := Tryz.prog) wr.drew 23 23 ty 38 w.heap.size (k * 5) (n - k) (n - k) ⟨w.heap.size, 0, none⟩ k n 5 cur 38 (reps59 m x) Tryz.underlying23 (by kernel_rfl) HG.out (by rw [reps59_length, ← hm]) ?_ (by rw [reps59_length, HF.out.1]; omega) (reps59_one m x)
    ·rw [this, ← hcur2, ← hm]; rfl
    ·intro j u hu
     have hj : j < m * 5 := by
      rcases Nat.lt_or_ge j (m * 5) with h | h
      ·exact h
      ·rw [List.getElem?_eq_none (by rw [reps59_length]; exact h)] at hu; cases hu
     rw [add_at, Nat.zero_add, cell_of_row wr.drew w.heap.size j cur 38 (0, 0) HG.out]
     have h5 := HF.out.2
     rw [← reps59_take m k x hm3, ← h5, List.take_take, Nat.min_eq_left (by omega), List.getElem?_take_of_lt hj] at hu
     simpa using hu
   have HF2 : Hid (cur2.size = n * 5 ∧ cur2.toList.take ((k + m) * 5) = reps59 (k + m) x) := Lib.hid (by
    obtain ⟨h5, h6⟩ := HF.out
    subst hcur2
    constructor
    ·simp [reps59_length, h5]; omega
    ·rw [h6, reps59_add, List.take_left' (by simp [reps59_length]; omega)])
   have HG2 : Hid ((wr.drew.setRow w.heap.size cur2).heap[w.heap.size]? = some (.cells cur2 38 (0, 0))) := Lib.hid (setRow_heap wr.drew w.heap.size cur cur2 38 (0, 0) HG.out)
   have HB2 : Hid (Below w.heap.size w (wr.drew.setRow w.heap.size cur2)) := Lib.hid ⟨HB.out.os, HB.out.tape, HB.out.output, by simpa [World.setRow] using HB.out.size, fun i hi => by
    rw [show (wr.drew.setRow w.heap.size cur2).heap[i]? = wr.heap[i]? by simp [World.setRow, Array.getElem?_modify, show w.heap.size ≠ i by omega]; rfl]; exact HB.out.block i hi⟩
   clear hcur2 hm
   generalize hW2 : wr.drew.setRow w.heap.size cur2 = W2 at hcp HG2 HB2
   clear hW2
   go_wp2
   go_region
   all_goals go_wp2
   all_goals go_roundw
   all_goals first | exact ⟨k + m, cur2, by omega, by omega, by simp, HF2, HG2, HB2⟩ | (simp [intOf]; omega)
  ·obtain rfl : k = n := by omega
   go_wp2
   go_ret
   refine ⟨_, rfl, ⟨fun _ _ => trivial, reps59 k x, ⟨by rw [reps59_length]; simp [show k38.sz = 5 from rfl], .inr ⟨w.heap.size, k, cur, by simp, Nat.le_refl _, HG.out, by simp, by simp [maxLen]; omega, by simpa [show k38.sz = 5 from rfl] using HF.out.1, by simpa [show k38.sz = 5 from rfl] using HF.out.2⟩⟩, reps59_Reps _ _ _ x k⟩, HB.out⟩
theorem guard_idle (p q : Addr) (w : World) :
  CallsD Tryz.prog 63 #[.pointer (some p), .pointer (some q)] .returning w fun e u' w' => e = .returned (.tuple #[]) ∧ u' = .returning ∧ w' = w := by
 refine callsD_of_wpS Tryz.func63 rfl fun c₀ cs hu => ?_
 apply wpS_seq
 apply wpS_region
 simp [wpOpsS, go_sem, recoverD, hu, Tryz.ntmps63, Exit.thenS]
 refine wpS_of_wp ?_
 rw [show (#[Value.pointer (some p), Value.pointer (some q)] ++ (Array.replicate 19 undef).setIfInBounds 6 Value.nilIface : Array Value) = #[.pointer (some p), .pointer (some q), undef, undef, undef, undef, undef, undef, Value.nilIface, undef, undef, undef, undef, undef, undef, undef, undef, undef, undef, undef, undef] from rfl]
 go_wp2
 cases c₀
 simp_all [bodyPostS, results, Tryz.results63]
theorem fail_no (v : Int) (w : World) : Calls Tryz.prog 86 #[.bool false, .int .i64 v] w fun e w' => e = .returned (.tuple #[]) ∧ w' = w := by
 go_enter Tryz.func86, Tryz.ntmps86
 go_wp2
 exact ⟨rfl, _, results_none rfl _ _ _, rfl, rfl⟩
theorem aType_calls (t : Int) (ht : t = 1 ∨ t = 2 ∨ t = 3) (w : World) : Calls Tryz.prog 64 #[.int .i64 t] w fun e w' => e = .returned (.tuple #[]) ∧ w' = w := by
 rcases ht with rfl | rfl | rfl <;>
 ·go_enter Tryz.func64, Tryz.ntmps64
  go_wp2_with (go_at_call 86; refine (fail_no _ _).mono ?_; rintro e w' ⟨rfl, rfl⟩)
  exact ⟨rfl, _, results_none rfl _ _ _, rfl, rfl⟩
theorem zero_calls (t : Int) (ht : t = 1 ∨ t = 2 ∨ t = 3) (w : World) : Calls Tryz.prog 61 #[.int .i64 t] w fun e w' => e = .returned (.tuple #[.agg #[.int .i64 t, .int .i64 0, .int .i64 0, .int .i64 0, .bool false], .int .i64 0]) ∧ Below w.heap.size w w' := by
 go_enter_defers Tryz.func61, Tryz.ntmps61
 go_wp2_with (go_at_call 64; refine (aType_calls _ ht _).mono ?_; rintro e w' ⟨rfl, rfl⟩)
 refine leaves_cons (f := 63) (args := #[.pointer (some ⟨w.heap.size, 0, none⟩), .pointer (some ⟨w.heap.size + 1, 0, none⟩)]) (by simp) (by simp [go_sem]) ?_
 refine (guard_idle _ _ _).mono ?_
 rintro e u' w'' ⟨rfl, rfl, rfl⟩
 simp [Leaves, settle, results, Tryz.results61, go_sem]
 exact bA (bA (Below.refl _ _) _) _
def validO (x : S38) : Option Bool := value_Valid.f x.f0 x.f1 x.f2.f0 x.f2.f1 x.f3
def badF (t : Int) (x : S38) : Option Bool := if x.f0 = t then (validO x).map (!·) else some true
def v59 (x : S38) : Value := .agg #[.int .i64 x.f0, .int .i64 x.f1, .int .i64 x.f2.f0, .int .i64 x.f2.f1, .bool x.f3]
theorem bad_calls (t : Int) (x : S38) (p : Nat) (r : Bool) (w : World) (hp : w.cell? ⟨p, 0, none⟩ = some (.int .i64 t)) (h : badF t x = some r) :
  Calls Tryz.prog 55 #[.agg #[.int .i64 x.f0, .int .i64 x.f1, .int .i64 x.f2.f0, .int .i64 x.f2.f1, .bool x.f3], .pointer (some ⟨p, 0, none⟩)] w fun e w' => e = .returned (.bool r) ∧ Below w.heap.size w w' := by
 have hpl := World.block_lt_of_cell? w _ hp
 unfold badF at h
 by_cases ht : x.f0 = t
 ·rw [if_pos ht] at h
  obtain ⟨b, hb, hr⟩ := Option.map_eq_some_iff.1 h
  subst hr
  subst ht
  have HB := Lib.hid hb; clear hb h
  go_enter Tryz.func55, Tryz.ntmps55
  go_wp2_with (go_at_call 49; refine (value_Valid.calls _ _ _ _ _ b _ HB.out).mono ?_; rintro e w' ⟨rfl, hb⟩)
  go_ret
  exact ⟨by first | rfl | simp, bS (bA (Below.refl _ _) _) hb⟩
 ·rw [if_neg ht] at h
  cases h
  go_enter Tryz.func55, Tryz.ntmps55
  go_wp2
  go_ret
  exact ⟨rfl, bA (Below.refl _ _) _⟩
def firstBad (t : Int) : List S38 → Int → Option Int
 | [], _ => some (-1)
 | x :: r, i => (badF t x).bind fun b => if b then some i else firstBad t r (i + 1)
theorem index59_calls (t : Int) (A : Option Addr) (n c : Nat) (l : List S38) (p : Nat) (r : Int) (w : World) (hl : Kd.C k38 w A n l) (hn : n ≤ 1000000) (hp : w.cell? ⟨p, 0, none⟩ = some (.int .i64 t)) (h : firstBad t l 0 = some r) :
  Calls Tryz.prog 81 #[.slice A n c, .func (.func 55) #[] #[.pointer (some ⟨p, 0, none⟩)]] w fun e w' => e = .returned (.int .i64 r) ∧ Below w.heap.size w w' := by
 have hln : Hid (l.length = n) := Lib.hid hl.1
 have HL := Lib.hid hl; clear hl
 have HH := Lib.hid h; clear h
 go_enter Tryz.func81, Tryz.ntmps81
 go_wp2
 go_loopw [5, 8] (fun _ i wr => ∃ k : Nat, k ≤ n ∧ i = .int .i64 k ∧ Hid (firstBad t (l.drop k) k = some r) ∧ Hid (Below w.heap.size w wr)) (fun _ i _ => n - (intOf i).toNat)
 case atStart => exact ⟨0, Nat.zero_le _, rfl, HH, Lib.hid (Below.refl _ _)⟩
 case round =>
  obtain ⟨k, hk, rfl, HF, HB⟩ := hrel
  by_cases hlt : k < n
  ·obtain ⟨ad, e1, h0, h1, h2, h3, h4⟩ := at_T38 HL.out (k : Int) (by omega) (by omega)
   have HF2 := HF.out
   rw [List.drop_eq_getElem_cons (show k < l.length by rw [hln.out]; exact hlt)] at HF2
   have ek : rd_T38 l (k : Int) = l[k]'(by rw [hln.out]; exact hlt) := by simp [rd_T38, List.getD, hln.out, hlt]
   rw [ek] at h0 h1 h2 h3 h4
   cases e1
   replace h0 := (HB.out.cell (World.block_lt_of_cell? w _ h0)).trans h0
   replace h1 := (HB.out.cell (World.block_lt_of_cell? w _ h1)).trans h1
   replace h2 := (HB.out.cell (World.block_lt_of_cell? w _ h2)).trans h2
   replace h3 := (HB.out.cell (World.block_lt_of_cell? w _ h3)).trans h3
   replace h4 := (HB.out.cell (World.block_lt_of_cell? w _ h4)).trans h4
   have hp2 := (HB.out.cell (World.block_lt_of_cell? w _ hp)).trans hp
   simp only [Int.toNat_natCast] at h0 h1 h2 h3 h4
   obtain ⟨gb, go, hadd⟩ := addr_of h0
   rw [hadd] at h0 h1 h2 h3 h4
   simp only [firstBad] at HF2
   clear ek hp
   generalize l[k]'(by rw [hln.out]; exact hlt) = x at *
   cases hd : badF t x with
   | none => rw [hd] at HF2; cases HF2
   | some b =>
    rw [hd] at HF2
    simp only [Option.bind_some] at HF2
    cases b with
    | true =>
     have HF3 := Lib.hid HF2; clear HF2
     have HD := Lib.hid hd; clear hd
     go_wp2_with (go_at_call 55; refine (bad_calls t x p _ _ hp2 HD.out).mono ?_; rintro e w' ⟨rfl, hb⟩)
     go_ret
     exact ⟨ret_int (by simpa using HF3.out), bS HB.out hb⟩
    | false =>
     have HF3 := Lib.hid HF2; clear HF2
     have HD := Lib.hid hd; clear hd
     go_wp2_with (go_at_call 55; refine (bad_calls t x p _ _ hp2 HD.out).mono ?_; rintro e w' ⟨rfl, hb⟩)
     go_roundw
     case rel => exact ⟨k + 1, by omega, by go_num, Lib.hid (by simpa using HF3.out), Lib.hid (bS HB.out hb)⟩
     case measure => simp [intOf]; omega
  ·have HFE : Hid (r = -1) := Lib.hid (by have := HF.out; rw [List.drop_eq_nil_of_le (by rw [hln.out]; omega)] at this; simp [firstBad] at this; exact this.symm)
   go_wp2
   go_ret
   exact ⟨ret_int HFE.out.symm, HB.out⟩
theorem contains59_calls (t : Int) (A : Option Addr) (n c : Nat) (l : List S38) (p : Nat) (r : Int) (w : World) (hl : Kd.C k38 w A n l) (hn : n ≤ 1000000) (hp : w.cell? ⟨p, 0, none⟩ = some (.int .i64 t)) (h : firstBad t l 0 = some r) :
  Calls Tryz.prog 54 #[.slice A n c, .func (.func 55) #[] #[.pointer (some ⟨p, 0, none⟩)]] w fun e w' => e = .returned (.bool (decide (0 ≤ r))) ∧ Below w.heap.size w w' := by
 go_enter Tryz.func54, Tryz.ntmps54
 go_wp2_with (go_at_call 81; refine (index59_calls t _ _ _ l _ r _ hl hn hp h).mono ?_; rintro e w' ⟨rfl, hb⟩)
 go_ret
 exact ⟨ret_bool (by simp), hb⟩
def isTy (t : Int) : Bool := t == 1 || t == 2 || t == 3
theorem isTy_calls (t : Int) (w : World) : Calls Tryz.prog 34 #[.int .i64 t] w fun e w' => e = .returned (.bool (isTy t)) ∧ Below w.heap.size w w' := by
 refine (array_isType.calls t (isTy t) w ?_).mono ?_
 ·unfold array_isType.f isTy
  split
  ·simp [*]
  ·split <;> simp [*]
 ·rintro e w' ⟨rfl, ⟨n, rfl⟩⟩
  exact ⟨rfl, ⟨rfl, rfl, rfl, Nat.le_refl _, fun _ _ => rfl⟩⟩
theorem box3 {w w1 : World} {x y z : Value} {ty : Nat} (hb : Below (w.alloc (.cells #[x, y, z] ty)).heap.size (w.alloc (.cells #[x, y, z] ty)) w1) :
  w1.cell? ⟨w.heap.size, 0, none⟩ = some x ∧ w1.cell? ⟨w.heap.size, 1, none⟩ = some y ∧ w1.cell? ⟨w.heap.size, 2, none⟩ = some z := by
 refine ⟨(hb.cell (by simp)).trans ?_, (hb.cell (by simp)).trans ?_, (hb.cell (by simp)).trans ?_⟩ <;> simp [go_sem]
def checkF (t : Int) (ds : List S54) (es : List S38) : Option Int :=
 if isTy t = true then if errOf ds = 0 then if (es.length : Int) = prodL ds then (firstBad t es 0).map fun r => if 0 ≤ r then 1 else 0 else some 1 else some 1 else some 1
theorem check_calls (t : Int) (A1 : Option Addr) (c1 : Nat) (ds : List S54) (A2 : Option Addr) (c2 : Nat) (es : List S38) (r : Int) (w : World) (hr1 : Kd.C k54 w A1 ds.length ds) (hc1 : ds.length ≤ c1) (hr2 : Kd.C k38 w A2 es.length es) (h : checkF t ds es = some r) :
  Calls Tryz.prog 18 #[.agg #[.int .i64 t, .slice A1 ds.length c1, .slice A2 es.length c2]] w fun e w' => e = .returned (.int .i64 r) ∧ Below w.heap.size w w' := by
 unfold checkF at h
 have HR1 := Lib.hid hr1; clear hr1
 have HR2 := Lib.hid hr2; clear hr2
 have hmf : ∀ (fn : Fn) (first cap : Array Value) (w : World), (Instr.makeFunc fn first cap).run Tryz.prog w = .ok (.func fn first cap) w := fun _ _ _ _ => rfl
 have H0 := Lib.hid (show ∀ w2, Below w.heap.size w w2 → Kd.C (Kd.slice 54 k54) (w2.alloc (.cells #[.slice A1 ds.length c1] 22)) (some ⟨w2.heap.size, 0, none⟩) [ds].length [ds] from fun w2 hb => C_one w2 A1 c1 ds hc1 (Kd.C_below HR1.out hb))
 by_cases ht : isTy t = true
 ·rw [if_pos ht] at h
  by_cases he : errOf ds = 0
  ·rw [if_pos he] at h
   obtain ⟨_, hp, hq, h1, h4⟩ := errOf_zero he
   have HE : Hid (checkedL [ds] = 0) := Lib.hid (by rw [checkedL_one, he]); clear he
   have HPP := Lib.hid hp; clear hp
   have HQ := Lib.hid hq; clear hq
   have HT := Lib.hid ht; clear ht
   by_cases hlen : (es.length : Int) = prodL ds
   ·rw [if_pos hlen] at h
    obtain ⟨q, hq0, hr⟩ := Option.map_eq_some_iff.1 h
    have HQ0 := Lib.hid hq0; clear hq0 h
    have hle : es.length ≤ 1000 := by have := HPP.out.2.2; omega
    have hlq : ((es.length : Int) != prodL ds) = false := by simp [hlen]
    generalize prodL ds = N at *
    have HLE := Lib.hid hlen; clear hlen
    go_enter Tryz.func18, Tryz.ntmps18
    go_wp2_with (first
     | (go_at_call 34; refine (isTy_calls _ _).mono ?_; rintro e w1 ⟨rfl, hb0⟩; rw [HT.out]; (obtain ⟨k0, k1, k2⟩ := box3 hb0))
     | (go_at_call 27; refine (checked_calls _ _ [ds] _ (H0.out _ (bS (bA (Below.refl _ _) _) hb0)) (Nat.le_refl _) (by simp)).mono ?_; rintro e w2 ⟨rfl, hb⟩; rw [HE.out]; (have hb1 := bS (bA hb0 _) hb); (obtain ⟨m0, m1, m2⟩ := box3 hb1))
     | (go_at_call 53; refine (sizes_ok _ _ ds _ _ (Kd.C_below HR1.out (bS (bA (Below.refl _ _) _) hb1)) hc1 h4 HPP.out.1 HQ.out).mono ?_; rintro e w3 ⟨x0, x1, x2, x3, rfl, hb2, hb3⟩; clear hb3; (have hb4 := bS hb1 hb2); (obtain ⟨n0, n1, n2⟩ := box3 hb4); (have hlt3 := World.block_lt_of_cell? _ _ n0); (have n0' := (Below.refl w3.heap.size w3 |> fun h => bA h (.cells #[.int .i64 x0, .int .i64 x1, .int .i64 x2, .int .i64 x3] 84)).cell hlt3 |>.trans n0))
     | (go_at_call 54; refine (contains59_calls t A2 es.length c2 es w.heap.size q _ (Kd.C_below HR2.out (bA (bS (bA (Below.refl _ _) _) hb4) _)) (by omega) n0' HQ0.out).mono ?_; rintro e w4 ⟨rfl, hb5⟩))
    all_goals go_ret
    all_goals exact ⟨ret_int (by rw [← hr]; first | rw [if_pos (by omega)] | rw [if_neg (by omega)]), bS (bA (bS (bA (Below.refl _ _) _) hb4) _) hb5⟩
   ·rw [if_neg hlen] at h
    cases h
    have hlq : ((es.length : Int) != prodL ds) = true := by simp [hlen]
    generalize prodL ds = N at *
    clear hlen
    go_enter Tryz.func18, Tryz.ntmps18
    go_wp2_with (first
     | (go_at_call 34; refine (isTy_calls _ _).mono ?_; rintro e w1 ⟨rfl, hb0⟩; rw [HT.out]; (obtain ⟨k0, k1, k2⟩ := box3 hb0))
     | (go_at_call 27; refine (checked_calls _ _ [ds] _ (H0.out _ (bS (bA (Below.refl _ _) _) hb0)) (Nat.le_refl _) (by simp)).mono ?_; rintro e w2 ⟨rfl, hb⟩; rw [HE.out]; (have hb1 := bS (bA hb0 _) hb); (obtain ⟨m0, m1, m2⟩ := box3 hb1))
     | (go_at_call 53; refine (sizes_ok _ _ ds _ _ (Kd.C_below HR1.out (bS (bA (Below.refl _ _) _) hb1)) hc1 h4 HPP.out.1 HQ.out).mono ?_; rintro e w3 ⟨x0, x1, x2, x3, rfl, hb2, hb3⟩; clear hb3; (have hb4 := bS hb1 hb2); (obtain ⟨n0, n1, n2⟩ := box3 hb4); (have hlt3 := World.block_lt_of_cell? _ _ n0); (have n0' := (Below.refl w3.heap.size w3 |> fun h => bA h (.cells #[.int .i64 x0, .int .i64 x1, .int .i64 x2, .int .i64 x3] 84)).cell hlt3 |>.trans n0)))
    go_ret
    exact ⟨ret_int rfl, bA (bS (bA (Below.refl _ _) _) hb4) _⟩
  ·rw [if_neg he] at h
   cases h
   have HE : Hid (checkedL [ds] = errOf ds) := Lib.hid (checkedL_one ds)
   have hne : (errOf ds != 0) = true := by simpa using he
   have HT := Lib.hid ht; clear ht he
   go_enter Tryz.func18, Tryz.ntmps18
   go_wp2_with (first
     | (go_at_call 34; refine (isTy_calls _ _).mono ?_; rintro e w1 ⟨rfl, hb0⟩; rw [HT.out]; (obtain ⟨k0, k1, k2⟩ := box3 hb0))
     | (go_at_call 27; refine (checked_calls _ _ [ds] _ (H0.out _ (bS (bA (Below.refl _ _) _) hb0)) (Nat.le_refl _) (by simp)).mono ?_; rintro e w2 ⟨rfl, hb⟩; rw [HE.out]; (have hb1 := bS (bA hb0 _) hb); (obtain ⟨m0, m1, m2⟩ := box3 hb1)))
   go_ret
   exact ⟨ret_int rfl, bS (bA (Below.refl _ _) _) hb1⟩
 ·rw [if_neg ht] at h
  cases h
  have HT : Hid (isTy t = false) := Lib.hid (by simpa using ht)
  clear ht
  go_enter Tryz.func18, Tryz.ntmps18
  go_wp2_with (first
     | (go_at_call 34; refine (isTy_calls _ _).mono ?_; rintro e w1 ⟨rfl, hb0⟩; rw [HT.out]; (obtain ⟨k0, k1, k2⟩ := box3 hb0)))
  go_ret
  exact ⟨ret_int rfl, bS (bA (Below.refl _ _) _) hb0⟩
def s40eq (x y : S54) : Bool := x.f0 == y.f0 && x.f1 == y.f1
theorem same40_calls (x y : S54) (w : World) : Calls Tryz.prog 29 #[.agg #[.int .i64 x.f0, .int .i64 x.f1], .agg #[.int .i64 y.f0, .int .i64 y.f1]] w fun e w' => e = .returned (.bool (s40eq x y)) ∧ Below w.heap.size w w' := by
 unfold s40eq
 go_enter Tryz.func29, Tryz.ntmps29
 go_wp2
 all_goals go_ret
 all_goals exact ⟨ret_bool (by simp [*]), bA (bA (Below.refl _ _) _) _⟩
def allSame : List S54 → List S54 → Bool
 | x :: r, y :: s => if s40eq x y then allSame r s else false
 | [], _ => true
 | _ :: _, [] => true
theorem equalFunc_calls (A B : Option Addr) (c c' n : Nat) (l m : List S54) (w : World) (hl : Kd.C k54 w A n l) (hm : Kd.C k54 w B n m) (h4 : n ≤ 4) :
  Calls Tryz.prog 28 #[.slice A n c, .slice B n c', .func (.func 29) #[] #[]] w fun e w' => e = .returned (.bool (allSame l m)) ∧ Below w.heap.size w w' := by
 have hln : Hid (l.length = n) := Lib.hid hl.1
 have hmn : Hid (m.length = n) := Lib.hid hm.1
 have HL := Lib.hid hl; clear hl
 have HM := Lib.hid hm; clear hm
 go_enter Tryz.func28, Tryz.ntmps28
 go_wp2
 go_loopw [7, 8, 9, 17] (fun _ _ _ i wr => ∃ k : Nat, k ≤ n ∧ i = .int .i64 k ∧ Hid (allSame (l.drop k) (m.drop k) = allSame l m) ∧ Hid (Below w.heap.size w wr)) (fun _ _ _ i _ => n - (intOf i).toNat)
 case atStart => exact ⟨0, Nat.zero_le _, rfl, Lib.hid rfl, Lib.hid (Below.refl _ _)⟩
 case round =>
  obtain ⟨k, hk, rfl, HF, HB⟩ := hrel
  by_cases hlt : k < n
  ·obtain ⟨ad, e1, h0, h1⟩ := at_T54 HL.out (k : Int) (by omega) (by omega)
   obtain ⟨ad2, e2, h2, h3⟩ := at_T54 HM.out (k : Int) (by omega) (by omega)
   have HF2 := HF.out
   rw [List.drop_eq_getElem_cons (show k < l.length by rw [hln.out]; exact hlt), List.drop_eq_getElem_cons (show k < m.length by rw [hmn.out]; exact hlt)] at HF2
   have ek : rd_T54 l (k : Int) = l[k]'(by rw [hln.out]; exact hlt) := by simp [rd_T54, List.getD, hln.out, hlt]
   have ek2 : rd_T54 m (k : Int) = m[k]'(by rw [hmn.out]; exact hlt) := by simp [rd_T54, List.getD, hmn.out, hlt]
   rw [ek] at h0 h1
   rw [ek2] at h2 h3
   cases e1
   cases e2
   replace h0 := (HB.out.cell (World.block_lt_of_cell? w _ h0)).trans h0
   replace h1 := (HB.out.cell (World.block_lt_of_cell? w _ h1)).trans h1
   replace h2 := (HB.out.cell (World.block_lt_of_cell? w _ h2)).trans h2
   replace h3 := (HB.out.cell (World.block_lt_of_cell? w _ h3)).trans h3
   simp only [Int.toNat_natCast] at h0 h1 h2 h3
   obtain ⟨gb, go, hadd⟩ := addr_of h0
   obtain ⟨gb2, go2, hadd2⟩ := addr_of h2
   rw [hadd] at h0 h1
   rw [hadd2] at h2 h3
   have hb0 := World.block_lt_of_cell? _ _ h0
   have hb2 := World.block_lt_of_cell? _ _ h2
   simp only [allSame] at HF2
   have HF3 := Lib.hid HF2; clear HF2 ek ek2
   generalize l[k]'(by rw [hln.out]; exact hlt) = x at *
   generalize m[k]'(by rw [hmn.out]; exact hlt) = y at *
   cases hd : s40eq x y with
   | true =>
    have HD := Lib.hid hd; clear hd
    go_wp2_with (go_at_call 29; refine (same40_calls x y _).mono ?_; rintro e w' ⟨rfl, hb⟩; rw [HD.out])
    go_roundw
    case rel => exact ⟨k + 1, by omega, by go_num, Lib.hid (by have := HF3.out; rw [if_pos HD.out] at this; exact this), Lib.hid (bS (bA (bA HB.out _) _) hb)⟩
    case measure => simp [intOf]; omega
   | false =>
    have HD := Lib.hid hd; clear hd
    go_wp2_with (go_at_call 29; refine (same40_calls x y _).mono ?_; rintro e w' ⟨rfl, hb⟩; rw [HD.out])
    go_ret
    exact ⟨ret_bool (by have := HF3.out; rw [if_neg (by simp [HD.out])] at this; exact this), bS (bA (bA HB.out _) _) hb⟩
  ·have HFE : Hid (allSame l m = true) := Lib.hid (by rw [← HF.out, List.drop_eq_nil_of_le (by rw [hln.out]; omega)]; simp [allSame])
   go_wp2
   go_ret
   exact ⟨ret_bool HFE.out.symm, HB.out⟩
theorem keyOf_calls (ks : List Int) (A : Option Addr) (c : Nat) (h0 : 0 < ks.length) (h4 : ks.length ≤ 4) (w : World) (hC : Kd.C (Kd.int .i64) w A ks.length ks) :
  Calls Tryz.prog 32 #[.slice A ks.length c] w fun e w' => e = .returned (.agg #[.int .i64 (ks.getD 0 0), .int .i64 (ks.getD 1 0), .int .i64 (ks.getD 2 0), .int .i64 (ks.getD 3 0)]) ∧ Below w.heap.size w w' := by
 have HR : ReadsOf (Value.int .i64) 0 w A ks.length ks := Kd.reads_of_C hC
 obtain ⟨ad, rfl, hcell⟩ := HR.2.2 h0
 have hrun : ∀ ty, (Builtin.copy_ #[34, 34] ty #[.slice (some ⟨w.heap.size + 1, 0, none⟩) 4 4, .slice (some ad) ks.length c]).run Tryz.prog ((w.alloc (.cells #[.int .i64 0, .int .i64 0, .int .i64 0, .int .i64 0] 65)).alloc (.cells #[.int .i64 0, .int .i64 0, .int .i64 0, .int .i64 0] 65))
   = .ok (goInt ks.length) ((w.alloc (.cells #[.int .i64 0, .int .i64 0, .int .i64 0, .int .i64 0] 65)).alloc (.cells #[.int .i64 (ks.getD 0 0), .int .i64 (ks.getD 1 0), .int .i64 (ks.getD 2 0), .int .i64 (ks.getD 3 0)] 65)) := by
  intro ty
  have hg := World.alloc_heap_new (w.alloc (.cells #[.int .i64 0, .int .i64 0, .int .i64 0, .int .i64 0] 65)) (.cells #[.int .i64 0, .int .i64 0, .int .i64 0, .int .i64 0] 65)
  rw [World.size_alloc] at hg
  have := run_copy_row (P := Tryz.prog) ((w.alloc (.cells #[.int .i64 0, .int .i64 0, .int .i64 0, .int .i64 0] 65)).alloc (.cells #[.int .i64 0, .int .i64 0, .int .i64 0, .int .i64 0] 65)) 34 34 ty 3 (w.heap.size + 1) 0 4 4 ad ks.length c _ 65 (encs (Value.int .i64) ks)
   Tryz.underlying34 (by kernel_rfl) hg (by simp [encs, Nat.min_eq_left h4]) ?_ (by simp [encs]; omega) (by intro u hu; simp only [encs, List.mem_map] at hu; obtain ⟨q, _, rfl⟩ := hu; rfl)
  ·rw [this, show (encs (Value.int .i64) ks).length = ks.length by simp [encs]]
   congr 1
   have hs := World.setRow_alloc_new (w.alloc (.cells #[.int .i64 0, .int .i64 0, .int .i64 0, .int .i64 0] 65)) #[.int .i64 0, .int .i64 0, .int .i64 0, .int .i64 0] (t := 65)
   rw [World.size_alloc] at hs
   rw [hs]
   congr 2
   match ks, h0, h4 with
   | [a], _, _ => rfl
   | [a, b], _, _ => rfl
   | [a, b, d], _, _ => rfl
   | [a, b, d, e], _, _ => rfl
  ·intro j u hu
   have hj : j < ks.length := by
    rcases Nat.lt_or_ge j ks.length with h | h
    ·exact h
    ·simp [encs, List.getElem?_eq_none h] at hu
   rw [encs_get (d := 0) ks j hj] at hu
   rw [← hu]
   have h1 := hcell j hj
   have hl := World.block_lt_of_cell? w _ h1
   simp [go_sem, h1, hl]
 obtain ⟨k0, e0⟩ : ∃ k, k = ks.getD 0 0 := ⟨_, rfl⟩
 obtain ⟨k1, e1⟩ : ∃ k, k = ks.getD 1 0 := ⟨_, rfl⟩
 obtain ⟨k2, e2⟩ : ∃ k, k = ks.getD 2 0 := ⟨_, rfl⟩
 obtain ⟨k3, e3⟩ : ∃ k, k = ks.getD 3 0 := ⟨_, rfl⟩
 rw [← e0, ← e1, ← e2, ← e3] at hrun ⊢
 clear e0 e1 e2 e3 hcell hC HR h0 h4
 go_enter Tryz.func32, Tryz.ntmps32
 go_wp2
 refine bodyPost_ret (v := .agg #[.int .i64 k0, .int .i64 k1, .int .i64 k2, .int .i64 k3]) ?_ rfl ⟨rfl, bA (bA (Below.refl _ _) _) _⟩
 simp [results, Tryz.results32, go_sem]
end Go.Proofs.Q
end
