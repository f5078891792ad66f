/-
 Texts of the proof, in build order: words that the walks use, contracts of functions, plain facts.
-/
import Derived.Lib.Hide
import Derived.WalkSpells
import Derived.Outline
import Derived.Laws.EntriesVeiled
import Derived.Test.YtcjjmhgboibbgaaGreatEa3
set_option maxHeartbeats 40000000
set_option maxRecDepth 100000
set_option linter.unusedVariables false
set_option linter.unusedSimpArgs false
section
namespace Go.Proofs.Q
open RowKit Pw Pl Pm
theorem ret_int {k : IntKind} {a b : Int} (h : a = b) : Ending.returned (.int k a) = .returned (.int k b) := by rw [h]
theorem ret_bool {a b : Bool} (h : a = b) : Ending.returned (.bool a) = .returned (.bool b) := by rw [h]
def farB (n : Int) : Bool := decide (n < -2147483647 ∨ 2147483647 < n)
theorem far_calls (n : Int) (w : World) :
  Calls Tryz.prog 82 #[.int .i64 n] w fun e w' => e = .returned (.bool (farB n)) ∧ w = w' := by
 unfold farB
 by_cases h1 : n < -2147483647
 ·go_enter Tryz.func82, Tryz.ntmps82
  go_wp2
  go_ret
  exact ⟨by simp [h1], rfl⟩
 ·go_enter Tryz.func82, Tryz.ntmps82
  go_wp2
  go_ret
  exact ⟨by simp; omega, rfl⟩
def dimFar (d : S54) : Bool := farB d.f0 || farB d.f1
theorem dimFar_calls (d : S54) (p : Addr) (w : World) (hp : w.cell? p = some (.func (.func 82) #[] #[])) :
  Calls Tryz.prog 84 #[.agg #[.int .i64 d.f0, .int .i64 d.f1], .pointer (some p)] w fun e w' => e = .returned (.bool (dimFar d)) ∧ Below w.heap.size w w' := by
 have hlt := World.block_lt_of_cell? w p hp
 unfold dimFar
 cases h0 : farB d.f0 with
 | true =>
  have H0 := Lib.hid h0; clear h0
  go_enter Tryz.func84, Tryz.ntmps84
  go_wp2_with (go_at_call 82; refine (far_calls _ _).mono ?_; rintro e w' ⟨rfl, rfl⟩; rw [H0.out])
  go_ret
  exact ⟨by simp, bA (Below.refl _ _) _⟩
 | false =>
  have H0 := Lib.hid h0; clear h0
  go_enter Tryz.func84, Tryz.ntmps84
  go_wp2_with (go_at_call 82; refine (far_calls _ _).mono ?_; rintro e w' ⟨rfl, rfl⟩; try rw [H0.out])
  go_ret
  exact ⟨by simp, bA (Below.refl _ _) _⟩
/-- slices.IndexFunc over dims with isDims$2. -/
def firstFar : List S54 → Int → Int
 | [], _ => -1
 | d :: r, i => if dimFar d then i else firstFar r (i + 1)
theorem index_calls (A : Option Addr) (c : Nat) (l : List S54) (p : Addr) (w : World) (hr : Kd.C k54 w A l.length l) (hc : l.length ≤ c) (hm : l.length ≤ 4) (hp : w.cell? p = some (.func (.func 82) #[] #[])) :
  Calls Tryz.prog 94 #[.slice A l.length c, .func (.func 84) #[] #[.pointer (some p)]] w fun e w' => e = .returned (.int .i64 (firstFar l 0)) ∧ Below w.heap.size w w' := by
 have HR := Lib.hid hr; clear hr
 go_enter Tryz.func94, Tryz.ntmps94
 go_wp2
 go_loopw [5, 8] (fun _ i wr => ∃ k : Nat, k ≤ l.length ∧ i = .int .i64 k ∧ Hid (firstFar (l.drop k) k = firstFar l 0) ∧ Hid (Below w.heap.size w wr)) (fun _ i _ => l.length - (intOf i).toNat)
 case atStart => exact ⟨0, Nat.zero_le _, rfl, Lib.hid rfl, Lib.hid (Below.refl _ _)⟩
 case round =>
  obtain ⟨k, hk, rfl, HF, HB⟩ := hrel
  by_cases hlt : k < l.length
  ·obtain ⟨ad, e1, h0, h1⟩ := at_T54 HR.out (k : Int) (by omega) (by omega)
   have HF2 := HF.out
   rw [List.drop_eq_getElem_cons hlt] at HF2
   have ek : rd_T54 l (k : Int) = l[k] := by simp [rd_T54, List.getD, hlt]
   rw [ek] at h0 h1
   cases e1
   replace h0 := (HB.out.cell (World.block_lt_of_cell? w _ h0)).trans h0
   replace h1 := (HB.out.cell (World.block_lt_of_cell? w _ h1)).trans h1
   have hp2 := (HB.out.cell (World.block_lt_of_cell? w _ hp)).trans hp
   simp only [Int.toNat_natCast] at h0 h1
   simp only [firstFar] at HF2
   have HF3 := Lib.hid HF2; clear HF2 ek
   clear hp
   cases hd : dimFar l[k] with
   | true =>
    have HD := Lib.hid hd; clear hd
    go_wp2_with (go_at_call 84; refine (dimFar_calls _ _ _ hp2).mono ?_; rintro e w' ⟨rfl, hb⟩; rw [HD.out])
    go_ret
    exact ⟨ret_int (by have := HF3.out; rw [if_pos HD.out] at this; exact this), bS HB.out hb⟩
   | false =>
    have HD := Lib.hid hd; clear hd
    go_wp2_with (go_at_call 84; refine (dimFar_calls _ _ _ hp2).mono ?_; rintro e w' ⟨rfl, hb⟩; rw [HD.out])
    go_roundw
    case rel => exact ⟨k + 1, by omega, by go_num, Lib.hid (by have := HF3.out; rw [if_neg (by simp [HD.out])] at this; simpa using this), Lib.hid (bS HB.out hb)⟩
    case measure => simp [intOf]; omega
  ·have HFE : Hid (firstFar l 0 = -1) := Lib.hid (by rw [← HF.out, List.drop_eq_nil_of_le (by omega)]; rfl)
   go_wp2
   go_ret
   exact ⟨ret_int HFE.out.symm, HB.out⟩
theorem firstFar_any (l : List S54) : ∀ i : Int, 0 ≤ i → decide (0 ≤ firstFar l i) = l.any dimFar := by
 induction l with
 | nil => intro i _; simp [firstFar]
 | cons d r ih =>
  intro i hi
  simp only [firstFar, List.any_cons]
  by_cases h : dimFar d = true
  ·simp [h, hi]
  ·simpa [h] using ih (i + 1) (by omega)
theorem contains_calls (A : Option Addr) (c : Nat) (l : List S54) (p : Addr) (w : World) (hr : Kd.C k54 w A l.length l) (hc : l.length ≤ c) (hm : l.length ≤ 4) (hp : w.cell? p = some (.func (.func 82) #[] #[])) :
  Calls Tryz.prog 83 #[.slice A l.length c, .func (.func 84) #[] #[.pointer (some p)]] w fun e w' => e = .returned (.bool (l.any dimFar)) ∧ Below w.heap.size w w' := by
 have HA := Lib.hid (firstFar_any l 0 (Int.le_refl _))
 go_enter Tryz.func83, Tryz.ntmps83
 go_wp2_with (go_at_call 94; refine (index_calls _ _ l _ _ hr hc hm hp).mono ?_; rintro e w' ⟨rfl, hb⟩)
 go_ret
 exact ⟨ret_bool HA.out, hb⟩
def isDimsB (l : List S54) : Bool := decide (1 ≤ l.length) && decide (l.length ≤ 4) && !l.any dimFar
theorem isDims_calls (A : Option Addr) (c : Nat) (l : List S54) (w : World) (hr : Kd.C k54 w A l.length l) (hc : l.length ≤ c) :
  Calls Tryz.prog 58 #[.slice A l.length c] w fun e w' => e = .returned (.bool (isDimsB l)) ∧ Below w.heap.size w w' := by
 have hmf : ∀ (fn : Fn) (first cap : Array Value) (w : World), (Instr.makeFunc fn first cap).run Tryz.prog w = .ok (.func fn first cap) w := fun _ _ _ _ => rfl
 by_cases h1 : 1 ≤ l.length
 ·by_cases h2 : l.length ≤ 4
  ·have HR := Lib.hid hr; clear hr
   have HE : Hid (isDimsB l = !l.any dimFar) := Lib.hid (by simp [isDimsB, h1, h2])
   go_enter Tryz.func58, Tryz.ntmps58
   go_wp2_with (go_at_call 83; refine (contains_calls _ _ l ⟨w.heap.size, 0, none⟩ _ ?hr hc h2 ?hp).mono ?_; rotate_left 2; rintro e w' ⟨rfl, hb⟩)
   case hr => exact Kd.C_below HR.out (bA (Below.refl _ _) _)
   case hp => simp [go_sem]
   go_ret
   exact ⟨ret_bool HE.out.symm, bS (bA (Below.refl _ _) _) hb⟩
  ·have HE : Hid (isDimsB l = false) := Lib.hid (by simp [isDimsB, h2])
   go_enter Tryz.func58, Tryz.ntmps58
   go_wp2
   go_ret
   exact ⟨ret_bool HE.out.symm, bA (Below.refl _ _) _⟩
 ·have HE : Hid (isDimsB l = false) := Lib.hid (by simp [isDimsB, h1])
  go_enter Tryz.func58, Tryz.ntmps58
  go_wp2
  go_ret
  exact ⟨ret_bool HE.out.symm, bA (Below.refl _ _) _⟩
end Go.Proofs.Q
end
section
namespace Go.Proofs.Q
open RowKit Pw Pl Pm
def ext (d : S54) : Int := d.f1 - d.f0 + 1
/-- the product of the sizes, if all is proper -/
def prodOk : List S54 → Int → Option Int
 | [], n => some n
 | d :: r, n => if ext d < 1 ∨ 1000 < ext d then none else if 1000 < n * ext d then none else prodOk r (n * ext d)
def near (d : S54) : Prop := -2147483647 ≤ d.f0 ∧ d.f0 ≤ 2147483647 ∧ -2147483647 ≤ d.f1 ∧ d.f1 ≤ 2147483647
/-- A variable of four ints at block B. -/
def Four (W : World) (B t : Nat) (xs : List Int) : Prop := xs.length = 4 ∧ W.heap[B]? = some (.cells (nums .i64 xs).toArray t (0, 0))
theorem Four.cell {W : World} {B t : Nat} {xs : List Int} (h : Four W B t xs) (j : Nat) (hj : j < 4) : W.cell? ⟨B, j, none⟩ = some (.int .i64 (xs.getD j 0)) := by
 have h1 := h.1
 rw [kC h.2]; simp [nums, List.getD, List.getElem?_eq_getElem (l := xs) (i := j) (by omega)]
theorem Four.set {W : World} {B t : Nat} {xs : List Int} (h : Four W B t xs) (k : Nat) (v : Int) : Four (W.setCell ⟨B, k, none⟩ (.int .i64 v)) B t (xs.set k v) := by
 refine ⟨by simpa using h.1, ?_⟩
 rw [blk_set h.2]
 simp [nums]
theorem Four.far {W : World} {B t : Nat} {xs : List Int} (h : Four W B t xs) {p : Addr} (hp : B ≠ p.block) (v : Value) : Four (W.setCell p v) B t xs := ⟨h.1, blk_far h.2 hp v⟩
theorem Four.alloc {W : World} {B t : Nat} {xs : List Int} (h : Four W B t xs) (o : Obj) : Four (W.alloc o) B t xs := ⟨h.1, kA h.2 o⟩
theorem Four.lt {W : World} {B t : Nat} {xs : List Int} (h : Four W B t xs) : B < W.heap.size := blk_lt h.2
theorem Four.new (W : World) (t : Nat) (a b c d : Int) : Four (W.alloc (.cells #[.int .i64 a, .int .i64 b, .int .i64 c, .int .i64 d] t)) W.heap.size t [a, b, c, d] := ⟨rfl, by rw [heap_alloc_new]; rfl⟩
theorem Four.below {W W1 : World} {B t : Nat} {xs : List Int} (h : Four W B t xs) (hb : Below W.heap.size W W1) : Four W1 B t xs := ⟨h.1, (hb.block B (blk_lt h.2)).trans h.2⟩
theorem Four.put {W : World} {B t : Nat} (h : Four W B t [0, 0, 0, 0]) (a b c d : Int) : Four ((((W.setCell ⟨B, 0, none⟩ (.int .i64 a)).setCell ⟨B, 1, none⟩ (.int .i64 b)).setCell ⟨B, 2, none⟩ (.int .i64 c)).setCell ⟨B, 3, none⟩ (.int .i64 d)) B t [a, b, c, d] :=
 (((h.set 0 a).set 1 b).set 2 c).set 3 d
theorem Four.blk {W : World} {B t : Nat} {a b c d : Int} (h : Four W B t [a, b, c, d]) : W.heap[B]? = some (.cells #[.int .i64 a, .int .i64 b, .int .i64 c, .int .i64 d] t (0, 0)) := h.2
theorem below_put {w W : World} {B : Nat} (h : Below w.heap.size w W) (hB : w.heap.size ≤ B) (a b c d : Value) : Below w.heap.size w ((((W.setCell ⟨B, 0, none⟩ a).setCell ⟨B, 1, none⟩ b).setCell ⟨B, 2, none⟩ c).setCell ⟨B, 3, none⟩ d) :=
 bT (bT (bT (bT h hB) hB) hB) hB
theorem four_list (xs : List Int) (h : xs.length = 4) : xs = [xs[0]?.getD 0, xs[1]?.getD 0, xs[2]?.getD 0, xs[3]?.getD 0] := by
 match xs, h with
 | [a, b, c, d], _ => rfl
def SizesPost (l : List S54) (w : World) (e : Ending) (w' : World) : Prop := ∃ x0 x1 x2 x3 n : Int, ∃ ok : Bool, e = .returned (.tuple #[.agg #[.int .i64 x0, .int .i64 x1, .int .i64 x2, .int .i64 x3], .int .i64 n, .bool ok]) ∧ Below w.heap.size w w' ∧
   (prodOk l 1 = none ∧ n = 0 ∧ ok = false ∨ prodOk l 1 = some n ∧ ok = true ∧ ∀ j, j < 4 → [x0, x1, x2, x3][j]? = some (((l[j]?).map ext).getD 0))
theorem sizes_calls (A : Option Addr) (c : Nat) (l : List S54) (w : World) (hr : Kd.C k54 w A l.length l) (hc : l.length ≤ c) (hm : l.length ≤ 4) (hn : ∀ d ∈ l, near d) :
  Calls Tryz.prog 53 #[.slice A l.length c] w (SizesPost l w) := by
 have HR := Lib.hid hr; clear hr
 have HN := Lib.hid hn; clear hn
 go_enter Tryz.func53, Tryz.ntmps53
 go_wp2
 go_loopw [6, 7, 8, 11] (fun n _ _ i wr => ∃ k : Nat, ∃ m : Int, k ≤ l.length ∧ i = .int .i64 k ∧ n = .int .i64 m ∧ 1 ≤ m ∧ m ≤ 1000 ∧ Hid (prodOk (l.drop k) m = prodOk l 1) ∧ Hid (Below w.heap.size w wr) ∧ 
  (∃ xs : List Int, Hid ((∀ j, j < k → xs[j]? = (l[j]?).map ext) ∧ (∀ j, k ≤ j → j < 4 → xs[j]? = some 0) ∧ Four wr (w.heap.size + 1) 84 xs ∧ Four wr w.heap.size 84 [0, 0, 0, 0]))) (fun _ _ _ i _ => l.length - (intOf i).toNat)
 case atStart => exact ⟨0, 1, Nat.zero_le _, rfl, rfl, by omega, by omega, Lib.hid rfl, Lib.hid (bA (bA (Below.refl _ _) _) _), [0, 0, 0, 0], Lib.hid ⟨by omega, fun j _ h4 => by match j, h4 with | 0, _ => rfl | 1, _ => rfl | 2, _ => rfl | 3, _ => rfl, by have := Four.new (w.alloc (.cells #[.int .i64 0, .int .i64 0, .int .i64 0, .int .i64 0] 84)) 84 0 0 0 0; rwa [World.size_alloc] at this, (Four.new _ _ _ _ _ _).alloc _⟩⟩
 case round =>
  obtain ⟨k, m, hk, rfl, rfl, hm1, hm2, HP, HB, xs, HX⟩ := hrel
  by_cases hlt : k < l.length
  ·obtain ⟨ad, e1, h0, h1⟩ := at_T54 HR.out (k : Int) (by omega) (by omega)
   have HP2 := HP.out
   rw [List.drop_eq_getElem_cons hlt] at HP2
   have ek : rd_T54 l (k : Int) = l[k] := by simp [rd_T54, List.getD, hlt]
   rw [ek] at h0 h1
   cases e1
   replace h0 := (HB.out.cell (World.block_lt_of_cell? w _ h0)).trans h0
   replace h1 := (HB.out.cell (World.block_lt_of_cell? w _ h1)).trans h1
   simp only [Int.toNat_natCast] at h0 h1
   simp only [prodOk] at HP2
   obtain ⟨n1, n2, n3, n4⟩ := HN.out l[k] (List.getElem_mem hlt)
   generalize hd : l[k] = d at *
   have HD := Lib.hid hd; clear hd
   have HP3 := Lib.hid HP2; clear HP2 ek
   obtain ⟨hx1, hx0, hx2, hx3⟩ := HX.out
   have hxc := hx2.cell k (by omega)
   have hxf := kF hx2.2 k
   have hsz := hx2.lt
   have hsz0 := hx3.lt
   have hx4 := hx2.set k (d.f1 - d.f0 + 1)
   have hx5 := hx3.far (p := ⟨w.heap.size + 1, k, none⟩) (by simp) (.int .i64 (d.f1 - d.f0 + 1))
   have q0 := hx4.cell 0 (by omega)
   have q1 := hx4.cell 1 (by omega)
   have q2 := hx4.cell 2 (by omega)
   have q3 := hx4.cell 3 (by omega)
   have r0 := hx5.cell 0 (by omega)
   have r1 := hx5.cell 1 (by omega)
   have r2 := hx5.cell 2 (by omega)
   have r3 := hx5.cell 3 (by omega)
   have f0 := kF hx5.2 0
   have f1 := kF hx5.2 1
   have f2 := kF hx5.2 2
   have f3 := kF hx5.2 3
   simp only [List.getD_cons_zero, List.getD_cons_succ] at r0 r1 r2 r3
   have HX4 := Lib.hid hx4; have HX5 := Lib.hid hx5
   clear hx1 hx0 hx2 hx3 hx4 hx5
   by_cases hb : d.f1 - d.f0 + 1 < 1
   ·go_wp2_with fail
    refine bodyPost_ret (results_ctt rfl _ _ w.heap.size 84 _ (0, 0) _ rfl ((HX5.out.put _ _ _ _).alloc _).blk Tryz.underlying84 rfl (by kernel_rfl)) rfl ?_
    exact ⟨_, _, _, _, 0, false, rfl, bA (below_put (bT HB.out (by omega)) (Nat.le_refl _) _ _ _ _) _, .inl ⟨by rw [← HP3.out, if_pos (.inl hb)], rfl, rfl⟩⟩
   ·by_cases hb2 : 1000 < d.f1 - d.f0 + 1
    ·go_wp2_with fail
     refine bodyPost_ret (results_ctt rfl _ _ w.heap.size 84 _ (0, 0) _ rfl ((HX5.out.put _ _ _ _).alloc _).blk Tryz.underlying84 rfl (by kernel_rfl)) rfl ?_
     exact ⟨_, _, _, _, 0, false, rfl, bA (below_put (bT HB.out (by omega)) (Nat.le_refl _) _ _ _ _) _, .inl ⟨by rw [← HP3.out, if_pos (.inr hb2)], rfl, rfl⟩⟩
    ·have hxk : (wr.setCell ⟨w.heap.size + 1, k, none⟩ (.int .i64 (d.f1 - d.f0 + 1))).cell? ⟨w.heap.size + 1, k, none⟩ = some (.int .i64 (d.f1 - d.f0 + 1)) := World.cell?_setCell_same' _ _ _ (by rw [hxc]; rfl)
     have b1 : m * (d.f1 - d.f0 + 1) ≤ 1000000 := by
      have := Int.mul_le_mul hm2 (show d.f1 - d.f0 + 1 ≤ 1000 by omega) (by omega) (by omega); omega
     have b2 : 1 ≤ m * (d.f1 - d.f0 + 1) := by
      have := Int.mul_le_mul hm1 (show 1 ≤ d.f1 - d.f0 + 1 by omega) (by omega) (by omega); omega
     by_cases hb3 : 1000 < m * (d.f1 - d.f0 + 1)
     ·go_wp2_with fail
      refine bodyPost_ret (results_ctt rfl _ _ w.heap.size 84 _ (0, 0) _ rfl ((HX5.out.put _ _ _ _).alloc _).blk Tryz.underlying84 rfl (by kernel_rfl)) rfl ?_
      exact ⟨_, _, _, _, 0, false, rfl, bA (below_put (bT HB.out (by omega)) (Nat.le_refl _) _ _ _ _) _, .inl ⟨by rw [← HP3.out, if_neg (by unfold ext; omega), if_pos (by unfold ext; omega)], rfl, rfl⟩⟩
     ·go_wp2_with fail
      go_roundw
      case rel => exact ⟨k + 1, m * (d.f1 - d.f0 + 1), by omega, by go_num, rfl, by omega, by omega, Lib.hid (by rw [← HP3.out, if_neg (by unfold ext; omega), if_neg (by unfold ext; omega)]; rfl), Lib.hid (bA (bT HB.out (by omega)) _), xs.set k (d.f1 - d.f0 + 1), Lib.hid ⟨fun j hj => (by
         rw [List.getElem?_set]
         obtain ⟨hx1, _, hx2, _⟩ := HX.out
         have hl := hx2.1
         by_cases e : k = j
         ·subst e
          rw [if_pos rfl, if_pos (by omega), List.getElem?_eq_getElem hlt, HD.out]; rfl
         ·rw [if_neg e, hx1 j (by omega)]), (fun j h1 h2 => by
         rw [List.getElem?_set, if_neg (by omega)]; exact HX.out.2.1 j (by omega) h2), HX4.out.alloc _, HX5.out.alloc _⟩⟩
      case measure => simp [intOf]; omega
  ·obtain ⟨hx1, hx0, hx2, hx3⟩ := HX.out
   have hsz := hx2.lt
   have hsz0 := hx3.lt
   have q0 := hx2.cell 0 (by omega)
   have q1 := hx2.cell 1 (by omega)
   have q2 := hx2.cell 2 (by omega)
   have q3 := hx2.cell 3 (by omega)
   have r0 := hx3.cell 0 (by omega)
   have r1 := hx3.cell 1 (by omega)
   have r2 := hx3.cell 2 (by omega)
   have r3 := hx3.cell 3 (by omega)
   have f0 := kF hx3.2 0
   have f1 := kF hx3.2 1
   have f2 := kF hx3.2 2
   have f3 := kF hx3.2 3
   simp only [List.getD_cons_zero, List.getD_cons_succ] at r0 r1 r2 r3
   have HX5 := Lib.hid hx3; have HX4 := Lib.hid (four_list xs hx2.1)
   have HX6 := Lib.hid hx1; have HX7 := Lib.hid hx0
   clear hx1 hx0 hx2 hx3
   go_wp2_with fail
   refine bodyPost_ret (results_ctt rfl _ _ w.heap.size 84 _ (0, 0) _ rfl (HX5.out.put _ _ _ _).blk Tryz.underlying84 rfl (by kernel_rfl)) rfl ?_
   exact ⟨_, _, _, _, m, true, rfl, below_put HB.out (Nat.le_refl _) _ _ _ _, .inr ⟨by rw [← HP.out, List.drop_eq_nil_of_le (by omega)]; rfl, rfl, fun j hj => by
    rw [← HX4.out]
    by_cases hjk : j < k
    ·rw [HX6.out j hjk, List.getElem?_eq_getElem (by omega)]; rfl
    ·rw [HX7.out j (by omega) hj, List.getElem?_eq_none (by omega)]; rfl⟩⟩
end Go.Proofs.Q
end
section
namespace Go.Proofs.Q
open RowKit Pw Pl Pm
theorem isDimsB_near {l : List S54} (h : isDimsB l = true) : 1 ≤ l.length ∧ l.length ≤ 4 ∧ ∀ d ∈ l, near d := by
 simp only [isDimsB, Bool.and_eq_true, decide_eq_true_eq, Bool.not_eq_true', List.any_eq_false] at h
 refine ⟨h.1.1, h.1.2, fun d hd => ?_⟩
 have := h.2 d hd
 simp only [dimFar, farB, Bool.or_eq_true, decide_eq_true_eq] at this
 unfold near; omega
def errOf (l : List S54) : Int := if isDimsB l = false then 1 else if prodOk l 1 = none then 3 else 0
def checkedL : List (List S54) → Int
 | [] => 0
 | l :: r => if errOf l = 0 then checkedL r else errOf l
theorem sizes_no (A : Option Addr) (c : Nat) (l : List S54) (w : World) (hr : Kd.C k54 w A l.length l) (hc : l.length ≤ c) (hm : l.length ≤ 4) (hn : ∀ d ∈ l, near d) (hp : prodOk l 1 = none) :
  Calls Tryz.prog 53 #[.slice A l.length c] w fun e w' => ∃ x0 x1 x2 x3 : Int, e = .returned (.tuple #[.agg #[.int .i64 x0, .int .i64 x1, .int .i64 x2, .int .i64 x3], .int .i64 0, .bool false]) ∧ Below w.heap.size w w' :=
 (sizes_calls A c l w hr hc hm hn).mono fun e w' ⟨x0, x1, x2, x3, n, ok, he, hb, h⟩ => by
  rcases h with ⟨_, rfl, rfl⟩ | ⟨h1, _⟩
  ·exact ⟨x0, x1, x2, x3, he, hb⟩
  ·rw [hp] at h1; cases h1
theorem sizes_ok (A : Option Addr) (c : Nat) (l : List S54) (w : World) (n : Int) (hr : Kd.C k54 w A l.length l) (hc : l.length ≤ c) (hm : l.length ≤ 4) (hn : ∀ d ∈ l, near d) (hp : prodOk l 1 = some n) :
  Calls Tryz.prog 53 #[.slice A l.length c] w fun e w' => ∃ x0 x1 x2 x3 : Int, e = .returned (.tuple #[.agg #[.int .i64 x0, .int .i64 x1, .int .i64 x2, .int .i64 x3], .int .i64 n, .bool true]) ∧ Below w.heap.size w w' ∧ ∀ j, j < 4 → [x0, x1, x2, x3][j]? = some (((l[j]?).map ext).getD 0) :=
 (sizes_calls A c l w hr hc hm hn).mono fun e w' ⟨x0, x1, x2, x3, m, ok, he, hb, h⟩ => by
  rcases h with ⟨h1, _⟩ | ⟨h1, rfl, h2⟩
  ·rw [hp] at h1; cases h1
  ·obtain rfl : n = m := by rw [hp] at h1; exact Option.some.inj h1
   exact ⟨x0, x1, x2, x3, he, hb, h2⟩
theorem checked_calls (A : Option Addr) (c : Nat) (ls : List (List S54)) (w : World) (hr : Kd.C (Kd.slice 54 k54) w A ls.length ls) (hc : ls.length ≤ c) (hm : ls.length ≤ 4) :
  Calls Tryz.prog 27 #[.slice A ls.length c] w fun e w' => e = .returned (.int .i64 (checkedL ls)) ∧ Below w.heap.size w w' := by
 have HR := Lib.hid hr; clear hr
 go_enter Tryz.func27, Tryz.ntmps27
 go_wp2
 go_loopw [4, 5, 6, 7, 10] (fun _ _ _ _ i wr => ∃ k : Nat, k ≤ ls.length ∧ i = .int .i64 k ∧ Hid (checkedL (ls.drop k) = checkedL ls) ∧ Hid (Below w.heap.size w wr)) (fun _ _ _ _ i _ => ls.length - (intOf i).toNat)
 case atStart => exact ⟨0, Nat.zero_le _, rfl, Lib.hid rfl, Lib.hid (Below.refl _ _)⟩
 case round =>
  obtain ⟨k, hk, rfl, HP, HB⟩ := hrel
  by_cases hlt : k < ls.length
  ·obtain ⟨ad, A0, c0, e1, h0, hcc, h1⟩ := at_L2 HR.out (k : Int) (by omega) (by omega)
   have HP2 := HP.out
   rw [List.drop_eq_getElem_cons hlt] at HP2
   have ek : rd_L2 ls (k : Int) = ls[k] := by simp [rd_L2, List.getD, hlt]
   rw [ek] at h0 h1 hcc
   cases e1
   replace h0 := (HB.out.cell (World.block_lt_of_cell? w _ h0)).trans h0
   have H1 := Lib.hid (Kd.C_below h1 HB.out); clear h1
   simp only [Int.toNat_natCast] at h0
   simp only [checkedL, errOf] at HP2
   generalize hd : ls[k] = l at *
   clear hd
   have HP3 := Lib.hid HP2; clear HP2 ek
   cases hi : isDimsB l with
   | false =>
    have HI := Lib.hid hi; clear hi
    go_wp2_with (go_at_call 58; refine (isDims_calls _ _ l _ H1.out hcc).mono ?_; rintro e w' ⟨rfl, hb⟩; rw [HI.out])
    go_ret
    exact ⟨ret_int (by have := HP3.out; simpa [HI.out] using this), bS HB.out hb⟩
   | true =>
    have HI := Lib.hid hi; clear hi
    obtain ⟨hl1, hl4, hn⟩ := isDimsB_near HI.out
    have HN := Lib.hid hn; clear hn
    cases hq : prodOk l 1 with
    | none =>
     have HQ := Lib.hid hq; clear hq
     go_wp2_with (first | (go_at_call 58; refine (isDims_calls _ _ l _ H1.out hcc).mono ?_; rintro e w1 ⟨rfl, hb⟩; rw [HI.out]) | (go_at_call 53; refine (sizes_no _ _ l _ (Kd.C_below H1.out hb) hcc hl4 HN.out HQ.out).mono ?_; rintro e w2 ⟨x0, x1, x2, x3, rfl, hb2⟩))
     go_ret
     exact ⟨ret_int (by have := HP3.out; simpa [HI.out, HQ.out] using this), bA (bS (bS HB.out hb) hb2) _⟩
    | some n =>
     have HQ := Lib.hid hq; clear hq
     go_wp2_with (first | (go_at_call 58; refine (isDims_calls _ _ l _ H1.out hcc).mono ?_; rintro e w1 ⟨rfl, hb⟩; rw [HI.out]) | (go_at_call 53; refine (sizes_ok _ _ l _ n (Kd.C_below H1.out hb) hcc hl4 HN.out HQ.out).mono ?_; rintro e w2 ⟨x0, x1, x2, x3, rfl, hb2, hb3⟩; clear hb3))
     go_roundw
     case rel => exact ⟨k + 1, by omega, by go_num, Lib.hid (by have := HP3.out; simpa [HI.out, HQ.out] using this), Lib.hid (bA (bS (bS HB.out hb) hb2) _)⟩
     case measure => simp [intOf]; omega
  ·have HFE : Hid (checkedL ls = 0) := Lib.hid (by rw [← HP.out, List.drop_eq_nil_of_le (by omega)]; rfl)
   go_wp2
   go_ret
   exact ⟨ret_int HFE.out.symm, HB.out⟩
def prodL : List S54 → Int
 | [] => 1
 | d :: r => ext d * prodL r
theorem prodOk_spec : ∀ (l : List S54) (m n : Int), 1 ≤ m → m ≤ 1000 → prodOk l m = some n → (∀ d ∈ l, 1 ≤ ext d ∧ ext d ≤ 1000) ∧ n = m * prodL l ∧ n ≤ 1000 := by
 intro l
 induction l with
 | nil =>
  intro m n h1 h2 h
  simp only [prodOk, Option.some.injEq] at h
  exact ⟨by simp, by simp [prodL, h], by omega⟩
 | cons d r ih =>
  intro m n h1 h2 h
  simp only [prodOk] at h
  by_cases c1 : ext d < 1 ∨ 1000 < ext d
  ·rw [if_pos c1] at h; cases h
  ·rw [if_neg c1] at h
   by_cases c2 : 1000 < m * ext d
   ·rw [if_pos c2] at h; cases h
   ·rw [if_neg c2] at h
    have b2 : 1 ≤ m * ext d := by
     have := Int.mul_le_mul h1 (show 1 ≤ ext d by omega) (by omega) (by omega); omega
    obtain ⟨g1, g2, g3⟩ := ih _ _ b2 (by omega) h
    refine ⟨fun x hx => ?_, by rw [g2, prodL, Int.mul_assoc], g3⟩
    rcases List.mem_cons.1 hx with rfl | hx
    ·omega
    ·exact g1 x hx
theorem prodL_pos : ∀ l : List S54, (∀ d ∈ l, 1 ≤ ext d) → 1 ≤ prodL l
 | [], _ => by simp [prodL]
 | d :: r, h => by
  have h1 := h d (by simp)
  have h2 := prodL_pos r (fun x hx => h x (by simp [hx]))
  have := Int.mul_le_mul h1 h2 (by omega) (by omega)
  simp only [prodL]; omega
theorem prodL_drop : ∀ (l : List S54) (j : Nat), (∀ d ∈ l, 1 ≤ ext d) → prodL (l.drop j) ≤ prodL l
 | [], j, _ => by simp
 | d :: r, 0, _ => by simp
 | d :: r, j + 1, h => by
  have h1 := h d (by simp)
  have h2 := prodL_pos r (fun x hx => h x (by simp [hx]))
  have h3 := prodL_drop r j (fun x hx => h x (by simp [hx]))
  have := Int.mul_le_mul h1 (Int.le_refl (prodL r)) (by omega) (by omega)
  simp only [List.drop_succ_cons, prodL]; omega
def strL : List S54 → List Int
 | [] => []
 | _ :: r => prodL r :: strL r
def fstL : List S54 → Int
 | [] => 0
 | d :: r => fstL r - prodL r * d.f0
theorem strL_length (l : List S54) : (strL l).length = l.length := by
 induction l with
 | nil => rfl
 | cons d r ih => simp [strL, ih]
theorem mul_bd (p x : Int) (h1 : 1 ≤ p) (h2 : p ≤ 1000) (h3 : -2147483647 ≤ x) (h4 : x ≤ 2147483647) : -2147483647000 ≤ p * x ∧ p * x ≤ 2147483647000 := by
 rcases Int.le_total 0 x with h | h
 ·have a := Int.mul_le_mul h2 h4 h (by omega)
  have b := Int.mul_nonneg (show 0 ≤ p by omega) h
  omega
 ·have a := Int.mul_le_mul h2 (show -x ≤ 2147483647 by omega) (by omega) (by omega)
  have b := Int.mul_nonneg (show 0 ≤ p by omega) (show 0 ≤ -x by omega)
  have e : p * -x = -(p * x) := Int.mul_neg ..
  omega
/-- what is proper -/
def Proper (l : List S54) : Prop := (∀ d ∈ l, near d) ∧ (∀ d ∈ l, 1 ≤ ext d ∧ ext d ≤ 1000) ∧ prodL l ≤ 1000
theorem Proper.drop {l : List S54} (h : Proper l) (j : Nat) : Proper (l.drop j) :=
 ⟨fun d hd => h.1 d (List.mem_of_mem_drop hd), fun d hd => h.2.1 d (List.mem_of_mem_drop hd), Int.le_trans (prodL_drop l j (fun d hd => (h.2.1 d hd).1)) h.2.2⟩
theorem Proper.pos {l : List S54} (h : Proper l) : 1 ≤ prodL l := prodL_pos l fun d hd => (h.2.1 d hd).1
theorem fstL_bd : ∀ l : List S54, Proper l → -2147483647000 * (l.length : Int) ≤ fstL l ∧ fstL l ≤ 2147483647000 * (l.length : Int)
 | [], _ => by simp [fstL]
 | d :: r, h => by
  have hr : Proper r := h.drop 1
  have h1 := fstL_bd r hr
  have h2 := h.1 d (by simp)
  unfold near at h2
  have h3 := mul_bd (prodL r) d.f0 hr.pos hr.2.2 h2.1 h2.2.1
  simp only [fstL, List.length_cons]
  omega
theorem proper_of {l : List S54} {n : Int} (hn : ∀ d ∈ l, near d) (h : prodOk l 1 = some n) : Proper l ∧ n = prodL l := by
 obtain ⟨h1, h2, h3⟩ := prodOk_spec l 1 n (by omega) (by omega) h
 exact ⟨⟨hn, h1, by omega⟩, by omega⟩
end Go.Proofs.Q
end
section
namespace Go.Proofs.Q
open RowKit Pw Pl Pm
theorem info3' : (Tryz.prog.info? 3).map (fun i => (i.zero, i.size, i.bytes)) = some (some (.int .i64 0), 1, 8) := by kernel_rfl
theorem strides_calls (A : Option Addr) (c : Nat) (l : List S54) (w : World) (hr : Kd.C k54 w A l.length l) (hc : l.length ≤ c) (hm : l.length ≤ 4) (hp : Proper l) (hq : prodOk l 1 = some (prodL l)) :
  Calls Tryz.prog 57 #[.slice A l.length c] w fun e w' => ∃ v : Value, e = .returned (.tuple #[v, .int .i64 (fstL l)]) ∧ Kd.R (Kd.int .i64) 3 w' w.heap.size (fun _ => True) v (strL l) ∧ Below w.heap.size w w' := by
 have HR := Lib.hid hr; clear hr
 have HPP := Lib.hid hp; clear hp
 have HQ := Lib.hid hq; clear hq
 have hmk := print_make (P := Tryz.prog) 34 3 .i64 8 Tryz.underlying34 info3' (by decide) l.length (by omega)
 go_enter Tryz.func57, Tryz.ntmps57
 go_wp2_with (go_at_call 53; refine (sizes_ok _ _ l _ _ HR.out hc hm HPP.out.1 HQ.out).mono ?_; rintro e w2 ⟨x0, x1, x2, x3, rfl, hb2, hb3⟩; (have HX := Lib.hid hb3); clear hb3; (have HB := Lib.hid hb2); clear hb2)
 go_loopw [8, 9, 10] (fun n f i wr => ∃ (z : Int) (j : Nat), i = .int .i64 z ∧ -1 ≤ z ∧ z < l.length ∧ Hid (z = (j : Int) - 1 ∧ j ≤ l.length) ∧ n = .int .i64 (prodL (l.drop j)) ∧ f = .int .i64 (fstL (l.drop j)) ∧
   Hid (Below w.heap.size w wr) ∧ Hid (wr.ownsRow w.heap.size 3 1 (.slice (some ⟨w2.heap.size + 1, 0, none⟩) l.length l.length) l.length (nums .i64 (List.replicate j 0 ++ strL (l.drop j)))) ∧ Hid (Four wr w2.heap.size 84 [x0, x1, x2, x3]))
  (fun _ _ i _ => (intOf i + 1).toNat)
 case atStart =>
  refine ⟨_, l.length, rfl, by omega, by omega, Lib.hid ⟨by omega, Nat.le_refl _⟩, by simp [prodL], by simp [fstL], ?_, ?_, ?_⟩
  ·exact Lib.hid (bA (bA HB.out _) _)
  ·have := own_made (w2.alloc (.cells #[.int .i64 x0, .int .i64 x1, .int .i64 x2, .int .i64 x3] 84)) w.heap.size 3 .i64 l.length (by have := HB.out.size; rw [World.size_alloc]; omega) (by omega)
   rw [World.size_alloc] at this
   simpa [strL] using Lib.hid this
  ·exact Lib.hid ((Four.new _ _ _ _ _ _).alloc _)
 case round =>
  obtain ⟨z, j, rfl, hz1, hz2, HZ, rfl, rfl, HB2, HO, HF⟩ := hrel
  by_cases hz : 0 ≤ z
  ·obtain ⟨k, hk⟩ : ∃ k : Nat, j = k + 1 := ⟨j - 1, by have := HZ.out; omega⟩
   subst hk
   obtain rfl : z = (k : Int) := by have := HZ.out; omega
   have hlt : k < l.length := by omega
   obtain ⟨ad, e1, h0, _⟩ := at_T54 HR.out (k : Int) (by omega) (by omega)
   have ek : rd_T54 l (k : Int) = l[k] := by simp [rd_T54, List.getD, hlt]
   rw [ek] at h0
   cases e1
   replace h0 := (HB2.out.cell (World.block_lt_of_cell? w _ h0)).trans h0
   simp only [Int.toNat_natCast] at h0
   have hn := HPP.out.1 _ (List.getElem_mem hlt)
   have he := HPP.out.2.1 _ (List.getElem_mem hlt)
   have hcons := List.drop_eq_getElem_cons hlt
   have hpd := HPP.out.drop (k + 1)
   have hpk := HPP.out.drop k
   have fb := fstL_bd _ hpd
   rw [List.length_drop] at fb
   have pb1 := hpd.pos
   have pb2 := hpd.2.2
   have pk1 := hpk.pos
   have pk2 := hpk.2.2
   have hX := HX.out k (by omega)
   rw [List.getElem?_eq_getElem hlt] at hX
   have hcell := HF.out.cell k (by omega)
   have hcv : [x0, x1, x2, x3].getD k 0 = ext l[k] := by rw [List.getD, hX]; rfl
   rw [hcv] at hcell
   obtain ⟨ho1, ho2⟩ := own_at HO.out (k : Int) (by omega) (by omega)
   have hst := (own_store HO.out (k : Int) (prodL (l.drop (k + 1)))).1
   simp only [Int.toNat_natCast] at ho1 ho2 hst
   have hset : (List.replicate (k + 1) 0 ++ strL (l.drop (k + 1))).set k (prodL (l.drop (k + 1))) = List.replicate k 0 ++ strL (l.drop k) := by
    rw [hcons, strL, List.replicate_succ', List.append_assoc]
    rw [List.set_append_right _ _ (by simp)]
    simp
   rw [hset] at hst
   have hfar := HF.out.far (p := ⟨w2.heap.size + 1, k, none⟩) (by simp) (.int .i64 (prodL (l.drop (k + 1))))
   have hcell2 := hfar.cell k (by omega)
   rw [hcv] at hcell2
   have hadl : ad.block < w.heap.size := by
    obtain ⟨ad', e2, g0, _⟩ := at_T54 HR.out (k : Int) (by omega) (by omega)
    cases e2
    have := World.block_lt_of_cell? w _ g0
    rwa [add_block] at this
   have hsz2 := HB.out.size
   have h02 : (wr.setCell ⟨w2.heap.size + 1, k, none⟩ (.int .i64 (prodL (l.drop (k + 1))))).cell? (ad.add (k * 2)) = some (.int .i64 l[k].f0) := by
    rw [World.cell?_setCell_other]
    ·exact h0
    ·intro he
     have := congrArg Addr.block he
     rw [add_block] at this
     simp at this
     omega
   have mb := mul_bd _ l[k].f0 pb1 pb2 hn.1 hn.2.1
   have hpe : prodL (l.drop k) = prodL (l.drop (k + 1)) * ext l[k] := by rw [hcons, prodL, Int.mul_comm]
   have hfe : fstL (l.drop k) = fstL (l.drop (k + 1)) - prodL (l.drop (k + 1)) * l[k].f0 := by rw [hcons, fstL]
   rw [hpe] at pk1 pk2
   obtain ⟨fb1, fb2⟩ := fb
   have HPE := Lib.hid hpe; have HFE := Lib.hid hfe
   have HST := Lib.hid hst; have HFR := Lib.hid hfar
   clear hpe hfe hst hfar hset hcell hcv hX hcons hn he hpd hpk ek h0
   generalize prodL (l.drop (k + 1)) = pp at *
   generalize fstL (l.drop (k + 1)) = ff at *
   generalize l[k].f0 = dl at *
   generalize ext l[k] = de at *
   have fb3 : ff - pp * dl ≤ 9223372036854775807 := by omega
   have fb4 : -9223372036854775808 ≤ ff - pp * dl := by omega
   clear fb1 fb2
   go_wp2
   go_roundw
   case rel => exact ⟨_, k, rfl, by omega, by omega, Lib.hid ⟨by omega, by omega⟩, by rw [HPE.out], by rw [HFE.out], Lib.hid (bT HB2.out (by omega)), HST, HFR⟩
   case measure => simp [intOf]
  ·have hj : Hid (j = 0) := Lib.hid (by have := HZ.out; omega)
   have hj0 := hj.out; subst hj0
   simp only [List.drop_zero, List.replicate_zero, List.nil_append] at HO ⊢
   have hl := strL_length l
   have HO2 : Hid (Kd.R (Kd.int .i64) 3 wr w.heap.size (fun _ => True) (.slice (some ⟨w2.heap.size + 1, 0, none⟩) l.length l.length) (strL l)) := Lib.hid (Kd.R_of_own (enc := Value.int .i64) (h1 := fun _ => rfl) (by rw [hl]; exact HO.out) (fun _ _ => trivial))
   clear hl hj
   go_wp2
   go_ret2
   exact ⟨_, rfl, HO2.out, HB2.out⟩
end Go.Proofs.Q
end
section
namespace Go.Proofs.Q
open RowKit Pw Pl Pm
theorem at_int {w : World} {A : Option Addr} {n : Nat} {xs : List Int} (h : Kd.C (Kd.int .i64) w A n xs) (i : Nat) (hi : i < n) : ∃ ad, A = some ad ∧ w.cell? (ad.add i) = some (.int .i64 (xs.getD i 0)) := by
 have h2 := (Kd.reads_of_C (d := (0 : Int)) h)
 obtain ⟨hl, _, h3⟩ := h2
 have h4 := Kd.C_get h 0 (i : Int) (by omega) (by omega)
 obtain ⟨ad, c, e, _, hK, hc⟩ := h4
 obtain ⟨rfl⟩ := hK
 exact ⟨ad, e, by simpa [show (Kd.int .i64).sz = 1 from rfl] using hc 0 _ rfl⟩
/-- A new row of slices. -/
theorem C_rows (W : World) (vs : List Value) (ls : List (List S54)) (hl : vs.length = ls.length) (h9 : ls.length ≤ 9)
  (h : ∀ (j : Nat) (l : List S54), ls[j]? = some l → ∃ (A : Option Addr) (c : Nat), vs[j]? = some (Value.slice A l.length c) ∧ l.length ≤ c ∧ Kd.C k54 W A l.length l) :
  Kd.C (Kd.slice 54 k54) (W.alloc (.cells vs.toArray 22)) (some ⟨W.heap.size, 0, none⟩) ls.length ls := by
 refine ⟨rfl, by omega, fun _ => ⟨⟨W.heap.size, 0, none⟩, rfl, fun j l hj => ?_⟩⟩
 obtain ⟨A, c, hv, hc, hC⟩ := h j l hj
 refine ⟨[.slice A l.length c], rfl, ⟨A, c, rfl, hc, Kd.C_below hC (bA (Below.refl _ _) _)⟩, fun i u hu => ?_⟩
 cases i with
 | succ i => simp at hu
 | zero =>
  simp only [List.getElem?_cons_zero, Option.some.injEq] at hu
  subst hu
  rw [show (Kd.slice 54 k54).sz = 1 from rfl, Nat.mul_one, Nat.add_zero, add_plain, kC (heap_alloc_new _ _)]
  simpa using hv
theorem C_one (W : World) (A : Option Addr) (c : Nat) (l : List S54) (hc : l.length ≤ c) (h : Kd.C k54 W A l.length l) :
  Kd.C (Kd.slice 54 k54) (W.alloc (.cells #[.slice A l.length c] 22)) (some ⟨W.heap.size, 0, none⟩) [l].length [l] := by
 refine C_rows W [.slice A l.length c] [l] rfl (by simp) fun j l' hj => ?_
 cases j with
 | zero => simp at hj; subst hj; exact ⟨A, c, rfl, hc, h⟩
 | succ j => simp at hj
theorem errOf_zero {l : List S54} (h : errOf l = 0) : isDimsB l = true ∧ Proper l ∧ prodOk l 1 = some (prodL l) ∧ 1 ≤ l.length ∧ l.length ≤ 4 := by
 unfold errOf at h
 cases hi : isDimsB l with
 | false => simp [hi] at h
 | true =>
  obtain ⟨h1, h4, hn⟩ := isDimsB_near hi
  cases hq : prodOk l 1 with
  | none => simp [hi, hq] at h
  | some n =>
   obtain ⟨hp, rfl⟩ := proper_of hn hq
   exact ⟨rfl, hp, rfl, h1, h4⟩
theorem checkedL_one (l : List S54) : checkedL [l] = errOf l := by
 simp only [checkedL]; split <;> simp_all
def array_checked.f (l0 : List (List (S54))) : Option (Int) := if l0.length ≤ 4 then some (checkedL l0) else none
theorem array_checked.calls (A0 : Option Addr) (c0 : Nat) (l0 : List (List (S54))) (r : Int) (w : World) (hr0 : Kd.C (Kd.slice 54 k54) w A0 l0.length l0) (hc0 : l0.length ≤ c0) (h : array_checked.f l0 = some r) :
  Calls Tryz.prog 27 #[.slice A0 l0.length c0] w fun e w' => e = .returned (.int .i64 r) ∧ Below w.heap.size w w' := by
 unfold array_checked.f at h
 by_cases h4 : l0.length ≤ 4
 ·rw [if_pos h4] at h
  obtain rfl := Option.some.inj h
  exact checked_calls A0 c0 l0 w hr0 hc0 h4
 ·rw [if_neg h4] at h; cases h
def exA (l : List S54) (j : Nat) : Int := ((l[j]?).map ext).getD 0
def array_sizes.f (l0 : List (S54)) : Option (Int × Int × Int × Int × Int × Bool) := if errOf l0 = 0 then some (exA l0 0, exA l0 1, exA l0 2, exA l0 3, prodL l0, true) else none
theorem array_sizes.calls (A0 : Option Addr) (c0 : Nat) (l0 : List (S54)) (r1 : Int) (r2 : Int) (r3 : Int) (r4 : Int) (r5 : Int) (r6 : Bool) (w : World) (hr0 : Kd.C k54 w A0 l0.length l0) (hc0 : l0.length ≤ c0) (h : array_sizes.f l0 = some (r1, r2, r3, r4, r5, r6)) :
  Calls Tryz.prog 53 #[.slice A0 l0.length c0] w fun e w' => e = .returned (.tuple #[.agg #[.int .i64 r1, .int .i64 r2, .int .i64 r3, .int .i64 r4], .int .i64 r5, .bool r6]) ∧ Below w.heap.size w w' := by
 unfold array_sizes.f at h
 by_cases he : errOf l0 = 0
 ·rw [if_pos he] at h
  simp only [Option.some.injEq, Prod.mk.injEq] at h
  obtain ⟨rfl, rfl, rfl, rfl, rfl, rfl⟩ := h
  obtain ⟨_, hp, hq, h1, h4⟩ := errOf_zero he
  refine (sizes_ok A0 c0 l0 w _ hr0 hc0 h4 hp.1 hq).mono fun e w' ⟨x0, x1, x2, x3, h, hb, hx⟩ => ⟨?_, hb⟩
  have g0 := hx 0 (by omega)
  have g1 := hx 1 (by omega)
  have g2 := hx 2 (by omega)
  have g3 := hx 3 (by omega)
  simp only [List.getElem?_cons_zero, List.getElem?_cons_succ, Option.some.injEq] at g0 g1 g2 g3
  rw [h, g0, g1, g2, g3]; rfl
 ·rw [if_neg he] at h; cases h
def array_strides.f (l0 : List (S54)) : Option (List Int × Int) := if errOf l0 = 0 then some (strL l0, fstL l0) else none
theorem array_strides.calls (A0 : Option Addr) (c0 : Nat) (l0 : List (S54)) (r1 : List Int) (r2 : Int) (w : World) (hr0 : Kd.C k54 w A0 l0.length l0) (hc0 : l0.length ≤ c0) (h : array_strides.f l0 = some (r1, r2)) :
  Calls Tryz.prog 57 #[.slice A0 l0.length c0] w fun e w' => ∃ v0_ : Value, e = .returned (.tuple #[v0_, .int .i64 r2]) ∧ Kd.R (Kd.int .i64) 3 w' w.heap.size (fun _ => True) v0_ r1 ∧ Below w.heap.size w w' := by
 unfold array_strides.f at h
 by_cases he : errOf l0 = 0
 ·rw [if_pos he] at h
  simp only [Option.some.injEq, Prod.mk.injEq] at h
  obtain ⟨rfl, rfl⟩ := h
  obtain ⟨_, hp, hq, h1, h4⟩ := errOf_zero he
  exact strides_calls A0 c0 l0 w hr0 hc0 h4 hp hq
 ·rw [if_neg he] at h; cases h
end Go.Proofs.Q
end
section
namespace Go.Proofs.Q
open RowKit Pw Pl Pm
def offGo : List S54 → List Int → List Int → Int → Int × Int
 | d :: r, s :: ss, k :: ks, n => if k < d.f0 then (0, 3) else if d.f1 < k then (0, 3) else offGo r ss ks (n + s * k)
 | _, _, _, n => (n, 0)
def offF (l : List S54) (ks : List Int) : Int × Int := if ks.length = l.length then offGo l (strL l) ks (fstL l) else (0, 10)
theorem strL_get (l : List S54) (k : Nat) (h : k < l.length) : (strL l)[k]? = some (prodL (l.drop (k + 1))) := by
 induction l generalizing k with
 | nil => simp at h
 | cons d r ih =>
  cases k with
  | zero => simp [strL]
  | succ k => simpa [strL] using ih k (by simpa using h)
theorem offset_calls (A : Option Addr) (c : Nat) (l : List S54) (A1 : Option Addr) (c1 : Nat) (ks : List Int) (w : World) (hr : Kd.C k54 w A l.length l) (hc : l.length ≤ c) (hr1 : Kd.C (Kd.int .i64) w A1 ks.length ks) (hc1 : ks.length ≤ c1) (hm : l.length ≤ 4) (hp : Proper l) (hq : prodOk l 1 = some (prodL l)) :
  Calls Tryz.prog 48 #[.slice A l.length c, .slice A1 ks.length c1] w fun e w' => e = .returned (.tuple #[.int .i64 (offF l ks).1, .int .i64 (offF l ks).2]) ∧ Below w.heap.size w w' := by
 have HR := Lib.hid hr; clear hr
 have HR1 := Lib.hid hr1; clear hr1
 have HPP := Lib.hid hp; clear hp
 have HQ := Lib.hid hq; clear hq
 by_cases hlen : ks.length = l.length
 ·have HE : Hid (offF l ks = offGo l (strL l) ks (fstL l)) := Lib.hid (by rw [offF, if_pos hlen])
  have hlen1 : (ks.length == l.length) = true := by simpa using hlen
  have hlen2 : (ks.length != l.length) = false := by simpa using hlen
  have hlen3 : ((ks.length : Int) == (l.length : Int)) = true := by simp [hlen]
  have hlen4 : ((ks.length : Int) != (l.length : Int)) = false := by simp [hlen]
  have HL := Lib.hid hlen; clear hlen
  have hle1 : ks.length ≤ l.length := by rw [HL.out]; omega
  go_enter Tryz.func48, Tryz.ntmps48
  go_wp2_with (go_at_call 57; refine (strides_calls _ _ l _ HR.out hc hm HPP.out HQ.out).mono ?_; rintro e w2 ⟨v, rfl, hro, hb2⟩; (have HB := Lib.hid hb2); clear hb2; obtain ⟨Ao, co, rfl, hco, hro2⟩ := Kd.R_reads hro; (have HO := Lib.hid hro2); clear hro hro2)
  go_loop [7, 8, 9, 22] (fun n _ _ i => ∃ (k : Nat) (m : Int), k ≤ ks.length ∧ i = .int .i64 k ∧ n = .int .i64 m ∧ -2147483647000 * ((l.length : Int) + k) ≤ m ∧ m ≤ 2147483647000 * ((l.length : Int) + k) ∧ Hid (offGo (l.drop k) ((strL l).drop k) (ks.drop k) m = offGo l (strL l) ks (fstL l)))
   (fun _ _ _ i => ks.length - (intOf i).toNat)
  case atStart =>
   have := fstL_bd l HPP.out
   exact ⟨0, _, Nat.zero_le _, rfl, rfl, by omega, by omega, Lib.hid rfl⟩
  case round =>
   obtain ⟨k, m, hk, rfl, rfl, hm1, hm2, HP⟩ := hrel
   by_cases hlt : k < ks.length
   ·have hl2 : k < l.length := by omega
    have hl3 : k < (strL l).length := by rw [strL_length]; exact hl2
    obtain ⟨ad, e1, h0, h1⟩ := at_T54 HR.out (k : Int) (by omega) (by omega)
    have ek : rd_T54 l (k : Int) = l[k] := by simp [rd_T54, List.getD, hl2]
    rw [ek] at h0 h1
    cases e1
    replace h0 := (HB.out.cell (World.block_lt_of_cell? w _ h0)).trans h0
    replace h1 := (HB.out.cell (World.block_lt_of_cell? w _ h1)).trans h1
    obtain ⟨ad1, e2, g0⟩ := at_int HR1.out k hlt
    cases e2
    replace g0 := (HB.out.cell (World.block_lt_of_cell? w _ g0)).trans g0
    obtain ⟨ad2, e3, s0⟩ := at_int HO.out k hl3
    cases e3
    simp only [Int.toNat_natCast] at h0 h1
    have hn := HPP.out.1 _ (List.getElem_mem hl2)
    have hpd := HPP.out.drop (k + 1)
    have pb1 := hpd.pos
    have pb2 := hpd.2.2
    have es : (strL l).getD k 0 = prodL (l.drop (k + 1)) := by rw [List.getD, strL_get l k hl2]; rfl
    have eg : ks.getD k 0 = ks[k] := by simp [List.getD, hlt]
    have HP2 := HP.out
    rw [List.drop_eq_getElem_cons hlt, List.drop_eq_getElem_cons hl2, List.drop_eq_getElem_cons hl3] at HP2
    have es2 : (strL l)[k] = prodL (l.drop (k + 1)) := by
     have := strL_get l k hl2
     rw [List.getElem?_eq_getElem hl3] at this
     exact Option.some.inj this
    simp only [offGo, es2] at HP2
    rw [es] at s0
    rw [eg] at g0
    have HP3 := Lib.hid HP2; clear HP2
    unfold near at hn
    clear hpd es es2 eg ek
    generalize prodL (l.drop (k + 1)) = pp at *
    generalize l[k].f0 = lo at *
    generalize l[k].f1 = hi at *
    generalize ks[k] = kk at *
    obtain ⟨n1, n2, n3, n4⟩ := hn
    by_cases t1 : kk < lo
    ·go_wp2
     go_ret2
     exact ⟨by rw [HE.out, ← HP3.out, if_pos t1]; rfl, HB.out⟩
    ·by_cases t2 : hi < kk
     ·go_wp2
      go_ret2
      exact ⟨by rw [HE.out, ← HP3.out, if_neg (by omega), if_pos t2]; rfl, HB.out⟩
     ·have mb := mul_bd pp kk pb1 pb2 (by omega) (by omega)
      obtain ⟨mb1, mb2⟩ := mb
      go_wp2
      go_round
      case rel => exact ⟨k + 1, _, by omega, by go_num, rfl, by omega, by omega, Lib.hid (by rw [← HP3.out, if_neg (by omega), if_neg (by omega)])⟩
      case measure => simp [intOf]; omega
   ·have HF : Hid ((m, 0) = offF l ks) := Lib.hid (by
     rw [HE.out, ← HP.out, show ks.drop k = [] from List.drop_eq_nil_of_le (by omega), show l.drop k = [] from List.drop_eq_nil_of_le (by have := HL.out; omega)]; rfl)
    go_wp2
    go_ret2
    exact ⟨by rw [← HF.out]; rfl, HB.out⟩
 ·have HE : Hid (offF l ks = (0, 10)) := Lib.hid (by rw [offF, if_neg hlen])
  have hlen1 : (ks.length == l.length) = false := by simpa using hlen
  have hlen2 : (ks.length != l.length) = true := by simpa using hlen
  have hlen3 : ((ks.length : Int) == (l.length : Int)) = false := by simp; omega
  have hlen4 : ((ks.length : Int) != (l.length : Int)) = true := by simp; omega
  clear hlen
  go_enter Tryz.func48, Tryz.ntmps48
  go_wp2
  go_ret2
  exact ⟨by rw [HE.out]; rfl, Below.refl _ _⟩
def array_Offset.f (l0 : List (S54)) (l1 : List Int) : Option (Int × Int) := if errOf l0 = 0 then some (offF l0 l1) else some (0, errOf l0)
theorem array_Offset.calls (A0 : Option Addr) (c0 : Nat) (l0 : List (S54)) (A1 : Option Addr) (c1 : Nat) (l1 : List Int) (r1 : Int) (r2 : Int) (w : World) (hr0 : Kd.C k54 w A0 l0.length l0) (hc0 : l0.length ≤ c0) (hr1 : Kd.C (Kd.int .i64) w A1 l1.length l1) (hc1 : l1.length ≤ c1) (h : array_Offset.f l0 l1 = some (r1, r2)) :
  Calls Tryz.prog 21 #[.slice A0 l0.length c0, .slice A1 l1.length c1] w fun e w' => e = .returned (.tuple #[.int .i64 r1, .int .i64 r2]) ∧ Below w.heap.size w w' := by
 have HR := Lib.hid hr0; clear hr0
 have HR1 := Lib.hid hr1; clear hr1
 have H1 := Lib.hid (C_one w A0 c0 l0 hc0 HR.out)
 by_cases he : errOf l0 = 0
 ·obtain ⟨_, hp, hq, h1, h4⟩ := errOf_zero he
  simp only [array_Offset.f, if_pos he, Option.some.injEq] at h
  have H := Lib.hid h; clear h
  have HE : Hid (checkedL [l0] = 0) := Lib.hid (by rw [checkedL_one, he]); clear he
  have HPP := Lib.hid hp; clear hp
  have HQ := Lib.hid hq; clear hq
  go_enter Tryz.func21, Tryz.ntmps21
  go_wp2_with (first | (go_at_call 27; refine (checked_calls _ _ [l0] _ H1.out (Nat.le_refl _) (by simp)).mono ?_; rintro e w1 ⟨rfl, hb⟩; rw [HE.out]) | (go_at_call 48; refine (offset_calls _ _ l0 _ _ l1 _ (Kd.C_below HR.out (bS (bA (Below.refl _ _) _) hb)) hc0 (Kd.C_below HR1.out (bS (bA (Below.refl _ _) _) hb)) hc1 h4 HPP.out HQ.out).mono ?_; rintro e w2 ⟨rfl, hb2⟩; rw [H.out]))
  go_ret2
  exact ⟨rfl, bS (bS (bA (Below.refl _ _) _) hb) hb2⟩
 ·simp only [array_Offset.f, if_neg he, Option.some.injEq, Prod.mk.injEq] at h
  have H := Lib.hid h; clear h
  have HE : Hid (checkedL [l0] = errOf l0) := Lib.hid (checkedL_one l0)
  have hne : (errOf l0 != 0) = true := by simpa using he
  clear he
  go_enter Tryz.func21, Tryz.ntmps21
  go_wp2_with (go_at_call 27; refine (checked_calls _ _ [l0] _ H1.out (Nat.le_refl _) (by simp)).mono ?_; rintro e w1 ⟨rfl, hb⟩; rw [HE.out])
  obtain ⟨rfl, rfl⟩ := H.out
  go_ret2
  exact ⟨rfl, bS (bA (Below.refl _ _) _) hb⟩
def array_Strides.f (l0 : List (S54)) : Option (List Int × Int × Int) := if errOf l0 = 0 then some (strL l0, fstL l0, 0) else some ([], 0, errOf l0)
theorem array_Strides.calls (A0 : Option Addr) (c0 : Nat) (l0 : List (S54)) (r1 : List Int) (r2 : Int) (r3 : Int) (w : World) (hr0 : Kd.C k54 w A0 l0.length l0) (hc0 : l0.length ≤ c0) (h : array_Strides.f l0 = some (r1, r2, r3)) :
  Calls Tryz.prog 24 #[.slice A0 l0.length c0] w fun e w' => ∃ v0_ : Value, e = .returned (.tuple #[v0_, .int .i64 r2, .int .i64 r3]) ∧ Kd.R (Kd.int .i64) 3 w' w.heap.size (fun _ => True) v0_ r1 ∧ Below w.heap.size w w' := by
 have HR := Lib.hid hr0; clear hr0
 have H1 := Lib.hid (C_one w A0 c0 l0 hc0 HR.out)
 by_cases he : errOf l0 = 0
 ·obtain ⟨_, hp, hq, h1, h4⟩ := errOf_zero he
  simp only [array_Strides.f, if_pos he, Option.some.injEq, Prod.mk.injEq] at h
  obtain ⟨rfl, rfl, rfl⟩ := h
  have HE : Hid (checkedL [l0] = 0) := Lib.hid (by rw [checkedL_one, he]); clear he
  have HPP := Lib.hid hp; clear hp
  have HQ := Lib.hid hq; clear hq
  go_enter Tryz.func24, Tryz.ntmps24
  go_wp2_with (first | (go_at_call 27; refine (checked_calls _ _ [l0] _ H1.out (Nat.le_refl _) (by simp)).mono ?_; rintro e w1 ⟨rfl, hb⟩; rw [HE.out]) | (go_at_call 57; refine (strides_calls _ _ l0 _ (Kd.C_below HR.out (bS (bA (Below.refl _ _) _) hb)) hc0 h4 HPP.out HQ.out).mono ?_; rintro e w2 ⟨v, rfl, hv, hb2⟩))
  go_ret3
  exact ⟨_, rfl, Kd.R_lower hv (by have := (bS (bA (Below.refl _ _) _) hb).size; exact this), bS (bS (bA (Below.refl _ _) _) hb) hb2⟩
 ·simp only [array_Strides.f, if_neg he, Option.some.injEq, Prod.mk.injEq] at h
  obtain ⟨rfl, rfl, rfl⟩ := h
  have HE : Hid (checkedL [l0] = errOf l0) := Lib.hid (checkedL_one l0)
  have hne : (errOf l0 != 0) = true := by simpa using he
  clear he
  go_enter Tryz.func24, Tryz.ntmps24
  go_wp2_with (go_at_call 27; refine (checked_calls _ _ [l0] _ H1.out (Nat.le_refl _) (by simp)).mono ?_; rintro e w1 ⟨rfl, hb⟩; rw [HE.out])
  go_ret3
  exact ⟨_, rfl, Kd.R_nil _ _ _ _ _, bS (bA (Below.refl _ _) _) hb⟩
end Go.Proofs.Q
end
