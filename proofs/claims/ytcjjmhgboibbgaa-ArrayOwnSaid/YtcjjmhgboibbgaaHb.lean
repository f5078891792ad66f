import Derived.Test.YtcjjmhgboibbgaaHa
import Derived.Outline
namespace Go.Proofs.Ytcjjmhgboibbgaa.Q
open Go.RowKit Go.Proofs.YtcjjmhgboibbgaaW.PrintWords Go.Proofs.YtcjjmhgboibbgaaW.PrintLast Go.Proofs.YtcjjmhgboibbgaaW.PrintMore
set_option linter.unusedVariables false
set_option linter.unusedSimpArgs false

def ext (d : S40) : Int := d.f1 - d.f0 + 1
/-- the product of the sizes, if all is proper -/
def prodOk : List S40 → Int → Option Int
  | [], n => some n
  | d :: r, n => if ext d < 1 ∨ 1000 < ext d then none else if 1000 < n * ext d then none else prodOk r (n * ext d)
def near (d : S40) : Prop := -2147483647 ≤ d.f0 ∧ d.f0 ≤ 2147483647 ∧ -2147483647 ≤ d.f1 ∧ d.f1 ≤ 2147483647

/-- A variable of four ints at block B. -/
def Four (W : World) (B t : Nat) (xs : List Int) : Prop := xs.length = 4 ∧ W.heap[B]? = some (.cells (nums .i64 xs).toArray t (0, 0))
theorem Four.cell {W : World} {B t : Nat} {xs : List Int} (h : Four W B t xs) (j : Nat) (hj : j < 4) : W.cell? ⟨B, j, none⟩ = some (.int .i64 (xs.getD j 0)) := by
  have h1 := h.1
  rw [blk_cell h.2]; simp [nums, List.getD, List.getElem?_eq_getElem (l := xs) (i := j) (by omega)]
theorem Four.set {W : World} {B t : Nat} {xs : List Int} (h : Four W B t xs) (k : Nat) (v : Int) : Four (W.setCell ⟨B, k, none⟩ (.int .i64 v)) B t (xs.set k v) := by
  refine ⟨by simpa using h.1, ?_⟩
  rw [blk_set h.2]
  simp [nums]
theorem Four.far {W : World} {B t : Nat} {xs : List Int} (h : Four W B t xs) {p : Addr} (hp : B ≠ p.block) (v : Value) : Four (W.setCell p v) B t xs := ⟨h.1, blk_far h.2 hp v⟩
theorem Four.alloc {W : World} {B t : Nat} {xs : List Int} (h : Four W B t xs) (o : Obj) : Four (W.alloc o) B t xs := ⟨h.1, blk_alloc h.2 o⟩
theorem Four.lt {W : World} {B t : Nat} {xs : List Int} (h : Four W B t xs) : B < W.heap.size := blk_lt h.2
theorem Four.new (W : World) (t : Nat) (a b c d : Int) : Four (W.alloc (.cells #[.int .i64 a, .int .i64 b, .int .i64 c, .int .i64 d] t)) W.heap.size t [a, b, c, d] := ⟨rfl, by rw [heap_alloc_new]; rfl⟩
theorem Four.below {W W1 : World} {B t : Nat} {xs : List Int} (h : Four W B t xs) (hb : Below W.heap.size W W1) : Four W1 B t xs := ⟨h.1, (hb.block B (blk_lt h.2)).trans h.2⟩

theorem Four.put {W : World} {B t : Nat} (h : Four W B t [0, 0, 0, 0]) (a b c d : Int) : Four ((((W.setCell ⟨B, 0, none⟩ (.int .i64 a)).setCell ⟨B, 1, none⟩ (.int .i64 b)).setCell ⟨B, 2, none⟩ (.int .i64 c)).setCell ⟨B, 3, none⟩ (.int .i64 d)) B t [a, b, c, d] :=
  (((h.set 0 a).set 1 b).set 2 c).set 3 d
theorem Four.blk {W : World} {B t : Nat} {a b c d : Int} (h : Four W B t [a, b, c, d]) : W.heap[B]? = some (.cells #[.int .i64 a, .int .i64 b, .int .i64 c, .int .i64 d] t (0, 0)) := h.2
theorem below_put {w W : World} {B : Nat} (h : Below w.heap.size w W) (hB : w.heap.size ≤ B) (a b c d : Value) : Below w.heap.size w ((((W.setCell ⟨B, 0, none⟩ a).setCell ⟨B, 1, none⟩ b).setCell ⟨B, 2, none⟩ c).setCell ⟨B, 3, none⟩ d) :=
  below_set (below_set (below_set (below_set h hB) hB) hB) hB
theorem four_list (xs : List Int) (h : xs.length = 4) : xs = [xs[0]?.getD 0, xs[1]?.getD 0, xs[2]?.getD 0, xs[3]?.getD 0] := by
  match xs, h with
  | [a, b, c, d], _ => rfl

def SizesPost (l : List S40) (w : World) (e : Ending) (w' : World) : Prop := ∃ x0 x1 x2 x3 n : Int, ∃ ok : Bool, e = .returned (.tuple #[.agg #[.int .i64 x0, .int .i64 x1, .int .i64 x2, .int .i64 x3], .int .i64 n, .bool ok]) ∧ Below w.heap.size w w' ∧
      (prodOk l 1 = none ∧ n = 0 ∧ ok = false ∨ prodOk l 1 = some n ∧ ok = true ∧ ∀ j, j < 4 → [x0, x1, x2, x3][j]? = some (((l[j]?).map ext).getD 0))

set_option maxHeartbeats 1000000 in
theorem sizes_calls (A : Option Addr) (c : Nat) (l : List S40) (w : World) (hr : Kd.C k40 w A l.length l) (hc : l.length ≤ c) (hm : l.length ≤ 4) (hn : ∀ d ∈ l, near d) :
    Calls Try.prog 35 #[.slice A l.length c] w (SizesPost l w) := by
  have HR := Lib.hid hr; clear hr
  have HN := Lib.hid hn; clear hn
  go_enter Try.func35, Try.ntmps35
  go_wp2
  go_loopw [6, 7, 8, 11] (fun n _ _ i wr => ∃ k : Nat, ∃ m : Int, k ≤ l.length ∧ i = .int .i64 k ∧ n = .int .i64 m ∧ 1 ≤ m ∧ m ≤ 1000 ∧ Hid (prodOk (l.drop k) m = prodOk l 1) ∧ Hid (Below w.heap.size w wr) ∧ 
    (∃ xs : List Int, Hid ((∀ j, j < k → xs[j]? = (l[j]?).map ext) ∧ (∀ j, k ≤ j → j < 4 → xs[j]? = some 0) ∧ Four wr (w.heap.size + 1) 71 xs ∧ Four wr w.heap.size 71 [0, 0, 0, 0]))) (fun _ _ _ i _ => l.length - (intOf i).toNat)
  case atStart => exact ⟨0, 1, Nat.zero_le _, rfl, rfl, by omega, by omega, Lib.hid rfl, Lib.hid (below_alloc (below_alloc (Below.refl _ _) _) _), [0, 0, 0, 0], Lib.hid ⟨by omega, fun j _ h4 => by match j, h4 with | 0, _ => rfl | 1, _ => rfl | 2, _ => rfl | 3, _ => rfl, by have := Four.new (w.alloc (.cells #[.int .i64 0, .int .i64 0, .int .i64 0, .int .i64 0] 71)) 71 0 0 0 0; rwa [World.size_alloc] at this, (Four.new _ _ _ _ _ _).alloc _⟩⟩
  case round =>
    obtain ⟨k, m, hk, rfl, rfl, hm1, hm2, HP, HB, xs, HX⟩ := hrel
    by_cases hlt : k < l.length
    · obtain ⟨ad, e1, h0, h1⟩ := at_T40 HR.out (k : Int) (by omega) (by omega)
      have HP2 := HP.out
      rw [List.drop_eq_getElem_cons hlt] at HP2
      have ek : rd_T40 l (k : Int) = l[k] := by simp [rd_T40, List.getD, hlt]
      rw [ek] at h0 h1
      cases e1
      replace h0 := (HB.out.cell (World.block_lt_of_cell? w _ h0)).trans h0
      replace h1 := (HB.out.cell (World.block_lt_of_cell? w _ h1)).trans h1
      simp only [Int.toNat_natCast] at h0 h1
      simp only [prodOk] at HP2
      obtain ⟨n1, n2, n3, n4⟩ := HN.out l[k] (List.getElem_mem hlt)
      generalize hd : l[k] = d at *
      have HD := Lib.hid hd; clear hd
      have HP3 := Lib.hid HP2; clear HP2 ek
      obtain ⟨hx1, hx0, hx2, hx3⟩ := HX.out
      have hxc := hx2.cell k (by omega)
      have hxf := blk_frozen hx2.2 k
      have hsz := hx2.lt
      have hsz0 := hx3.lt
      have hx4 := hx2.set k (d.f1 - d.f0 + 1)
      have hx5 := hx3.far (p := ⟨w.heap.size + 1, k, none⟩) (by simp) (.int .i64 (d.f1 - d.f0 + 1))
      have q0 := hx4.cell 0 (by omega)
      have q1 := hx4.cell 1 (by omega)
      have q2 := hx4.cell 2 (by omega)
      have q3 := hx4.cell 3 (by omega)
      have r0 := hx5.cell 0 (by omega)
      have r1 := hx5.cell 1 (by omega)
      have r2 := hx5.cell 2 (by omega)
      have r3 := hx5.cell 3 (by omega)
      have f0 := blk_frozen hx5.2 0
      have f1 := blk_frozen hx5.2 1
      have f2 := blk_frozen hx5.2 2
      have f3 := blk_frozen hx5.2 3
      simp only [List.getD_cons_zero, List.getD_cons_succ] at r0 r1 r2 r3
      have HX4 := Lib.hid hx4; have HX5 := Lib.hid hx5
      clear hx1 hx0 hx2 hx3 hx4 hx5
      by_cases hb : d.f1 - d.f0 + 1 < 1
      · go_wp2_with fail
        refine bodyPost_ret (results_ctt rfl _ _ w.heap.size 71 _ (0, 0) _ rfl ((HX5.out.put _ _ _ _).alloc _).blk Try.underlying71 rfl (by kernel_rfl)) rfl ?_
        exact ⟨_, _, _, _, 0, false, rfl, below_alloc (below_put (below_set HB.out (by omega)) (Nat.le_refl _) _ _ _ _) _, .inl ⟨by rw [← HP3.out, if_pos (.inl hb)], rfl, rfl⟩⟩
      · by_cases hb2 : 1000 < d.f1 - d.f0 + 1
        · go_wp2_with fail
          refine bodyPost_ret (results_ctt rfl _ _ w.heap.size 71 _ (0, 0) _ rfl ((HX5.out.put _ _ _ _).alloc _).blk Try.underlying71 rfl (by kernel_rfl)) rfl ?_
          exact ⟨_, _, _, _, 0, false, rfl, below_alloc (below_put (below_set HB.out (by omega)) (Nat.le_refl _) _ _ _ _) _, .inl ⟨by rw [← HP3.out, if_pos (.inr hb2)], rfl, rfl⟩⟩
        · have hxk : (wr.setCell ⟨w.heap.size + 1, k, none⟩ (.int .i64 (d.f1 - d.f0 + 1))).cell? ⟨w.heap.size + 1, k, none⟩ = some (.int .i64 (d.f1 - d.f0 + 1)) := World.cell?_setCell_same' _ _ _ (by rw [hxc]; rfl)
          have b1 : m * (d.f1 - d.f0 + 1) ≤ 1000000 := by
            have := Int.mul_le_mul hm2 (show d.f1 - d.f0 + 1 ≤ 1000 by omega) (by omega) (by omega); omega
          have b2 : 1 ≤ m * (d.f1 - d.f0 + 1) := by
            have := Int.mul_le_mul hm1 (show 1 ≤ d.f1 - d.f0 + 1 by omega) (by omega) (by omega); omega
          by_cases hb3 : 1000 < m * (d.f1 - d.f0 + 1)
          · go_wp2_with fail
            refine bodyPost_ret (results_ctt rfl _ _ w.heap.size 71 _ (0, 0) _ rfl ((HX5.out.put _ _ _ _).alloc _).blk Try.underlying71 rfl (by kernel_rfl)) rfl ?_
            exact ⟨_, _, _, _, 0, false, rfl, below_alloc (below_put (below_set HB.out (by omega)) (Nat.le_refl _) _ _ _ _) _, .inl ⟨by rw [← HP3.out, if_neg (by unfold ext; omega), if_pos (by unfold ext; omega)], rfl, rfl⟩⟩
          · go_wp2_with fail
            go_roundw
            case rel => exact ⟨k + 1, m * (d.f1 - d.f0 + 1), by omega, by go_num, rfl, by omega, by omega, Lib.hid (by rw [← HP3.out, if_neg (by unfold ext; omega), if_neg (by unfold ext; omega)]; rfl), Lib.hid (below_alloc (below_set HB.out (by omega)) _), xs.set k (d.f1 - d.f0 + 1), Lib.hid ⟨fun j hj => (by
                  rw [List.getElem?_set]
                  obtain ⟨hx1, _, hx2, _⟩ := HX.out
                  have hl := hx2.1
                  by_cases e : k = j
                  · subst e
                    rw [if_pos rfl, if_pos (by omega), List.getElem?_eq_getElem hlt, HD.out]; rfl
                  · rw [if_neg e, hx1 j (by omega)]), (fun j h1 h2 => by
                  rw [List.getElem?_set, if_neg (by omega)]; exact HX.out.2.1 j (by omega) h2), HX4.out.alloc _, HX5.out.alloc _⟩⟩
            case measure => simp [intOf]; omega
    · obtain ⟨hx1, hx0, hx2, hx3⟩ := HX.out
      have hsz := hx2.lt
      have hsz0 := hx3.lt
      have q0 := hx2.cell 0 (by omega)
      have q1 := hx2.cell 1 (by omega)
      have q2 := hx2.cell 2 (by omega)
      have q3 := hx2.cell 3 (by omega)
      have r0 := hx3.cell 0 (by omega)
      have r1 := hx3.cell 1 (by omega)
      have r2 := hx3.cell 2 (by omega)
      have r3 := hx3.cell 3 (by omega)
      have f0 := blk_frozen hx3.2 0
      have f1 := blk_frozen hx3.2 1
      have f2 := blk_frozen hx3.2 2
      have f3 := blk_frozen hx3.2 3
      simp only [List.getD_cons_zero, List.getD_cons_succ] at r0 r1 r2 r3
      have HX5 := Lib.hid hx3; have HX4 := Lib.hid (four_list xs hx2.1)
      have HX6 := Lib.hid hx1; have HX7 := Lib.hid hx0
      clear hx1 hx0 hx2 hx3
      go_wp2_with fail
      refine bodyPost_ret (results_ctt rfl _ _ w.heap.size 71 _ (0, 0) _ rfl (HX5.out.put _ _ _ _).blk Try.underlying71 rfl (by kernel_rfl)) rfl ?_
      exact ⟨_, _, _, _, m, true, rfl, below_put HB.out (Nat.le_refl _) _ _ _ _, .inr ⟨by rw [← HP.out, List.drop_eq_nil_of_le (by omega)]; rfl, rfl, fun j hj => by
        rw [← HX4.out]
        by_cases hjk : j < k
        · rw [HX6.out j hjk, List.getElem?_eq_getElem (by omega)]; rfl
        · rw [HX7.out j (by omega) hj, List.getElem?_eq_none (by omega)]; rfl⟩⟩
end Go.Proofs.Ytcjjmhgboibbgaa.Q
