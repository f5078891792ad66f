/-
 Texts of the proof, in build order: words that the walks use, contracts of functions, plain facts.
-/
import Derived.Test.YtcjjmhgboibbgaaGreatBa6
import Derived.Test.YtcjjmhgboibbgaaGreatBa22
set_option maxHeartbeats 40000000
set_option maxRecDepth 100000
set_option linter.unusedVariables false
set_option linter.unusedSimpArgs false
section
namespace Go.Proofs.Q
open RowKit Shelf Pw Pl Pm
theorem valid_bd {c d : Int} (hin : -9223372036854775808 ≤ c) (h : real_Valid.f c d = some true) : (c = 0 ∧ d = 0) ∨ (c ≠ 0 ∧ -16777216 < c ∧ c < 16777216 ∧ -150 ≤ d ∧ d ≤ 150 ∧ (-150 < d → 8388608 ≤ c ∨ c ≤ -8388608)) := by
 unfold real_Valid.f at h
 by_cases h0 : (c == 0 && (d == 0)) = true
 ·simp at h0; exact .inl h0
 rw [if_neg h0] at h
 by_cases h1 : mx c (wrap64 (-c)) < 1
 ·rw [if_pos h1] at h; simp at h
 rw [if_neg h1] at h
 by_cases h2 : mx c (wrap64 (-c)) ≥ 16777216
 ·rw [if_pos h2] at h; simp at h
 rw [if_neg h2] at h
 have hc : -16777216 < c ∧ c < 16777216 ∧ c ≠ 0 ∧ mx c (wrap64 (-c)) = (if c < 0 then -c else c) := by
  unfold mx at h1 h2 ⊢
  unfold wrap64 at h1 h2 ⊢
  split at h1 <;> split at h2 <;> (split <;> omega)
 obtain ⟨c1, c2, c3, c4⟩ := hc
 refine .inr ⟨c3, c1, c2, ?_⟩
 by_cases h3 : d = -150
 ·exact ⟨by omega, by omega, by omega⟩
 rw [if_neg h3] at h
 by_cases h4 : mx c (wrap64 (-c)) ≥ 8388608
 ·rw [if_pos h4] at h
  rw [c4] at h4
  by_cases h5 : d > -150
  ·rw [if_pos h5] at h
   simp at h
   refine ⟨by omega, h, fun _ => ?_⟩
   split at h4 <;> omega
  ·rw [if_neg h5] at h; simp at h
 ·rw [if_neg h4] at h; simp at h
theorem shl_mul {m : Int} {n : Nat} (h : n ≤ 31) (h0 : -16777216 ≤ m) (h1 : m ≤ 16777216) : shl .i64 m (n : Int) = m * 2 ^ n := by
 have hp := pow2_up (a := n) (b := 31) h
 rw [show (2 : Int) ^ 31 = 2147483648 by decide] at hp
 have hp0 : (0 : Int) < 2 ^ n := Int.pow_pos (by decide)
 have b1 : m * 2 ^ n ≤ 16777216 * 2 ^ n := Int.mul_le_mul_of_nonneg_right h1 (by omega)
 have b2 : -16777216 * 2 ^ n ≤ m * 2 ^ n := Int.mul_le_mul_of_nonneg_right h0 (by omega)
 unfold shl
 rw [show min (n : Int).toNat IntKind.i64.bits = n by simp [IntKind.bits]; omega]
 exact i64_nn (by omega) (by omega)
theorem shr_div {m : Int} {n : Nat} (h : n < 60) : shr .i64 m (n : Int) = m / 2 ^ n := by
 unfold shr
 rw [show min (n : Int).toNat IntKind.i64.bits = n by simp [IntKind.bits]; omega]
/-- floor of both -/
theorem floor_eq (m e : Int) (h0 : -1099511627776 ≤ m) (h1 : m ≤ 1099511627776) (e0 : -40 ≤ e) (e1 : e ≤ 150) (hb : 0 ≤ e → -16777216 ≤ m ∧ m ≤ 16777216) (hbig : 8 < e → m = 0 ∨ 8388608 ≤ m ∨ m ≤ -8388608) :
  ∃ p, real_floor.f m e = some p ∧ real_whole.f p.1 p.2 = some (mad (flr m e)) := by
 have key : ∀ n : Int, (if n ≥ -2147483647 then some (n, decide (n ≤ 2147483647)) else some (n, false) : Option (Int × Bool)) = some (n, decide (¬ (n < -2147483647 ∨ 2147483647 < n))) := fun n => by
  by_cases a : n ≥ -2147483647
  ·rw [if_pos a]
   congr 2
   rw [decide_eq_decide]; omega
  ·rw [if_neg a]
   congr 2
   rw [eq_comm, decide_eq_false_iff_not]; omega
 have key2 : ∀ n : Int, real_whole.f n (decide (¬ (n < -2147483647 ∨ 2147483647 < n))) = some (mad (if n < -2147483647 ∨ 2147483647 < n then (0, false) else (n, true))) := fun n => by
  unfold real_whole.f mad
  by_cases a : n < -2147483647 ∨ 2147483647 < n
  ·simp [a]
  ·simp [a]
 unfold real_floor.f
 by_cases hm : m = 0
 ·subst hm
  exact ⟨_, by rw [if_pos rfl], by simp [real_whole.f, mad, flr]⟩
 rw [if_neg hm]
 by_cases h31 : e > 31
 ·exact ⟨_, by rw [if_pos h31], by simp [real_whole.f, mad, flr, hm, show 8 < e by omega]⟩
 rw [if_neg h31]
 by_cases hp : e ≥ 0
 ·obtain ⟨n, rfl⟩ : ∃ n : Nat, e = n := ⟨e.toNat, by omega⟩
  obtain ⟨c0, c1⟩ := hb hp
  rw [if_pos hp, if_pos hp, shl_mul (by omega) c0 c1, key]
  refine ⟨_, rfl, ?_⟩
  rw [key2]
  congr 2
  unfold flr
  rw [if_neg hm]
  by_cases h8 : 8 < (n : Int)
  ·rw [if_pos h8, if_pos ?_]
   have hp2 := pow2_up (show 9 ≤ n by omega)
   rw [show (2 : Int) ^ 9 = 512 by decide] at hp2
   rcases (hbig h8).resolve_left hm with g | g
   ·have : 8388608 * 512 ≤ m * 2 ^ n := Int.mul_le_mul g hp2 (by decide) (by omega)
    omega
   ·have : 8388608 * 512 ≤ (-m) * 2 ^ n := Int.mul_le_mul (by omega) hp2 (by decide) (by omega)
    rw [Int.neg_mul] at this
    omega
  ·rw [if_neg h8]
   have : flN m (n : Int) = m * 2 ^ n := by unfold flN; rw [if_pos hp]; rfl
   rw [this]
 ·obtain ⟨n, rfl⟩ : ∃ n : Nat, e = -(n : Int) := ⟨(-e).toNat, by omega⟩
  have hw : wrap64 (-(-(n : Int))) = n := by rw [wr64 (n := -(-(n : Int))) (by omega) (by omega)]; omega
  rw [if_neg hp, if_pos (show -(n : Int) > -60 by omega), hw, if_pos (show (0 : Int) ≤ (n : Int) by omega), shr_div (by omega), key]
  refine ⟨_, rfl, ?_⟩
  rw [key2]
  congr 2
  unfold flr
  have : flN m (-(n : Int)) = m / 2 ^ n := by unfold flN; rw [if_neg (by omega)]; congr 2; omega
  rw [if_neg hm, if_neg (show ¬ (8 : Int) < -(n : Int) by omega), this]
/-- Rounds of the reference is Round -/
theorem rn_eq {c d : Int} (hin : -9223372036854775808 ≤ c) (h : real_Valid.f c d = some true) : rnR c d = rnd c d := by
 have hb := valid_bd hin h
 unfold rnd real_Round.f
 rw [h]
 simp only [Option.bind_some, if_true]
 unfold rnR
 by_cases hd : 0 ≤ d
 ·rw [if_pos hd, if_pos hd]
  obtain ⟨p, h1, h2⟩ := floor_eq c d (by omega) (by omega) (by omega) (by omega) (fun _ => by omega) (fun h8 => by omega)
  rw [h1]
  simp only [Option.bind_some]
  rw [h2]
  rfl
 ·rw [if_neg hd, if_neg hd]
  by_cases hn : d < -40
  ·rw [if_pos hn, if_pos hn]; rfl
  ·rw [if_neg hn, if_neg hn]
   obtain ⟨s, hs⟩ : ∃ s : Nat, -d - 1 = s := ⟨(-d - 1).toNat, by omega⟩
   have hw : wrap64 (wrap64 (-d) - 1) = s := by rw [wr64 (n := -d) (by omega) (by omega), wr64 (by omega) (by omega)]; omega
   obtain ⟨q1, q2⟩ := pow_le40 (j := s) (by omega)
   have hsh : shl .i64 1 (s : Int) = 2 ^ s := by
    unfold shl
    rw [show min (s : Int).toNat IntKind.i64.bits = s by simp [IntKind.bits]; omega, Int.one_mul]
    exact i64_nn (by omega) (by omega)
   rw [hw, if_pos (by omega), hsh, wr64 (n := c + 2 ^ s) (by omega) (by omega), hs, Int.toNat_natCast]
   obtain ⟨p, h1, h2⟩ := floor_eq (c + 2 ^ s) d (by omega) (by omega) (by omega) (by omega) (fun _ => by omega) (fun h8 => by omega)
   rw [h1]
   simp only [Option.bind_some]
   rw [h2]
   rfl
end Go.Proofs.Q
end
section
namespace Go.Proofs.Q
open RowKit Shelf Pw Pl Pm
def Bq (b : Bool) (w : World) (e : Ending) (w' : World) : Prop := e = .returned (.bool b) ∧ Below w.heap.size w w'
def ivB (n : Int) : Bool := decide (-2147483647 ≤ n ∧ n ≤ 2147483647)
theorem rvalid1 (n : Int) (w : World) : Calls Tryz.prog 78 #[.int .i64 n] w (Bq (ivB n) w) := by
 by_cases h1 : -2147483647 ≤ n
 ·by_cases h2 : n ≤ 2147483647
  ·have hv : ivB n = true := by unfold ivB; simp; omega
   rw [hv]; clear hv
   go_enter Tryz.func78, Tryz.ntmps78
   go_wp2
   go_ret
   exact ⟨rfl, Below.refl _ _⟩
  ·have hv : ivB n = false := by unfold ivB; simp; omega
   rw [hv]; clear hv
   go_enter Tryz.func78, Tryz.ntmps78
   go_wp2
   go_ret
   exact ⟨rfl, Below.refl _ _⟩
 ·have hv : ivB n = false := by unfold ivB; simp; omega
  rw [hv]; clear hv
  go_enter Tryz.func78, Tryz.ntmps78
  go_wp2
  go_ret
  exact ⟨rfl, Below.refl _ _⟩
theorem rint (n : Int) (w : World) : Calls Tryz.prog 77 #[.int .i64 n] w fun e w' => e = .returned (.agg #[.int .i64 1, .int .i64 n, .int .i64 0, .int .i64 0, .bool false]) ∧ Below w.heap.size w w' := by
 go_enter Tryz.func77, Tryz.ntmps77
 go_wp2
 refine bodyPost_ret (v := .agg #[.int .i64 1, .int .i64 n, .int .i64 0, .int .i64 0, .bool false]) (by simp [results, Tryz.results77, go_sem]) rfl ⟨rfl, ?_⟩
 repeat (first | exact Below.refl _ _ | refine bA ?_ _)
theorem rreal (c d : Int) (w : World) : Calls Tryz.prog 68 #[.agg #[.int .i64 c, .int .i64 d]] w fun e w' => e = .returned (.agg #[.int .i64 2, .int .i64 0, .int .i64 c, .int .i64 d, .bool false]) ∧ Below w.heap.size w w' := by
 go_enter Tryz.func68, Tryz.ntmps68
 go_wp2
 refine bodyPost_ret (v := .agg #[.int .i64 2, .int .i64 0, .int .i64 c, .int .i64 d, .bool false]) (by simp [results, Tryz.results68, go_sem]) rfl ⟨rfl, ?_⟩
 repeat (first | exact Below.refl _ _ | refine bA ?_ _)
theorem rbool (b : Bool) (w : World) : Calls Tryz.prog 80 #[.bool b] w fun e w' => e = .returned (.agg #[.int .i64 3, .int .i64 0, .int .i64 0, .int .i64 0, .bool b]) ∧ Below w.heap.size w w' := by
 go_enter Tryz.func80, Tryz.ntmps80
 go_wp2
 refine bodyPost_ret (v := .agg #[.int .i64 3, .int .i64 0, .int .i64 0, .int .i64 0, .bool b]) (by simp [results, Tryz.results80, go_sem]) rfl ⟨rfl, ?_⟩
 repeat (first | exact Below.refl _ _ | refine bA ?_ _)
def mgn (c : Int) : Int := if c < 0 then -c else c
def rvB (c d : Int) : Bool := if c = 0 then decide (d = 0) else decide (mgn c < 16777216 ∧ -150 ≤ d ∧ d ≤ 150 ∧ (8388608 ≤ mgn c ∨ d = -150))
theorem rvalid2 (c d : Int) (h0 : -9223372036854775808 ≤ c) (h1 : c ≤ 9223372036854775807) (w : World) : Calls Tryz.prog 79 #[.agg #[.int .i64 c, .int .i64 d]] w (Bq (rvB c d) w) := by
 have hal : Below w.heap.size w (w.alloc (.cells #[.int .i64 c, .int .i64 d] 36)) := bA (Below.refl _ _) _
 by_cases hc : c = 0
 ·subst hc
  by_cases hd : d = 0
  ·subst hd
   go_enter Tryz.func79, Tryz.ntmps79
   go_wp2
   go_ret
   exact ⟨rfl, hal⟩
  ·have b1 : (d == 0) = false := beq_eq_false_iff_ne.mpr hd
   have hv : rvB 0 d = false := by unfold rvB; simp [hd]
   rw [hv]; clear hv hd
   go_enter Tryz.func79, Tryz.ntmps79
   go_wp2
   go_ret
   exact ⟨rfl, hal⟩
 have hcb : (c == 0) = false := beq_eq_false_iff_ne.mpr hc
 by_cases hn : c < 0
 ·by_cases hmin : c = -9223372036854775808
  ·subst hmin
   have hv : rvB (-9223372036854775808) d = false := by unfold rvB mgn; simp
   rw [hv]; clear hv hc hcb
   have hw : wrap64 9223372036854775808 = -9223372036854775808 := by unfold wrap64; decide
   go_enter Tryz.func79, Tryz.ntmps79
   go_wp2
   go_ret
   exact ⟨rfl, hal⟩
  ·have hm0 : ¬ (-c : Int) < 0 := by omega
   have hm1 : -9223372036854775807 ≤ c := by omega
   have hm2 : (-c == 0) = false := beq_eq_false_iff_ne.mpr (by omega)
   by_cases g1 : -c < 16777216
   ·by_cases g2 : d < -150
    ·have hv : rvB c d = false := by unfold rvB mgn; rw [if_neg hc]; simp; omega
     rw [hv]; clear hv hc hcb
     go_enter Tryz.func79, Tryz.ntmps79
     go_wp2
     go_ret
     exact ⟨rfl, hal⟩
    ·by_cases g3 : 150 < d
     ·have hv : rvB c d = false := by unfold rvB mgn; rw [if_neg hc]; simp; omega
      rw [hv]; clear hv hc hcb
      go_enter Tryz.func79, Tryz.ntmps79
      go_wp2
      go_ret
      exact ⟨rfl, hal⟩
     ·by_cases g4 : 8388608 ≤ -c
      ·have hv : rvB c d = true := by unfold rvB mgn; rw [if_neg hc]; simp; omega
       rw [hv]; clear hv hc hcb
       go_enter Tryz.func79, Tryz.ntmps79
       go_wp2
       go_ret
       exact ⟨rfl, hal⟩
      ·by_cases g5 : d = -150
       ·have b5 : (d == -150) = true := beq_iff_eq.mpr g5
        have hv : rvB c d = true := by unfold rvB mgn; rw [if_neg hc]; simp; omega
        rw [hv]; clear hv hc hcb
        have g6 := Lib.hid g5
        clear g5
        go_enter Tryz.func79, Tryz.ntmps79
        go_wp2
        go_ret
        exact ⟨rfl, hal⟩
       ·have b5 : (d == -150) = false := beq_eq_false_iff_ne.mpr g5
        have hv : rvB c d = false := by unfold rvB mgn; rw [if_neg hc]; simp; omega
        rw [hv]; clear hv hc hcb
        go_enter Tryz.func79, Tryz.ntmps79
        go_wp2
        go_ret
        exact ⟨rfl, hal⟩
   ·have hv : rvB c d = false := by unfold rvB mgn; rw [if_neg hc]; simp; omega
    rw [hv]; clear hv hc hcb
    go_enter Tryz.func79, Tryz.ntmps79
    go_wp2
    go_ret
    exact ⟨rfl, hal⟩
 ·have hm0 : 0 < c := by omega
  by_cases g1 : c < 16777216
  ·by_cases g2 : d < -150
   ·have hv : rvB c d = false := by unfold rvB mgn; rw [if_neg hc]; simp; omega
    rw [hv]; clear hv hc hcb
    go_enter Tryz.func79, Tryz.ntmps79
    go_wp2
    go_ret
    exact ⟨rfl, hal⟩
   ·by_cases g3 : 150 < d
    ·have hv : rvB c d = false := by unfold rvB mgn; rw [if_neg hc]; simp; omega
     rw [hv]; clear hv hc hcb
     go_enter Tryz.func79, Tryz.ntmps79
     go_wp2
     go_ret
     exact ⟨rfl, hal⟩
    ·by_cases g4 : 8388608 ≤ c
     ·have hv : rvB c d = true := by unfold rvB mgn; rw [if_neg hc]; simp; omega
      rw [hv]; clear hv hc hcb
      go_enter Tryz.func79, Tryz.ntmps79
      go_wp2
      go_ret
      exact ⟨rfl, hal⟩
     ·by_cases g5 : d = -150
      ·have b5 : (d == -150) = true := beq_iff_eq.mpr g5
       have hv : rvB c d = true := by unfold rvB mgn; rw [if_neg hc]; simp; omega
       rw [hv]; clear hv hc hcb
       have g6 := Lib.hid g5
       clear g5
       go_enter Tryz.func79, Tryz.ntmps79
       go_wp2
       go_ret
       exact ⟨rfl, hal⟩
      ·have b5 : (d == -150) = false := beq_eq_false_iff_ne.mpr g5
       have hv : rvB c d = false := by unfold rvB mgn; rw [if_neg hc]; simp; omega
       rw [hv]; clear hv hc hcb
       go_enter Tryz.func79, Tryz.ntmps79
       go_wp2
       go_ret
       exact ⟨rfl, hal⟩
  ·have hv : rvB c d = false := by unfold rvB mgn; rw [if_neg hc]; simp; omega
   rw [hv]; clear hv hc hcb
   go_enter Tryz.func79, Tryz.ntmps79
   go_wp2
   go_ret
   exact ⟨rfl, hal⟩
theorem rvB_real {c d : Int} (h0 : -9223372036854775808 ≤ c) (h1 : c ≤ 9223372036854775807) : rvB c d = true ↔ real_Valid.f c d = some true := by
 constructor
 ·intro h
  unfold rvB at h
  by_cases hc : c = 0
  ·rw [if_pos hc] at h; simp at h; subst hc h; rfl
  ·rw [if_neg hc] at h
   simp at h
   obtain ⟨g1, g2, g3, g4⟩ := h
   have hm : mx c (wrap64 (-c)) = mgn c := by
    unfold mgn at g1 ⊢
    unfold mx
    rw [wr64 (n := -c) (by split at g1 <;> omega) (by split at g1 <;> omega)]
    split <;> split <;> omega
   unfold real_Valid.f
   have hm1 : 1 ≤ mgn c := by unfold mgn; split <;> omega
   rw [if_neg (by simp [hc]), hm, if_neg (by omega), if_neg (by omega)]
   by_cases hd : d = -150
   ·rw [if_pos hd]
   ·rw [if_neg hd, if_pos (by omega), if_pos (by omega)]; simp [g3]
 ·intro h
  rcases valid_bd h0 h with ⟨rfl, rfl⟩ | ⟨g0, g1, g2, g3, g4, g5⟩
  ·rfl
  ·unfold rvB
   rw [if_neg g0]
   unfold mgn
   simp
   split <;> omega
theorem real_total (c d : Int) : ∃ b, real_Valid.f c d = some b := by
 unfold real_Valid.f
 repeat' split
 all_goals exact ⟨_, rfl⟩
end Go.Proofs.Q
end
section
namespace Go.Proofs.Q
open RowKit Pw Pl Pm
theorem take_next {α : Type} {l r : List α} {d : α} {j : Nat} (h : l.drop j = d :: r) : l.take (j + 1) = l.take j ++ [d] := by
 have hj := lt_drop h
 rw [List.take_add_one]
 have : l[j]? = some d := by
  have := congrArg (fun x => x[0]?) h
  simpa using this
 rw [this]; rfl
theorem prodOk_bad {l : List S54} {d : S54} (h : d ∈ l) (hd : d.f1 < d.f0) : ∀ n, prodOk l n = none := by
 induction l with
 | nil => cases h
 | cons e r ih =>
  intro n
  unfold prodOk
  by_cases he : ext e < 1 ∨ 1000 < ext e
  ·rw [if_pos he]
  ·rw [if_neg he]
   split
   ·rfl
   ·rcases List.mem_cons.1 h with rfl | h
    ·unfold ext at he; omega
    ·exact ih h _
theorem err_l2 (l : List S54) (hn : ∀ d ∈ l, near d) (hp : ∀ d ∈ l, d.f0 ≤ d.f1) (h4 : l.length ≤ 4) : ∀ (r : List S54) (j : Nat) (n : Int), l.drop j = r → 1 ≤ n → n ≤ 1000 → Ev (fun k => manorboyref08_Error.l2 k l n (j : Int)) (if prodOk r n = none then 3 else 0) := by
 intro r
 induction r with
 | nil =>
  intro j n h _ _
  refine Ev.one fun k => ?_
  simp only [manorboyref08_Error.l2, if_neg (not_lt_nil h), prodOk]
  rfl
 | cons d r ih =>
  intro j n h h1 h2
  have hj := lt_drop h
  have hm := mem_drop h
  obtain ⟨a1, a2, a3, a4⟩ := hn d hm
  have hle := hp d hm
  have e1 : wrap64 (d.f1 - d.f0) = d.f1 - d.f0 := wrap64_id (by omega) (by omega)
  have e2 : wrap64 (d.f1 - d.f0 + 1) = ext d := wrap64_id (by omega) (by omega)
  have e3 : wrap64 ((j : Int) + 1) = ((j + 1 : Nat) : Int) := by rw [wrap64_id (by omega) (by omega)]; rfl
  have hx : 1 ≤ ext d := by unfold ext; omega
  have c1 : (j : Int) < (l.length : Int) := by omega
  have c2 : (0 : Int) ≤ (j : Int) := by omega
  by_cases hbig : 1000 < ext d
  ·have em : mn (ext d) 1001 = 1001 := by unfold mn; split <;> omega
   have ew : wrap64 (n * 1001) = n * 1001 := wrap64_id (by omega) (by omega)
   refine Ev.one fun k => ?_
   simp only [manorboyref08_Error.l2, if_pos c1, if_pos c2, rdT_drop h, e1, e2, em, ew]
   have ep : prodOk (d :: r) n = none := by rw [prodOk, if_pos (by omega)]
   rw [ep, if_pos (by omega), if_pos rfl]
  ·have em : mn (ext d) 1001 = ext d := by unfold mn; split <;> omega
   have hlow : 1 ≤ n * ext d := by
    have := Int.mul_le_mul h1 hx (by omega) (by omega)
    simpa using this
   have hup : n * ext d ≤ 1000 * 1000 := Int.mul_le_mul h2 (by omega) (by omega) (by omega)
   have ew : wrap64 (n * ext d) = n * ext d := wrap64_id (by omega) (by omega)
   by_cases hc : 1000 < n * ext d
   ·refine Ev.one fun k => ?_
    simp only [manorboyref08_Error.l2, if_pos c1, if_pos c2, rdT_drop h, e1, e2, em, ew]
    have ep : prodOk (d :: r) n = none := by rw [prodOk, if_neg (by omega), if_pos hc]
    rw [ep, if_pos (by omega), if_pos rfl]
   ·have ep : prodOk (d :: r) n = prodOk r (n * ext d) := by rw [prodOk, if_neg (by omega), if_neg (by omega)]
    rw [ep]
    refine Ev.succ (ih (j + 1) (n * ext d) (drop_next h) hlow (by omega)) fun k => ?_
    simp only [manorboyref08_Error.l2, if_pos c1, if_pos c2, rdT_drop h, e1, e2, em, ew, e3]
    rw [if_neg (by omega)]
theorem err_l1 (l : List S54) (hn : ∀ d ∈ l, near d) (h4 : l.length ≤ 4) : ∀ (r : List S54) (j : Nat), l.drop j = r → (∀ d ∈ l.take j, d.f0 ≤ d.f1) → Ev (fun k => manorboyref08_Error.l1 k l 1 (j : Int)) (if prodOk l 1 = none then 3 else 0) := by
 intro r
 induction r with
 | nil =>
  intro j h ht
  have hj := List.drop_eq_nil_iff.1 h
  rw [List.take_of_length_le hj] at ht
  refine Ev.succ (err_l2 l hn ht h4 l 0 1 rfl (by omega) (by omega)) fun k => ?_
  simp only [manorboyref08_Error.l1, if_neg (not_lt_nil h)]
  rfl
 | cons d r ih =>
  intro j h ht
  have hj := lt_drop h
  have e3 : wrap64 ((j : Int) + 1) = ((j + 1 : Nat) : Int) := by rw [wrap64_id (by omega) (by omega)]; rfl
  have c1 : (j : Int) < (l.length : Int) := by omega
  have c2 : (0 : Int) ≤ (j : Int) := by omega
  by_cases hc : d.f1 < d.f0
  ·rw [if_pos (prodOk_bad (mem_drop h) hc 1)]
   refine Ev.one fun k => ?_
   simp only [manorboyref08_Error.l1, if_pos c1, if_pos c2, rdT_drop h]
   rw [if_pos (by omega)]
  ·refine Ev.succ (ih (j + 1) (drop_next h) ?_) fun k => ?_
   ·rw [take_next h]
    intro e he
    rcases List.mem_append.1 he with he | he
    ·exact ht e he
    ·rw [List.mem_singleton.1 he]; omega
   ·simp only [manorboyref08_Error.l1, if_pos c1, if_pos c2, rdT_drop h, e3]
    rw [if_neg (by omega)]
theorem far_near {d : S54} : dimFar d = false ↔ near d := by
 unfold dimFar farB near
 simp only [Bool.or_eq_false_iff, decide_eq_false_iff_not]
 omega
theorem err_l0 (l : List S54) (h1 : 1 ≤ l.length) (h4 : l.length ≤ 4) : ∀ (r : List S54) (j : Nat), l.drop j = r → (∀ d ∈ l.take j, near d) → Ev (fun k => manorboyref08_Error.l0 k l (j : Int)) (errOf l) := by
 intro r
 induction r with
 | nil =>
  intro j h ht
  have hj := List.drop_eq_nil_iff.1 h
  rw [List.take_of_length_le hj] at ht
  have hd : isDimsB l = true := by
   unfold isDimsB
   simp only [Bool.and_eq_true, decide_eq_true_eq, Bool.not_eq_true', List.any_eq_false]
   exact ⟨⟨h1, h4⟩, fun d hd => by rw [far_near.2 (ht d hd)]; simp⟩
  have := err_l1 l ht h4 l 0 rfl (by simp)
  unfold errOf
  rw [if_neg (by rw [hd]; simp)]
  refine Ev.succ this fun k => ?_
  simp only [manorboyref08_Error.l0, if_neg (not_lt_nil h)]
  rfl
 | cons d r ih =>
  intro j h ht
  have hj := lt_drop h
  have e3 : wrap64 ((j : Int) + 1) = ((j + 1 : Nat) : Int) := by rw [wrap64_id (by omega) (by omega)]; rfl
  have c1 : (j : Int) < (l.length : Int) := by omega
  have c2 : (0 : Int) ≤ (j : Int) := by omega
  by_cases hc : near d
  ·have hc' := hc
   obtain ⟨a1, a2, a3, a4⟩ := hc'
   refine Ev.succ (ih (j + 1) (drop_next h) ?_) fun k => ?_
   ·rw [take_next h]
    intro e he
    rcases List.mem_append.1 he with he | he
    ·exact ht e he
    ·rw [List.mem_singleton.1 he]; exact hc
   ·simp only [manorboyref08_Error.l0, if_pos c1, if_pos c2, rdT_drop h, e3]
    rw [if_neg (by omega), if_neg (by omega), if_neg (by omega), if_neg (by omega)]
  ·have hE : errOf l = 1 := by
    unfold errOf
    rw [if_pos]
    unfold isDimsB
    have : l.any dimFar = true := List.any_eq_true.2 ⟨d, mem_drop h, by
     cases hf : dimFar d with
     | true => rfl
     | false => exact absurd (far_near.1 hf) hc⟩
    rw [this]; simp
   rw [hE]
   refine Ev.one fun k => ?_
   simp only [manorboyref08_Error.l0, if_pos c1, if_pos c2, rdT_drop h]
   unfold near at hc
   by_cases b1 : d.f0 < -2147483647
   ·rw [if_pos b1]
   ·rw [if_neg b1]
    by_cases b2 : d.f0 > 2147483647
    ·rw [if_pos b2]
    ·rw [if_neg b2]
     by_cases b3 : d.f1 < -2147483647
     ·rw [if_pos b3]
     ·rw [if_neg b3, if_pos (by omega)]
/-- the specification's word on a list of dimensions -/
theorem ref_err (l : List S54) : Ev (fun k => manorboyref08_Error.f k l) (errOf l) := by
 by_cases h1 : 1 ≤ l.length
 ·by_cases h4 : l.length ≤ 4
  ·have := err_l0 l h1 h4 l 0 rfl (by simp)
   obtain ⟨K, hK⟩ := this
   refine ⟨K + 1, fun k hk => ?_⟩
   obtain ⟨k, rfl⟩ : ∃ m, k = m + 1 := ⟨k - 1, by omega⟩
   have hk := hK k (by omega)
   simp only [manorboyref08_Error.f, if_neg (show ¬ ((l.length : Int) < 1) by omega), show decide ((l.length : Int) > 4) = false by simp; omega, manorboyref08_Error.j0]
   simpa using hk
  ·have hE : errOf l = 1 := by unfold errOf isDimsB; rw [if_pos (by simp; omega)]
   rw [hE]
   refine Ev.one fun k => ?_
   simp only [manorboyref08_Error.f, if_neg (show ¬ ((l.length : Int) < 1) by omega), show decide ((l.length : Int) > 4) = true by simp; omega, manorboyref08_Error.j0, if_true]
 ·have hE : errOf l = 1 := by unfold errOf isDimsB; rw [if_pos (by simp; omega)]
  rw [hE]
  refine Ev.one fun k => ?_
  simp only [manorboyref08_Error.f, if_pos (show ((l.length : Int) < 1) by omega), manorboyref08_Error.j0, if_true]
end Go.Proofs.Q
end
section
namespace Go.Proofs.Q
open RowKit Pw Pl Pm
attribute [local go_sem] max2_int min2_int max_two min_two max_three min_three max_four min_four
attribute [local go_sem high] eqA54
def manorboyref08_IsType.f (a0 : Int) : Option (Bool) := if a0 ≥ 1 then (some (decide (a0 ≤ 3))) else (some false)
theorem manorboyref08_IsType.calls (a0 : Int) (r : Bool) (w : World) (h : manorboyref08_IsType.f a0 = some r) :
  Calls Tryz.prog 42 #[.int .i64 a0] w fun e w' => e = .returned (.bool r) ∧ Dn w w' := by
 have H : (if a0 ≥ 1 then (some (decide (a0 ≤ 3))) else (some false)) = some r := h
 clear h
 by_cases c2 : a0 ≥ 1
 ·rw [if_pos c2] at H
  have c2b0 : decide (1 ≤ a0) = true := decide_eq_true c2
  clear c2
  obtain rfl := Option.some.inj H
  go_enter Tryz.func42, Tryz.ntmps42
  go_wp2
  go_ret
  exact ⟨by first | rfl | (simp; done) | (simp [*]; done), by repeat (first | exact Dn.refl _ | apply Dn.step)⟩
 ·rw [if_neg c2] at H
  have c2b0 : decide (1 ≤ a0) = false := decide_eq_false c2
  clear c2
  obtain rfl := Option.some.inj H
  go_enter Tryz.func42, Tryz.ntmps42
  go_wp2
  go_ret
  exact ⟨by first | rfl | (simp; done) | (simp [*]; done), by repeat (first | exact Dn.refl _ | apply Dn.step)⟩
def manorboyref08_size.l0 : Nat → List (S54) → Int → Int → Option (Int)
 | 0, _, _, _ => none
 | k + 1, x0, x3, x4 => if x4 < (x0.length : Int) then (if 0 ≤ x4 then (manorboyref08_size.l0 k x0 (wrap64 (x3 * (wrap64 ((wrap64 (((rd_T54 x0 x4).f1) - ((rd_T54 x0 x4).f0))) + 1)))) (wrap64 (x4 + 1))) else (none)) else (some x3)
def manorboyref08_size.f (k : Nat) (l0 : List (S54)) : Option (Int) := manorboyref08_size.l0 k l0 1 0
theorem manorboyref08_size.calls (k : Nat) (A0 : Option Addr) (c0 : Nat) (l0 : List (S54)) (r : Int) (w : World) (hr0 : Kd.C k54 w A0 l0.length l0) (hc0 : l0.length ≤ c0) (h : manorboyref08_size.f k l0 = some r) :
  Calls Tryz.prog 46 #[.slice A0 l0.length c0] w fun e w' => e = .returned (.int .i64 r) ∧ Dn w w' := by
 have HR0 := As.mk hr0
 have HC0 := As.mk hc0
 clear hr0 hc0
 have H : (manorboyref08_size.l0 k l0 1 0) = some r := h
 clear h
 have H' := As.mk H
 clear H
 go_enter Tryz.func46, Tryz.ntmps46
 go_wp2
 repeat (go_quiet (fail); try go_wp2)
 go_loopg [3, 4] k (fun kq v3 v4 w' => ∃ (x3_1 : Int) (x4_1 : Int), v3 = .int .i64 x3_1 ∧ v4 = .int .i64 x4_1 ∧ As (manorboyref08_size.l0 kq l0 x3_1 x4_1 = some r) ∧ As (kq ≤ k) ∧ Dn w w')
 case atStart => exact ⟨(1), (0), (by first | rfl | (simp; done) | (simp [*]; done)), (by first | rfl | (simp; done) | (simp [*]; done)), H', ⟨Nat.le_refl _⟩, by repeat (first | exact Dn.refl _ | apply Dn.step)⟩
 case round =>
  clear H'
  obtain ⟨x3_1, x4_1, rfl, rfl, HA, HK1, ⟨m1, rfl⟩⟩ := hrel
  cases gk with
  | zero => exact absurd HA.out (by simp [manorboyref08_size.l0])
  | succ k1 =>
   have H := HA.out
   clear HA
   simp only [manorboyref08_size.l0] at H
   by_cases c2 : x4_1 < (l0.length : Int)
   ·rw [if_pos c2] at H
    have c2b0 : decide (x4_1 < (l0.length : Int)) = true := decide_eq_true c2
    clear c2
    by_cases c3 : 0 ≤ x4_1
    ·rw [if_pos c3] at H
     have c3b0 : decide (0 ≤ x4_1) = true := decide_eq_true c3
     clear c3
     have H' := As.mk H
     clear H
     have p129 : 0 ≤ (x4_1 : Int) := of_decide_eq_true (by with_reducible assumption)
     have q129 : x4_1 < (l0.length : Int) := of_decide_eq_true (by with_reducible assumption)
     obtain ⟨ad129, e129, hx129_0, hx129_1⟩ := at_T54 HR0.out x4_1 p129 q129
     cases e129
     replace p129 := eq_true p129
     replace q129 := eq_true q129
     have p130 : 0 ≤ (x4_1 : Int) := of_decide_eq_true (by with_reducible assumption)
     have q130 : x4_1 < (l0.length : Int) := of_decide_eq_true (by with_reducible assumption)
     obtain ⟨ad130, e130, hx130_0, hx130_1⟩ := at_T54 HR0.out x4_1 p130 q130
     obtain rfl : ad129 = ad130 := (by injection e130)
     replace p130 := eq_true p130
     replace q130 := eq_true q130
     go_wp2
     repeat (go_quiet (fail); try go_wp2)
     go_roundg k1
     case measure => have := HK1.out; omega
     case rel => exact ⟨(wrap64 (x3_1 * (wrap64 ((wrap64 (((rd_T54 l0 x4_1).f1) - ((rd_T54 l0 x4_1).f0))) + 1)))), (wrap64 (x4_1 + 1)), (by first | rfl | (simp; done) | (simp [*]; done)), (by first | rfl | (simp; done) | (simp [*]; done)), H', ⟨by have := HK1.out; omega⟩, by repeat (first | exact Dn.refl _ | apply Dn.step)⟩
    ·rw [if_neg c3] at H
     exact absurd H (by simp)
   ·rw [if_neg c2] at H
    have c2b0 : decide (x4_1 < (l0.length : Int)) = false := decide_eq_false c2
    clear c2
    obtain rfl := Option.some.inj H
    go_wp2
    repeat (go_quiet (fail); try go_wp2)
    go_ret
    exact ⟨by first | rfl | (simp; done) | (simp [*]; done), by repeat (first | exact Dn.refl _ | apply Dn.step)⟩
def manorboyref08_zero.f (a0 : Int) : Option (Int × Int × Int × Int × Bool) := some (a0, 0, 0, 0, false)
theorem manorboyref08_zero.calls (a0 : Int) (r1 : Int) (r2 : Int) (r3 : Int) (r4 : Int) (r5 : Bool) (w : World) (h : manorboyref08_zero.f a0 = some (r1, r2, r3, r4, r5)) :
  Calls Tryz.prog 47 #[.int .i64 a0] w fun e w' => e = .returned (.agg #[.int .i64 r1, .int .i64 r2, .int .i64 r3, .int .i64 r4, .bool r5]) ∧ Below w.heap.size w w' := by
 have hu38 := Tryz.underlying38
 have HB := As.mk (Below.refl w.heap.size w)
 have H : (some (a0, 0, 0, 0, false)) = some (r1, r2, r3, r4, r5) := h
 clear h
 simp only [Option.some.injEq, Prod.mk.injEq] at H
 obtain ⟨rfl, rfl, rfl, rfl, rfl⟩ := H
 go_enter Tryz.func47, Tryz.ntmps47
 go_wp2_with (first | ((with_reducible refine gD (N := 2) rfl ?_); refine bX (by rfl) (N := 2) (by rfl) (cs := #[.int .i64 0, .int .i64 0, .int .i64 0, .int .i64 0, .bool false]) (t := 38) (by first | (go_simp; done) | (go_simp; rfl)) ?_; intro gb131 hg w2 hbox hb; have BK131 := As.mk (hbox); have GW131 := As.mk ((by rw [hg]; exact (bZ (by repeat (first | exact HB.out | apply bA | apply bN | apply bD))) : w.heap.size ≤ gb131)); have GE131 := GW131; replace HB := As.mk (bS (by repeat (first | exact HB.out | apply bA | apply bN | apply bD)) hb); clear hb hbox hg; have hcz3_0 : w2.cell? ⟨gb131, 0, none⟩ = some (.int .i64 0) := (kC BK131.out 0).trans rfl; have hcz3_1 : w2.cell? ⟨gb131, 1, none⟩ = some (.int .i64 0) := (kC BK131.out 1).trans rfl; have hcz3_2 : w2.cell? ⟨gb131, 2, none⟩ = some (.int .i64 0) := (kC BK131.out 2).trans rfl; have hcz3_3 : w2.cell? ⟨gb131, 3, none⟩ = some (.int .i64 0) := (kC BK131.out 3).trans rfl; have hcz3_4 : w2.cell? ⟨gb131, 4, none⟩ = some (.bool false) := (kC BK131.out 4).trans rfl; have hfz3_0 := kF BK131.out 0; have hfz3_1 := kF BK131.out 1; have hfz3_2 := kF BK131.out 2; have hfz3_3 := kF BK131.out 3; have hfz3_4 := kF BK131.out 4))
 refine bodyPost_ret (results_cell_row rfl _ _ gb131 38 #[.int .i64 a0, .int .i64 0, .int .i64 0, .int .i64 0, .bool false] (0, 0) _ rfl (by (with_reducible repeat (first | apply kN | apply kD | apply kA)); refine kP (cs := #[.int .i64 a0, .int .i64 0, .int .i64 0, .int .i64 0, .bool false]) ?_ 4 _ rfl; (with_reducible repeat (first | apply kN | apply kD | apply kA)); refine kP (cs := #[.int .i64 a0, .int .i64 0, .int .i64 0, .int .i64 0, .bool false]) ?_ 3 _ rfl; (with_reducible repeat (first | apply kN | apply kD | apply kA)); refine kP (cs := #[.int .i64 a0, .int .i64 0, .int .i64 0, .int .i64 0, .bool false]) ?_ 2 _ rfl; (with_reducible repeat (first | apply kN | apply kD | apply kA)); refine kP (cs := #[.int .i64 a0, .int .i64 0, .int .i64 0, .int .i64 0, .bool false]) ?_ 1 _ rfl; (with_reducible repeat (first | apply kN | apply kD | apply kA)); refine kP (cs := #[.int .i64 0, .int .i64 0, .int .i64 0, .int .i64 0, .bool false]) ?_ 0 _ rfl; (with_reducible repeat (first | apply kN | apply kD | apply kA)); exact BK131.out) Tryz.underlying38 rfl (by kernel_rfl)) rfl ?_
 exact ⟨by first | rfl | (simp [eN, eS] <;> rfl) | (simp [*, eN, eS] <;> rfl), by repeat (first | (with_reducible first | exact HB.out | apply bA | apply bN | apply bD | refine bT ?_ GE131.out) | exact HB.out)⟩
def manorboyref08_In.l0 : Nat → List (S54) → List Int → Int → Option (Bool)
 | 0, _, _, _ => none
 | k + 1, x0, x1, x5 => if x5 < (x0.length : Int) then (if 0 ≤ x5 then (if x5 < (x1.length : Int) then (if (rd x1 x5) < ((rd_T54 x0 x5).f0) then (some false) else (if (rd x1 x5) > ((rd_T54 x0 x5).f1) then (some false) else (manorboyref08_In.l0 k x0 x1 (wrap64 (x5 + 1))))) else (none)) else (none)) else (some true)
def manorboyref08_In.f (k : Nat) (l0 : List (S54)) (l1 : List Int) : Option (Bool) := manorboyref08_In.l0 k l0 l1 0
theorem manorboyref08_In.calls (k : Nat) (A0 : Option Addr) (c0 : Nat) (l0 : List (S54)) (A1 : Option Addr) (c1 : Nat) (l1 : List Int) (r : Bool) (w : World) (hr0 : Kd.C k54 w A0 l0.length l0) (hc0 : l0.length ≤ c0) (hr1 : Kd.C (Kd.int .i64) w A1 l1.length l1) (hc1 : l1.length ≤ c1) (h : manorboyref08_In.f k l0 l1 = some r) :
  Calls Tryz.prog 40 #[.slice A0 l0.length c0, .slice A1 l1.length c1] w fun e w' => e = .returned (.bool r) ∧ Dn w w' := by
 have HR0 := As.mk hr0
 have HC0 := As.mk hc0
 clear hr0 hc0
 have HR1 := As.mk hr1
 have HC1 := As.mk hc1
 clear hr1 hc1
 have H : (manorboyref08_In.l0 k l0 l1 0) = some r := h
 clear h
 have H' := As.mk H
 clear H
 go_enter Tryz.func40, Tryz.ntmps40
 go_wp2
 repeat (go_quiet (fail); try go_wp2)
 go_loopg [5] k (fun kq v5 w' => ∃ (x5_1 : Int), v5 = .int .i64 x5_1 ∧ As (manorboyref08_In.l0 kq l0 l1 x5_1 = some r) ∧ As (kq ≤ k) ∧ Dn w w')
 case atStart => exact ⟨(0), (by first | rfl | (simp; done) | (simp [*]; done)), H', ⟨Nat.le_refl _⟩, by repeat (first | exact Dn.refl _ | apply Dn.step)⟩
 case round =>
  clear H'
  try clear c1
  try clear p2
  obtain ⟨x5_1, rfl, HA, HK1, ⟨m1, rfl⟩⟩ := hrel
  cases gk with
  | zero => exact absurd HA.out (by simp [manorboyref08_In.l0])
  | succ k1 =>
   have H := HA.out
   clear HA
   simp only [manorboyref08_In.l0] at H
   by_cases c3 : x5_1 < (l0.length : Int)
   ·rw [if_pos c3] at H
    have c3b0 : decide (x5_1 < (l0.length : Int)) = true := decide_eq_true c3
    clear c3
    by_cases c4 : 0 ≤ x5_1
    ·rw [if_pos c4] at H
     have c4b0 : decide (0 ≤ x5_1) = true := decide_eq_true c4
     clear c4
     by_cases c5 : x5_1 < (l1.length : Int)
     ·rw [if_pos c5] at H
      have c5b0 : decide (x5_1 < (l1.length : Int)) = true := decide_eq_true c5
      clear c5
      by_cases c6 : (rd l1 x5_1) < ((rd_T54 l0 x5_1).f0)
      ·rw [if_pos c6] at H
       have c6b0 : decide ((rd l1 x5_1) < ((rd_T54 l0 x5_1).f0)) = true := decide_eq_true c6
       clear c6
       obtain rfl := Option.some.inj H
       have p202 : 0 ≤ (x5_1 : Int) := of_decide_eq_true (by with_reducible assumption)
       have q202 : x5_1 < (l1.length : Int) := of_decide_eq_true (by with_reducible assumption)
       obtain ⟨ad202, e202, hx202_0⟩ := Kd.at_int HR1.out x5_1 p202 q202
       cases e202
       replace p202 := eq_true p202
       replace q202 := eq_true q202
       have p203 : 0 ≤ (x5_1 : Int) := of_decide_eq_true (by with_reducible assumption)
       have q203 : x5_1 < (l0.length : Int) := of_decide_eq_true (by with_reducible assumption)
       obtain ⟨ad203, e203, hx203_0, hx203_1⟩ := at_T54 HR0.out x5_1 p203 q203
       cases e203
       replace p203 := eq_true p203
       replace q203 := eq_true q203
       go_wp2
       repeat (go_quiet (fail); try go_wp2)
       go_ret
       exact ⟨by first | rfl | (simp; done) | (simp [*]; done), by repeat (first | exact Dn.refl _ | apply Dn.step)⟩
      ·rw [if_neg c6] at H
       have c6b0 : decide ((rd l1 x5_1) < ((rd_T54 l0 x5_1).f0)) = false := decide_eq_false c6
       clear c6
       by_cases c7 : (rd l1 x5_1) > ((rd_T54 l0 x5_1).f1)
       ·rw [if_pos c7] at H
        have c7b0 : decide (((rd_T54 l0 x5_1).f1) < (rd l1 x5_1)) = true := decide_eq_true c7
        clear c7
        obtain rfl := Option.some.inj H
        have p202 : 0 ≤ (x5_1 : Int) := of_decide_eq_true (by with_reducible assumption)
        have q202 : x5_1 < (l1.length : Int) := of_decide_eq_true (by with_reducible assumption)
        obtain ⟨ad202, e202, hx202_0⟩ := Kd.at_int HR1.out x5_1 p202 q202
        cases e202
        replace p202 := eq_true p202
        replace q202 := eq_true q202
        have p203 : 0 ≤ (x5_1 : Int) := of_decide_eq_true (by with_reducible assumption)
        have q203 : x5_1 < (l0.length : Int) := of_decide_eq_true (by with_reducible assumption)
        obtain ⟨ad203, e203, hx203_0, hx203_1⟩ := at_T54 HR0.out x5_1 p203 q203
        cases e203
        replace p203 := eq_true p203
        replace q203 := eq_true q203
        have p204 : 0 ≤ (x5_1 : Int) := of_decide_eq_true (by with_reducible assumption)
        have q204 : x5_1 < (l1.length : Int) := of_decide_eq_true (by with_reducible assumption)
        obtain ⟨ad204, e204, hx204_0⟩ := Kd.at_int HR1.out x5_1 p204 q204
        obtain rfl : ad202 = ad204 := (by injection e204)
        replace p204 := eq_true p204
        replace q204 := eq_true q204
        have p205 : 0 ≤ (x5_1 : Int) := of_decide_eq_true (by with_reducible assumption)
        have q205 : x5_1 < (l0.length : Int) := of_decide_eq_true (by with_reducible assumption)
        obtain ⟨ad205, e205, hx205_0, hx205_1⟩ := at_T54 HR0.out x5_1 p205 q205
        obtain rfl : ad203 = ad205 := (by injection e205)
        replace p205 := eq_true p205
        replace q205 := eq_true q205
        go_wp2
        repeat (go_quiet (fail); try go_wp2)
        go_ret
        exact ⟨by first | rfl | (simp; done) | (simp [*]; done), by repeat (first | exact Dn.refl _ | apply Dn.step)⟩
       ·rw [if_neg c7] at H
        have c7b0 : decide (((rd_T54 l0 x5_1).f1) < (rd l1 x5_1)) = false := decide_eq_false c7
        clear c7
        have H' := As.mk H
        clear H
        have p202 : 0 ≤ (x5_1 : Int) := of_decide_eq_true (by with_reducible assumption)
        have q202 : x5_1 < (l1.length : Int) := of_decide_eq_true (by with_reducible assumption)
        obtain ⟨ad202, e202, hx202_0⟩ := Kd.at_int HR1.out x5_1 p202 q202
        cases e202
        replace p202 := eq_true p202
        replace q202 := eq_true q202
        have p203 : 0 ≤ (x5_1 : Int) := of_decide_eq_true (by with_reducible assumption)
        have q203 : x5_1 < (l0.length : Int) := of_decide_eq_true (by with_reducible assumption)
        obtain ⟨ad203, e203, hx203_0, hx203_1⟩ := at_T54 HR0.out x5_1 p203 q203
        cases e203
        replace p203 := eq_true p203
        replace q203 := eq_true q203
        have p204 : 0 ≤ (x5_1 : Int) := of_decide_eq_true (by with_reducible assumption)
        have q204 : x5_1 < (l1.length : Int) := of_decide_eq_true (by with_reducible assumption)
        obtain ⟨ad204, e204, hx204_0⟩ := Kd.at_int HR1.out x5_1 p204 q204
        obtain rfl : ad202 = ad204 := (by injection e204)
        replace p204 := eq_true p204
        replace q204 := eq_true q204
        have p205 : 0 ≤ (x5_1 : Int) := of_decide_eq_true (by with_reducible assumption)
        have q205 : x5_1 < (l0.length : Int) := of_decide_eq_true (by with_reducible assumption)
        obtain ⟨ad205, e205, hx205_0, hx205_1⟩ := at_T54 HR0.out x5_1 p205 q205
        obtain rfl : ad203 = ad205 := (by injection e205)
        replace p205 := eq_true p205
        replace q205 := eq_true q205
        go_wp2
        repeat (go_quiet (fail); try go_wp2)
        go_roundg k1
        case measure => have := HK1.out; omega
        case rel => exact ⟨(wrap64 (x5_1 + 1)), (by first | rfl | (simp; done) | (simp [*]; done)), H', ⟨by have := HK1.out; omega⟩, by repeat (first | exact Dn.refl _ | apply Dn.step)⟩
     ·rw [if_neg c5] at H
      exact absurd H (by simp)
    ·rw [if_neg c4] at H
     exact absurd H (by simp)
   ·rw [if_neg c3] at H
    have c3b0 : decide (x5_1 < (l0.length : Int)) = false := decide_eq_false c3
    clear c3
    obtain rfl := Option.some.inj H
    go_wp2
    repeat (go_quiet (fail); try go_wp2)
    go_ret
    exact ⟨by first | rfl | (simp; done) | (simp [*]; done), by repeat (first | exact Dn.refl _ | apply Dn.step)⟩
def manorboyref08_place.l0 : Nat → List (S54) → List Int → Int → Int → Option (Int)
 | 0, _, _, _, _ => none
 | k + 1, x0, x1, x5, x6 => if x6 < (x0.length : Int) then (if 0 ≤ x6 then (if x6 < (x1.length : Int) then (manorboyref08_place.l0 k x0 x1 (wrap64 ((wrap64 ((wrap64 (x5 * (wrap64 ((wrap64 (((rd_T54 x0 x6).f1) - ((rd_T54 x0 x6).f0))) + 1)))) + (rd x1 x6))) - ((rd_T54 x0 x6).f0))) (wrap64 (x6 + 1))) else (none)) else (none)) else (some x5)
def manorboyref08_place.f (k : Nat) (l0 : List (S54)) (l1 : List Int) : Option (Int) := manorboyref08_place.l0 k l0 l1 0 0
theorem manorboyref08_place.calls (k : Nat) (A0 : Option Addr) (c0 : Nat) (l0 : List (S54)) (A1 : Option Addr) (c1 : Nat) (l1 : List Int) (r : Int) (w : World) (hr0 : Kd.C k54 w A0 l0.length l0) (hc0 : l0.length ≤ c0) (hr1 : Kd.C (Kd.int .i64) w A1 l1.length l1) (hc1 : l1.length ≤ c1) (h : manorboyref08_place.f k l0 l1 = some r) :
  Calls Tryz.prog 41 #[.slice A0 l0.length c0, .slice A1 l1.length c1] w fun e w' => e = .returned (.int .i64 r) ∧ Dn w w' := by
 have HR0 := As.mk hr0
 have HC0 := As.mk hc0
 clear hr0 hc0
 have HR1 := As.mk hr1
 have HC1 := As.mk hc1
 clear hr1 hc1
 have H : (manorboyref08_place.l0 k l0 l1 0 0) = some r := h
 clear h
 have H' := As.mk H
 clear H
 go_enter Tryz.func41, Tryz.ntmps41
 go_wp2
 repeat (go_quiet (fail); try go_wp2)
 go_loopg [5, 6] k (fun kq v5 v6 w' => ∃ (x5_1 : Int) (x6_1 : Int), v5 = .int .i64 x5_1 ∧ v6 = .int .i64 x6_1 ∧ As (manorboyref08_place.l0 kq l0 l1 x5_1 x6_1 = some r) ∧ As (kq ≤ k) ∧ Dn w w')
 case atStart => exact ⟨(0), (0), (by first | rfl | (simp; done) | (simp [*]; done)), (by first | rfl | (simp; done) | (simp [*]; done)), H', ⟨Nat.le_refl _⟩, by repeat (first | exact Dn.refl _ | apply Dn.step)⟩
 case round =>
  clear H'
  try clear c1
  try clear p2
  obtain ⟨x5_1, x6_1, rfl, rfl, HA, HK1, ⟨m1, rfl⟩⟩ := hrel
  cases gk with
  | zero => exact absurd HA.out (by simp [manorboyref08_place.l0])
  | succ k1 =>
   have H := HA.out
   clear HA
   simp only [manorboyref08_place.l0] at H
   by_cases c3 : x6_1 < (l0.length : Int)
   ·rw [if_pos c3] at H
    have c3b0 : decide (x6_1 < (l0.length : Int)) = true := decide_eq_true c3
    clear c3
    by_cases c4 : 0 ≤ x6_1
    ·rw [if_pos c4] at H
     have c4b0 : decide (0 ≤ x6_1) = true := decide_eq_true c4
     clear c4
     by_cases c5 : x6_1 < (l1.length : Int)
     ·rw [if_pos c5] at H
      have c5b0 : decide (x6_1 < (l1.length : Int)) = true := decide_eq_true c5
      clear c5
      have H' := As.mk H
      clear H
      have p206 : 0 ≤ (x6_1 : Int) := of_decide_eq_true (by with_reducible assumption)
      have q206 : x6_1 < (l0.length : Int) := of_decide_eq_true (by with_reducible assumption)
      obtain ⟨ad206, e206, hx206_0, hx206_1⟩ := at_T54 HR0.out x6_1 p206 q206
      cases e206
      replace p206 := eq_true p206
      replace q206 := eq_true q206
      have p207 : 0 ≤ (x6_1 : Int) := of_decide_eq_true (by with_reducible assumption)
      have q207 : x6_1 < (l0.length : Int) := of_decide_eq_true (by with_reducible assumption)
      obtain ⟨ad207, e207, hx207_0, hx207_1⟩ := at_T54 HR0.out x6_1 p207 q207
      obtain rfl : ad206 = ad207 := (by injection e207)
      replace p207 := eq_true p207
      replace q207 := eq_true q207
      have p208 : 0 ≤ (x6_1 : Int) := of_decide_eq_true (by with_reducible assumption)
      have q208 : x6_1 < (l1.length : Int) := of_decide_eq_true (by with_reducible assumption)
      obtain ⟨ad208, e208, hx208_0⟩ := Kd.at_int HR1.out x6_1 p208 q208
      cases e208
      replace p208 := eq_true p208
      replace q208 := eq_true q208
      have p209 : 0 ≤ (x6_1 : Int) := of_decide_eq_true (by with_reducible assumption)
      have q209 : x6_1 < (l0.length : Int) := of_decide_eq_true (by with_reducible assumption)
      obtain ⟨ad209, e209, hx209_0, hx209_1⟩ := at_T54 HR0.out x6_1 p209 q209
      obtain rfl : ad206 = ad209 := (by injection e209)
      replace p209 := eq_true p209
      replace q209 := eq_true q209
      go_wp2
      repeat (go_quiet (fail); try go_wp2)
      go_roundg k1
      case measure => have := HK1.out; omega
      case rel => exact ⟨(wrap64 ((wrap64 ((wrap64 (x5_1 * (wrap64 ((wrap64 (((rd_T54 l0 x6_1).f1) - ((rd_T54 l0 x6_1).f0))) + 1)))) + (rd l1 x6_1))) - ((rd_T54 l0 x6_1).f0))), (wrap64 (x6_1 + 1)), (by first | rfl | (simp; done) | (simp [*]; done)), (by first | rfl | (simp; done) | (simp [*]; done)), H', ⟨by have := HK1.out; omega⟩, by repeat (first | exact Dn.refl _ | apply Dn.step)⟩
     ·rw [if_neg c5] at H
      exact absurd H (by simp)
    ·rw [if_neg c4] at H
     exact absurd H (by simp)
   ·rw [if_neg c3] at H
    have c3b0 : decide (x6_1 < (l0.length : Int)) = false := decide_eq_false c3
    clear c3
    obtain rfl := Option.some.inj H
    go_wp2
    repeat (go_quiet (fail); try go_wp2)
    go_ret
    exact ⟨by first | rfl | (simp; done) | (simp [*]; done), by repeat (first | exact Dn.refl _ | apply Dn.step)⟩
def manorboyref08_SameDims.l0 : Nat → List (S54) → List (S54) → Int → Option (Bool)
 | 0, _, _, _ => none
 | k + 1, x0, x1, x5 => if x5 < (x0.length : Int) then (if 0 ≤ x5 then (if x5 < (x1.length : Int) then (if (!(((rd_T54 x0 x5).f0) == ((rd_T54 x1 x5).f0)) || (!(((rd_T54 x0 x5).f1) == ((rd_T54 x1 x5).f1)))) = true then (some false) else (manorboyref08_SameDims.l0 k x0 x1 (wrap64 (x5 + 1)))) else (none)) else (none)) else (some true)
def manorboyref08_SameDims.f (k : Nat) (l0 : List (S54)) (l1 : List (S54)) : Option (Bool) := if (l0.length : Int) = (l1.length : Int) then (manorboyref08_SameDims.l0 k l0 l1 0) else (some false)
theorem manorboyref08_SameDims.calls (k : Nat) (A0 : Option Addr) (c0 : Nat) (l0 : List (S54)) (A1 : Option Addr) (c1 : Nat) (l1 : List (S54)) (r : Bool) (w : World) (hr0 : Kd.C k54 w A0 l0.length l0) (hc0 : l0.length ≤ c0) (hr1 : Kd.C k54 w A1 l1.length l1) (hc1 : l1.length ≤ c1) (h : manorboyref08_SameDims.f k l0 l1 = some r) :
  Calls Tryz.prog 44 #[.slice A0 l0.length c0, .slice A1 l1.length c1] w fun e w' => e = .returned (.bool r) ∧ Dn w w' := by
 have hu54 := Tryz.underlying54
 have HR0 := As.mk hr0
 have HC0 := As.mk hc0
 clear hr0 hc0
 have HR1 := As.mk hr1
 have HC1 := As.mk hc1
 clear hr1 hc1
 have H : (if (l0.length : Int) = (l1.length : Int) then (manorboyref08_SameDims.l0 k l0 l1 0) else (some false)) = some r := h
 clear h
 by_cases c3 : (l0.length : Int) = (l1.length : Int)
 ·rw [if_pos c3] at H
  have c3b0 : ((l0.length : Int) == (l1.length : Int)) = true := beq_iff_eq.mpr c3
  have c3b1 : ((l0.length : Int) != (l1.length : Int)) = false := bne_eq_false_iff_eq.mpr c3
  have c3b2 : (l0.length == l1.length) = true := by first | simpa using c3 | (simp at c3 ⊢; omega)
  clear c3
  have H' := As.mk H
  clear H
  go_enter Tryz.func44, Tryz.ntmps44
  go_wp2
  repeat (go_quiet (fail); try go_wp2)
  go_loopg [5] k (fun kq v5 w' => ∃ (x5_1 : Int), v5 = .int .i64 x5_1 ∧ As (manorboyref08_SameDims.l0 kq l0 l1 x5_1 = some r) ∧ As (kq ≤ k) ∧ Dn w w')
  case atStart => exact ⟨(0), (by first | rfl | (simp; done) | (simp [*]; done)), H', ⟨Nat.le_refl _⟩, by repeat (first | exact Dn.refl _ | apply Dn.step)⟩
  case round =>
   clear H'
   try clear c1
   try clear p2
   try clear c3
   try clear c3b0
   try clear c3b1
   try clear c3b2
   obtain ⟨x5_1, rfl, HA, HK1, ⟨m1, rfl⟩⟩ := hrel
   cases gk with
   | zero => exact absurd HA.out (by simp [manorboyref08_SameDims.l0])
   | succ k1 =>
    have H := HA.out
    clear HA
    simp only [manorboyref08_SameDims.l0] at H
    by_cases c4 : x5_1 < (l0.length : Int)
    ·rw [if_pos c4] at H
     have c4b0 : decide (x5_1 < (l0.length : Int)) = true := decide_eq_true c4
     clear c4
     by_cases c5 : 0 ≤ x5_1
     ·rw [if_pos c5] at H
      have c5b0 : decide (0 ≤ x5_1) = true := decide_eq_true c5
      clear c5
      by_cases c6 : x5_1 < (l1.length : Int)
      ·rw [if_pos c6] at H
       have c6b0 : decide (x5_1 < (l1.length : Int)) = true := decide_eq_true c6
       clear c6
       by_cases c7 : (!(((rd_T54 l0 x5_1).f0) == ((rd_T54 l1 x5_1).f0)) || (!(((rd_T54 l0 x5_1).f1) == ((rd_T54 l1 x5_1).f1)))) = true
       ·rw [if_pos c7] at H
        have c7b0 : (!(((rd_T54 l0 x5_1).f0) == ((rd_T54 l1 x5_1).f0)) || (!(((rd_T54 l0 x5_1).f1) == ((rd_T54 l1 x5_1).f1)))) = true := c7
        clear c7
        obtain rfl := Option.some.inj H
        have p426 : 0 ≤ (x5_1 : Int) := of_decide_eq_true (by with_reducible assumption)
        have q426 : x5_1 < (l0.length : Int) := of_decide_eq_true (by with_reducible assumption)
        obtain ⟨ad426, e426, hx426_0, hx426_1⟩ := at_T54 HR0.out x5_1 p426 q426
        cases e426
        replace p426 := eq_true p426
        replace q426 := eq_true q426
        have p427 : 0 ≤ (x5_1 : Int) := of_decide_eq_true (by with_reducible assumption)
        have q427 : x5_1 < (l1.length : Int) := of_decide_eq_true (by with_reducible assumption)
        obtain ⟨ad427, e427, hx427_0, hx427_1⟩ := at_T54 HR1.out x5_1 p427 q427
        cases e427
        replace p427 := eq_true p427
        replace q427 := eq_true q427
        go_wp2
        repeat (go_quiet (fail); try go_wp2)
        go_ret
        exact ⟨by first | rfl | (simp; done) | (simp [*]; done), by repeat (first | exact Dn.refl _ | apply Dn.step)⟩
       ·rw [if_neg c7] at H
        have c7b0 : (!(((rd_T54 l0 x5_1).f0) == ((rd_T54 l1 x5_1).f0)) || (!(((rd_T54 l0 x5_1).f1) == ((rd_T54 l1 x5_1).f1)))) = false := by simpa using c7
        clear c7
        have H' := As.mk H
        clear H
        have p426 : 0 ≤ (x5_1 : Int) := of_decide_eq_true (by with_reducible assumption)
        have q426 : x5_1 < (l0.length : Int) := of_decide_eq_true (by with_reducible assumption)
        obtain ⟨ad426, e426, hx426_0, hx426_1⟩ := at_T54 HR0.out x5_1 p426 q426
        cases e426
        replace p426 := eq_true p426
        replace q426 := eq_true q426
        have p427 : 0 ≤ (x5_1 : Int) := of_decide_eq_true (by with_reducible assumption)
        have q427 : x5_1 < (l1.length : Int) := of_decide_eq_true (by with_reducible assumption)
        obtain ⟨ad427, e427, hx427_0, hx427_1⟩ := at_T54 HR1.out x5_1 p427 q427
        cases e427
        replace p427 := eq_true p427
        replace q427 := eq_true q427
        go_wp2
        repeat (go_quiet (fail); try go_wp2)
        go_roundg k1
        case measure => have := HK1.out; omega
        case rel => exact ⟨(wrap64 (x5_1 + 1)), (by first | rfl | (simp; done) | (simp [*]; done)), H', ⟨by have := HK1.out; omega⟩, by repeat (first | exact Dn.refl _ | apply Dn.step)⟩
      ·rw [if_neg c6] at H
       exact absurd H (by simp)
     ·rw [if_neg c5] at H
      exact absurd H (by simp)
    ·rw [if_neg c4] at H
     have c4b0 : decide (x5_1 < (l0.length : Int)) = false := decide_eq_false c4
     clear c4
     obtain rfl := Option.some.inj H
     go_wp2
     repeat (go_quiet (fail); try go_wp2)
     go_ret
     exact ⟨by first | rfl | (simp; done) | (simp [*]; done), by repeat (first | exact Dn.refl _ | apply Dn.step)⟩
 ·rw [if_neg c3] at H
  have c3b0 : ((l0.length : Int) == (l1.length : Int)) = false := beq_eq_false_iff_ne.mpr c3
  have c3b1 : ((l0.length : Int) != (l1.length : Int)) = true := bne_iff_ne.mpr c3
  have c3b2 : (l0.length == l1.length) = false := by first | simpa using c3 | (simp at c3 ⊢; omega)
  obtain rfl := Option.some.inj H
  go_enter Tryz.func44, Tryz.ntmps44
  go_wp2
  repeat (go_quiet (fail); try go_wp2)
  go_ret
  exact ⟨by first | rfl | (simp; done) | (simp [*]; done), by repeat (first | exact Dn.refl _ | apply Dn.step)⟩
end Go.Proofs.Q
end
