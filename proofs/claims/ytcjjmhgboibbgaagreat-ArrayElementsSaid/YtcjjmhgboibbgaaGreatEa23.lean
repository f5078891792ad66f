/-
 Texts of the proof, in build order: words that the walks use, contracts of functions, plain facts.
-/
import Derived.Deep.RegionHeld3
import Derived.Test.YtcjjmhgboibbgaaGreatEa3
import Derived.Test.YtcjjmhgboibbgaaGreatEa4
import Derived.Test.YtcjjmhgboibbgaaGreatEa5
import Derived.Test.YtcjjmhgboibbgaaGreatEa14
import Derived.Test.YtcjjmhgboibbgaaGreatEa22
set_option maxHeartbeats 40000000
set_option maxRecDepth 100000
set_option linter.unusedVariables false
set_option linter.unusedSimpArgs false
section
namespace Go.Proofs.Q
def vl : List Int → Int
 | [] => 0
 | d :: r => d + 32768 * vl r
def Dgs (l : List Int) : Prop := ∀ d ∈ l, 0 ≤ d ∧ d < 32768
/-- without a zero at the end -/
def Tight : List Int → Prop
 | [] => True
 | [d] => d ≠ 0
 | _ :: e :: r => Tight (e :: r)
/-- the digits of a number -/
def Dig (n : Int) (l : List Int) : Prop := Dgs l ∧ Tight l ∧ vl l = n
theorem Dgs.nil : Dgs [] := fun d h => by cases h
theorem Dgs.cons {d : Int} {l : List Int} (h0 : 0 ≤ d) (h1 : d < 32768) (h : Dgs l) : Dgs (d :: l) := fun x hx => by
 rcases List.mem_cons.1 hx with rfl | hx
 ·exact ⟨h0, h1⟩
 ·exact h x hx
theorem Dgs.tail {d : Int} {l : List Int} (h : Dgs (d :: l)) : Dgs l := fun x hx => h x (List.mem_cons_of_mem _ hx)
theorem Dgs.head {d : Int} {l : List Int} (h : Dgs (d :: l)) : 0 ≤ d ∧ d < 32768 := h d (List.mem_cons_self ..)
theorem vl_nn : ∀ {l : List Int}, Dgs l → 0 ≤ vl l
 | [], _ => by simp [vl]
 | d :: r, h => by have := vl_nn h.tail; have := h.head; unfold vl; omega
theorem Tight.tail {d : Int} {l : List Int} (h : Tight (d :: l)) : Tight l := by
 cases l with
 | nil => trivial
 | cons e r => exact h
theorem vl_append : ∀ (l m : List Int), vl (l ++ m) = vl l + 32768 ^ l.length * vl m
 | [], m => by simp [vl]
 | d :: l, m => by
  simp only [List.cons_append, vl, List.length_cons]
  rw [vl_append l m, Int.pow_succ, Int.mul_add, Int.mul_comm (32768 ^ l.length) 32768, Int.mul_assoc]; omega
theorem vl_lt : ∀ {l : List Int}, Dgs l → vl l < 32768 ^ l.length
 | [], _ => by simp [vl]
 | d :: r, h => by
  have := vl_lt h.tail; have := h.head
  simp only [vl, List.length_cons, Int.pow_succ]; omega
theorem Dgs.append {l m : List Int} (h : Dgs l) (g : Dgs m) : Dgs (l ++ m) := fun x hx => by
 rcases List.mem_append.1 hx with hx | hx
 ·exact h x hx
 ·exact g x hx
theorem pow_pos' (k : Nat) : (0 : Int) < 32768 ^ k := Int.pow_pos (by decide)
/-- a number with a top digit that is not 0 -/
theorem tight_snoc : ∀ (l : List Int) (d : Int), d ≠ 0 → Tight (l ++ [d])
 | [], d, h => h
 | [e], d, h => h
 | e :: f :: l, d, h => tight_snoc (f :: l) d h
/-- zeros at the end struck -/
def cutL : List Int → List Int
 | [] => []
 | d :: r => let t := cutL r; if t = [] ∧ d = 0 then [] else d :: t
theorem cutL_val : ∀ l : List Int, vl (cutL l) = vl l
 | [] => rfl
 | d :: r => by
  have ih := cutL_val r
  simp only [cutL]
  by_cases h : cutL r = [] ∧ d = 0
  ·rw [if_pos h]
   rw [h.1] at ih
   simp only [vl] at ih ⊢
   omega
  ·rw [if_neg h]; simp only [vl, ih]
theorem cutL_dgs : ∀ {l : List Int}, Dgs l → Dgs (cutL l)
 | [], _ => Dgs.nil
 | d :: r, h => by
  simp only [cutL]
  split
  ·exact Dgs.nil
  ·exact Dgs.cons h.head.1 h.head.2 (cutL_dgs h.tail)
theorem cutL_tight : ∀ l : List Int, Tight (cutL l)
 | [] => trivial
 | d :: r => by
  have ih := cutL_tight r
  simp only [cutL]
  split
  ·trivial
  ·rename_i h
   cases hc : cutL r with
   | nil =>
    rw [hc] at h
    show d ≠ 0
    intro e; exact h ⟨rfl, e⟩
   | cons e t => rw [hc] at ih; exact ih
theorem cutL_dig {l : List Int} (h : Dgs l) : Dig (vl l) (cutL l) := ⟨cutL_dgs h, cutL_tight l, cutL_val l⟩
/-- zeros at the end, one more struck -/
theorem cutL_snoc : ∀ l : List Int, cutL (l ++ [0]) = cutL l
 | [] => rfl
 | d :: r => by
  show (let t := cutL (r ++ [0]); if t = [] ∧ d = 0 then [] else d :: t) = _
  rw [cutL_snoc r]; rfl
theorem cutL_tight_id : ∀ {l : List Int}, Tight l → cutL l = l
 | [], _ => rfl
 | [d], h => by have : d ≠ 0 := h; simp [cutL, this]
 | d :: e :: r, h => by
  have ih := cutL_tight_id (l := e :: r) h
  show (let t := cutL (e :: r); if t = [] ∧ d = 0 then [] else d :: t) = _
  rw [ih]; simp
theorem cutL_take {l : List Int} {k : Nat} (hk : k < l.length) (h0 : ∀ j, k < j → (h : j < l.length) → l[j] = 0) (hne : l[k] ≠ 0) : cutL l = l.take (k + 1) := by
 have : ∀ m : Nat, k + 1 + m ≤ l.length → cutL (l.take (k + 1 + m)) = l.take (k + 1) := by
  intro m
  induction m with
  | zero =>
   intro _
   rw [List.take_succ_eq_append_getElem hk]
   exact cutL_tight_id (tight_snoc _ _ hne)
  | succ m ih =>
   intro hm
   rw [show k + 1 + (m + 1) = (k + 1 + m) + 1 by omega, List.take_succ_eq_append_getElem (by omega), h0 (k + 1 + m) (by omega) (by omega), cutL_snoc]
   exact ih (by omega)
 have h := this (l.length - (k + 1)) (by omega)
 rw [show k + 1 + (l.length - (k + 1)) = l.length by omega, List.take_length] at h
 exact h
theorem cutL_zero {l : List Int} (h0 : ∀ j, (h : j < l.length) → l[j] = 0) : cutL l = [] := by
 have : ∀ m : Nat, m ≤ l.length → cutL (l.take m) = [] := by
  intro m
  induction m with
  | zero => intro _; rfl
  | succ m ih =>
   intro hm
   rw [List.take_succ_eq_append_getElem (by omega), h0 m (by omega), cutL_snoc]
   exact ih (by omega)
 have h := this l.length (Nat.le_refl _)
 rwa [List.take_length] at h
theorem pow_up {a b : Nat} (h : a ≤ b) : (32768 : Int) ^ a ≤ 32768 ^ b := by
 obtain ⟨k, rfl⟩ : ∃ k, b = a + k := ⟨b - a, by omega⟩
 induction k with
 | zero => exact Int.le_refl _
 | succ k ih =>
  have := ih (by omega)
  have h2 : (32768 : Int) ^ (a + (k + 1)) = 32768 ^ (a + k) * 32768 := by rw [← Nat.add_assoc, Int.pow_succ]
  have := pow_pos' (a + k)
  omega
/-- comparing -/
theorem vl_len {l m : List Int} (hl : Dgs l) (hm : Dgs m) (tm : Tight m) (h : l.length < m.length) : vl l < vl m := by
 have h1 := vl_lt hl
 have hne : m ≠ [] := fun e => by subst e; simp at h
 have h2 : (32768 : Int) ^ (m.length - 1) ≤ vl m := by
  have e := (List.dropLast_concat_getLast hne).symm
  have hg : m.getLast hne ≠ 0 := by
   have : ∀ (m : List Int) (hne : m ≠ []), Tight m → m.getLast hne ≠ 0 := by
    intro m
    induction m with
    | nil => intro h; exact absurd rfl h
    | cons d r ih =>
     intro h t
     cases r with
     | nil => exact t
     | cons e r => rw [List.getLast_cons (by simp)]; exact ih (by simp) t
   exact this m hne tm
  have hd := hm _ (List.getLast_mem hne)
  have hv : vl m = vl m.dropLast + 32768 ^ (m.length - 1) * m.getLast hne := by
   conv => lhs; rw [e]
   rw [vl_append]; simp [vl]
  have h0 : 0 ≤ vl m.dropLast := vl_nn fun x hx => hm x (List.dropLast_subset _ hx)
  have : (32768 : Int) ^ (m.length - 1) * 1 ≤ 32768 ^ (m.length - 1) * m.getLast hne := Int.mul_le_mul_of_nonneg_left (by omega) (Int.le_of_lt (pow_pos' _))
  omega
 have h3 : (32768 : Int) ^ l.length ≤ 32768 ^ (m.length - 1) := pow_up (by omega)
 omega
end Go.Proofs.Q
end
section
namespace Go.Proofs.Q
open RowKit Pw Pl Pm
/-- a number that is returned, in memory of its own or not -/
def Nw (n : Int) (w : World) (e : Ending) (w' : World) : Prop := ∃ (l : List Int) (A : Option Addr) (k c : Nat), e = .returned (.slice A k c) ∧ k ≤ c ∧ Kd.C (Kd.int .i64) w' A k l ∧ Dig n l ∧ Below w.heap.size w w'
def SmI (n m : Int) (acc : List Int) : Prop := Dgs acc ∧ vl acc + 32768 ^ acc.length * m = n ∧ acc.length ≤ 63 ∧ m < 2 ^ (63 - acc.length) ∧ (m = 0 → Tight acc)
theorem SmI.step {n m : Int} {acc : List Int} (h : SmI n m acc) (h0 : 0 < m) : SmI n (m / 32768) (acc ++ [m % 32768]) := by
 obtain ⟨h1, h2, h3, h4, h5⟩ := h
 have hl : acc.length < 63 := by
  rcases Nat.lt_or_ge acc.length 63 with g | g
  ·exact g
  ·rw [show 63 - acc.length = 0 by omega] at h4; omega
 refine ⟨h1.append (Dgs.cons (by omega) (by omega) Dgs.nil), ?_, by simp; omega, ?_, fun h => tight_snoc _ _ (by omega)⟩
 ·rw [vl_append, List.length_append, ← h2]
  simp only [vl, List.length_cons, List.length_nil, Nat.zero_add, Int.pow_succ, Int.mul_zero, Int.add_zero]
  rw [Int.mul_assoc, Int.add_assoc, ← Int.mul_add, show m % 32768 + 32768 * (m / 32768) = m by omega]
 ·rw [List.length_append, show 63 - acc.length = (63 - (acc.length + [m % 32768].length)) + 1 by simp; omega, Int.pow_succ] at *
  omega
theorem small_w (n : Int) (h0 : 0 ≤ n) (h1 : n ≤ 4611686018427387904) (w : World) : Calls Tryz.prog 100 #[.int .i64 n] w (Nw n w) := by
 go_enter Tryz.func100, Tryz.ntmps100
 go_wp2
 go_loopw [0, 3] (fun v u wr => ∃ (m : Int) (acc : List Int), v = .int .i64 m ∧ 0 ≤ m ∧ m ≤ 4611686018427387904 ∧ Hid (SmI n m acc) ∧ Hid (Kd.R (Kd.int .i64) 3 wr w.heap.size (fun _ => True) u acc) ∧ Hid (Below w.heap.size w wr)) (fun v _ _ => (intOf v).toNat)
 case atStart => exact ⟨n, [], rfl, h0, h1, Lib.hid ⟨Dgs.nil, by simp [vl], by simp, by simp; omega, fun _ => trivial⟩, Lib.hid (Kd.R_nil _ _ _ _ _), Lib.hid (Below.refl _ _)⟩
 case round =>
  obtain ⟨m, acc, rfl, h2, h3, HI, HO, HB⟩ := hrel
  by_cases hp : 0 < m
  ·have hal : acc.length ≤ 63 := HI.out.2.2.1
   have HI2 := Lib.hid (HI.out.step hp)
   go_wp2_with (at_builtin; refine Kd.R_append (Kd.int .i64) (w0 := w) w.heap.size rfl (.tmp 6) (.tmp 9) 34 3 (.int .i64 0) 8 rfl Tryz.underlying34 info3 rfl (by decide) (by omega) u3 acc (m % 32768) [.int .i64 (m % 32768)] (fun _ => True) (fun _ => False) rfl (by first | (go_simp; done) | (go_simp; rfl)) ?aP (fun _ hk => hk.elim) ?aF ?aO ?aB ?aS ?aL ?_; (case aP => rfl); (case aF => exact fun _ _ => trivial); (case aO => exact HO.out); (case aB => exact HB.out); (case aS => exact HB.out.size); (case aL => omega); intro v1 w2 ho hb hg hat; (have HO2 := Lib.hid ho); (have HB2 := Lib.hid hb); clear ho hb hg hat)
   go_roundw
   case rel => exact ⟨m / 32768, acc ++ [m % 32768], rfl, by omega, by omega, HI2, HO2, HB2⟩
   case measure => simp [intOf]; omega
  ·obtain rfl : m = 0 := by omega
   go_wp2
   go_ret
   obtain ⟨A, c, rfl⟩ := Kd.R_slice HO.out
   have hr := Kd.R_reads' HO.out
   obtain ⟨i1, i2, _, _, i5⟩ := HI.out
   exact ⟨acc, A, _, c, rfl, hr.2.1, hr.2.2, ⟨i1, i5 rfl, by simpa using i2⟩, HB.out⟩
end Go.Proofs.Q
end
section
namespace Go.Proofs.Q
open RowKit Pw Pl Pm
theorem info3e : ∃ i, Tryz.prog.info? 3 = some i ∧ i.size = 1 := by
 have h := info3
 cases hi : Tryz.prog.info? 3 with
 | none => rw [hi] at h; cases h
 | some i => rw [hi] at h; simp at h; exact ⟨i, rfl, h.2.1⟩
/-- what cut returns -/
def CutP (l : List Int) (w : World) (e : Ending) (w' : World) : Prop := ∃ (A : Option Addr) (k c : Nat), e = .returned (.slice A k c) ∧ k ≤ c ∧ Kd.C (Kd.int .i64) w A k (cutL l) ∧ w' = w
theorem cut_w (l : List Int) (A : Option Addr) (n c : Nat) (w : World) (hl : Kd.C (Kd.int .i64) w A n l) (hc : n ≤ c) : Calls Tryz.prog 117 #[.slice A n c] w (CutP l w) := by
 have hn : l.length = n := hl.1
 have hm : n ≤ 9223372036854775807 := by have := hl.2.1; unfold maxLen at this; omega
 have HL := Lib.hid hl
 have HN := Lib.hid hn
 clear hl hn
 go_enter Tryz.func117, Tryz.ntmps117
 go_wp2
 go_loop [3] (fun v => ∃ k : Nat, k ≤ n ∧ v = .int .i64 k ∧ Hid (∀ j, k ≤ j → (h : j < l.length) → l[j] = 0)) (fun v => (intOf v).toNat)
 case atStart => exact ⟨n, Nat.le_refl _, rfl, Lib.hid (fun j h1 h2 => by have := HN.out; omega)⟩
 case round =>
  obtain ⟨k, hk, rfl, HZ⟩ := hrel
  have fin : ∀ r : List Int, k ≤ l.length → cutL l = l.take k → CutP l w (.returned (.slice A k c)) w := fun r h1 h2 => by
   refine ⟨A, k, c, rfl, by omega, ?_, rfl⟩
   rw [h2]
   have h := Kd.C_take (k := Kd.int .i64) (m := k) (xs := l) (by rw [HN.out]; exact HL.out) h1
   rwa [show (l.take k).length = k by rw [List.length_take]; omega] at h
  have hkl : k ≤ l.length := by rw [HN.out]; exact hk
  obtain ⟨i, hi, hsz⟩ := info3e
  have hsl := (print_take_int (P := Tryz.prog) (k := .i64) 34 3 Tryz.underlying34 hi hsz A c l (k : Int) (by omega) (by omega) (by rw [HN.out]; exact hc)).1
  rw [HN.out, Int.toNat_natCast, show (l.take k).length = k by rw [List.length_take]; omega] at hsl
  clear hi hsz
  have FIN := Lib.hid fin
  clear fin
  by_cases h0 : 0 < k
  ·obtain ⟨m, rfl⟩ : ∃ m, k = m + 1 := ⟨k - 1, by omega⟩
   have hml : m < l.length := by omega
   obtain ⟨ad, e1, g0⟩ := at_int HL.out m (by omega)
   subst e1
   have eg : l.getD m 0 = l[m] := by simp [List.getD, hml]
   rw [eg] at g0
   obtain ⟨d, hd⟩ : ∃ d, d = l[m] := ⟨_, rfl⟩
   rw [← hd] at g0
   have HD := Lib.hid hd
   clear hd eg
   have hm1 : ((m + 1 : Nat) : Int) - 1 = (m : Int) := by omega
   have hp1 : (0 : Int) < ((m + 1 : Nat) : Int) := by omega
   by_cases hz : d = 0
   ·subst hz
    go_wp2
    go_round
    case rel => exact ⟨m, by omega, by first | rfl | go_num | (congr 1; omega), Lib.hid (fun j h1 h2 => by
     rcases Nat.lt_or_ge m j with h3 | h3
     ·exact HZ.out j (by omega) h2
     ·obtain rfl : j = m := by omega
      exact HD.out.symm)⟩
    case measure => simp [intOf]
   ·have hb : (d == 0) = false := beq_eq_false_iff_ne.mpr hz
    have hb2 : (d != 0) = true := by simpa using hz
    have HZ2 := Lib.hid hz
    clear hz
    go_wp2
    go_ret
    exact FIN.out [] (by omega) (cutL_take hml (fun j h1 h2 => HZ.out j (by omega) h2) (by rw [← HD.out]; exact HZ2.out))
  ·obtain rfl : k = 0 := by omega
   go_wp2
   go_ret
   exact FIN.out [] (by omega) (by rw [cutL_zero fun j h => HZ.out j (by omega) h]; rfl)
end Go.Proofs.Q
end
section
namespace Go.Proofs.Q
open RowKit Pw Pl Pm
theorem wr64 {n : Int} (h0 : -9223372036854775808 ≤ n) (h1 : n ≤ 9223372036854775807) : wrap64 n = n := by
 unfold wrap64; omega
theorem vl_zeros : ∀ q : Nat, vl (List.replicate q 0) = 0
 | 0 => rfl
 | q + 1 => by simp [List.replicate_succ, vl, vl_zeros q]
theorem dgs_zeros (q : Nat) : Dgs (List.replicate q 0) := fun d h => by rw [List.eq_of_mem_replicate h]; omega
theorem pow2_lt {r : Nat} (h : r < 15) : (2 : Int) ^ r < 32768 ∧ 1 ≤ (2 : Int) ^ r := by
 have : ∀ r : Fin 15, (2 : Int) ^ r.val < 32768 ∧ 1 ≤ (2 : Int) ^ r.val := by decide
 exact this ⟨r, h⟩
theorem pow_15 : ∀ q : Nat, (32768 : Int) ^ q = 2 ^ (15 * q)
 | 0 => rfl
 | q + 1 => by rw [Int.pow_succ, pow_15 q, Nat.mul_succ, Int.pow_add]; rfl
theorem two_dig (q r : Nat) (h : r < 15) : Dig (2 ^ (15 * q + r)) (List.replicate q 0 ++ [(2 : Int) ^ r]) := by
 obtain ⟨h1, h2⟩ := pow2_lt h
 refine ⟨(dgs_zeros q).append (Dgs.cons (by omega) h1 Dgs.nil), tight_snoc _ _ (by omega), ?_⟩
 rw [vl_append, vl_zeros, List.length_replicate, Int.pow_add, ← pow_15]
 simp [vl]
theorem two_w (q r : Nat) (hr : r < 15) (hq : q ≤ 30) (w : World) : Calls Tryz.prog 107 #[.int .i64 ((15 * q + r : Nat) : Int)] w (Nw (2 ^ (15 * q + r)) w) := by
 have e1 : ((15 * q + r : Nat) : Int) / 15 = (q : Int) := by omega
 have e2 : ((15 * q + r : Nat) : Int) % 15 = (r : Int) := by omega
 have e3 : (0 : Int) ≤ ((15 * q + r : Nat) : Int) := by omega
 have e4 : ((15 * q + r : Nat) : Int) ≤ 1000 := by omega
 have hw : wrap64 ((2 : Int) ^ r) = 2 ^ r := by
  have := (pow2_lt hr).1
  have := (pow2_lt hr).2
  exact wr64 (by omega) (by omega)
 have hmk := print_make (P := Tryz.prog) 34 3 .i64 8 Tryz.underlying34 info3' (by decide) (q + 1) (by omega)
 have hq1 : ((q + 1 : Nat) : Int) = (q : Int) + 1 := by omega
 rw [hq1] at hmk
 have hom := own_made w w.heap.size 3 .i64 (q + 1) (Nat.le_refl _) (by omega)
 have hBl : Below w.heap.size w (w.alloc (.cells (madeCells #[.int .i64 0] (q + 1)) 3)) := bA (Below.refl _ _) _
 obtain ⟨g0, g1⟩ := own_at hom (q : Int) (by omega) (by omega)
 have hst := (own_store hom (q : Int) (2 ^ r)).1
 rw [Int.toNat_natCast] at g0 g1 hst
 obtain ⟨n, hn⟩ : ∃ n : Int, n = ((15 * q + r : Nat) : Int) := ⟨_, rfl⟩
 rw [← hn] at e1 e2 e3 e4 ⊢
 have HS := Lib.hid hst
 have HB := Lib.hid hBl
 clear hn hst hBl hom hq1
 have hlt : (0 : Int) ≤ (q : Int) := by omega
 go_enter Tryz.func107, Tryz.ntmps107
 go_upto_region 2 with (fail)
 generalize w.alloc (.cells (madeCells #[.int .i64 0] (q + 1)) 3) = W1 at *
 generalize hg : w.heap.size = g at *
 go_wp2
 go_ret
 have hl : (List.replicate (q + 1) (0 : Int)).set q (2 ^ r) = List.replicate q 0 ++ [2 ^ r] := by
  rw [List.replicate_succ', List.set_append_right _ _ (by simp)]; simp
 have h1 := HS.out
 rw [hl] at h1
 have hl2 : (List.replicate q (0 : Int) ++ [2 ^ r]).length = q + 1 := by simp
 have h3 : Kd.R (Kd.int .i64) 3 (W1.setCell ⟨g, q, none⟩ (.int .i64 (2 ^ r))) g (fun _ => True) (.slice (some ⟨g, 0, none⟩) (q + 1) (q + 1)) (List.replicate q 0 ++ [2 ^ r]) :=
  Kd.R_of_own (enc := Value.int .i64) (h1 := fun _ => rfl) (by rw [hl2]; exact h1) (fun _ _ => trivial)
 have h2 := Kd.R_reads' h3
 have h4 := h2.2.2
 rw [hl2] at h4
 have hB' : Below w.heap.size w W1 := by rw [hg]; exact HB.out
 exact ⟨_, _, _, _, rfl, Nat.le_refl _, h4, two_dig q r hr, bT hB' (by omega)⟩
end Go.Proofs.Q
end
section
namespace Go.Proofs.Q
open RowKit Pw Pl Pm
def cmpI (a b : Int) : Int := if a < b then -1 else if b < a then 1 else 0
theorem Dgs.take {l : List Int} (h : Dgs l) (k : Nat) : Dgs (l.take k) := fun x hx => h x (List.mem_of_mem_take hx)
theorem vl_at (l : List Int) (k : Nat) (h : k < l.length) : vl l = vl (l.take k) + 32768 ^ k * (l[k] + 32768 * vl (l.drop (k + 1))) := by
 conv => lhs; rw [← List.take_append_drop k l, vl_append, List.drop_eq_getElem_cons h]
 simp only [vl, List.length_take]
 rw [Nat.min_eq_left (by omega)]
theorem vl_cmp {l m : List Int} (hl : Dgs l) (hm : Dgs m) {k : Nat} (h : k < l.length) (h' : k < m.length) (hd : l.drop (k + 1) = m.drop (k + 1)) (hlt : l[k] < m[k]) : vl l < vl m := by
 rw [vl_at l k h, vl_at m k h', hd]
 have h1 := vl_lt (hl.take k)
 rw [List.length_take, Nat.min_eq_left (by omega)] at h1
 have h2 := vl_nn (hm.take k)
 have h3 : (32768 : Int) ^ k * (l[k] + 32768 * vl (m.drop (k + 1)) + 1) ≤ 32768 ^ k * (m[k] + 32768 * vl (m.drop (k + 1))) := Int.mul_le_mul_of_nonneg_left (by omega) (Int.le_of_lt (pow_pos' k))
 rw [Int.mul_add, Int.mul_one] at h3
 omega
theorem cmp_w (a b : Int) (l m : List Int) (A B : Option Addr) (n c n2 c2 : Nat) (w : World) (hl : Kd.C (Kd.int .i64) w A n l) (hm : Kd.C (Kd.int .i64) w B n2 m) (da : Dig a l) (db : Dig b m) :
  Calls Tryz.prog 109 #[.slice A n c, .slice B n2 c2] w fun e w' => e = .returned (.int .i64 (cmpI a b)) ∧ Below w.heap.size w w' := by
 have e1 := hl.1
 have e2 := hm.1
 subst e1 e2
 have hml := hl.2.1
 have hmm := hm.2.1
 unfold maxLen at hml hmm
 have HL := Lib.hid hl
 have HM := Lib.hid hm
 have HA := Lib.hid da
 have HBb := Lib.hid db
 clear hl hm da db
 rcases Nat.lt_trichotomy l.length m.length with h | h | h
 ·have hv : cmpI a b = -1 := by
   have := vl_len HA.out.1 HBb.out.1 HBb.out.2.1 h
   rw [HA.out.2.2, HBb.out.2.2] at this
   unfold cmpI; rw [if_pos this]
  rw [hv]
  go_enter Tryz.func109, Tryz.ntmps109
  go_wp2
  go_ret
  exact ⟨rfl, Below.refl _ _⟩
 ·have HLM := Lib.hid h
  have hh1 : decide (l.length < m.length) = false := decide_eq_false (by omega)
  have hh2 : decide (m.length < l.length) = false := decide_eq_false (by omega)
  have hh3 : ((l.length : Int) < (m.length : Int)) = False := by simp; omega
  have hh4 : ((m.length : Int) < (l.length : Int)) = False := by simp; omega
  go_enter Tryz.func109, Tryz.ntmps109
  go_wp2
  go_loopw [5] (fun i wr => ∃ (z : Int) (j : Nat), i = .int .i64 z ∧ -1 ≤ z ∧ z < l.length ∧ Hid (z = (j : Int) - 1 ∧ j ≤ l.length) ∧ Hid (l.drop j = m.drop j) ∧ Hid (Below w.heap.size w wr)) (fun i _ => (intOf i + 1).toNat)
  case atStart => exact ⟨_, l.length, rfl, by omega, by omega, Lib.hid ⟨by omega, Nat.le_refl _⟩, Lib.hid (by rw [List.drop_length, HLM.out, List.drop_length]), Lib.hid (Below.refl _ _)⟩
  case round =>
   obtain ⟨z, j, rfl, hz1, hz2, HZ, HD, HB⟩ := hrel
   by_cases hz : 0 ≤ z
   ·obtain ⟨k, hk⟩ : ∃ k : Nat, j = k + 1 := ⟨j - 1, by have := HZ.out; omega⟩
    subst hk
    obtain rfl : z = (k : Int) := by have := HZ.out; omega
    have hlt : k < l.length := by omega
    have hlt2 : k < m.length := by have := HLM.out; omega
    obtain ⟨ad, x1, g0⟩ := at_int HL.out k hlt
    obtain ⟨ad2, x2, g1⟩ := at_int HM.out k hlt2
    subst x1 x2
    rw [show l.getD k 0 = l[k] by simp [List.getD, hlt]] at g0
    rw [show m.getD k 0 = m[k] by simp [List.getD, hlt2]] at g1
    replace g0 := (HB.out.cell (World.block_lt_of_cell? w _ g0)).trans g0
    replace g1 := (HB.out.cell (World.block_lt_of_cell? w _ g1)).trans g1
    have hc1 := fun h => vl_cmp HA.out.1 HBb.out.1 hlt hlt2 HD.out h
    have hc2 := fun h => vl_cmp HBb.out.1 HA.out.1 hlt2 hlt HD.out.symm h
    have hc3 : l[k] = m[k] → l.drop k = m.drop k := fun h => by
     rw [List.drop_eq_getElem_cons hlt, List.drop_eq_getElem_cons hlt2, h, HD.out]
    rw [HA.out.2.2, HBb.out.2.2] at hc1 hc2
    have HC1 := Lib.hid hc1
    have HC2 := Lib.hid hc2
    have HC3 := Lib.hid hc3
    clear hc1 hc2 hc3
    generalize l[k] = d at *
    generalize m[k] = e at *
    have hk2 : (k : Int) < (m.length : Int) := by omega
    rcases Int.lt_trichotomy d e with h | h | h
    ·have hv : cmpI a b = -1 := by unfold cmpI; rw [if_pos (HC1.out h)]
     have b1 : decide (d < e) = true := decide_eq_true h
     have HV := Lib.hid hv
     clear hv
     go_wp2
     go_quiet (fail)
     clear g0 g1
     go_wp2
     go_ret
     exact ⟨by rw [HV.out]; rfl, by first | exact bN HB.out _ | exact below_drew HB.out | exact HB.out⟩
    ·have HEQ := Lib.hid (HC3.out h)
     have b1 : decide (d < e) = false := decide_eq_false (by omega)
     have b2 : decide (e < d) = false := decide_eq_false (by omega)
     clear h
     go_wp2
     go_quiet (fail)
     go_wp2
     go_quiet (fail)
     clear g0 g1
     go_wp2
     go_roundw
     case rel => exact ⟨_, k, rfl, by omega, by omega, Lib.hid ⟨by omega, by omega⟩, HEQ, Lib.hid (by first | exact bN (bN HB.out _) _ | exact bN HB.out _)⟩
     case measure => simp [intOf]
    ·have hv : cmpI a b = 1 := by
      have := HC2.out h
      unfold cmpI; rw [if_neg (by omega), if_pos this]
     have b1 : decide (d < e) = false := decide_eq_false (by omega)
     have b2 : decide (e < d) = true := decide_eq_true h
     have HV := Lib.hid hv
     clear hv h
     go_wp2
     go_quiet (fail)
     go_wp2
     go_quiet (fail)
     clear g0 g1
     go_wp2
     go_ret
     exact ⟨by rw [HV.out]; rfl, by first | exact bN (bN HB.out _) _ | exact bN HB.out _⟩
   ·have hv : cmpI a b = 0 := by
     have hj : j = 0 := by have := HZ.out; omega
     have h0 := HD.out
     rw [hj, List.drop_zero, List.drop_zero] at h0
     have h1 := HA.out.2.2
     have h2 := HBb.out.2.2
     rw [h0] at h1
     unfold cmpI; rw [if_neg (by omega), if_neg (by omega)]
    have HV := Lib.hid hv
    clear hv
    go_wp2
    go_ret
    exact ⟨by rw [HV.out]; rfl, HB.out⟩
 ·have hv : cmpI a b = 1 := by
   have := vl_len HBb.out.1 HA.out.1 HA.out.2.1 h
   rw [HA.out.2.2, HBb.out.2.2] at this
   unfold cmpI; rw [if_neg (by omega), if_pos this]
  have h3 : ¬ l.length < m.length := by omega
  rw [hv]
  go_enter Tryz.func109, Tryz.ntmps109
  go_wp2
  go_ret
  exact ⟨rfl, Below.refl _ _⟩
end Go.Proofs.Q
end
section
namespace Go.Proofs.Q
open RowKit Pw Pl Pm
theorem vl_set (xs : List Int) (k : Nat) (h : k < xs.length) (d : Int) : vl (xs.set k d) = vl xs + 32768 ^ k * (d - xs[k]) := by
 rw [vl_at (xs.set k d) k (by simpa using h), vl_at xs k h, List.take_set_of_le (Nat.le_refl _), List.getElem_set_self, List.drop_set_of_lt (by omega)]
 rw [Int.mul_add, Int.mul_add, Int.mul_sub]; omega
theorem Dgs.set {xs : List Int} (h : Dgs xs) (k : Nat) {d : Int} (h0 : 0 ≤ d) (h1 : d < 32768) : Dgs (xs.set k d) := fun x hx => by
 rcases List.mem_or_eq_of_mem_set hx with hx | hx
 ·exact h x hx
 ·subst hx; exact ⟨h0, h1⟩
theorem vl_take1 (l : List Int) (i : Nat) (h : i < l.length) : vl (l.take (i + 1)) = vl (l.take i) + 32768 ^ i * l[i] := by
 rw [List.take_succ_eq_append_getElem h, vl_append, List.length_take, Nat.min_eq_left (by omega)]; simp [vl]
def MulO (l m xs : List Int) (i : Nat) : Prop := Dgs xs ∧ xs.length = l.length + m.length ∧ vl xs = vl (l.take i) * vl m
def MulI (l m xs : List Int) (i k : Nat) (d cy : Int) : Prop := Dgs xs ∧ xs.length = l.length + m.length ∧ vl xs + 32768 ^ (i + k) * cy = vl (l.take i) * vl m + 32768 ^ i * (d * vl (m.take k))
theorem mulI_end {l m xs : List Int} {i k : Nat} (hi : i < l.length) (hk : m.length ≤ k) (h : MulI l m xs i k l[i] 0) : MulO l m xs (i + 1) := by
 obtain ⟨h1, h2, h3⟩ := h
 refine ⟨h1, h2, ?_⟩
 rw [Int.mul_zero, Int.add_zero, List.take_of_length_le hk] at h3
 rw [h3, vl_take1 l i hi, Int.add_mul, Int.mul_assoc]
theorem mulI_in {l m xs : List Int} {i k : Nat} {cy : Int} (hl : Dgs l) (hm : Dgs m) (hi : i < l.length) (hc : 0 < cy) (h : MulI l m xs i k l[i] cy) (hk : m.length ≤ k) : i + k < l.length + m.length := by
 obtain ⟨h1, h2, h3⟩ := h
 rw [List.take_of_length_le hk] at h3
 have e : vl (l.take i) * vl m + 32768 ^ i * (l[i] * vl m) = vl (l.take (i + 1)) * vl m := by rw [vl_take1 l i hi, Int.add_mul, Int.mul_assoc]
 rw [e] at h3
 have a1 := vl_lt (hl.take (i + 1))
 rw [List.length_take, Nat.min_eq_left (by omega)] at a1
 have a2 := vl_lt hm
 have a3 := vl_nn (hl.take (i + 1))
 have a4 := vl_nn hm
 have a5 := vl_nn h1
 have a6 : (32768 : Int) ^ (i + k) * 1 ≤ 32768 ^ (i + k) * cy := Int.mul_le_mul_of_nonneg_left (by omega) (Int.le_of_lt (pow_pos' _))
 have a7 : vl (l.take (i + 1)) * vl m ≤ (32768 ^ (i + 1)) * vl m := Int.mul_le_mul_of_nonneg_right (by omega) a4
 have a8 : (32768 : Int) ^ (i + 1) * vl m ≤ 32768 ^ (i + 1) * (32768 ^ m.length - 1) := Int.mul_le_mul_of_nonneg_left (by omega) (Int.le_of_lt (pow_pos' _))
 rw [Int.mul_sub, ← Int.pow_add, Int.mul_one] at a8
 rw [Int.mul_one] at a6
 have a9 := pow_pos' (i + 1)
 rcases Nat.lt_or_ge (i + k) (i + 1 + m.length) with g | g
 ·omega
 ·have := pow_up g
  omega
theorem mulI_step {l m xs : List Int} {i k : Nat} {cy d t : Int} (h : MulI l m xs i k d cy) (hx : i + k < xs.length) (ht0 : 0 ≤ t) (ht : t = cy + xs[i + k] + (if h : k < m.length then d * m[k] else 0)) : MulI l m (xs.set (i + k) (t % 32768)) i (k + 1) d (t / 32768) := by
 obtain ⟨h1, h2, h3⟩ := h
 refine ⟨h1.set _ (by omega) (by omega), by simpa using h2, ?_⟩
 rw [vl_set xs _ hx]
 have e1 : (32768 : Int) ^ (i + (k + 1)) * (t / 32768) = 32768 ^ (i + k) * (32768 * (t / 32768)) := by rw [← Nat.add_assoc, Int.pow_succ, Int.mul_assoc]
 have e2 : vl xs + 32768 ^ (i + k) * (t % 32768 - xs[i + k]) + 32768 ^ (i + k) * (32768 * (t / 32768)) = vl xs + 32768 ^ (i + k) * (t - xs[i + k]) := by
  rw [Int.add_assoc, ← Int.mul_add, show t % 32768 - xs[i + k] + 32768 * (t / 32768) = t - xs[i + k] by omega]
 rw [e1, e2, ht]
 by_cases hk : k < m.length
 ·rw [dif_pos hk, vl_take1 m k hk]
  rw [show cy + xs[i + k] + d * m[k] - xs[i + k] = cy + d * m[k] by omega, Int.mul_add, ← Int.add_assoc, h3]
  rw [Int.mul_add d, Int.mul_add (32768 ^ i), Int.pow_add, Int.add_assoc]
  congr 2
  rw [Int.mul_assoc, Int.mul_left_comm d]
 ·rw [dif_neg hk, show cy + xs[i + k] + 0 - xs[i + k] = cy by omega, h3, List.take_of_length_le (show m.length ≤ k by omega), List.take_of_length_le (show m.length ≤ k + 1 by omega)]
theorem mul_w (a b : Int) (l m : List Int) (A B : Option Addr) (n c n2 c2 : Nat) (w : World) (hl : Kd.C (Kd.int .i64) w A n l) (hm : Kd.C (Kd.int .i64) w B n2 m) (da : Dig a l) (db : Dig b m) (hn : n ≤ 100) (hn2 : n2 ≤ 100) :
  Calls Tryz.prog 106 #[.slice A n c, .slice B n2 c2] w (Nw (a * b) w) := by
 have e1 := hl.1
 have e2 := hm.1
 subst e1 e2
 have HL := Lib.hid hl
 have HM := Lib.hid hm
 have HA := Lib.hid da
 have HBb := Lib.hid db
 have hmk := print_make (P := Tryz.prog) 34 3 .i64 8 Tryz.underlying34 info3' (by decide) (l.length + m.length) (by omega)
 have hom := own_made w w.heap.size 3 .i64 (l.length + m.length) (Nat.le_refl _) (by omega)
 have hBl : Below w.heap.size w (w.alloc (.cells (madeCells #[.int .i64 0] (l.length + m.length)) 3)) := bA (Below.refl _ _) _
 have hq1 : ((l.length + m.length : Nat) : Int) = (l.length : Int) + (m.length : Int) := by omega
 rw [hq1] at hmk
 have HS := Lib.hid hom
 have HB := Lib.hid hBl
 have H0 : Hid (MulO l m (List.replicate (l.length + m.length) 0) 0) := Lib.hid ⟨dgs_zeros _, by simp, by rw [vl_zeros]; simp [vl]⟩
 clear hl hm da db hom hBl hq1
 go_enter Tryz.func106, Tryz.ntmps106
 go_upto_region 2 with (fail)
 generalize w.alloc (.cells (madeCells #[.int .i64 0] (l.length + m.length)) 3) = W1 at *
 obtain ⟨g, hg⟩ : ∃ g, g = w.heap.size := ⟨_, rfl⟩
 rw [← hg] at HS ⊢
 have HG := Lib.hid hg
 clear hg hmk
 go_wp2
 go_loopw [6, 7, 8] (fun v _ _ wr => ∃ (i : Nat) (xs : List Int), v = .int .i64 i ∧ i ≤ l.length ∧ Hid (MulO l m xs i) ∧ Hid (wr.ownsRow g 3 1 (.slice (some ⟨g, 0, none⟩) (l.length + m.length) (l.length + m.length)) (l.length + m.length) (nums .i64 xs)) ∧ Hid (Below w.heap.size w wr)) (fun v _ _ _ => l.length - (intOf v).toNat)
 case atStart => exact ⟨0, _, rfl, Nat.zero_le _, H0, HS, HB⟩
 case round =>
  clear HB HS H0
  obtain ⟨i, xs, rfl, hi, HI, HS, HB⟩ := hrel
  by_cases hlt : i < l.length
  ·obtain ⟨ad, x1, g0⟩ := at_int HL.out i hlt
   subst x1
   rw [show l.getD i 0 = l[i] by simp [List.getD, hlt]] at g0
   have hd := HA.out.1 _ (List.getElem_mem hlt)
   obtain ⟨d, hdd⟩ : ∃ d, d = l[i] := ⟨_, rfl⟩
   rw [← hdd] at g0 hd
   have HD := Lib.hid hdd
   have HX : Hid (MulI l m xs i 0 d 0) := Lib.hid ⟨HI.out.1, HI.out.2.1, by simp [vl, HI.out.2.2]⟩
   clear hdd HI
   go_wp2
   go_loopw [7, 8] (fun u v wr => ∃ (k : Nat) (cy : Int) (xs : List Int), v = .int .i64 k ∧ u = .int .i64 cy ∧ 0 ≤ cy ∧ cy ≤ 32767 ∧ k ≤ l.length + m.length ∧ Hid (MulI l m xs i k d cy) ∧ Hid (wr.ownsRow g 3 1 (.slice (some ⟨g, 0, none⟩) (l.length + m.length) (l.length + m.length)) (l.length + m.length) (nums .i64 xs)) ∧ Hid (Below w.heap.size w wr)) (fun _ v _ => 1000 - (intOf v).toNat)
   case atStart => exact ⟨0, 0, xs, rfl, rfl, by omega, by omega, Nat.zero_le _, HX, HS, HB⟩
   case round =>
    clear HX HS HB
    obtain ⟨k, cy, ys, rfl, rfl, hc0, hc1, hk, HX, HS, HB⟩ := hrel
    have hyl := HX.out.2.1
    have H1000 : k ≤ 200 := by omega
    have hw1 : wrap64 ((k : Int) + 1) = ((k + 1 : Nat) : Int) := by rw [wr64 (by omega) (by omega)]; omega
    have hwi : wrap64 ((i : Int) + (k : Int)) = ((i + k : Nat) : Int) := by rw [wr64 (by omega) (by omega)]; omega
    have hd' : d = l[i] := HD.out
    by_cases hkm : k < m.length
    ·have hxl : i + k < ys.length := by omega
     obtain ⟨ad2, x2, g1⟩ := at_int HM.out k hkm
     rw [show m.getD k 0 = m[k] by simp [List.getD, hkm]] at g1
     have he := HBb.out.1 _ (List.getElem_mem hkm)
     have hx := HX.out.1 _ (List.getElem_mem hxl)
     replace g0 := (HB.out.cell (World.block_lt_of_cell? w _ g0)).trans g0
     replace g1 := (HB.out.cell (World.block_lt_of_cell? w _ g1)).trans g1
     obtain ⟨o0, o1⟩ := own_at HS.out ((i + k : Nat) : Int) (by omega) (by omega)
     have hrd : rd ys ((i + k : Nat) : Int) = ys[i + k] := by unfold rd; rw [Int.toNat_natCast]; simp [List.getD, hxl]
     rw [hrd, Int.toNat_natCast] at o0
     rw [Int.toNat_natCast] at o1
     have hst := fun t => (own_store HS.out ((i + k : Nat) : Int) t).1
     simp only [Int.toNat_natCast] at hst
     have hstep := fun t h0 ht => mulI_step (t := t) HX.out hxl h0 ht
     rw [dif_pos hkm] at hstep
     have HST := Lib.hid hst
     have HSP := Lib.hid hstep
     clear hst hstep hrd
     obtain ⟨x, hxx⟩ : ∃ x, x = ys[i + k] := ⟨_, rfl⟩
     rw [← hxx] at HSP o0 hx
     obtain ⟨e, hee⟩ : ∃ e, e = m[k] := ⟨_, rfl⟩
     rw [← hee] at HSP g1 he
     clear hxx hee hd' HX
     have hp0 : 0 ≤ d * e := Int.mul_nonneg hd.1 he.1
     have hp1 : d * e ≤ 32767 * 32767 := Int.mul_le_mul (by omega) (by omega) he.1 (by omega)
     have ht : cy + x + d * e ≤ 32767 * 32768 + 32767 := by omega
     have ht2 : (cy + x + d * e) / 32768 ≤ 32767 := by omega
     obtain ⟨hx0, hx1⟩ := hx
     obtain ⟨he0, he1⟩ := he
     obtain ⟨hd0, hd1⟩ := hd
     have hkc : (k : Int) < (m.length : Int) := by omega
     go_wp2
     go_quiet (fail)
     clear g0 g1
     go_wp2
     refine ⟨⟨k + 1, (cy + x + d * e) / 32768, ys.set (i + k) ((cy + x + d * e) % 32768), by go_num, rfl, by omega, by omega, by omega, Lib.hid (HSP.out _ (by omega) rfl), Lib.hid (HST.out _), Lib.hid (bT (by first | exact bN HB.out _ | exact HB.out) (Nat.le_of_eq HG.out.symm))⟩, ?_⟩
     simp [intOf]; omega
    ·by_cases hcy : 0 < cy
     ·have hxl : i + k < ys.length := by
       have := HX.out
       rw [hd'] at this
       rw [hyl]
       exact mulI_in HA.out.1 HBb.out.1 hlt hcy this (by omega)
      have hx := HX.out.1 _ (List.getElem_mem hxl)
      obtain ⟨o0, o1⟩ := own_at HS.out ((i + k : Nat) : Int) (by omega) (by omega)
      have hrd : rd ys ((i + k : Nat) : Int) = ys[i + k] := by unfold rd; rw [Int.toNat_natCast]; simp [List.getD, hxl]
      rw [hrd, Int.toNat_natCast] at o0
      rw [Int.toNat_natCast] at o1
      have hst := fun t => (own_store HS.out ((i + k : Nat) : Int) t).1
      simp only [Int.toNat_natCast] at hst
      have hstep := fun t h0 ht => mulI_step (t := t) HX.out hxl h0 ht
      rw [dif_neg hkm] at hstep
      have HST := Lib.hid hst
      have HSP := Lib.hid hstep
      clear hst hstep hrd
      obtain ⟨x, hxx⟩ : ∃ x, x = ys[i + k] := ⟨_, rfl⟩
      rw [← hxx] at HSP o0 hx
      clear hxx hd' HX
      obtain ⟨hx0, hx1⟩ := hx
      have hnk : ¬ (k : Int) < (m.length : Int) := by omega
      have hnk2 : decide (k < m.length) = false := decide_eq_false hkm
      have hil : (i : Int) + (k : Int) < (l.length : Int) + (m.length : Int) := by omega
      go_wp2
      refine ⟨⟨k + 1, (cy + x) / 32768, ys.set (i + k) ((cy + x) % 32768), by go_num, rfl, by omega, by omega, by omega, Lib.hid (HSP.out _ (by omega) (by omega)), Lib.hid (HST.out _), Lib.hid (bT HB.out (Nat.le_of_eq HG.out.symm))⟩, ?_⟩
      simp [intOf]; omega
     ·obtain rfl : cy = 0 := by omega
      have hO : Hid (MulO l m ys (i + 1)) := Lib.hid (by
       have := HX.out
       rw [hd'] at this
       exact mulI_end hlt (by omega) this)
      have hnk : ¬ (k : Int) < (m.length : Int) := by omega
      have hnk2 : decide (k < m.length) = false := decide_eq_false hkm
      clear HX hd'
      go_wp2
      go_roundw
      case rel => exact ⟨i + 1, ys, by go_num, by omega, hO, HS, HB⟩
      case measure => simp [intOf]; omega
  ·have hdone : Hid (vl xs = a * b ∧ Dgs xs ∧ xs.length = l.length + m.length) := Lib.hid ⟨by rw [HI.out.2.2, List.take_of_length_le (by omega), HA.out.2.2, HBb.out.2.2], HI.out.1, HI.out.2.1⟩
   have hC : Kd.C (Kd.int .i64) wr (some ⟨g, 0, none⟩) (l.length + m.length) xs := by
    have h3 : Kd.R (Kd.int .i64) 3 wr g (fun _ => True) (.slice (some ⟨g, 0, none⟩) (l.length + m.length) (l.length + m.length)) xs :=
     Kd.R_of_own (enc := Value.int .i64) (h1 := fun _ => rfl) (by rw [hdone.out.2.2]; exact HS.out) (fun _ _ => trivial)
    have h4 := (Kd.R_reads' h3).2.2
    rwa [hdone.out.2.2] at h4
   have HC := Lib.hid hC
   clear hC
   go_wp2_with (go_at_call 117; refine (cut_w xs _ _ _ _ HC.out (Nat.le_refl _)).mono ?_; rintro e w' ⟨A', k', c', rfl, hk, hc, rfl⟩; (have HC2 := Lib.hid hc); clear hc)
   go_ret
   have hd := cutL_dig hdone.out.2.1
   rw [hdone.out.1] at hd
   exact ⟨_, A', k', c', rfl, hk, HC2.out, hd, HB.out⟩
end Go.Proofs.Q
end
section
namespace Go.Proofs.Q
open RowKit Pw Pl Pm
/-- the real with an index that is not negative -/
def atM (n : Int) : Int := if n < 16777216 then n else n - (n / 8388608 - 1) * 8388608
def atE (n : Int) : Int := if n < 16777216 then (if n = 0 then 0 else -150) else n / 8388608 - 1 - 150
theorem at_w (n : Int) (h0 : 0 ≤ n) (h1 : n ≤ 2533359616) (w : World) :
  Calls Tryz.prog 110 #[.int .i64 n] w fun e w' => e = .returned (.agg #[.int .i64 (atM n), .int .i64 (atE n)]) ∧ Below w.heap.size w w' := by
 have hB := bA (Below.refl w.heap.size w) (.cells #[.int .i64 0, .int .i64 0] 36)
 by_cases h2 : n < 16777216
 ·by_cases h3 : n = 0
  ·subst h3
   go_enter Tryz.func110, Tryz.ntmps110
   go_wp2
   refine bodyPost_ret (v := .agg #[.int .i64 (atM 0), .int .i64 (atE 0)]) (by simp [results, Tryz.results110, go_sem, atM, atE]) rfl ⟨rfl, ?_⟩
   exact bA (Below.refl _ _) _
  ·have hm : atM n = n := by unfold atM; rw [if_pos h2]
   have he : atE n = -150 := by unfold atE; rw [if_pos h2, if_neg h3]
   rw [hm, he]
   have b1 : (n == 0) = false := beq_eq_false_iff_ne.mpr h3
   clear h3 hm he
   go_enter Tryz.func110, Tryz.ntmps110
   go_wp2
   refine bodyPost_ret (v := .agg #[.int .i64 n, .int .i64 (-150)]) (by simp [results, Tryz.results110, go_sem]) rfl ⟨rfl, ?_⟩
   exact bA (Below.refl _ _) _
 ·have hm : atM n = n - (n / 8388608 - 1) * 8388608 := by unfold atM; rw [if_neg h2]
  have he : atE n = n / 8388608 - 1 - 150 := by unfold atE; rw [if_neg h2]
  rw [hm, he]
  clear hm he
  go_enter Tryz.func110, Tryz.ntmps110
  go_wp2
  refine bodyPost_ret (v := .agg #[.int .i64 (n - (n / 8388608 - 1) * 8388608), .int .i64 (n / 8388608 - 1 - 150)]) (by simp [results, Tryz.results110, go_sem]) rfl ⟨rfl, ?_⟩
  exact bA (Below.refl _ _) _
theorem at_bd (n : Int) (h0 : 0 ≤ n) (h1 : n ≤ 2533359616) : 0 ≤ atM n ∧ atM n ≤ 16777216 ∧ -150 ≤ atE n ∧ atE n ≤ 151 ∧ (0 < n → 0 < atM n) := by
 unfold atM atE
 by_cases h : n < 16777216
 ·rw [if_pos h, if_pos h]; split <;> omega
 ·rw [if_neg h, if_neg h]; omega
theorem c2_of {W : World} {g ty : Nat} {a b : Value} (h : W.heap[g]? = some (.cells #[a, b] ty)) : W.cell? ⟨g, 0, none⟩ = some a ∧ W.cell? ⟨g, 1, none⟩ = some b ∧ g < W.heap.size ∧ W.frozen? ⟨g, 0, none⟩ = false ∧ W.frozen? ⟨g, 1, none⟩ = false :=
 ⟨by rw [kC h 0]; rfl, by rw [kC h 1]; rfl, blk_lt h, kF h 0, kF h 1⟩
theorem at_neg (n : Int) (h0 : 0 < n) (h1 : n ≤ 2533359616) (w : World) :
  Calls Tryz.prog 110 #[.int .i64 (-n)] w fun e w' => e = .returned (.agg #[.int .i64 (-(atM n)), .int .i64 (atE n)]) ∧ Below w.heap.size w w' := by
 have hn : -n < 0 := by omega
 obtain ⟨b0, b1, b2, b3, _⟩ := at_bd n (by omega) h1
 have hz : (w.alloc (.cells #[.int .i64 0, .int .i64 0] 36)).heap[w.heap.size]? = some (.cells #[.int .i64 0, .int .i64 0] 36) := heap_alloc_new _ _
 have HAT := Lib.hid (at_w n (by omega) h1)
 obtain ⟨m, hm⟩ : ∃ m, m = atM n := ⟨_, rfl⟩
 obtain ⟨x, hx⟩ : ∃ x, x = atE n := ⟨_, rfl⟩
 rw [← hm, ← hx] at HAT ⊢
 rw [← hm] at b0 b1
 rw [← hx] at b2 b3
 clear hm hx
 obtain ⟨N, hN⟩ : ∃ N, N = -n := ⟨_, rfl⟩
 have hN2 : -N = n := by omega
 rw [← hN] at hn ⊢
 have hN3 : -2533359616 ≤ N := by omega
 have HN2 := Lib.hid hN2
 clear hN hN2
 go_enter Tryz.func110, Tryz.ntmps110
 go_wp2_with (go_at_call 110; rw [HN2.out]; refine (HAT.out _).mono ?_; rintro e w1 ⟨rfl, hb⟩; (replace hz := kB hz hb); (have HB := Lib.hid (bS (bA (Below.refl w.heap.size w) _) hb)); (obtain ⟨z0, z1, zl, f0, f1⟩ := c2_of hz); clear hb)
 refine bodyPost_ret (v := .agg #[.int .i64 (-m), .int .i64 x]) (by simp [results, Tryz.results110, go_sem, z0, z1, zl, Nat.ne_of_lt zl]) rfl ⟨rfl, ?_⟩
 exact bA (bT (bT HB.out (Nat.le_refl _)) (Nat.le_refl _)) _
theorem two_i (n : Int) (h0 : 0 ≤ n) (h1 : n ≤ 400) (w : World) : Calls Tryz.prog 107 #[.int .i64 n] w (Nw (2 ^ n.toNat) w) := by
 have h := two_w (n.toNat / 15) (n.toNat % 15) (by omega) (by omega) w
 rwa [show 15 * (n.toNat / 15) + n.toNat % 15 = n.toNat by omega, show ((n.toNat : Nat) : Int) = n by omega] at h
theorem dig_len {n : Int} {l : List Int} (h : Dig n l) {k : Nat} (hn : n < 32768 ^ k) : l.length ≤ k := by
 rcases Nat.lt_or_ge k l.length with g | g
 ·have hk : Dgs (List.replicate k (0 : Int) ++ []) := (dgs_zeros k).append Dgs.nil
  obtain ⟨h1, h2, h3⟩ := h
  have hne : l ≠ [] := fun e => by subst e; simp at g
  have h4 : (32768 : Int) ^ (l.length - 1) ≤ vl l := by
   have e := vl_at l (l.length - 1) (by omega)
   rw [e]
   have p0 := vl_nn (h1.take (l.length - 1))
   have hd := h1 _ (List.getElem_mem (show l.length - 1 < l.length by omega))
   have hnz : l[l.length - 1] ≠ 0 := by
    have : ∀ (m : List Int) (hm : 0 < m.length), Tight m → m[m.length - 1] ≠ 0 := by
     intro m
     induction m with
     | nil => intro hm; simp at hm
     | cons d r ih =>
      intro _ t
      cases r with
      | nil => exact t
      | cons e r => simpa using ih (by simp) t
    exact this l (by omega) h2
   have p1 := vl_nn (l := l.drop (l.length - 1 + 1)) (fun x hx => h1 x (List.mem_of_mem_drop hx))
   have : (32768 : Int) ^ (l.length - 1) * 1 ≤ 32768 ^ (l.length - 1) * (l[l.length - 1] + 32768 * vl (l.drop (l.length - 1 + 1))) := Int.mul_le_mul_of_nonneg_left (by omega) (Int.le_of_lt (pow_pos' _))
   omega
  have h5 := pow_up (show k ≤ l.length - 1 by omega)
  omega
 ·exact g
/-- the upper half way mark of an index, over 2^151 -/
def hfX (n : Int) : Int := if n = 0 then 0 else atE n + 150
def hf (n : Int) : Int := (2 * atM n + 1) * 2 ^ (hfX n).toNat
theorem hfX_bd (n : Int) (h0 : 0 ≤ n) (h1 : n ≤ 2533359615) : 0 ≤ hfX n ∧ hfX n ≤ 300 := by
 unfold hfX atE
 split
 ·omega
 ·split
  ·omega
  ·omega
theorem pow2_up {a b : Nat} (h : a ≤ b) : (2 : Int) ^ a ≤ 2 ^ b := by
 obtain ⟨k, rfl⟩ : ∃ k, b = a + k := ⟨b - a, by omega⟩
 induction k with
 | zero => exact Int.le_refl _
 | succ k ih =>
  have := ih (by omega)
  have h2 : (2 : Int) ^ (a + (k + 1)) = 2 ^ (a + k) * 2 := by rw [← Nat.add_assoc, Int.pow_succ]
  have : (0 : Int) < 2 ^ (a + k) := Int.pow_pos (by decide)
  omega
theorem half_w (n : Int) (h0 : 0 ≤ n) (h1 : n ≤ 2533359615) (w : World) : Calls Tryz.prog 108 #[.int .i64 n] w (Nw (hf n) w) := by
 have HAT := Lib.hid (at_w n h0 (by omega))
 obtain ⟨b0, b1, b2, b3, _⟩ := at_bd n h0 (by omega)
 obtain ⟨x0, x1⟩ := hfX_bd n h0 h1
 have HTW := Lib.hid (two_i (hfX n) x0 (by omega))
 have HSM := Lib.hid (small_w (2 * atM n + 1) (by omega) (by omega))
 have HF : Hid (hf n = (2 * atM n + 1) * 2 ^ (hfX n).toNat) := Lib.hid rfl
 have hp2 : (2 : Int) ^ (hfX n).toNat < 32768 ^ 21 := by
  have := pow2_up (show (hfX n).toNat ≤ 300 by omega)
  have e1 : (2 : Int) ^ 300 = 32768 ^ 20 := (pow_15 20).symm
  have e2 : (32768 : Int) ^ 21 = 32768 ^ 20 * 32768 := Int.pow_succ ..
  have e3 := pow_pos' 20
  rw [e1] at this
  rw [e2]
  omega
 have hp3 : 2 * atM n + 1 < 32768 ^ 3 := by rw [show (32768 : Int) ^ 3 = 35184372088832 by decide]; omega
 have HP2 := Lib.hid hp2
 have HP3 := Lib.hid hp3
 by_cases hn : n = 0
 ·have hx : hfX n = 0 := by unfold hfX; rw [if_pos hn]
  have b : (n == 0) = true := beq_iff_eq.mpr hn
  rw [hx] at HTW HF HP2
  generalize hf n = R at *
  generalize atM n = m at *
  generalize atE n = x at *
  clear hn hx hp2 hp3 x0 x1
  go_enter Tryz.func108, Tryz.ntmps108
  go_wp2_with (first
   | (go_at_call 110; refine (HAT.out _).mono ?_; rintro e w1 ⟨rfl, hb⟩; (have HB := Lib.hid hb); clear hb)
   | (go_at_call 100; refine (HSM.out _).mono ?_; rintro e w2 ⟨l2, A2, k2, c2, rfl, hk2, hC2, hD2, hb⟩; (have HC2 := Lib.hid hC2); (have HD2 := Lib.hid hD2); (have HB2 := Lib.hid (bS (bA HB.out _) hb)); clear hb hC2 hD2)
   | (go_at_call 107; refine (HTW.out _).mono ?_; rintro e w3 ⟨l3, A3, k3, c3, rfl, hk3, hC3, hD3, hb⟩; (have HC3 := Lib.hid hC3); (have HD3 := Lib.hid hD3); (replace HC2 := Lib.hid (Kd.C_below HC2.out hb)); (have HB3 := Lib.hid (bS HB2.out hb)); clear hb hC3 hD3)
   | (go_at_call 106; refine (mul_w _ _ l2 l3 _ _ _ _ _ _ _ HC2.out HC3.out HD2.out HD3.out (by rw [← HC2.out.1]; exact Nat.le_trans (dig_len HD2.out HP3.out) (by decide)) (by rw [← HC3.out.1]; exact Nat.le_trans (dig_len HD3.out HP2.out) (by decide))).mono ?_; rintro e w4 ⟨l4, A4, k4, c4, rfl, hk4, hC4, hD4, hb⟩; (have HC4 := Lib.hid hC4); (have HD4 := Lib.hid hD4); (have HB4 := Lib.hid (bS HB3.out hb)); clear hb hC4 hD4))
  go_ret
  exact ⟨l4, A4, k4, c4, rfl, hk4, HC4.out, by rw [HF.out]; exact HD4.out, HB4.out⟩
 ·have hx : hfX n = atE n + 150 := by unfold hfX; rw [if_neg hn]
  have b : (n == 0) = false := beq_eq_false_iff_ne.mpr hn
  rw [hx] at HTW HF HP2 x0 x1
  generalize hf n = R at *
  generalize atM n = m at *
  generalize atE n = x at *
  clear hn hx hp2 hp3
  go_enter Tryz.func108, Tryz.ntmps108
  go_wp2_with (first
   | (go_at_call 110; refine (HAT.out _).mono ?_; rintro e w1 ⟨rfl, hb⟩; (have HB := Lib.hid hb); clear hb)
   | (go_at_call 100; refine (HSM.out _).mono ?_; rintro e w2 ⟨l2, A2, k2, c2, rfl, hk2, hC2, hD2, hb⟩; (have HC2 := Lib.hid hC2); (have HD2 := Lib.hid hD2); (have HB2 := Lib.hid (bS (bA HB.out _) hb)); clear hb hC2 hD2)
   | (go_at_call 107; refine (HTW.out _).mono ?_; rintro e w3 ⟨l3, A3, k3, c3, rfl, hk3, hC3, hD3, hb⟩; (have HC3 := Lib.hid hC3); (have HD3 := Lib.hid hD3); (replace HC2 := Lib.hid (Kd.C_below HC2.out hb)); (have HB3 := Lib.hid (bS HB2.out hb)); clear hb hC3 hD3)
   | (go_at_call 106; refine (mul_w _ _ l2 l3 _ _ _ _ _ _ _ HC2.out HC3.out HD2.out HD3.out (by rw [← HC2.out.1]; exact Nat.le_trans (dig_len HD2.out HP3.out) (by decide)) (by rw [← HC3.out.1]; exact Nat.le_trans (dig_len HD3.out HP2.out) (by decide))).mono ?_; rintro e w4 ⟨l4, A4, k4, c4, rfl, hk4, hC4, hD4, hb⟩; (have HC4 := Lib.hid hC4); (have HD4 := Lib.hid hD4); (have HB4 := Lib.hid (bS HB3.out hb)); clear hb hC4 hD4))
  go_ret
  exact ⟨l4, A4, k4, c4, rfl, hk4, HC4.out, by rw [HF.out]; exact HD4.out, HB4.out⟩
end Go.Proofs.Q
end
section
namespace Go.Proofs.Q
open RowKit Shelf Pw Pl Pm
/-- what Round returns: the real of the least index whose half way mark is not below, or the next one -/
def RdI (T lo lo' : Int) : Prop := 0 ≤ lo ∧ lo ≤ 2533359615 ∧ (lo = 0 ∨ hf (lo - 1) < T) ∧ T ≤ hf lo ∧ lo' = (if hf lo = T ∧ atM lo % 2 ≠ 0 then lo + 1 else lo)
def RdP (mi : Bool) (T : Int) (w : World) (e : Ending) (w' : World) : Prop := ∃ lo lo', RdI T lo lo' ∧ e = .returned (.agg #[.int .i64 (if mi = true then -(atM lo') else atM lo'), .int .i64 (atE lo'), .bool true]) ∧ Below w.heap.size w w'
theorem hf_lt (n : Int) (h0 : 0 ≤ n) (h1 : n ≤ 2533359615) : hf n < 32768 ^ 22 := by
 obtain ⟨b0, b1, _⟩ := at_bd n h0 (by omega)
 obtain ⟨x0, x1⟩ := hfX_bd n h0 h1
 have h2 := pow2_up (show (hfX n).toNat ≤ 300 by omega)
 rw [show (2 : Int) ^ 300 = 32768 ^ 20 from (pow_15 20).symm] at h2
 have hp : (0 : Int) < 2 ^ (hfX n).toNat := Int.pow_pos (by decide)
 have h3 : (2 * atM n + 1) * 2 ^ (hfX n).toNat ≤ 33554433 * 2 ^ (hfX n).toNat := Int.mul_le_mul_of_nonneg_right (by omega) (by omega)
 have e : (32768 : Int) ^ 22 = 32768 ^ 20 * 1073741824 := by rw [show 22 = 20 + 2 by rfl, Int.pow_add]; rfl
 have := pow_pos' 20
 unfold hf
 omega
theorem fld36 (M X : Int) (W : World) : (Instr.field 36 (.agg #[.int .i64 M, .int .i64 X]) 0).run Tryz.prog W = .ok (.int .i64 M) W := by
 kernel_rfl
theorem cmp_ge {a T : Int} : (0 ≤ cmpI a T) ↔ T ≤ a := by unfold cmpI; split <;> (try split) <;> omega
theorem cmp_eq {a T : Int} : (cmpI a T = 0) ↔ a = T := by unfold cmpI; split <;> (try split) <;> omega
def rd_T11 : Bool × List (List Nat × List Nat) := (true, [([], []), ([0], [0]), ([], []), ([2], [2]), ([1, 3, 1], [1, 3]), ([], []), ([4, 5, 4], [4, 5]), ([6], [6]), ([7, 6], [7]), ([8], [8]), ([9, 8, 8], [8, 9]), ([10, 8], [8, 10]), ([11, 8], [8, 11]), ([12, 8], [8, 12]), ([8, 13], [8, 13])])
def rd_B11 : List Nat := [0, 1, 0, 4, 15, 0, 63, 127, 255, 511, 1023, 2047, 4095, 8191, 16383]
theorem rd_tab11 : rtab .any (opsOf Tryz.f101 11) = rd_T11 := by kernel_rfl
theorem rd_bits11 : waitsOk rd_T11.2 rd_B11 = true := by kernel_rfl
theorem round_w (mi : Bool) (V : Int) (l m : List Int) (A B : Option Addr) (n c n2 c2 : Nat) (w : World) (hl : Kd.C (Kd.int .i64) w A n l) (hm : Kd.C (Kd.int .i64) w B n2 m) (da : Dig V l) (db : Dig 1 m) (hn : n ≤ 5)
  (hT : V * 2 ^ 151 < hf 2533359615) (hV : V ≤ 2147483648) (hmi : mi = true → 0 < V) :
  Calls Tryz.prog 101 #[.agg #[.bool mi, .slice A n c, .slice B n2 c2]] w (RdP mi (V * 2 ^ 151) w) := by
 have hn2 : n2 ≤ 5 := by rw [← hm.1]; exact Nat.le_trans (dig_len db (k := 1) (by decide)) (by decide)
 have hV0 : 0 ≤ V := by rw [← da.2.2]; exact vl_nn da.1
 have HL := Lib.hid hl
 have HM := Lib.hid hm
 have HDa := Lib.hid da
 have HDb := Lib.hid db
 have HTX := Lib.hid hT
 clear hl hm da db hT
 have hA : ((w.alloc (.cells #[.bool mi, .slice A n c, .slice B n2 c2] 142)).alloc (.cells #[.int .i64 0, .int .i64 0, .bool false] 138)).heap[w.heap.size]? = some (.cells #[.bool mi, .slice A n c, .slice B n2 c2] 142) := kA (heap_alloc_new w _) _
 have hZ : ((w.alloc (.cells #[.bool mi, .slice A n c, .slice B n2 c2] 142)).alloc (.cells #[.int .i64 0, .int .i64 0, .bool false] 138)).heap[w.heap.size + 1]? = some (.cells #[.int .i64 0, .int .i64 0, .bool false] 138) := by
  have := heap_alloc_new (w.alloc (.cells #[.bool mi, .slice A n c, .slice B n2 c2] 142)) (.cells #[.int .i64 0, .int .i64 0, .bool false] 138)
  rwa [World.size_alloc] at this
 have hB : Below w.heap.size w ((w.alloc (.cells #[.bool mi, .slice A n c, .slice B n2 c2] 142)).alloc (.cells #[.int .i64 0, .int .i64 0, .bool false] 138)) := bA (bA (Below.refl _ _) _) _
 go_enter Tryz.func101, Tryz.ntmps101
 go_upto_region 1 with (fail)
 generalize ((w.alloc (.cells #[.bool mi, .slice A n c, .slice B n2 c2] 142)).alloc (.cells #[.int .i64 0, .int .i64 0, .bool false] 138)) = W0 at *
 obtain ⟨b, hb⟩ : ∃ b, b = w.heap.size := ⟨_, rfl⟩
 obtain ⟨D, hD⟩ : ∃ D, D = w.heap.size + 1 := ⟨_, rfl⟩
 rw [← hb] at hA
 rw [← hD] at hZ
 rw [← hD, ← hb]
 have HBe := Lib.hid hb
 have HDe := Lib.hid hD
 clear hb hD
 have s0 : W0.cell? ⟨b, 0, none⟩ = some (.bool mi) := by rw [kC hA 0]; rfl
 have s1 : W0.cell? ⟨b, 1, none⟩ = some (.slice A n c) := by rw [kC hA 1]; rfl
 have s2 : W0.cell? ⟨b, 2, none⟩ = some (.slice B n2 c2) := by rw [kC hA 2]; rfl
 have hbl := blk_lt hA
 replace hZ : W0.drew.heap[D]? = some (.cells #[.int .i64 0, .int .i64 0, .bool false] 138) := hZ
 go_cut [3] (fun v wc => ∃ (A3 : Option Addr) (k3 c3 : Nat), v = .slice A3 k3 c3 ∧ Hid (∃ l3, Kd.C (Kd.int .i64) wc A3 k3 l3 ∧ Dig (V * 2 ^ 151) l3) ∧ Hid (wc.heap[b]? = some (.cells #[.bool mi, .slice A n c, .slice B n2 c2] 142)) ∧ Hid (wc.heap[D]? = some (.cells #[.int .i64 0, .int .i64 0, .bool false] 138)) ∧ Hid (Below w.heap.size w wc))
 case first =>
  have HA0 := Lib.hid hA
  clear hA
  replace HA0 : Hid (W0.drew.heap[b]? = some (.cells #[.bool mi, .slice A n c, .slice B n2 c2] 142)) := Lib.hid HA0.out
  go_region_held3 (fun w' => w'.cell? ⟨b, 0, none⟩ = some (.bool mi) ∧ w'.cell? ⟨b, 1, none⟩ = some (.slice A n c) ∧ w'.cell? ⟨b, 2, none⟩ = some (.slice B n2 c2) ∧ Below w.heap.size w w')
   (first | exact ⟨s0, s1, s2, below_drew hB⟩ | exact ⟨s0, s1, s2, hB⟩ | exact kept3 (by assumption) (by assumption))
   (first
    | (go_at_call 107; refine (two_i 151 (by decide) (by decide) _).mono ?_; rintro e w1 ⟨l1, A1, k1, c1, rfl, hk1, hC1, hD1, hb⟩; (replace hZ := kB hZ hb); (replace HA0 := Lib.hid (kB HA0.out hb)); (have HC1 := Lib.hid hC1); (have HD1 := Lib.hid hD1); (have HL1 := Lib.hid (Kd.C_below HL.out (bS (last3 (by assumption)) hb))); clear hC1 hD1)
    | (go_at_call 106; refine (mul_w _ _ l l1 _ _ _ _ _ _ _ HL1.out HC1.out HDa.out HD1.out (by omega) (by rw [← HC1.out.1]; exact Nat.le_trans (dig_len HD1.out (k := 11) (by decide)) (by decide))).mono ?_; rintro e w2 ⟨l2, A2, k2, c3, rfl, hk2, hC2, hD2, hb2⟩; (replace hZ := kB hZ hb2); (replace HA0 := Lib.hid (kB HA0.out hb2)); (have HC2 := Lib.hid hC2); (have HD2 := Lib.hid hD2); clear hC2 hD2))
  rename_i hHeld
  have hBf := last3 hHeld
  clear hHeld
  have HZ0 := Lib.hid hZ
  clear hZ
  go_wp2
  go_meet
  case rel => exact ⟨A2, k2, c3, rfl, Lib.hid ⟨l2, HC2.out, HD2.out⟩, HA0, HZ0, Lib.hid hBf⟩
 case rest =>
  clear hA hZ hB s0 s1 s2 hbl
  obtain ⟨A3, k3, c3, rfl, HL3, HA, HZ, HB⟩ := hcut
  obtain ⟨l3, hC3, hD3⟩ := HL3.out
  have HC3 := Lib.hid hC3
  have HD3 := Lib.hid hD3
  have hk3 : k3 ≤ 100 := by
   rw [← hC3.1]
   refine Nat.le_trans (dig_len hD3 (k := 14) ?_) (by decide)
   have e1 : V * 2 ^ 151 ≤ 2147483648 * 2 ^ 151 := Int.mul_le_mul_of_nonneg_right hV (by decide)
   have e2 : (2147483648 : Int) * 2 ^ 151 < 32768 ^ 14 := by decide
   omega
  clear hC3 hD3 HL3
  obtain ⟨T, hT⟩ : ∃ T, T = V * 2 ^ 151 := ⟨_, rfl⟩
  rw [← hT] at HD3 HTX
  have HT := Lib.hid hT
  clear hT
  go_wp2
  go_loopw [4, 5, 6] (fun u v _ wr => ∃ (lo hi : Int), u = .int .i64 lo ∧ v = .int .i64 hi ∧ 0 ≤ lo ∧ lo ≤ hi ∧ hi ≤ 2533359616 ∧ Hid (lo = 0 ∨ hf (lo - 1) < T) ∧ Hid (hi = 2533359616 ∨ T ≤ hf hi) ∧ Hid (Below wc.heap.size wc wr)) (fun u v _ _ => (intOf v - intOf u).toNat)
  case atStart => exact ⟨0, 2533359616, rfl, rfl, by omega, by omega, by omega, Lib.hid (.inl rfl), Lib.hid (.inl rfl), Lib.hid (Below.refl _ _)⟩
  case round =>
   obtain ⟨lo, hi, rfl, rfl, h0, h1, h2, HLo, HHi, HW⟩ := hrel
   have hA := kB HA.out HW.out
   have hZ := kB HZ.out HW.out
   have hBw := bS HB.out HW.out
   by_cases hlt : lo < hi
   ·go_upto_region 6 with (fail)
    have hm0 : 0 ≤ (lo + hi) / 2 := by omega
    have hm1 : lo ≤ (lo + hi) / 2 := by omega
    have hm2 : (lo + hi) / 2 < hi := by omega
    generalize (lo + hi) / 2 = mid at *
    have hBl := blk_lt hA
    have s0 : wr.cell? ⟨b, 0, none⟩ = some (.bool mi) := by rw [kC hA 0]; rfl
    have s1 : wr.cell? ⟨b, 1, none⟩ = some (.slice A n c) := by rw [kC hA 1]; rfl
    have s2 : wr.cell? ⟨b, 2, none⟩ = some (.slice B n2 c2) := by rw [kC hA 2]; rfl
    have hWb := HW.out
    clear hA hZ hBw
    have HML := Lib.hid (hf_lt mid hm0 (by omega))
    have HHF := Lib.hid (half_w mid hm0 (by omega))
    obtain ⟨sc, hsc⟩ : ∃ s, s = cmpI (hf mid * 1) T := ⟨_, rfl⟩
    have HSC := Lib.hid hsc
    clear hsc
    go_region_held3 (fun w' => w'.cell? ⟨b, 0, none⟩ = some (.bool mi) ∧ w'.cell? ⟨b, 1, none⟩ = some (.slice A n c) ∧ w'.cell? ⟨b, 2, none⟩ = some (.slice B n2 c2) ∧ Below wc.heap.size wc w')
     (first | exact ⟨s0, s1, s2, below_drew hWb⟩ | exact ⟨s0, s1, s2, hWb⟩ | exact kept3 (by assumption) (by assumption))
     (first
      | (go_at_call 108; refine (HHF.out _).mono ?_; rintro e w1 ⟨l1, A1, k1, c1, rfl, hk1, hC1, hD1, hb⟩; (have HC1 := Lib.hid hC1); (have HD1 := Lib.hid hD1); (have HM1 := Lib.hid (Kd.C_below HM.out (bS HB.out (bS (last3 (by assumption)) hb)))); (have HC31 := Lib.hid (Kd.C_below HC3.out (bS (last3 (by assumption)) hb))); clear hC1 hD1)
      | (go_at_call 106; refine (mul_w _ _ l1 m _ _ _ _ _ _ _ HC1.out HM1.out HD1.out HDb.out (by rw [← HC1.out.1]; exact Nat.le_trans (dig_len HD1.out HML.out) (by decide)) (by omega)).mono ?_; rintro e w2 ⟨l2, A2, k2, c4, rfl, hk2, hC2, hD2, hb2⟩; (have HC2 := Lib.hid hC2); (have HD2 := Lib.hid hD2); (replace HC31 := Lib.hid (Kd.C_below HC31.out hb2)); clear hC2 hD2)
      | (go_at_call 109; refine (cmp_w _ _ l2 l3 _ _ _ _ _ _ _ HC2.out HC31.out HD2.out HD3.out).mono ?_; rintro e w3 ⟨rfl, hb3⟩; rw [← HSC.out]))
    rename_i hHeld
    have hBf := last3 hHeld
    clear hHeld
    by_cases hge : T ≤ hf mid
    ·have b1 : (0 : Int) ≤ sc := by rw [HSC.out, cmp_ge, Int.mul_one]; exact hge
     have HGE := Lib.hid hge
     clear hge
     go_wp2
     go_roundw
     case rel => exact ⟨lo, mid, rfl, rfl, by omega, by omega, by omega, HLo, Lib.hid (.inr HGE.out), Lib.hid hBf⟩
     case measure => simp [intOf]; omega
    ·have b1 : ¬ (0 : Int) ≤ sc := by rw [HSC.out, cmp_ge, Int.mul_one]; exact hge
     have HGE := Lib.hid (show hf mid < T by omega)
     clear hge
     go_wp2
     go_roundw
     case rel => exact ⟨mid + 1, hi, rfl, rfl, by omega, by omega, by omega, Lib.hid (.inr (by rw [show mid + 1 - 1 = mid by omega]; exact HGE.out)), HHi, Lib.hid hBf⟩
     case measure => simp [intOf]; omega
   ·obtain rfl : lo = hi := by omega
    have hmax : lo ≤ 2533359615 := by
     rcases HLo.out with h | h
     ·omega
     ·by_cases hx : lo = 2533359616
      ·rw [hx, show (2533359616 : Int) - 1 = 2533359615 by decide] at h
       have := HTX.out
       omega
      ·omega
    have hup : T ≤ hf lo := by
     rcases HHi.out with h | h
     ·omega
     ·exact h
    have hpos : mi = true → 0 < lo := fun h => by
     have h1 := hmi h
     rcases Int.lt_or_le 0 lo with g | g
     ·exact g
     ·obtain rfl : lo = 0 := by omega
      have e0 : hf 0 = 1 := by decide
      rw [e0, HT.out] at hup
      have e1 : 1 * 2 ^ 151 ≤ V * 2 ^ 151 := Int.mul_le_mul_of_nonneg_right (by omega) (by decide)
      have e2 : (2 : Int) ≤ 1 * 2 ^ 151 := by decide
      omega
    obtain ⟨m0, m1, m2, m3, _⟩ := at_bd lo h0 (by omega)
    have HRI : Hid (∀ lo', lo' = (if hf lo = T ∧ atM lo % 2 ≠ 0 then lo + 1 else lo) → RdI T lo lo') := Lib.hid (fun lo' h => ⟨h0, hmax, HLo.out, hup, h⟩)
    have htop : hf lo = T → lo + 1 ≤ 2533359615 := fun h => by
     have := HTX.out
     by_cases hx : lo = 2533359615
     ·rw [hx] at h; omega
     ·omega
    have HTOP := Lib.hid htop
    have HPOS := Lib.hid hpos
    have HHF := Lib.hid (half_w lo h0 hmax)
    have HML := Lib.hid (hf_lt lo h0 hmax)
    have HAT := Lib.hid (at_w lo h0 (by omega))
    have hlom : ¬ (2533359615 < lo) := by omega
    obtain ⟨sc, hsc⟩ : ∃ s, s = cmpI (hf lo * 1) T := ⟨_, rfl⟩
    have hsc0 : sc = 0 ↔ hf lo = T := by rw [hsc, cmp_eq, Int.mul_one]
    have HSC := Lib.hid hsc
    have HSC0 := Lib.hid hsc0
    clear hsc hsc0 htop hpos hup HLo HHi
    have hBl := blk_lt hA
    have s0 : wr.cell? ⟨b, 0, none⟩ = some (.bool mi) := by rw [kC hA 0]; rfl
    have s1 : wr.cell? ⟨b, 1, none⟩ = some (.slice A n c) := by rw [kC hA 1]; rfl
    have s2 : wr.cell? ⟨b, 2, none⟩ = some (.slice B n2 c2) := by rw [kC hA 2]; rfl
    have hWb := HW.out
    have HAW := Lib.hid hA
    clear hA hZ hBw
    go_upto_region 11 with (fail)
    generalize hME : atM lo = M at *
    generalize hXE : atE lo = X at *
    have HME := Lib.hid hME
    have HXE := Lib.hid hXE
    clear hME hXE
    go_cut [47] (fun v wa => ∃ tie : Bool, v = .bool tie ∧ Hid (tie = true ↔ hf lo = T ∧ M % 2 ≠ 0) ∧ Hid (Below wc.heap.size wc wa))
    case first =>
     by_cases hs : sc = 0
     ·have hq := HSC0.out.1 hs
      subst hs
      have hfld : ∀ W : World, (Instr.field 36 (.agg #[.int .i64 M, .int .i64 X]) 0).run Tryz.prog W = .ok (.int .i64 M) W := fun W => fld36 M X W
      by_cases ho : M % 2 = 0
      ·have b2 : (M.tmod 2 != 0) = false := by rw [Int.tmod_eq_emod_of_nonneg m0]; simp [ho]
       have HFIN : Hid (false = true ↔ hf lo = T ∧ M % 2 ≠ 0) := Lib.hid (by simp [ho])
       clear hq ho
       go_region_held3 (fun w' => w'.cell? ⟨b, 0, none⟩ = some (.bool mi) ∧ w'.cell? ⟨b, 1, none⟩ = some (.slice A n c) ∧ w'.cell? ⟨b, 2, none⟩ = some (.slice B n2 c2) ∧ Below wc.heap.size wc w')
        (first | exact ⟨s0, s1, s2, below_drew hWb⟩ | exact ⟨s0, s1, s2, hWb⟩ | exact kept3 (by assumption) (by assumption))
        (first
         | (go_at_call 108; refine (HHF.out _).mono ?_; rintro e w1 ⟨l1, A1, k1, c1, rfl, hk1, hC1, hD1, hb⟩; (have HC1 := Lib.hid hC1); (have HD1 := Lib.hid hD1); (have HM1 := Lib.hid (Kd.C_below HM.out (bS HB.out (bS (last3 (by assumption)) hb)))); (have HC31 := Lib.hid (Kd.C_below HC3.out (bS (last3 (by assumption)) hb))); clear hC1 hD1)
         | (go_at_call 106; refine (mul_w _ _ l1 m _ _ _ _ _ _ _ HC1.out HM1.out HD1.out HDb.out (by rw [← HC1.out.1]; exact Nat.le_trans (dig_len HD1.out HML.out) (by decide)) (by omega)).mono ?_; rintro e w2 ⟨l2, A2, k2, c4, rfl, hk2, hC2, hD2, hb2⟩; (have HC2 := Lib.hid hC2); (have HD2 := Lib.hid hD2); (replace HC31 := Lib.hid (Kd.C_below HC31.out hb2)); clear hC2 hD2)
         | (go_at_call 109; refine (cmp_w _ _ l2 l3 _ _ _ _ _ _ _ HC2.out HC31.out HD2.out HD3.out).mono ?_; rintro e w3 ⟨rfl, hb3⟩; rw [← HSC.out])
         | (go_at_call 110; refine (HAT.out _).mono ?_; rintro e w4 ⟨rfl, hb4⟩))
       rename_i hHeld
       have hBf := last3 hHeld
       clear hHeld
       go_wp2
       go_meet
       case rel => exact ⟨false, rfl, Lib.hid (by simpa using HFIN.out), Lib.hid hBf⟩
      ·have b2 : (M.tmod 2 != 0) = true := by rw [Int.tmod_eq_emod_of_nonneg m0]; simp [ho]
       have HFIN : Hid (true = true ↔ hf lo = T ∧ M % 2 ≠ 0) := Lib.hid (by simp [ho, hq])
       clear hq ho
       go_region_held3 (fun w' => w'.cell? ⟨b, 0, none⟩ = some (.bool mi) ∧ w'.cell? ⟨b, 1, none⟩ = some (.slice A n c) ∧ w'.cell? ⟨b, 2, none⟩ = some (.slice B n2 c2) ∧ Below wc.heap.size wc w')
        (first | exact ⟨s0, s1, s2, below_drew hWb⟩ | exact ⟨s0, s1, s2, hWb⟩ | exact kept3 (by assumption) (by assumption))
        (first
         | (go_at_call 108; refine (HHF.out _).mono ?_; rintro e w1 ⟨l1, A1, k1, c1, rfl, hk1, hC1, hD1, hb⟩; (have HC1 := Lib.hid hC1); (have HD1 := Lib.hid hD1); (have HM1 := Lib.hid (Kd.C_below HM.out (bS HB.out (bS (last3 (by assumption)) hb)))); (have HC31 := Lib.hid (Kd.C_below HC3.out (bS (last3 (by assumption)) hb))); clear hC1 hD1)
         | (go_at_call 106; refine (mul_w _ _ l1 m _ _ _ _ _ _ _ HC1.out HM1.out HD1.out HDb.out (by rw [← HC1.out.1]; exact Nat.le_trans (dig_len HD1.out HML.out) (by decide)) (by omega)).mono ?_; rintro e w2 ⟨l2, A2, k2, c4, rfl, hk2, hC2, hD2, hb2⟩; (have HC2 := Lib.hid hC2); (have HD2 := Lib.hid hD2); (replace HC31 := Lib.hid (Kd.C_below HC31.out hb2)); clear hC2 hD2)
         | (go_at_call 109; refine (cmp_w _ _ l2 l3 _ _ _ _ _ _ _ HC2.out HC31.out HD2.out HD3.out).mono ?_; rintro e w3 ⟨rfl, hb3⟩; rw [← HSC.out])
         | (go_at_call 110; refine (HAT.out _).mono ?_; rintro e w4 ⟨rfl, hb4⟩))
       rename_i hHeld
       have hBf := last3 hHeld
       clear hHeld
       go_wp2
       go_meet
       case rel => exact ⟨true, rfl, Lib.hid (by simpa using HFIN.out), Lib.hid hBf⟩
     ·have HFIN : Hid (false = true ↔ hf lo = T ∧ M % 2 ≠ 0) := Lib.hid (by simp; intro h; exact absurd (HSC0.out.2 h) hs)
      have hs1 : sc = 1 := by
       have h1 := HSC.out
       have h2 : T ≤ hf lo := (HRI.out _ rfl).2.2.2.1
       unfold cmpI at h1
       rw [Int.mul_one] at h1
       split at h1
       ·omega
       ·split at h1
        ·exact h1
        ·exact absurd h1 hs
      subst hs1
      clear hs
      clear s0 s1
      have hWd := below_drew hWb
      have hs2d : wr.drew.cell? ⟨b, 2, none⟩ = some (.slice B n2 c2) := s2
      clear s2
      refine start_ (n := 15) (S := fun w' => w'.cell? ⟨b, 2, none⟩ = some (.slice B n2 c2)) (ds := []) #[false, false, false, false, false, false, false, false, false, false, false, false, false, false, false] (by kernel_rfl) rfl rfl hs2d (fun hHeld => ?_); refine with_tabW rd_tab11 rd_bits11 (fun HT_ HW_ => ?_)
      refine pw 0 33 15 1 HT_ ?_
      refine pw 2 35 15 5 HT_ ?_
      refine pw 5 38 15 37 HT_ ?_
      refine take_ (i := 3) (N := some 36) (v := ?_) (a' := ?_) #[true, false, true, true, false, true, false, false, false, false, false, false, false, false, false] rfl rfl (take_ofW HT_.out HW_.out (by kernel_rfl)) (fun _ _ _ h => h) (Or.inl ⟨by rfl, ?_⟩) hHeld ?_ ?_
      rotate_left
      ·rintro w' s2
       go_simp
       with_reducible rfl
      rotate_left
      ·simp only [Act.put, List.setIfInBounds_toArray, List.set_cons_zero, List.set_cons_succ, i64_w, i32_w]
       rfl
      refine one_ (i := 1) (N := some 34) #[true, true, true, true, false, true, false, false, false, false, false, false, false, false, false] rfl rfl (one_of HT_.out (by kernel_rfl)) (by decide) (fun K hK => ?_)
      refine gs Tryz.func108 #[.int .i64 lo] ?_
      refine (HHF.out _).mono ?_
      rintro e w1 ⟨l1, A1, k1, c1, rfl, hk1, hC1, hD1, hb⟩
      have HC1 := Lib.hid hC1
      have HD1 := Lib.hid hD1
      have hW1 := bS hWd hb
      have HM1 := Lib.hid (Kd.C_below HM.out (bS HB.out hW1))
      have HC31 := Lib.hid (Kd.C_below HC3.out hW1)
      have t1 := cB hb hs2d
      refine ⟨_, rfl, ?_⟩
      refine hK.out _ _ t1 (fun hHeld => ?_)
      clear hK K
      refine nm 34 ?_
      refine one_ (i := 4) (N := some 37) #[true, true, true, true, true, true, false, false, false, false, false, false, false, false, false] rfl rfl (one_of HT_.out (by kernel_rfl)) (by decide) (fun K hK => ?_)
      refine gs Tryz.func106 #[.slice A1 k1 c1, .slice B n2 c2] ?_
      refine (mul_w _ _ l1 m _ _ _ _ _ _ _ HC1.out HM1.out HD1.out HDb.out (by rw [← HC1.out.1]; exact Nat.le_trans (dig_len HD1.out HML.out) (by decide)) (by omega)).mono ?_
      rintro e w2 ⟨l2, A2, k2, c4, rfl, hk2, hC2, hD2, hb2⟩
      have HC2 := Lib.hid hC2
      have HD2 := Lib.hid hD2
      have hW2 := bS hW1 hb2
      replace HC31 := Lib.hid (Kd.C_below HC31.out hb2)
      have t2 := cB hb2 t1
      refine ⟨_, rfl, ?_⟩
      refine hK.out _ _ t2 (fun hHeld => ?_)
      clear hK K
      refine nm 37 ?_
      refine one_ (i := 6) (N := some 39) #[true, true, true, true, true, true, true, false, false, false, false, false, false, false, false] rfl rfl (one_of HT_.out (by kernel_rfl)) (by decide) (fun K hK => ?_)
      refine gs Tryz.func109 #[.slice A2 k2 c4, .slice A3 k3 c3] ?_
      refine (cmp_w _ _ l2 l3 _ _ _ _ _ _ _ HC2.out HC31.out HD2.out HD3.out).mono ?_
      rintro e w3 ⟨rfl, hb3⟩
      rw [← HSC.out]
      have hW3 := bS hW2 hb3
      have t3 := cB hb3 t2
      refine ⟨_, rfl, ?_⟩
      refine hK.out _ _ t3 (fun hHeld => ?_)
      clear hK K
      refine nm 39 ?_
      refine pw 7 40 15 255 HT_ ?_
      refine pw 8 41 15 511 HT_ ?_
      refine uw 9 42 15 1023 HT_ ?_
      refine uw 10 43 15 2047 HT_ ?_
      refine uw 11 44 15 4095 HT_ ?_
      refine uw 12 45 15 8191 HT_ ?_
      refine uw 13 46 15 16383 HT_ ?_
      refine pw 14 47 15 32767 HT_ ?_
      refine done_ (done_of HT_.out (by kernel_rfl)) ?_
      go_wp2
      go_meet
      case rel => exact ⟨false, rfl, Lib.hid (by simpa using HFIN.out), Lib.hid hW3⟩
    case rest =>
     obtain ⟨tie, rfl, HTI, HWx⟩ := hcut
     have hW2 := bS HB.out HWx.out
     have hA2 := kB HA.out HWx.out
     have hZ2 := kB HZ.out HWx.out
     clear hWb HAW s0 s1 s2 hBl
     cases tie with
     | true =>
      have hle : lo + 1 ≤ 2533359615 := by first | exact hmax | exact HTOP.out (HTI.out.1 rfl).1
      have hl0 : 0 ≤ lo + 1 := by omega
      have hnm : ¬ (2533359615 < lo + 1) := by omega
      have HRD := Lib.hid (HRI.out (lo + 1) (by rw [if_pos (HTI.out.1 rfl)]))
      have HAT1 := Lib.hid (at_w (lo + 1) hl0 (by omega))
      obtain ⟨p0, p1, p2, p3, _⟩ := at_bd (lo + 1) hl0 (by omega)
      cases mi with
      | false =>
       generalize hP : atM (lo + 1) = P at *
       generalize hQ : atE (lo + 1) = Q at *
       have HP := Lib.hid hP
       have HQ := Lib.hid hQ
       clear hP hQ
       go_wp2_with (first
        | (go_at_call 110; refine (HAT1.out _).mono ?_; rintro e w5 ⟨rfl, hb⟩; (have hW5 := bS hW2 hb); (have a0 := c3_0 (kB hA2 hb)); (have al := blk_lt (kB hA2 hb)); (have hZ5 := kB hZ2 hb); (have z0 := c3_0 hZ5); (have z1 := c3_1 hZ5); (have z2 := c3_2 hZ5); (have zl := blk_lt hZ5); (have zf0 := kF hZ5 0); (have zf1 := kF hZ5 1); (have zf2 := kF hZ5 2); clear hb))
       refine bodyPost_ret (v := .agg #[.int .i64 P, .int .i64 Q, .bool true]) (by clear hZ5; simp [results, Tryz.results101, go_sem, z0, z1, z2, zl, Nat.ne_of_lt zl]) rfl ⟨lo, lo + 1, by rw [← HT.out]; exact HRD.out, by rw [HP.out, HQ.out]; rfl, ?_⟩
       have hDw : w.heap.size ≤ D := by have := HDe.out; omega
       repeat (first | exact hW5 | refine bA ?_ _ | refine bT ?_ hDw)
      | true =>
       have hl1 : 0 < lo + 1 := by have := HPOS.out rfl; omega
       have HAN := Lib.hid (at_neg (lo + 1) hl1 (by omega))
       generalize hP : atM (lo + 1) = P at *
       generalize hQ : atE (lo + 1) = Q at *
       have HP := Lib.hid hP
       have HQ := Lib.hid hQ
       clear hP hQ
       have N1 := Lib.hid trivial
       go_wp2_with (first
        | (go_at_call 110; (have N := N1); clear N N1; refine (HAT1.out _).mono ?_; rintro e w5 ⟨rfl, hb⟩; (have hW5 := bS hW2 hb); (have hA5 := kB hA2 hb); (have a0 := c3_0 hA5); (have al := blk_lt hA5); (have hZ5 := kB hZ2 hb); (have N2 := Lib.hid trivial); clear hb)
        | (go_at_call 110; (have N := N2); clear N N2; refine (HAN.out _).mono ?_; rintro e w6 ⟨rfl, hb⟩; (have hW6 := bS (bA hW5 _) hb); (have hX6 := kB (heap_alloc_new _ _) hb); (obtain ⟨x0, x1, xl, xf0, xf1⟩ := c2_of hX6); (have hZ6 := kB (kA hZ5 _) hb); (have z0 := c3_0 hZ6); (have z1 := c3_1 hZ6); (have z2 := c3_2 hZ6); (have zl := blk_lt hZ6); (have zf0 := kF hZ6 0); (have zf1 := kF hZ6 1); (have zf2 := kF hZ6 2); (have zx : D ≠ w5.heap.size := Nat.ne_of_lt (blk_lt hZ5)); (have zx2 := zx.symm); clear hb a0 al hA5))
       refine bodyPost_ret (v := .agg #[.int .i64 (-P), .int .i64 Q, .bool true]) (by clear hZ6 hX6 hZ5; simp [results, Tryz.results101, go_sem, z0, z1, z2, zl, zx, zx2, Nat.ne_of_lt zl]) rfl ⟨lo, lo + 1, by rw [← HT.out]; exact HRD.out, by rw [HP.out, HQ.out]; rfl, ?_⟩
       have hDw : w.heap.size ≤ D := by have := HDe.out; omega
       have hXw : w.heap.size ≤ w5.heap.size := hW5.size
       repeat (first | exact hW6 | refine bA ?_ _ | refine bT ?_ hDw | refine bT ?_ hXw)
     | false =>
      have hle : lo ≤ 2533359615 := by first | exact hmax | exact HTOP.out (HTI.out.1 rfl).1
      have hl0 : 0 ≤ lo := by omega
      have hnm : ¬ (2533359615 < lo) := by omega
      have HRD := Lib.hid (HRI.out (lo) (by rw [if_neg (fun h => by have := HTI.out.2 h; cases this)]))
      have HAT1 := Lib.hid (at_w (lo) hl0 (by omega))
      obtain ⟨p0, p1, p2, p3, _⟩ := at_bd (lo) hl0 (by omega)
      cases mi with
      | false =>
       generalize hP : atM (lo) = P at *
       generalize hQ : atE (lo) = Q at *
       have HP := Lib.hid hP
       have HQ := Lib.hid hQ
       clear hP hQ
       go_wp2_with (first
        | (go_at_call 110; refine (HAT1.out _).mono ?_; rintro e w5 ⟨rfl, hb⟩; (have hW5 := bS hW2 hb); (have a0 := c3_0 (kB hA2 hb)); (have al := blk_lt (kB hA2 hb)); (have hZ5 := kB hZ2 hb); (have z0 := c3_0 hZ5); (have z1 := c3_1 hZ5); (have z2 := c3_2 hZ5); (have zl := blk_lt hZ5); (have zf0 := kF hZ5 0); (have zf1 := kF hZ5 1); (have zf2 := kF hZ5 2); clear hb))
       refine bodyPost_ret (v := .agg #[.int .i64 P, .int .i64 Q, .bool true]) (by clear hZ5; simp [results, Tryz.results101, go_sem, z0, z1, z2, zl, Nat.ne_of_lt zl]) rfl ⟨lo, lo, by rw [← HT.out]; exact HRD.out, by rw [HP.out, HQ.out]; rfl, ?_⟩
       have hDw : w.heap.size ≤ D := by have := HDe.out; omega
       repeat (first | exact hW5 | refine bA ?_ _ | refine bT ?_ hDw)
      | true =>
       have hl1 : 0 < lo := by have := HPOS.out rfl; omega
       have HAN := Lib.hid (at_neg (lo) hl1 (by omega))
       generalize hP : atM (lo) = P at *
       generalize hQ : atE (lo) = Q at *
       have HP := Lib.hid hP
       have HQ := Lib.hid hQ
       clear hP hQ
       have N1 := Lib.hid trivial
       go_wp2_with (first
        | (go_at_call 110; (have N := N1); clear N N1; refine (HAT1.out _).mono ?_; rintro e w5 ⟨rfl, hb⟩; (have hW5 := bS hW2 hb); (have hA5 := kB hA2 hb); (have a0 := c3_0 hA5); (have al := blk_lt hA5); (have hZ5 := kB hZ2 hb); (have N2 := Lib.hid trivial); clear hb)
        | (go_at_call 110; (have N := N2); clear N N2; refine (HAN.out _).mono ?_; rintro e w6 ⟨rfl, hb⟩; (have hW6 := bS (bA hW5 _) hb); (have hX6 := kB (heap_alloc_new _ _) hb); (obtain ⟨x0, x1, xl, xf0, xf1⟩ := c2_of hX6); (have hZ6 := kB (kA hZ5 _) hb); (have z0 := c3_0 hZ6); (have z1 := c3_1 hZ6); (have z2 := c3_2 hZ6); (have zl := blk_lt hZ6); (have zf0 := kF hZ6 0); (have zf1 := kF hZ6 1); (have zf2 := kF hZ6 2); (have zx : D ≠ w5.heap.size := Nat.ne_of_lt (blk_lt hZ5)); (have zx2 := zx.symm); clear hb a0 al hA5))
       refine bodyPost_ret (v := .agg #[.int .i64 (-P), .int .i64 Q, .bool true]) (by clear hZ6 hX6 hZ5; simp [results, Tryz.results101, go_sem, z0, z1, z2, zl, zx, zx2, Nat.ne_of_lt zl]) rfl ⟨lo, lo, by rw [← HT.out]; exact HRD.out, by rw [HP.out, HQ.out]; rfl, ?_⟩
       have hDw : w.heap.size ≤ D := by have := HDe.out; omega
       have hXw : w.heap.size ≤ w5.heap.size := hW5.size
       repeat (first | exact hW6 | refine bA ?_ _ | refine bT ?_ hDw | refine bT ?_ hXw)
end Go.Proofs.Q
end
