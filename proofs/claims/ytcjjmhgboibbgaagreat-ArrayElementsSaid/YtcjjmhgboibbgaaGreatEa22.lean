/-
 Texts of the proof, in build order: words that the walks use, contracts of functions, plain facts.
-/
import Derived.Test.YtcjjmhgboibbgaaGreatEa20
import Derived.Test.YtcjjmhgboibbgaaGreatEa21
set_option maxHeartbeats 40000000
set_option maxRecDepth 100000
set_option linter.unusedVariables false
set_option linter.unusedSimpArgs false
section
namespace Go.Proofs.Q
open RowKit Rf Pw Pl Pm
/-- a number below 2^32 as digits -/
def Lm (v : Int) : List Int := if v = 0 then [] else [v]
theorem wrap64_nn {n : Int} (h0 : -9223372036854775808 ≤ n) (h1 : n ≤ 9223372036854775807) : wrap64 n = n := by
 unfold wrap64; omega
theorem trim_one (k : Nat) (v : Int) : real_trim.f (k + 2) [v] = some (Lm v) := by
 unfold Lm
 by_cases hv : v = 0
 ·subst hv; simp [real_trim.f, real_trim.l0, wrap64, rd]
 ·simp [real_trim.f, real_trim.l0, wrap64, rd, hv]
theorem trim_two (k : Nat) (v : Int) : real_trim.f (k + 3) [v, 0] = some (Lm v) := by
 have h := trim_one k v
 unfold real_trim.f at h ⊢
 rw [real_trim.l0]
 have e : wrap64 ((([v, 0] : List Int).length : Int) - 1) = 1 := by simp [wrap64]
 rw [e]
 rw [if_pos (by simp), if_pos (by omega), if_pos (by simp), if_pos (by rfl), if_pos (by simp)]
 exact h
theorem u64_nn {n : Int} (h0 : 0 ≤ n) (h1 : n < 18446744073709551616) : IntKind.u64.wrap n = n := by
 simp [IntKind.wrap, IntKind.signed, IntKind.bits]; omega
theorem or_zero_l (n : Int) (h0 : 0 ≤ n) (h1 : n < 18446744073709551616) : Go.bits .or .u64 0 n = n := by
 obtain ⟨m, rfl⟩ : ∃ m : Nat, n = (m : Int) := ⟨n.toNat, by omega⟩
 simp [Go.bits]
 have e : (m : Int) % 2 ^ IntKind.u64.bits = m := by simp [IntKind.bits]; omega
 rw [e]; exact u64_nn h0 h1
theorem shl_L (v n : Int) (h0 : 0 ≤ v) (hn : 0 ≤ n) (hn2 : n < 32) (h1 : v * 2 ^ n.toNat < 4294967296) : real_nat_shl.f (Lm v) n = some (Lm (v * 2 ^ n.toNat)) := by
 unfold Lm
 by_cases hv : v = 0
 ·subst hv
  simp [real_nat_shl.f, hn, hn2, shlGo]
  exact trim_one 1998 0
 ·have hp : (0 : Int) < 2 ^ n.toNat := Int.pow_pos (by decide)
  have hne : v * 2 ^ n.toNat ≠ 0 := fun h => by rcases Int.mul_eq_zero.1 h with h | h <;> omega
  have hnn : 0 ≤ v * 2 ^ n.toNat := Int.mul_nonneg h0 (by omega)
  have hvl : v ≤ v * 2 ^ n.toNat := by
   have := Int.mul_le_mul_of_nonneg_left (show (1 : Int) ≤ 2 ^ n.toNat by omega) h0
   omega
  rw [if_neg hv, if_neg hne, real_nat_shl.f, if_pos (by simp [hn, hn2])]
  simp only [shlGo]
  rw [u64_nn h0 (by omega), u64_nn hnn (by omega), or_zero_l _ hnn (by omega), Int.emod_eq_of_lt hnn h1, Int.ediv_eq_zero_of_lt hnn h1]
  have := trim_two 1997 (v * 2 ^ n.toNat)
  unfold Lm at this
  rw [if_neg hne] at this
  exact this
theorem bits_l0 : ∀ (L k : Nat) (x v : Int), L + 1 ≤ k → 0 ≤ x → x + L < 1000 → (L = 0 → v = 0) → (∀ m, L = m + 1 → 2 ^ m ≤ v ∧ v < 2 ^ (m + 1)) → real_nat_bits.l0 k x v = some (x + L)
 | _, 0, _, _, hk, _, _, _, _ => by omega
 | 0, k + 1, x, v, hk, h0, h1, hz, hp => by
  have := hz rfl; subst this
  simp [real_nat_bits.l0]
 | L + 1, k + 1, x, v, hk, h0, h1, hz, hp => by
  have hv := hp L rfl
  have hp2 : (0 : Int) < 2 ^ L := Int.pow_pos (by decide)
  rw [real_nat_bits.l0, if_pos (by omega), wrap64_nn (by omega) (by omega), bits_l0 L k (x + 1) (v / 2) (by omega) (by omega) (by omega) (fun h => by subst h; simp at hv; omega) (fun m h => by subst h; have := Int.pow_succ (2 : Int) m; have := Int.pow_succ (2 : Int) (m + 1); omega)]
  congr 1; omega
theorem bits_L (k L : Nat) (v : Int) (hk : 40 ≤ k) (hL : L < 32) (h0 : 2 ^ L ≤ v) (h1 : v < 2 ^ (L + 1)) : real_nat_bits.f k (Lm v) = some ((L : Int) + 1) := by
 have hp2 : (0 : Int) < 2 ^ L := Int.pow_pos (by decide)
 unfold Lm
 rw [if_neg (by omega), real_nat_bits.f, if_neg (by simp), if_pos (by simp [wrap64]), if_pos (by simp [wrap64])]
 have e : wrap64 (32 * wrap64 ((([v] : List Int).length : Int) - 1)) = 0 := by simp [wrap64]
 have e2 : wrap64 ((([v] : List Int).length : Int) - 1) = 0 := by simp [wrap64]
 rw [e, e2, show rd [v] 0 = v from rfl, bits_l0 (L + 1) k 0 v (by omega) (by omega) (by omega) (fun h => by omega) (fun m h => by cases h; exact ⟨h0, h1⟩)]
 congr 1; omega
theorem cmp_L (k : Nat) (u v : Int) (hk : 40 ≤ k) (hu : 0 ≤ u) (hv : 0 ≤ v) : real_nat_cmp.f k (Lm u) (Lm v) = some (if u = v then 0 else if u < v then -1 else 1) := by
 obtain ⟨k, rfl⟩ : ∃ m, k = m + 3 := ⟨k - 3, by omega⟩
 unfold Lm
 by_cases h1 : u = 0 <;> by_cases h2 : v = 0
 ·subst h1; subst h2; simp [real_nat_cmp.f, real_nat_cmp.l0, wrap64]
 ·subst h1; simp [real_nat_cmp.f, h2]; split <;> omega
 ·subst h2; simp [real_nat_cmp.f, h1]; omega
 ·simp [real_nat_cmp.f, real_nat_cmp.l0, wrap64, rd, h1, h2]
  by_cases huv : u = v
  ·simp [huv]
  ·simp [huv]; split <;> rfl
theorem sub_L (k : Nat) (u v : Int) (hk : 40 ≤ k) (hu : u < 4294967296) (hv : 0 < v) (huv : v ≤ u) : real_nat_sub.f k (Lm u) (Lm v) = some (Lm (u - v)) := by
 obtain ⟨k, rfl⟩ : ∃ m, k = m + 2 + 3 := ⟨k - 5, by omega⟩
 have e1 : Lm u = [u] := by unfold Lm; rw [if_neg (by omega)]
 have e2 : Lm v = [v] := by unfold Lm; rw [if_neg (by omega)]
 rw [e1, e2]
 have w1 : wrap64 u = u := wrap64_nn (by omega) (by omega)
 have w2 : wrap64 v = v := wrap64_nn (by omega) (by omega)
 have w3 : wrap64 (u - v) = u - v := wrap64_nn (by omega) (by omega)
 have w4 : (u - v) % 4294967296 = u - v := Int.emod_eq_of_lt (by omega) (by omega)
 have ht := trim_one (k + 1) (u - v)
 unfold real_nat_sub.f
 rw [show real_nat_uint32.f [u] = some [u] from rfl]
 simp only [Option.bind_some, List.length_cons, List.length_nil, Nat.zero_add]
 rw [real_nat_sub.l0]
 have r0 : ∀ x : Int, rd [x] 0 = x := fun x => rfl
 have w0 : ∀ x : Int, x + 0 = x := fun x => by omega
 have w01 : wrap64 (0 + 1) = 1 := wrap64_nn (by decide) (by decide)
 simp only [r0, w1, w0, w2, w3, w4, w01]
 rw [if_pos (by decide), if_pos (by decide), if_pos (by simp), if_pos (by simp), if_neg (by omega), real_nat_sub.l0, if_neg (by decide)]
 simp only [show (0 : Int).toNat = 0 from rfl, List.set_cons_zero]
 rw [ht]; rfl
theorem add_L (k : Nat) (u : Int) (hk : 40 ≤ k) (h0 : 0 ≤ u) (hu : u + 1 < 4294967296) : real_nat_add.f k (Lm u) [1] = some (Lm (u + 1)) := by
 obtain ⟨k, rfl⟩ : ∃ m, k = m + 3 + 2 := ⟨k - 5, by omega⟩
 have ht := trim_two k (u + 1)
 have e0 : IntKind.u64.wrap u = u := u64_nn h0 (by omega)
 have e1 : IntKind.u64.wrap (u + 1) = u + 1 := u64_nn (by omega) (by omega)
 have e2 : (u + 1) % 4294967296 = u + 1 := Int.emod_eq_of_lt (by omega) (by omega)
 have e3 : (u + 1) / 4294967296 = 0 := Int.ediv_eq_zero_of_lt (by omega) (by omega)
 have w1 : wrap64 1 = 1 := wrap64_nn (by decide) (by decide)
 by_cases hz : u = 0
 ·subst hz
  have c1 : IntKind.u64.wrap 1 = 1 := u64_nn (by decide) (by decide)
  simp [real_nat_add.f, real_nat_add.l0, Lm, mx, rd, w1, c1]
  simpa [Lm] using ht
 ·have c1 : IntKind.u64.wrap 1 = 1 := u64_nn (by decide) (by decide)
  have : Lm u = [u] := by unfold Lm; rw [if_neg hz]
  rw [this]
  simp [real_nat_add.f, real_nat_add.l0, mx, rd, w1, c1, e0, e1, e2, e3]
  exact ht
theorem small_L (k : Nat) (v : Int) (hk : 40 ≤ k) (h0 : 0 ≤ v) (h1 : v < 4294967296) : real_nat_small.f k (Lm v) = some v := by
 obtain ⟨k, rfl⟩ : ∃ m, k = m + 3 + 2 := ⟨k - 5, by omega⟩
 unfold Lm
 by_cases hz : v = 0
 ·subst hz; simp [real_nat_small.f, real_nat_small.l0]
 ·rw [if_neg hz]
  have s0 : shl .u64 v 0 = v := by simp [shl]; exact u64_nn h0 (by omega)
  have w1 : wrap64 1 = 1 := wrap64_nn (by decide) (by decide)
  have w0 : wrap64 0 = 0 := wrap64_nn (by decide) (by decide)
  simp [real_nat_small.f, real_nat_small.l0, rd, w0, w1, u64_nn h0 (by omega), s0, or_zero_l v h0 (by omega)]
theorem div_l0 (b : Int) (hb : 0 < b) : ∀ (n k : Nat) (q r : Int), n + 45 ≤ k → n ≤ 32 → 0 ≤ q → 0 ≤ r → r < 4294967296 → r < b * 2 ^ n → (∀ m, n = m + 1 → b * 2 ^ m < 4294967296) → q * 2 ^ n + r / b < 4294967296 → real_nat_div.l0 k (Lm b) (Lm q) (Lm r) ((n : Int) - 1) = some (Lm (q * 2 ^ n + r / b), Lm (r % b))
 | _, 0, _, _, hk, _, _, _, _, _, _, _ => by omega
 | 0, k + 1, q, r, hk, hn, hq, hr, hr2, hrb, hbm, hql => by
  simp at hrb
  simp [real_nat_div.l0, Int.emod_eq_of_lt hr hrb, Int.ediv_eq_zero_of_lt hr hrb]
 | n + 1, k + 1, q, r, hk, hn, hq, hr, hr2, hrb, hbm, hql => by
  have hb2 := hbm n rfl
  have hp : (0 : Int) < 2 ^ n := Int.pow_pos (by decide)
  have hp1 : (2 : Int) ^ (n + 1) = 2 * 2 ^ n := by rw [Int.pow_succ]; omega
  have hrd : 0 ≤ r / b := Int.ediv_nonneg hr (by omega)
  have hq2 : q * 2 < 4294967296 := by
   have h1 : q * 2 * 1 ≤ q * 2 * 2 ^ n := Int.mul_le_mul_of_nonneg_left (by omega) (by omega)
   have h2 : q * 2 ^ (n + 1) = q * 2 * 2 ^ n := by rw [hp1, Int.mul_assoc]
   omega
  have hbb : b * 2 ^ (n + 1) = b * 2 ^ n + b * 2 ^ n := by rw [hp1, ← Int.mul_assoc, Int.mul_comm b 2, Int.mul_assoc]; omega
  have hbp : 0 < b * 2 ^ n := Int.mul_pos hb hp
  have hqq : q * 2 ^ (n + 1) = q * 2 * 2 ^ n := by rw [hp1, Int.mul_assoc]
  have ev : (((n + 1 : Nat) : Int) - 1) = (n : Int) := by omega
  rw [ev, real_nat_div.l0, if_pos (by omega), shl_L b n (by omega) (by omega) (by omega) (by simpa using hb2), shl_L q 1 hq (by omega) (by omega) (by simpa using hq2)]
  simp only [Option.bind_some, Int.toNat_natCast, show (2 : Int) ^ (1 : Int).toNat = 2 from rfl]
  rw [cmp_L k r _ (by omega) hr (by omega)]
  simp only [Option.bind_some]
  rw [wrap64_nn (by omega) (by omega)]
  by_cases hc : b * 2 ^ n ≤ r
  ·have hdv : (r - b * 2 ^ n) / b = r / b - 2 ^ n := by
    have h := Int.add_mul_ediv_left r (-(2 ^ n)) (show b ≠ 0 by omega)
    rw [show r + b * -(2 ^ n) = r - b * 2 ^ n by rw [Int.mul_neg]; omega] at h
    omega
   have hmd : (r - b * 2 ^ n) % b = r % b := by
    rw [Int.sub_mul_emod_self_left]
   rw [if_pos (by split; (omega); (rw [if_neg (by omega)]; omega)), sub_L k r _ (by omega) hr2 hbp hc]
   simp only [Option.bind_some]
   have hq3 : (q * 2 + 1) * 2 ^ n = q * 2 * 2 ^ n + 2 ^ n := by rw [Int.add_mul]; omega
   have hge : 2 ^ n ≤ r / b := by
    rw [Int.le_ediv_iff_mul_le hb]; rw [Int.mul_comm]; exact hc
   rw [add_L k _ (by omega) (by omega) (by
    have h1 : (q * 2 + 1) * 1 ≤ (q * 2 + 1) * 2 ^ n := Int.mul_le_mul_of_nonneg_left (by omega) (by omega)
    omega)]
   simp only [Option.bind_some]
   rw [div_l0 b hb n k (q * 2 + 1) (r - b * 2 ^ n) (by omega) (by omega) (by omega) (by omega) (by omega) (by omega) (fun m hm => by
     subst hm; have : b * 2 ^ (m + 1) = b * 2 ^ m + b * 2 ^ m := by rw [Int.pow_succ, ← Int.mul_assoc]; omega
     have : 0 < b * 2 ^ m := Int.mul_pos hb (Int.pow_pos (by decide)); omega) (by rw [hdv, hq3]; omega), hmd, hdv, hq3, hqq]
   congr 3; omega
  ·rw [if_neg (by rw [if_neg (by omega : ¬ r = b * 2 ^ n), if_pos (by omega : r < b * 2 ^ n)]; omega)]
   rw [div_l0 b hb n k (q * 2) r (by omega) (by omega) (by omega) (by omega) (by omega) (by omega) (fun m hm => by
     subst hm; have : b * 2 ^ (m + 1) = b * 2 ^ m + b * 2 ^ m := by rw [Int.pow_succ, ← Int.mul_assoc]; omega
     have : 0 < b * 2 ^ m := Int.mul_pos hb (Int.pow_pos (by decide)); omega) (by omega), hqq]
theorem exists_log (v : Int) (h0 : 0 < v) : ∃ L : Nat, 2 ^ L ≤ v ∧ v < 2 ^ (L + 1) := by
 refine ⟨v.toNat.log2, ?_, ?_⟩
 ·have := Nat.log2_self_le (n := v.toNat) (by omega)
  have h2 : ((2 ^ v.toNat.log2 : Nat) : Int) ≤ (v.toNat : Int) := Int.ofNat_le.2 this
  rw [Int.natCast_pow] at h2; simp at h2; omega
 ·have := Nat.lt_log2_self (n := v.toNat)
  have h2 : (v.toNat : Int) < ((2 ^ (v.toNat.log2 + 1) : Nat) : Int) := Int.ofNat_lt.2 this
  rw [Int.natCast_pow] at h2; simp at h2; omega
theorem pow_mono {a b : Nat} (h : a ≤ b) : (2 : Int) ^ a ≤ 2 ^ b := by
 have := Nat.pow_le_pow_right (n := 2) (by decide) h
 have h2 : ((2 ^ a : Nat) : Int) ≤ ((2 ^ b : Nat) : Int) := Int.ofNat_le.2 this
 simpa [Int.natCast_pow] using h2
theorem div_L (k la lb : Nat) (a b : Int) (hk : 100 ≤ k) (hla : la < 32) (h0 : 2 ^ la ≤ a) (h1 : a < 2 ^ (la + 1)) (g0 : 2 ^ lb ≤ b) (g1 : b < 2 ^ (lb + 1)) (hba : b ≤ a) (hlab : lb ≤ la) : real_nat_div.f k (Lm a) (Lm b) = some (Lm (a / b), Lm (a % b)) := by
 have hpa : (0 : Int) < 2 ^ la := Int.pow_pos (by decide)
 have hpb : (0 : Int) < 2 ^ lb := Int.pow_pos (by decide)
 have ha : a < 4294967296 := Int.lt_of_lt_of_le h1 (by have := pow_mono (show la + 1 ≤ 32 by omega); simpa using this)
 obtain ⟨n, rfl⟩ : ∃ n, la = lb + n := ⟨la - lb, by omega⟩
 have e1 : Lm a = [a] := by unfold Lm; rw [if_neg (by omega)]
 have hc : real_nat_uint32.f (Lm a) = some (Lm a) := by rw [e1]; rfl
 have hb0 : 0 < b := by omega
 have hpn : (0 : Int) < 2 ^ n := Int.pow_pos (by decide)
 have hm1 : (2 : Int) ^ (lb + n + 1) = 2 ^ lb * 2 ^ (n + 1) := by rw [← Int.pow_add, Nat.add_assoc]
 have hm2 : (2 : Int) ^ (lb + n + 1) = 2 ^ (lb + 1) * 2 ^ n := by rw [← Int.pow_add, Nat.add_right_comm]
 have k1 : (2 : Int) ^ lb * 2 ^ (n + 1) ≤ b * 2 ^ (n + 1) := Int.mul_le_mul_of_nonneg_right g0 (Int.le_of_lt (Int.pow_pos (by decide)))
 have k2 : b * 2 ^ n < (2 : Int) ^ (lb + 1) * 2 ^ n := Int.mul_lt_mul_of_pos_right g1 hpn
 have k3 : (2 : Int) ^ (lb + n + 1) ≤ 4294967296 := by have := pow_mono (show lb + n + 1 ≤ 32 by omega); simpa using this
 have hab : a / b ≤ a := Int.ediv_le_self _ (by omega)
 unfold real_nat_div.f
 rw [hc]
 simp only [Option.bind_some]
 rw [bits_L k (lb + n) a (by omega) hla h0 h1, bits_L k lb b (by omega) (by omega) g0 g1]
 simp only [Option.bind_some]
 rw [wrap64_nn (by omega) (by omega), show (((lb + n : Nat) : Int) + 1 - ((lb : Int) + 1)) = ((n + 1 : Nat) : Int) - 1 by omega]
 have := div_l0 b hb0 (n + 1) k 0 a (by omega) (by omega) (by omega) (by omega) ha (by omega) (fun m hm => by cases hm; omega) (by omega)
 rw [show Lm 0 = [] from rfl] at this
 rw [this]; simp
theorem l0_step (v : Int) (L : Nat) (hL : L ≤ 30) (h0 : 2 ^ L ≤ v) (h1 : v < 2 ^ (L + 1)) (k : Nat) (x : Int) (y : Nat) (hxy : (L : Int) - x = y) (hy : 23 ≤ y) (hy2 : y ≤ 25) :
  ∃ (a b : Int) (la lb : Nat), real_rounded.l0 (k + 1) (Lm v) 0 [1] x = real_rounded.j1 k (Lm v) 0 [1] x (Lm a) (Lm b) ∧ la < 32 ∧ lb ≤ la ∧ lb ≤ 7 ∧ 2 ^ la ≤ a ∧ a < 2 ^ (la + 1) ∧ 2 ^ lb ≤ b ∧ b < 2 ^ (lb + 1) ∧ b ≤ a ∧ 2 ^ y ≤ a / b ∧ a / b < 2 ^ (y + 1) ∧ (x ≤ 0 → b = 1 ∧ a = v * 2 ^ (-x).toNat) ∧ (0 < x → a = v ∧ b = 2 ^ x.toNat) := by
 have hp : (0 : Int) < 2 ^ L := Int.pow_pos (by decide)
 by_cases hx : x ≤ 0
 ·obtain ⟨n, hn⟩ : ∃ n : Nat, -x = n := ⟨(-x).toNat, by omega⟩
  have hpn : (0 : Int) < 2 ^ n := Int.pow_pos (by decide)
  obtain rfl : y = L + n := by omega
  have a1 : (2 : Int) ^ (L + n) ≤ v * 2 ^ n := by rw [Int.pow_add]; exact Int.mul_le_mul_of_nonneg_right h0 (by omega)
  have a2 : v * 2 ^ n < (2 : Int) ^ (L + n + 1) := by rw [Nat.add_right_comm, Int.pow_add]; exact Int.mul_lt_mul_of_pos_right h1 hpn
  have a3 : (2 : Int) ^ (L + n + 1) ≤ 2 ^ 26 := pow_mono (by omega)
  have a4 : (0 : Int) < 2 ^ (L + n) := Int.pow_pos (by decide)
  refine ⟨v * 2 ^ n, 1, L + n, 0, ?_, by omega, by omega, by omega, a1, a2, by simp, by simp, by omega, by simpa using a1, by simpa using a2, fun _ => ⟨rfl, by rw [hn]; rfl⟩, fun h => by omega⟩
  rw [real_rounded.l0, if_pos (by omega), wrap64_nn (by omega) (by omega), show (0 : Int) - x = n by omega, shl_L v n (by omega) (by omega) (by omega) (by simp; omega)]
  rfl
 ·obtain ⟨n, rfl⟩ : ∃ n : Nat, x = n := ⟨x.toNat, by omega⟩
  have hpn : (0 : Int) < 2 ^ n := Int.pow_pos (by decide)
  obtain rfl : L = y + n := by omega
  have a1 : (2 : Int) ^ y ≤ v / 2 ^ n := by rw [Int.le_ediv_iff_mul_le hpn, ← Int.pow_add]; exact h0
  have a2 : v / 2 ^ n < (2 : Int) ^ (y + 1) := by rw [Int.ediv_lt_iff_lt_mul hpn, ← Int.pow_add, Nat.add_right_comm]; exact h1
  have a5 : (2 : Int) ^ n ≤ 2 ^ (y + n) := pow_mono (by omega)
  have a6 : (2 : Int) ^ (n + 1) = 2 ^ n * 2 := Int.pow_succ _ _
  have a7 : (2 : Int) ^ n ≤ 2 ^ 7 := pow_mono (by omega)
  refine ⟨v, 2 ^ n, y + n, n, ?_, by omega, by omega, by omega, h0, h1, Int.le_refl _, by omega, by omega, a1, a2, fun h => by omega, fun _ => ⟨rfl, by simp⟩⟩
  have := shl_L 1 n (by omega) (by omega) (by omega) (by simp; omega)
  simp at this
  rw [real_rounded.l0, if_neg (by omega), wrap64_nn (by omega) (by omega), show (n : Int) - 0 = n by omega, show ([1] : List Int) = Lm 1 from rfl, this]
  rfl
theorem j1_big (k : Nat) (v x a b : Int) (la lb y : Nat) (hk : 100 ≤ k) (hla : la < 32) (hlab : lb ≤ la) (h0 : 2 ^ la ≤ a) (h1 : a < 2 ^ (la + 1)) (g0 : 2 ^ lb ≤ b) (g1 : b < 2 ^ (lb + 1)) (hba : b ≤ a) (q0 : 2 ^ y ≤ a / b) (q1 : a / b < 2 ^ (y + 1)) (hy : 24 ≤ y) (hy2 : y ≤ 25) (hx : -100 < x) (hx2 : x < 100) :
  real_rounded.j1 (k + 1) (Lm v) 0 [1] x (Lm a) (Lm b) = real_rounded.l0 k (Lm v) 0 [1] (x + 1) := by
 rw [real_rounded.j1, div_L k la lb a b hk hla h0 h1 g0 g1 hba hlab]
 simp only [Option.bind_some]
 rw [bits_L k y _ (by omega) (by omega) q0 q1]
 simp only [Option.bind_some]
 rw [if_pos (by omega), wrap64_nn (by omega) (by omega)]
theorem j_tail (k : Nat) (x q : Int) (up : Bool) (hk : 100 ≤ k) (h0 : 8388608 ≤ q) (h1 : q < 16777216) (hx : -100 < x) (hx2 : x < 100) :
  real_rounded.j2 k x q up = some (if up = true then (if q + 1 = 16777216 then (8388608, x + 1) else (q + 1, x)) else (q, x)) := by
 obtain ⟨k, rfl⟩ : ∃ m, k = m + 3 := ⟨k - 3, by omega⟩
 have w1 : wrap64 (q + 1) = q + 1 := wrap64_nn (by omega) (by omega)
 have w2 : wrap64 (x + 1) = x + 1 := wrap64_nn (by omega) (by omega)
 rw [real_rounded.j2]
 cases up
 ·rw [if_neg (by simp), if_neg (by simp), real_rounded.j3, if_neg (by omega), real_rounded.j4, if_neg (by omega), if_neg (by omega)]
 ·rw [if_pos rfl, if_pos rfl, w1, real_rounded.j3]
  by_cases h : q + 1 = 16777216
  ·rw [if_pos h, if_pos h, w2, real_rounded.j4, if_neg (by omega), if_neg (by omega)]
  ·rw [if_neg h, if_neg h, real_rounded.j4, if_neg (by omega), if_neg (by omega)]
theorem j1_last (k : Nat) (v x a b : Int) (la lb : Nat) (hk : 200 ≤ k) (hla : la < 32) (hlab : lb ≤ la) (hlb : lb ≤ 7) (h0 : 2 ^ la ≤ a) (h1 : a < 2 ^ (la + 1)) (g0 : 2 ^ lb ≤ b) (g1 : b < 2 ^ (lb + 1)) (hba : b ≤ a) (q0 : 2 ^ 23 ≤ a / b) (q1 : a / b < 2 ^ (23 + 1)) (hx : -100 < x) (hx2 : x < 100) :
  ∃ up : Bool, (a % b = 0 → up = false) ∧ real_rounded.j1 (k + 1) (Lm v) 0 [1] x (Lm a) (Lm b) = some (if up = true then (if a / b + 1 = 16777216 then (8388608, x + 1) else (a / b + 1, x)) else (a / b, x)) := by
 have hpb : (0 : Int) < 2 ^ lb := Int.pow_pos (by decide)
 have hr0 : 0 ≤ a % b := Int.emod_nonneg _ (by omega)
 have hr1 : a % b < b := Int.emod_lt_of_pos _ (by omega)
 have hb7 : (2 : Int) ^ (lb + 1) ≤ 2 ^ 8 := pow_mono (by omega)
 have hq0 : (8388608 : Int) ≤ a / b := q0
 have hq1 : a / b < 16777216 := q1
 have w1 : wrap64 (a / b) = a / b := wrap64_nn (by omega) (by omega)
 have s1 := shl_L (a % b) 1 hr0 (by omega) (by omega) (by simp; omega)
 simp at s1
 rw [real_rounded.j1, div_L k la lb a b (by omega) hla h0 h1 g0 g1 hba hlab]
 simp only [Option.bind_some]
 rw [bits_L k 23 _ (by omega) (by omega) q0 q1]
 simp only [Option.bind_some]
 rw [if_neg (by omega), small_L k _ (by omega) (by omega) (by omega), s1]
 simp only [Option.bind_some]
 rw [cmp_L k _ _ (by omega) (by omega) (by omega)]
 simp only [Option.bind_some, w1]
 by_cases hc : a % b * 2 = b
 ·rw [if_pos hc, if_neg (by omega), if_pos rfl]
  exact ⟨_, fun h => by omega, j_tail k x _ _ (by omega) hq0 hq1 hx hx2⟩
 ·rw [if_neg hc]
  by_cases hl : a % b * 2 < b
  ·rw [if_pos hl, if_neg (by omega), if_neg (by omega)]
   exact ⟨false, fun h => rfl, j_tail k x _ _ (by omega) hq0 hq1 hx hx2⟩
  ·rw [if_neg hl, if_pos (by omega)]
   exact ⟨true, fun h => by omega, j_tail k x _ _ (by omega) hq0 hq1 hx hx2⟩
/-- what `rounded` answers to a positive number below 2^31 -/
theorem rounded_L (k : Nat) (v : Int) (hk : 300 ≤ k) (h0 : 0 < v) (h1 : v < 2147483648) :
  ∃ m e, real_rounded.f k (Lm v) 0 [1] = some (m, e) ∧ 8388608 ≤ m ∧ m < 16777216 ∧ -30 < e ∧ e < 10 ∧ (v ≤ 16777216 → (e ≤ 0 ∧ m = v * 2 ^ (-e).toNat) ∨ (e = 1 ∧ m * 2 = v)) := by
 obtain ⟨L, g0, g1⟩ := exists_log v h0
 have hL : L ≤ 30 := by
  by_cases h : L ≤ 30
  ·exact h
  ·have := pow_mono (show 31 ≤ L by omega)
   simp at this; omega
 obtain ⟨k, rfl⟩ : ∃ m, k = m + 6 := ⟨k - 6, by omega⟩
 unfold real_rounded.f
 rw [if_neg (by unfold Lm; rw [if_neg (by omega)]; simp), bits_L _ L v (by omega) (by omega) g0 g1]
 have b1 := bits_L (k + 6) 0 1 (by omega) (by omega) (by simp) (by simp)
 rw [show ([1] : List Int) = Lm 1 from rfl, b1]
 simp only [Option.bind_some]
 have hx : mx (-150) (wrap64 ((wrap64 ((wrap64 ((wrap64 ((L : Int) + 1 - (((0 : Nat) : Int) + 1))) + 0)) - 24)) - 1)) = (L : Int) - 25 := by
  rw [wrap64_nn (n := (L : Int) + 1 - (((0 : Nat) : Int) + 1)) (by omega) (by omega), wrap64_nn (n := (L : Int) + 1 - (((0 : Nat) : Int) + 1) + 0) (by omega) (by omega), wrap64_nn (n := (L : Int) + 1 - (((0 : Nat) : Int) + 1) + 0 - 24) (by omega) (by omega), wrap64_nn (by omega) (by omega)]
  unfold mx; split <;> omega
 rw [hx, show Lm 1 = ([1] : List Int) from rfl]
 obtain ⟨a, b, la, lb, e0, i1, i2, i3, i4, i5, i6, i7, i8, i9, i10, p1, p2⟩ := l0_step v L hL g0 g1 (k + 5) ((L : Int) - 25) 25 (by omega) (by omega) (by omega)
 rw [e0, j1_big (k + 4) v _ a b la lb 25 (by omega) i1 i2 i4 i5 i6 i7 i8 i9 i10 (by omega) (by omega) (by omega) (by omega)]
 clear e0 i1 i2 i3 i4 i5 i6 i7 i8 i9 i10 p1 p2 a b la lb
 obtain ⟨a, b, la, lb, e0, i1, i2, i3, i4, i5, i6, i7, i8, i9, i10, p1, p2⟩ := l0_step v L hL g0 g1 (k + 3) ((L : Int) - 25 + 1) 24 (by omega) (by omega) (by omega)
 rw [e0, j1_big (k + 2) v _ a b la lb 24 (by omega) i1 i2 i4 i5 i6 i7 i8 i9 i10 (by omega) (by omega) (by omega) (by omega)]
 clear e0 i1 i2 i3 i4 i5 i6 i7 i8 i9 i10 p1 p2 a b la lb
 obtain ⟨a, b, la, lb, e0, i1, i2, i3, i4, i5, i6, i7, i8, i9, i10, p1, p2⟩ := l0_step v L hL g0 g1 (k + 1) ((L : Int) - 25 + 1 + 1) 23 (by omega) (by omega) (by omega)
 obtain ⟨up, hup, e1⟩ := j1_last k v ((L : Int) - 25 + 1 + 1) a b la lb (by omega) i1 i2 i3 i4 i5 i6 i7 i8 i9 i10 (by omega) (by omega)
 rw [e0, e1]
 have i9 : (8388608 : Int) ≤ a / b := i9
 have i10 : a / b < 16777216 := i10
 have ex : v ≤ 16777216 → up = false ∧ (((L : Int) - 25 + 1 + 1 ≤ 0 ∧ a / b = v * 2 ^ (-((L : Int) - 25 + 1 + 1)).toNat) ∨ ((L : Int) - 25 + 1 + 1 = 1 ∧ a / b * 2 = v)) := fun hv => by
  by_cases hx : (L : Int) - 25 + 1 + 1 ≤ 0
  ·obtain ⟨rfl, ha⟩ := p1 hx
   exact ⟨hup (by omega), .inl ⟨hx, by rw [← ha]; omega⟩⟩
  ·have hL24 : L = 24 := by
    by_cases h : L ≤ 24
    ·omega
    ·have := pow_mono (show 25 ≤ L by omega)
     simp at this; omega
   subst hL24
   obtain ⟨rfl, hb⟩ := p2 (by omega)
   have hb2 : b = 2 := by rw [hb]; rfl
   subst hb2
   simp at g0
   have : a = 16777216 := by omega
   subst this
   exact ⟨hup (by decide), .inr ⟨by omega, by decide⟩⟩
 cases up
 ·rw [if_neg (by simp)]
  exact ⟨_, _, rfl, i9, i10, by omega, by omega, fun hv => (ex hv).2⟩
 ·rw [if_pos rfl]
  by_cases h : a / b + 1 = 16777216
  ·rw [if_pos h]
   exact ⟨_, _, rfl, by omega, by omega, by omega, by omega, fun hv => by simpa using (ex hv).1⟩
  ·rw [if_neg h]
   exact ⟨_, _, rfl, by omega, by omega, by omega, by omega, fun hv => by simpa using (ex hv).1⟩
theorem natOf_L (k : Nat) (v : Int) (hk : 10 ≤ k) (h0 : 0 ≤ v) (h1 : v < 4294967296) : real_natOf.f k v = some (Lm v) := by
 obtain ⟨k, rfl⟩ : ∃ m, k = m + 3 := ⟨k - 3, by omega⟩
 unfold real_natOf.f
 rw [Int.emod_eq_of_lt h0 h1, Int.ediv_eq_zero_of_lt h0 h1, show (0 : Int) % 4294967296 = 0 by decide, trim_two]
 rfl
theorem wrap_neg (n : Int) (h0 : n < 0) (h1 : -2147483648 < n) : IntKind.u64.wrap (-(IntKind.u64.wrap n)) = -n := by
 have e : IntKind.u64.wrap n = n + 18446744073709551616 := by
  simp [IntKind.wrap, IntKind.signed, IntKind.bits]; omega
 rw [e]
 simp [IntKind.wrap, IntKind.signed, IntKind.bits]; omega
theorem valid_L (m e : Int) (h0 : 8388608 ≤ m) (h1 : m < 16777216) (he : -30 < e) (he2 : e < 10) : real_Valid.f m e = some true ∧ real_Valid.f (-m) e = some true := by
 have w1 : wrap64 (-m) = -m := wrap64_nn (by omega) (by omega)
 have w2 : wrap64 (- -m) = m := by rw [wrap64_nn (by omega) (by omega)]; omega
 have m1 : mx m (-m) = m := by unfold mx; split <;> omega
 have m2 : mx (-m) m = m := by unfold mx; split <;> omega
 have z1 : ¬ (m == 0 && (e == 0)) = true := by simp; omega
 have z2 : ¬ (-m == 0 && (e == 0)) = true := by simp; omega
 unfold real_Valid.f
 rw [w1, w2, m1, m2, if_neg z1, if_neg z2, if_neg (by omega), if_neg (by omega), if_neg (by omega), if_pos (by omega), if_pos (by omega)]
 simp; omega
theorem i64_nn {n : Int} (h0 : -9223372036854775808 ≤ n) (h1 : n ≤ 9223372036854775807) : IntKind.i64.wrap n = n := by
 simp [IntKind.wrap, IntKind.signed, IntKind.bits]
 by_cases h : 0 ≤ n
 ·rw [Int.emod_eq_of_lt h (by omega), if_neg (by omega)]
 ·rw [show n % 18446744073709551616 = n + 18446744073709551616 by omega, if_pos (by omega)]; omega
theorem whole_yes (n : Int) : real_whole.f n true = some (n, 0) := by simp [real_whole.f]
theorem floor_neg (a s : Int) (n : Nat) (hs : s = -(n : Int)) (hn : 0 < n) (hn2 : n < 60) (ha : a ≠ 0) (h0 : -2147483647 ≤ a) (h1 : a ≤ 2147483647) :
  real_floor.f a s = some (a / 2 ^ n, true) := by
 have hp : (0 : Int) < 2 ^ n := Int.pow_pos (by decide)
 have g0 : -2147483647 ≤ a / 2 ^ n := by
  rw [Int.le_ediv_iff_mul_le hp]
  have : (2147483647 : Int) * 1 ≤ 2147483647 * 2 ^ n := Int.mul_le_mul_of_nonneg_left (by omega) (by omega)
  omega
 have g1 : a / 2 ^ n ≤ 2147483647 := by
  by_cases h : 0 ≤ a
  ·have := Int.ediv_le_self (2 ^ n) h; omega
  ·have := Int.ediv_neg_of_neg_of_pos (show a < 0 by omega) hp; omega
 have hw : wrap64 (-s) = n := by rw [wrap64_nn (by omega) (by omega)]; omega
 have hsh : shr .i64 a n = a / 2 ^ n := by
  unfold shr
  rw [show min (n : Int).toNat IntKind.i64.bits = n by simp [IntKind.bits]; omega]
 unfold real_floor.f
 rw [hw, hsh, if_neg ha, if_neg (by omega), if_neg (by omega), if_pos (by omega), if_pos (by omega), if_pos g0]
 simp [g1]
theorem floor_pos (a : Int) (n : Nat) (hn : n < 3) (ha : a ≠ 0) (h0 : -2147483647 ≤ a * 2 ^ n) (h1 : a * 2 ^ n ≤ 2147483647) :
  real_floor.f a n = some (a * 2 ^ n, true) := by
 have hsh : shl .i64 a n = a * 2 ^ n := by
  unfold shl
  rw [show min (n : Int).toNat IntKind.i64.bits = n by simp [IntKind.bits]; omega]
  exact i64_nn (by omega) (by omega)
 unfold real_floor.f
 rw [hsh, if_neg ha, if_neg (by omega), if_pos (by omega), if_pos (by omega), if_pos h0]
 simp [h1]
theorem round_L (m e v : Int) (h0 : 8388608 ≤ m) (h1 : m < 16777216) (he : -30 < e) (he2 : e < 10) (hv : v ≤ 16777216) (hx : (e ≤ 0 ∧ m = v * 2 ^ (-e).toNat) ∨ (e = 1 ∧ m * 2 = v)) :
  real_Round.f m e = some (v, 0) ∧ real_Round.f (-m) e = some (-v, 0) := by
 obtain ⟨V1, V2⟩ := valid_L m e h0 h1 he he2
 unfold real_Round.f
 rw [V1, V2]
 simp only [Option.bind_some, if_true]
 rcases hx with ⟨hx, hm⟩ | ⟨rfl, hm⟩
 ·obtain ⟨s, hs⟩ : ∃ s : Nat, e = -(s : Int) := ⟨(-e).toNat, by omega⟩
  subst hs
  rw [show (- -(s : Int)).toNat = s by omega] at hm
  rcases s with _ | s
  ·simp at hm; subst hm
   have a1 := floor_pos m 0 (by omega) (by omega) (by simp; omega) (by simp; omega)
   have a2 := floor_pos (-m) 0 (by omega) (by omega) (by simp; omega) (by simp; omega)
   simp at a1 a2
   simp [a1, a2, whole_yes]
  ·have hp : (0 : Int) < 2 ^ s := Int.pow_pos (by decide)
   have hp1 : (2 : Int) ^ (s + 1) = 2 * 2 ^ s := by rw [Int.pow_succ]; omega
   have hp2 : (2 : Int) ^ s ≤ 2 ^ 29 := pow_mono (by omega)
   have hw : wrap64 (wrap64 (- -((s + 1 : Nat) : Int)) - 1) = s := by
    rw [wrap64_nn (n := - -((s + 1 : Nat) : Int)) (by omega) (by omega), wrap64_nn (by omega) (by omega)]; omega
   have hs : shl .i64 1 s = 2 ^ s := by
    unfold shl
    rw [show min (s : Int).toNat IntKind.i64.bits = s by simp [IntKind.bits]; omega, Int.one_mul]
    exact i64_nn (by omega) (by omega)
   have d1 : (m + 2 ^ s) / 2 ^ (s + 1) = v := by
    rw [hm, Int.add_comm, Int.add_mul_ediv_right _ _ (by omega), Int.ediv_eq_zero_of_lt (by omega) (by omega)]; omega
   have d2 : (-m + 2 ^ s) / 2 ^ (s + 1) = -v := by
    rw [hm, ← Int.neg_mul, Int.add_comm, Int.add_mul_ediv_right _ _ (by omega), Int.ediv_eq_zero_of_lt (by omega) (by omega)]; omega
   have f1 := floor_neg (m + 2 ^ s) (-((s + 1 : Nat) : Int)) (s + 1) rfl (by omega) (by omega) (by omega) (by omega) (by omega)
   have hne : -m + 2 ^ s ≠ 0 := fun h => by
    rw [h] at d2; simp at d2
    have : v = 0 := by omega
    subst this; omega
   have f2 := floor_neg (-m + 2 ^ s) (-((s + 1 : Nat) : Int)) (s + 1) rfl (by omega) (by omega) hne (by omega) (by omega)
   rw [hw, hs, wrap64_nn (n := m + 2 ^ s) (by omega) (by omega), wrap64_nn (n := -m + 2 ^ s) (by omega) (by omega), f1, f2, d1, d2]
   constructor
   ·rw [if_neg (by omega), if_neg (by omega), if_pos (by omega)]; simp [whole_yes]
   ·rw [if_neg (by omega), if_neg (by omega), if_pos (by omega)]; simp [whole_yes]
 ·have a1 := floor_pos m 1 (by omega) (by omega) (by simp; omega) (by simp; omega)
  have a2 := floor_pos (-m) 1 (by omega) (by omega) (by simp; omega) (by simp; omega)
  simp at a1 a2
  have e2 : -m * 2 = -v := by omega
  rw [hm] at a1
  rw [e2] at a2
  simp [a1, a2, whole_yes]
/-- FromInt for the integers of an Algol program -/
theorem fromInt_L (k : Nat) (n : Int) (hk : 300 ≤ k) (h0 : -2147483648 < n) (h1 : n < 2147483648) :
  ∃ r1 r2, real_FromInt.f k n = some (r1, r2) ∧ real_Valid.f r1 r2 = some true ∧ (-16777216 ≤ n → n ≤ 16777216 → real_Round.f r1 r2 = some (n, 0)) := by
 unfold real_FromInt.f
 by_cases hz : n < 0
 ·obtain ⟨m, e, a1, a2, a3, a4, a5, a6⟩ := rounded_L k (-n) hk (by omega) (by omega)
  have w1 : wrap64 (-m) = -m := wrap64_nn (by omega) (by omega)
  rw [if_pos hz, wrap_neg n hz h0, natOf_L k _ (by omega) (by omega) (by omega)]
  simp only [Option.bind_some]
  rw [a1]
  simp only [Option.bind_some]
  refine ⟨-m, e, ?_, (valid_L m e a2 a3 a4 a5).2, fun g _ => ?_⟩
  ·simp [real_signed.f, hz, w1]
  ·have := (round_L m e (-n) a2 a3 a4 a5 (by omega) (a6 (by omega))).2
   simpa using this
 ·rw [if_neg hz, u64_nn (by omega) (by omega), natOf_L k _ (by omega) (by omega) (by omega)]
  simp only [Option.bind_some]
  by_cases h : n = 0
  ·subst h
   refine ⟨0, 0, by rfl, by rfl, fun _ _ => by rfl⟩
  ·obtain ⟨m, e, a1, a2, a3, a4, a5, a6⟩ := rounded_L k n hk (by omega) (by omega)
   rw [a1]
   simp only [Option.bind_some]
   refine ⟨m, e, ?_, (valid_L m e a2 a3 a4 a5).1, fun _ g => ?_⟩
   ·simp [real_signed.f, hz]
   ·exact (round_L m e n a2 a3 a4 a5 (by omega) (a6 (by omega))).1
theorem floor_ok (a s : Int) : ∃ n b, real_floor.f a s = some (n, b) ∧ (b = true → -2147483647 ≤ n ∧ n ≤ 2147483647) := by
 unfold real_floor.f
 by_cases h1 : a = 0
 ·rw [if_pos h1]; exact ⟨_, _, rfl, fun _ => by omega⟩
 rw [if_neg h1]
 by_cases h2 : s > 31
 ·rw [if_pos h2]; exact ⟨_, _, rfl, fun h => by simp at h⟩
 rw [if_neg h2]
 by_cases h3 : s ≥ 0
 ·rw [if_pos h3, if_pos h3]
  split
  ·exact ⟨_, _, rfl, fun h => by simp at h; omega⟩
  ·exact ⟨_, _, rfl, fun h => by simp at h⟩
 rw [if_neg h3]
 by_cases h4 : s > -60
 ·rw [if_pos h4, if_pos (by rw [wrap64_nn (by omega) (by omega)]; omega)]
  split
  ·exact ⟨_, _, rfl, fun h => by simp at h; omega⟩
  ·exact ⟨_, _, rfl, fun h => by simp at h⟩
 rw [if_neg h4]
 split
 ·exact ⟨_, _, by rw [if_pos (by decide)], fun h => by omega⟩
 ·exact ⟨_, _, by rw [if_pos (by decide)], fun h => by omega⟩
theorem whole_ok (n : Int) (b : Bool) (h : b = true → -2147483647 ≤ n ∧ n ≤ 2147483647) : ∃ m e, real_whole.f n b = some (m, e) ∧ (e = 0 → -2147483647 ≤ m ∧ m ≤ 2147483647) := by
 unfold real_whole.f
 by_cases hb : b = true
 ·rw [if_pos hb]; exact ⟨_, _, rfl, fun _ => h hb⟩
 ·rw [if_neg hb]; exact ⟨_, _, rfl, fun h => by simp at h⟩
/-- Round of a valid real number has an answer, and one within bounds if it is one -/
theorem round_ok (r1 r2 : Int) (h : real_Valid.f r1 r2 = some true) :
  ∃ n e, real_Round.f r1 r2 = some (n, e) ∧ (e = 0 → -2147483647 ≤ n ∧ n ≤ 2147483647) := by
 unfold real_Round.f
 rw [h]
 simp only [Option.bind_some, if_true]
 by_cases h1 : r2 ≥ 0
 ·rw [if_pos h1]
  obtain ⟨n, b, e1, h2⟩ := floor_ok r1 r2
  obtain ⟨m, e, e2, h3⟩ := whole_ok n b h2
  rw [e1]; simp only [Option.bind_some]; rw [e2]
  exact ⟨m, e, rfl, h3⟩
 ·rw [if_neg h1]
  by_cases h2 : r2 < -40
  ·rw [if_pos h2]; exact ⟨_, _, rfl, fun _ => by omega⟩
  ·rw [if_neg h2, if_pos (by rw [wrap64_nn (n := -r2) (by omega) (by omega), wrap64_nn (by omega) (by omega)]; omega)]
   obtain ⟨n, b, e1, h2⟩ := floor_ok (wrap64 (r1 + (shl .i64 1 (wrap64 ((wrap64 (-r2)) - 1))))) r2
   obtain ⟨m, e, e2, h3⟩ := whole_ok n b h2
   rw [e1]; simp only [Option.bind_some]; rw [e2]
   exact ⟨m, e, rfl, h3⟩
end Go.Proofs.Q
end
section
namespace Go.Proofs.Q
open RowKit Shelf Rf Pw Pl Pm
theorem valid_int (b c d : Int) (f : Bool) (h : value_Valid.f 1 b c d f = some true) : -2147483647 ≤ b ∧ b ≤ 2147483647 ∧ c = 0 ∧ d = 0 ∧ f = false := by
 simp only [value_Valid.f, value_ofInt.f, if_true, Option.bind_some] at h
 split at h
 ·rename_i hc
  simp at hc
  unfold integer_Valid.f at h
  split at h
  ·simp at h
   exact ⟨by assumption, h, hc.1.1, hc.1.2, hc.2⟩
  ·simp at h
 ·simp at h
theorem valid_real (b c d : Int) (f : Bool) (h : value_Valid.f 2 b c d f = some true) : real_Valid.f c d = some true := by
 simp only [value_Valid.f, value_ofReal.f, show ¬ (2 : Int) = 1 by decide, if_false, if_true, Option.bind_some] at h
 split at h
 ·rcases hr : real_Valid.f c d with _ | r
  ·rw [hr] at h; simp at h
  ·rw [hr] at h; simpa using h
 ·simp at h
theorem valid_of_int (n : Int) (h0 : -2147483647 ≤ n) (h1 : n ≤ 2147483647) : value_Valid.f 1 n 0 0 false = some true := by
 simp [value_Valid.f, value_ofInt.f, integer_Valid.f, h0, h1]
theorem valid_of_real (c d : Int) (h : real_Valid.f c d = some true) : value_Valid.f 2 0 c d false = some true := by
 simp [value_Valid.f, value_ofReal.f, h]
theorem valid_kind (a b c d : Int) (f : Bool) (h : value_Valid.f a b c d f = some true) : a = 1 ∨ a = 2 ∨ a = 3 := by
 unfold value_Valid.f at h
 by_cases h1 : a = 1
 ·exact .inl h1
 by_cases h2 : a = 2
 ·exact .inr (.inl h2)
 by_cases h3 : a = 3
 ·exact .inr (.inr h3)
 ·rw [if_neg h1, if_neg h2, if_neg h3] at h; cases h
theorem bad_of_valid {y : S38} (h : value_Valid.f y.f0 y.f1 y.f2.f0 y.f2.f1 y.f3 = some true) : badF y.f0 y = some false := by
 unfold badF validO
 rw [if_pos rfl, h]; rfl
def cvCall (t a b c d : Int) (f : Bool) (y : S38) (v : Int) : Prop := ∀ W, Calls Tryz.prog 37 #[.int .i64 t, .agg #[.int .i64 a, .int .i64 b, .int .i64 c, .int .i64 d, .bool f]] W (Conv y v W)
end Go.Proofs.Q
end
section
namespace Go.Proofs.Q
open RowKit Shelf Rf Pw Pl Pm
theorem bad_kind {t : Int} {y : S38} (hy : badF t y = some false) : y.f0 = t := by
 unfold badF at hy
 by_cases h : y.f0 = t
 ·exact h
 ·rw [if_neg h] at hy; cases hy
end Go.Proofs.Q
end
section
namespace Go.Proofs.Q
open RowKit Shelf Rf Pw Pl Pm
def zv : S38 := ⟨0, 0, z36, false⟩
def frI (n : Int) : Int × Int := (real_FromInt.f 300 n).getD (0, 0)
def rnd (c d : Int) : Int × Int := (real_Round.f c d).getD (0, 0)
/-- what value.Convert returns for a valid value -/
def cvF (t : Int) (x : S38) : S38 × Int :=
 if x.f0 = t then (x, 0)
 else if t = 3 ∨ x.f0 = 3 then (zv, 11)
 else if t = 2 then (⟨2, 0, ⟨(frI x.f1).1, (frI x.f1).2⟩, false⟩, 0)
 else if (rnd x.f2.f0 x.f2.f1).2 = 0 then (⟨1, (rnd x.f2.f0 x.f2.f1).1, z36, false⟩, 0) else (zv, (rnd x.f2.f0 x.f2.f1).2)
theorem valid_bad {t : Int} {x : S38} (h : badF t x = some false) : value_Valid.f x.f0 x.f1 x.f2.f0 x.f2.f1 x.f3 = some true := by
 have hk := bad_kind h
 unfold badF validO at h
 rw [if_pos hk] at h
 cases hv : value_Valid.f x.f0 x.f1 x.f2.f0 x.f2.f1 x.f3 with
 | none => rw [hv] at h; cases h
 | some b => rw [hv] at h; simp at h; rw [h]
theorem cv_call (t a : Int) (x : S38) (ht : t = 1 ∨ t = 2 ∨ t = 3) (hx : badF a x = some false) :
  cvCall t x.f0 x.f1 x.f2.f0 x.f2.f1 x.f3 (cvF t x).1 (cvF t x).2 ∧ ((cvF t x).2 = 0 → badF t (cvF t x).1 = some false) := by
 have hv := valid_bad hx
 have ha := valid_kind _ _ _ _ _ hv
 obtain ⟨k, b, ⟨c, d⟩, f⟩ := x
 simp only at hv ha ⊢
 unfold cvF
 simp only
 by_cases hat : k = t
 ·subst hat
  rw [if_pos rfl]
  exact ⟨fun W => convert_ok k k b c d f _ ht hv (conv_same k b c d f) W, fun _ => bad_of_valid hv⟩
 rw [if_neg hat]
 by_cases h3 : t = 3 ∨ k = 3
 ·rw [if_pos h3]
  exact ⟨fun W => convert_bad t k b c d f 11 ht hv (conv_type t k b c d f (by omega)) W, fun h => by simp at h⟩
 rw [if_neg h3]
 by_cases h2 : t = 2
 ·subst h2
  rw [if_pos rfl]
  have hk : k = 1 := by omega
  subst hk
  obtain ⟨g0, g1, _⟩ := valid_int b c d f hv
  obtain ⟨r1, r2, h1, h2, _⟩ := fromInt_L 300 b (Nat.le_refl _) (by omega) (by omega)
  have e : frI b = (r1, r2) := by unfold frI; rw [h1]; rfl
  rw [e]
  exact ⟨fun W => convert_ok 2 1 b c d f _ (.inr (.inl rfl)) hv (conv_real b c d f 300 r1 r2 h1) W, fun _ => bad_of_valid (y := ⟨2, 0, ⟨r1, r2⟩, false⟩) (valid_of_real r1 r2 h2)⟩
 ·rw [if_neg h2]
  have hk : k = 2 := by omega
  have ht1 : t = 1 := by omega
  subst hk ht1
  obtain ⟨n, e, h1, h2⟩ := round_ok c d (valid_real b c d f hv)
  have e' : rnd c d = (n, e) := by unfold rnd; rw [h1]; rfl
  rw [e']
  simp only
  by_cases he : e = 0
  ·subst he
   rw [if_pos rfl]
   obtain ⟨g0, g1⟩ := h2 rfl
   exact ⟨fun W => convert_ok 1 2 b c d f _ (.inl rfl) hv (conv_int_ok b c d f n h1) W, fun _ => bad_of_valid (y := ⟨1, n, z36, false⟩) (valid_of_int n g0 g1)⟩
  ·rw [if_neg he]
   exact ⟨fun W => convert_bad 1 2 b c d f e (.inl rfl) hv (conv_int_bad b c d f n e (by simpa using he) h1) W, fun h => absurd h he⟩
end Go.Proofs.Q
end
