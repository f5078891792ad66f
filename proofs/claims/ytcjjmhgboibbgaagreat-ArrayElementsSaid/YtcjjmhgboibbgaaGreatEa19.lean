/-
 Texts of the proof, in build order: words that the walks use, contracts of functions, plain facts.
-/
import Derived.Test.YtcjjmhgboibbgaaGreatEa3
import Derived.Test.YtcjjmhgboibbgaaGreatEa4
import Derived.Test.YtcjjmhgboibbgaaGreatEa18
set_option maxHeartbeats 40000000
set_option maxRecDepth 100000
set_option linter.unusedVariables false
set_option linter.unusedSimpArgs false
section
namespace Go.Proofs.Q
open RowKit Pw Pl Pm
attribute [local go_sem] max2_int min2_int max_two min_two max_three min_three max_four min_four   -- for this text's walks alone
def real_nat_sub.l0 : Nat → List Int → List Int → Int → Int → Int → Option (List Int)
 | 0, _, _, _, _, _ => none
 | k + 1, x1, x5, x6, x12, x13 => if x13 < x12 then (if 0 ≤ x13 then (if x13 < (x5.length : Int) then (if x13 < (x1.length : Int) then (if (wrap64 ((wrap64 ((wrap64 (rd x5 x13)) + x6)) - (wrap64 (rd x1 x13)))) < 0 then (real_nat_sub.l0 k x1 (x5.set (x13 : Int).toNat ((wrap64 ((wrap64 ((wrap64 ((wrap64 (rd x5 x13)) + x6)) - (wrap64 (rd x1 x13)))) + 4294967296)) % 4294967296)) (-1) x12 (wrap64 (x13 + 1))) else (real_nat_sub.l0 k x1 (x5.set (x13 : Int).toNat ((wrap64 ((wrap64 ((wrap64 (rd x5 x13)) + x6)) - (wrap64 (rd x1 x13)))) % 4294967296)) 0 x12 (wrap64 (x13 + 1)))) else (if (wrap64 ((wrap64 (rd x5 x13)) + x6)) < 0 then (real_nat_sub.l0 k x1 (x5.set (x13 : Int).toNat ((wrap64 ((wrap64 ((wrap64 (rd x5 x13)) + x6)) + 4294967296)) % 4294967296)) (-1) x12 (wrap64 (x13 + 1))) else (real_nat_sub.l0 k x1 (x5.set (x13 : Int).toNat ((wrap64 ((wrap64 (rd x5 x13)) + x6)) % 4294967296)) 0 x12 (wrap64 (x13 + 1))))) else (none)) else (none)) else ((real_trim.f k x5).bind fun t211 => (some t211))
def real_nat_sub.f (k : Nat) (l0 : List Int) (l1 : List Int) : Option (List Int) := (real_nat_uint32.f l0).bind fun t208 => (real_nat_sub.l0 k l1 t208 0 (t208.length : Int) 0)
theorem real_nat_sub.calls (k : Nat) (A0 : Option Addr) (c0 : Nat) (l0 : List Int) (A1 : Option Addr) (c1 : Nat) (l1 : List Int) (r : List Int) (w : World) (hr0 : Kd.C (Kd.int .u32) w A0 l0.length l0) (hc0 : l0.length ≤ c0) (hr1 : Kd.C (Kd.int .u32) w A1 l1.length l1) (hc1 : l1.length ≤ c1) (h : real_nat_sub.f k l0 l1 = some r) :
  Calls Tryz.prog 119 #[.slice A0 l0.length c0, .slice A1 l1.length c1] w fun e w' => ∃ v0_ : Value, e = .returned (v0_) ∧ Kd.V (Kd.int .u32) 128 w' w.heap.size (fun k_ => (w.heap.size ≤ k_)) v0_ r ∧ Below w.heap.size w w' := by
 have HR0 := As.mk hr0
 have HC0 := As.mk hc0
 clear hr0 hc0
 have HR1 := As.mk hr1
 have HC1 := As.mk hc1
 clear hr1 hc1
 have HB := As.mk (Below.refl w.heap.size w)
 have H : ((real_nat_uint32.f l0).bind fun t208 => (real_nat_sub.l0 k l1 t208 0 (t208.length : Int) 0)) = some r := h
 clear h
 replace H := Option.bind_eq_some_iff.mp H
 obtain ⟨t208, A30, H⟩ := H
 replace H : (real_nat_sub.l0 k l1 t208 0 (t208.length : Int) 0) = some r := H
 have A3 := As.mk A30
 clear A30
 have H' := As.mk H
 clear H
 go_enter Tryz.func119, Tryz.ntmps119
 go_wp2_with (first | ((with_reducible refine gC (f := 118) rfl ?_); refine gl 10 Tryz.func118 #[.slice A0 l0.length c0] ?_; (with_reducible refine (real_nat_uint32.calls _ _ l0 t208 _ ?side1 ?side2 A3.out).mono ?_); (case side1 => repeat (first | exact HR0.out | (with_reducible first | apply Kd.C_alloc | apply Kd.C_drewN | apply Kd.C_drew))); (case side2 => exact HC0.out); rintro e w4 ⟨v209, rfl, ho0, hb⟩; refine ⟨_, rfl, ?_⟩; have HO210 := As.mk (Kd.R_lower (Kd.R_newM (M := fun k_ => (w.heap.size ≤ k_)) ho0 (bZ zz) (fun k_ h_ => h_)) (bZ zz)); replace HB := As.mk (bS zz hb); (try clear hb); (try clear ho0); obtain ⟨Ao5, co5, eo5⟩ := Kd.R_slice HO210.out; subst eo5))
 go_loopg [6, 13] k (fun kq v6 v13 w' => ∃ (x5_1 : List Int) (x6_1 : Int) (x13_1 : Int), v6 = .int .i64 x6_1 ∧ v13 = .int .i64 x13_1 ∧ As (real_nat_sub.l0 kq l1 x5_1 x6_1 (t208.length : Int) x13_1 = some r) ∧ As (kq ≤ k) ∧ As (Kd.R (Kd.int .u32) 128 w' w.heap.size (fun k_ => (w.heap.size ≤ k_)) (.slice Ao5 t208.length co5) x5_1) ∧ As (Below w.heap.size w w'))
 case atStart => exact ⟨(t208), (0), (0), (by first | rfl | (simp; done) | (simp [*]; done)), (by first | rfl | (simp; done) | (simp [*]; done)), H', ⟨Nat.le_refl _⟩, ⟨by (with_reducible repeat (first | apply Kd.R_alloc | apply Kd.R_drewN | apply Kd.R_drew)); exact Kd.R_mono HO210.out (fun _ hk => hk.1)⟩, ⟨zz⟩⟩
 case round =>
  clear H'
  try clear c1
  try clear p2
  obtain ⟨x5_1, x6_1, x13_1, rfl, rfl, HA, HK1, HO_5, HB⟩ := hrel
  have hl5_1 := (Kd.R_reads' HO_5.out).1
  rw [hl5_1] at HO_5
  (try simp only [hl5_1])
  cases gk with
  | zero => exact absurd HA.out (by simp [real_nat_sub.l0])
  | succ k1 =>
   have H := HA.out
   clear HA
   simp only [real_nat_sub.l0] at H
   by_cases c6 : x13_1 < (t208.length : Int)
   ·rw [if_pos c6] at H
    have c6b0 : decide (x13_1 < (t208.length : Int)) = true := decide_eq_true c6
    have c6b9 : decide (x13_1 < (x5_1.length : Int)) = true := by rw [← hl5_1]; exact c6b0
    clear c6
    by_cases c7 : 0 ≤ x13_1
    ·rw [if_pos c7] at H
     have c7b0 : decide (0 ≤ x13_1) = true := decide_eq_true c7
     clear c7
     by_cases c8 : x13_1 < (x5_1.length : Int)
     ·rw [if_pos c8] at H
      have c8b0 : decide (x13_1 < (x5_1.length : Int)) = true := decide_eq_true c8
      clear c8
      by_cases c9 : x13_1 < (l1.length : Int)
      ·rw [if_pos c9] at H
       have c9b0 : decide (x13_1 < (l1.length : Int)) = true := decide_eq_true c9
       clear c9
       by_cases c10 : (wrap64 ((wrap64 ((wrap64 (rd x5_1 x13_1)) + x6_1)) - (wrap64 (rd l1 x13_1)))) < 0
       ·rw [if_pos c10] at H
        have c10b0 : decide ((wrap64 ((wrap64 ((wrap64 (rd x5_1 x13_1)) + x6_1)) - (wrap64 (rd l1 x13_1)))) < 0) = true := decide_eq_true c10
        clear c10
        obtain ⟨y216, hy216⟩ : ∃ y_ : List Int, y_ = (x5_1.set (x13_1 : Int).toNat ((wrap64 ((wrap64 ((wrap64 ((wrap64 (rd x5_1 x13_1)) + x6_1)) - (wrap64 (rd l1 x13_1)))) + 4294967296)) % 4294967296)) := ⟨_, rfl⟩
        replace H : (real_nat_sub.l0 k1 l1 y216 (-1) (t208.length : Int) (wrap64 (x13_1 + 1))) = some r := by first | (rw [hy216]; with_reducible exact H) | (have H2_ := (Option.bind_some _ _).symm.trans H; rw [hy216]; with_reducible exact H2_) | (have H2_ := (Option.bind_some _ _).symm.trans H; with_reducible exact H2_) | with_reducible exact H | (rw [hy216]; exact H) | exact H
        have Ny216 := As.mk hy216
        clear hy216
        have H' := As.mk H
        clear H
        have p214 : 0 ≤ (x13_1 : Int) := od
        have q214 : x13_1 < (x5_1.length : Int) := od
        obtain ⟨ad214, e214, hx214_0⟩ := Kd.at_int (Kd.R_reads' HO_5.out).2.2 x13_1 p214 q214
        cases e214
        replace p214 := eq_true p214
        replace q214 := eq_true q214
        have p215 : 0 ≤ (x13_1 : Int) := od
        have q215 : x13_1 < (l1.length : Int) := od
        obtain ⟨ad215, e215, hx215_0⟩ := Kd.at_int HR1.out x13_1 p215 q215
        cases e215
        replace hx215_0 := (HB.out.cell (World.block_lt_of_cell? w _ hx215_0)).trans hx215_0
        replace p215 := eq_true p215
        replace q215 := eq_true q215
        have p11 : 0 ≤ (x13_1 : Int) := od
        have q11 : (x13_1 : Int) < ((x5_1.length : Int) : Int) := od
        obtain ⟨go11, co11, eo11, gb11, gl11, cl11, HG11⟩ := Kd.R_form HO_5.out (by omega)
        (first | cases eo11 | (injection eo11 with ea_ en_ ec_; (first | subst ea_ | (injection ea_ with ea_; subst ea_)); subst ec_; clear en_))
        have GB11 := As.mk gb11
        have GG11 := As.mk HG11
        clear gb11 gl11 HG11
        (first | simp only [add_plain] at hx214_0 | skip)
        obtain ⟨hx11_0, hf11_0⟩ := Kd.R_celln 0 HO_5.out (x13_1 : Int) p11 q11
        replace p11 := eq_true p11
        replace q11 := eq_true q11
        have HP12 := Kd.R_putg HO_5.out (x13_1 : Int) ((wrap64 ((wrap64 ((wrap64 ((wrap64 (rd x5_1 x13_1)) + x6_1)) - (wrap64 (rd l1 x13_1)))) + 4294967296)) % 4294967296)
        go_wp2_with (first | ((with_reducible refine gate_store (t := 128) (p := 42) rfl ?_); refine store_event (t := 128) (p := 42) (v := ?vo_w13) (w1 := (wr.setCell ⟨go11, (x13_1 : Int).toNat, none⟩ (.int .u32 ((wrap64 ((wrap64 ((wrap64 ((wrap64 (rd x5_1 x13_1)) + x6_1)) - (wrap64 (rd l1 x13_1)))) + 4294967296)) % 4294967296)))) ?hg ?ho ?hn ?hr ?_; (case ho => rfl); (case hg => rfl); (case hn => rfl); (case hr => first | (go_simp; done) | (go_simp; rfl)); intro w13 hw; have hg : wr.grownBy w13 (some go11) := (by rw [hw]; exact HP12.2); have hp_ : Kd.R (Kd.int .u32) 128 w13 w.heap.size (fun k_ => (w.heap.size ≤ k_)) (.slice (some ⟨go11, 0, none⟩) x5_1.length co5) y216 := (by rw [hw, Ny216.out]; exact HP12.1); clear HP12; replace HO_5 := As.mk (hp_); replace HB := As.mk ((by rw [hw]; exact bT (HB.out) GB11.out : Below w.heap.size w w13)); clear hg hw hp_))
        (try simp only [← hl5_1])
        go_roundg k1
        case measure => have := HK1.out; omega
        case rel => exact ⟨(y216), ((-1)), (wrap64 (x13_1 + 1)), (by first | rfl | (simp; done) | (simp [*]; done)), (by first | rfl | (simp; done) | (simp [*]; done)), H', ⟨by have := HK1.out; omega⟩, ⟨by (try simp only [hl5_1]); (with_reducible repeat (first | apply Kd.R_alloc | apply Kd.R_drewN | apply Kd.R_drew)); exact HO_5.out⟩, ⟨zz⟩⟩
       ·rw [if_neg c10] at H
        have c10b0 : decide ((wrap64 ((wrap64 ((wrap64 (rd x5_1 x13_1)) + x6_1)) - (wrap64 (rd l1 x13_1)))) < 0) = false := decide_eq_false c10
        clear c10
        obtain ⟨y217, hy217⟩ : ∃ y_ : List Int, y_ = (x5_1.set (x13_1 : Int).toNat ((wrap64 ((wrap64 ((wrap64 (rd x5_1 x13_1)) + x6_1)) - (wrap64 (rd l1 x13_1)))) % 4294967296)) := ⟨_, rfl⟩
        replace H : (real_nat_sub.l0 k1 l1 y217 0 (t208.length : Int) (wrap64 (x13_1 + 1))) = some r := by first | (rw [hy217]; with_reducible exact H) | (have H2_ := (Option.bind_some _ _).symm.trans H; rw [hy217]; with_reducible exact H2_) | (have H2_ := (Option.bind_some _ _).symm.trans H; with_reducible exact H2_) | with_reducible exact H | (rw [hy217]; exact H) | exact H
        have Ny217 := As.mk hy217
        clear hy217
        have H' := As.mk H
        clear H
        have p214 : 0 ≤ (x13_1 : Int) := od
        have q214 : x13_1 < (x5_1.length : Int) := od
        obtain ⟨ad214, e214, hx214_0⟩ := Kd.at_int (Kd.R_reads' HO_5.out).2.2 x13_1 p214 q214
        cases e214
        replace p214 := eq_true p214
        replace q214 := eq_true q214
        have p215 : 0 ≤ (x13_1 : Int) := od
        have q215 : x13_1 < (l1.length : Int) := od
        obtain ⟨ad215, e215, hx215_0⟩ := Kd.at_int HR1.out x13_1 p215 q215
        cases e215
        replace hx215_0 := (HB.out.cell (World.block_lt_of_cell? w _ hx215_0)).trans hx215_0
        replace p215 := eq_true p215
        replace q215 := eq_true q215
        have p14 : 0 ≤ (x13_1 : Int) := od
        have q14 : (x13_1 : Int) < ((x5_1.length : Int) : Int) := od
        obtain ⟨go14, co14, eo14, gb14, gl14, cl14, HG14⟩ := Kd.R_form HO_5.out (by omega)
        (first | cases eo14 | (injection eo14 with ea_ en_ ec_; (first | subst ea_ | (injection ea_ with ea_; subst ea_)); subst ec_; clear en_))
        have GB14 := As.mk gb14
        have GG14 := As.mk HG14
        clear gb14 gl14 HG14
        (first | simp only [add_plain] at hx214_0 | skip)
        obtain ⟨hx14_0, hf14_0⟩ := Kd.R_celln 0 HO_5.out (x13_1 : Int) p14 q14
        replace p14 := eq_true p14
        replace q14 := eq_true q14
        have HP15 := Kd.R_putg HO_5.out (x13_1 : Int) ((wrap64 ((wrap64 ((wrap64 (rd x5_1 x13_1)) + x6_1)) - (wrap64 (rd l1 x13_1)))) % 4294967296)
        go_wp2_with (first | ((with_reducible refine gate_store (t := 128) (p := 42) rfl ?_); refine store_event (t := 128) (p := 42) (v := ?vo_w16) (w1 := (wr.setCell ⟨go14, (x13_1 : Int).toNat, none⟩ (.int .u32 ((wrap64 ((wrap64 ((wrap64 (rd x5_1 x13_1)) + x6_1)) - (wrap64 (rd l1 x13_1)))) % 4294967296)))) ?hg ?ho ?hn ?hr ?_; (case ho => rfl); (case hg => rfl); (case hn => rfl); (case hr => first | (go_simp; done) | (go_simp; rfl)); intro w16 hw; have hg : wr.grownBy w16 (some go14) := (by rw [hw]; exact HP15.2); have hp_ : Kd.R (Kd.int .u32) 128 w16 w.heap.size (fun k_ => (w.heap.size ≤ k_)) (.slice (some ⟨go14, 0, none⟩) x5_1.length co5) y217 := (by rw [hw, Ny217.out]; exact HP15.1); clear HP15; replace HO_5 := As.mk (hp_); replace HB := As.mk ((by rw [hw]; exact bT (HB.out) GB14.out : Below w.heap.size w w16)); clear hg hw hp_))
        (try simp only [← hl5_1])
        go_roundg k1
        case measure => have := HK1.out; omega
        case rel => exact ⟨(y217), (0), (wrap64 (x13_1 + 1)), (by first | rfl | (simp; done) | (simp [*]; done)), (by first | rfl | (simp; done) | (simp [*]; done)), H', ⟨by have := HK1.out; omega⟩, ⟨by (try simp only [hl5_1]); (with_reducible repeat (first | apply Kd.R_alloc | apply Kd.R_drewN | apply Kd.R_drew)); exact HO_5.out⟩, ⟨zz⟩⟩
      ·rw [if_neg c9] at H
       have c9b0 : decide (x13_1 < (l1.length : Int)) = false := decide_eq_false c9
       clear c9
       by_cases c17 : (wrap64 ((wrap64 (rd x5_1 x13_1)) + x6_1)) < 0
       ·rw [if_pos c17] at H
        have c17b0 : decide ((wrap64 ((wrap64 (rd x5_1 x13_1)) + x6_1)) < 0) = true := decide_eq_true c17
        clear c17
        obtain ⟨y218, hy218⟩ : ∃ y_ : List Int, y_ = (x5_1.set (x13_1 : Int).toNat ((wrap64 ((wrap64 ((wrap64 (rd x5_1 x13_1)) + x6_1)) + 4294967296)) % 4294967296)) := ⟨_, rfl⟩
        replace H : (real_nat_sub.l0 k1 l1 y218 (-1) (t208.length : Int) (wrap64 (x13_1 + 1))) = some r := by first | (rw [hy218]; with_reducible exact H) | (have H2_ := (Option.bind_some _ _).symm.trans H; rw [hy218]; with_reducible exact H2_) | (have H2_ := (Option.bind_some _ _).symm.trans H; with_reducible exact H2_) | with_reducible exact H | (rw [hy218]; exact H) | exact H
        have Ny218 := As.mk hy218
        clear hy218
        have H' := As.mk H
        clear H
        have p214 : 0 ≤ (x13_1 : Int) := od
        have q214 : x13_1 < (x5_1.length : Int) := od
        obtain ⟨ad214, e214, hx214_0⟩ := Kd.at_int (Kd.R_reads' HO_5.out).2.2 x13_1 p214 q214
        cases e214
        replace p214 := eq_true p214
        replace q214 := eq_true q214
        have p18 : 0 ≤ (x13_1 : Int) := od
        have q18 : (x13_1 : Int) < ((x5_1.length : Int) : Int) := od
        obtain ⟨go18, co18, eo18, gb18, gl18, cl18, HG18⟩ := Kd.R_form HO_5.out (by omega)
        (first | cases eo18 | (injection eo18 with ea_ en_ ec_; (first | subst ea_ | (injection ea_ with ea_; subst ea_)); subst ec_; clear en_))
        have GB18 := As.mk gb18
        have GG18 := As.mk HG18
        clear gb18 gl18 HG18
        (first | simp only [add_plain] at hx214_0 | skip)
        obtain ⟨hx18_0, hf18_0⟩ := Kd.R_celln 0 HO_5.out (x13_1 : Int) p18 q18
        replace p18 := eq_true p18
        replace q18 := eq_true q18
        have HP19 := Kd.R_putg HO_5.out (x13_1 : Int) ((wrap64 ((wrap64 ((wrap64 (rd x5_1 x13_1)) + x6_1)) + 4294967296)) % 4294967296)
        go_wp2_with (first | ((with_reducible refine gate_store (t := 128) (p := 42) rfl ?_); refine store_event (t := 128) (p := 42) (v := ?vo_w20) (w1 := (wr.setCell ⟨go18, (x13_1 : Int).toNat, none⟩ (.int .u32 ((wrap64 ((wrap64 ((wrap64 (rd x5_1 x13_1)) + x6_1)) + 4294967296)) % 4294967296)))) ?hg ?ho ?hn ?hr ?_; (case ho => rfl); (case hg => rfl); (case hn => rfl); (case hr => first | (go_simp; done) | (go_simp; rfl)); intro w20 hw; have hg : wr.grownBy w20 (some go18) := (by rw [hw]; exact HP19.2); have hp_ : Kd.R (Kd.int .u32) 128 w20 w.heap.size (fun k_ => (w.heap.size ≤ k_)) (.slice (some ⟨go18, 0, none⟩) x5_1.length co5) y218 := (by rw [hw, Ny218.out]; exact HP19.1); clear HP19; replace HO_5 := As.mk (hp_); replace HB := As.mk ((by rw [hw]; exact bT (HB.out) GB18.out : Below w.heap.size w w20)); clear hg hw hp_))
        (try simp only [← hl5_1])
        go_roundg k1
        case measure => have := HK1.out; omega
        case rel => exact ⟨(y218), ((-1)), (wrap64 (x13_1 + 1)), (by first | rfl | (simp; done) | (simp [*]; done)), (by first | rfl | (simp; done) | (simp [*]; done)), H', ⟨by have := HK1.out; omega⟩, ⟨by (try simp only [hl5_1]); (with_reducible repeat (first | apply Kd.R_alloc | apply Kd.R_drewN | apply Kd.R_drew)); exact HO_5.out⟩, ⟨zz⟩⟩
       ·rw [if_neg c17] at H
        have c17b0 : decide ((wrap64 ((wrap64 (rd x5_1 x13_1)) + x6_1)) < 0) = false := decide_eq_false c17
        clear c17
        obtain ⟨y219, hy219⟩ : ∃ y_ : List Int, y_ = (x5_1.set (x13_1 : Int).toNat ((wrap64 ((wrap64 (rd x5_1 x13_1)) + x6_1)) % 4294967296)) := ⟨_, rfl⟩
        replace H : (real_nat_sub.l0 k1 l1 y219 0 (t208.length : Int) (wrap64 (x13_1 + 1))) = some r := by first | (rw [hy219]; with_reducible exact H) | (have H2_ := (Option.bind_some _ _).symm.trans H; rw [hy219]; with_reducible exact H2_) | (have H2_ := (Option.bind_some _ _).symm.trans H; with_reducible exact H2_) | with_reducible exact H | (rw [hy219]; exact H) | exact H
        have Ny219 := As.mk hy219
        clear hy219
        have H' := As.mk H
        clear H
        have p214 : 0 ≤ (x13_1 : Int) := od
        have q214 : x13_1 < (x5_1.length : Int) := od
        obtain ⟨ad214, e214, hx214_0⟩ := Kd.at_int (Kd.R_reads' HO_5.out).2.2 x13_1 p214 q214
        cases e214
        replace p214 := eq_true p214
        replace q214 := eq_true q214
        have p21 : 0 ≤ (x13_1 : Int) := od
        have q21 : (x13_1 : Int) < ((x5_1.length : Int) : Int) := od
        obtain ⟨go21, co21, eo21, gb21, gl21, cl21, HG21⟩ := Kd.R_form HO_5.out (by omega)
        (first | cases eo21 | (injection eo21 with ea_ en_ ec_; (first | subst ea_ | (injection ea_ with ea_; subst ea_)); subst ec_; clear en_))
        have GB21 := As.mk gb21
        have GG21 := As.mk HG21
        clear gb21 gl21 HG21
        (first | simp only [add_plain] at hx214_0 | skip)
        obtain ⟨hx21_0, hf21_0⟩ := Kd.R_celln 0 HO_5.out (x13_1 : Int) p21 q21
        replace p21 := eq_true p21
        replace q21 := eq_true q21
        have HP22 := Kd.R_putg HO_5.out (x13_1 : Int) ((wrap64 ((wrap64 (rd x5_1 x13_1)) + x6_1)) % 4294967296)
        go_wp2_with (first | ((with_reducible refine gate_store (t := 128) (p := 42) rfl ?_); refine store_event (t := 128) (p := 42) (v := ?vo_w23) (w1 := (wr.setCell ⟨go21, (x13_1 : Int).toNat, none⟩ (.int .u32 ((wrap64 ((wrap64 (rd x5_1 x13_1)) + x6_1)) % 4294967296)))) ?hg ?ho ?hn ?hr ?_; (case ho => rfl); (case hg => rfl); (case hn => rfl); (case hr => first | (go_simp; done) | (go_simp; rfl)); intro w23 hw; have hg : wr.grownBy w23 (some go21) := (by rw [hw]; exact HP22.2); have hp_ : Kd.R (Kd.int .u32) 128 w23 w.heap.size (fun k_ => (w.heap.size ≤ k_)) (.slice (some ⟨go21, 0, none⟩) x5_1.length co5) y219 := (by rw [hw, Ny219.out]; exact HP22.1); clear HP22; replace HO_5 := As.mk (hp_); replace HB := As.mk ((by rw [hw]; exact bT (HB.out) GB21.out : Below w.heap.size w w23)); clear hg hw hp_))
        (try simp only [← hl5_1])
        go_roundg k1
        case measure => have := HK1.out; omega
        case rel => exact ⟨(y219), (0), (wrap64 (x13_1 + 1)), (by first | rfl | (simp; done) | (simp [*]; done)), (by first | rfl | (simp; done) | (simp [*]; done)), H', ⟨by have := HK1.out; omega⟩, ⟨by (try simp only [hl5_1]); (with_reducible repeat (first | apply Kd.R_alloc | apply Kd.R_drewN | apply Kd.R_drew)); exact HO_5.out⟩, ⟨zz⟩⟩
     ·rw [if_neg c8] at H
      exact absurd H (by simp)
    ·rw [if_neg c7] at H
     exact absurd H (by simp)
   ·rw [if_neg c6] at H
    have c6b0 : decide (x13_1 < (t208.length : Int)) = false := decide_eq_false c6
    have c6b9 : decide (x13_1 < (x5_1.length : Int)) = false := by rw [← hl5_1]; exact c6b0
    clear c6
    replace H := Option.bind_eq_some_iff.mp H
    obtain ⟨t211, A240, H⟩ := H
    replace H : (some t211) = some r := H
    have A24 := As.mk A240
    clear A240
    obtain rfl := Option.some.inj H
    go_wp2_with (first | ((with_reducible refine gC (f := 116) rfl ?_); refine gl 45 Tryz.func116 #[.slice Ao5 x5_1.length co5] ?_; (with_reducible refine (real_trim.calls k1 (fun k_ => some k_ = (.slice Ao5 x5_1.length co5 : Value).ownBlock) _ _ x5_1 t211 _ ?side1 A24.out).mono ?_); (case side1 => exact Kd.R_V (Kd.R_tight rfl (HO_5.out))); rintro e w25 ⟨v212, rfl, ho0, hb⟩; refine ⟨_, rfl, ?_⟩; have HO213 := As.mk (Kd.V_lower (Kd.V_mono (ok' := fun k_ => (w.heap.size ≤ k_)) ho0 (fun k_ hk_ => Or.elim hk_ (fun hs_ => ((HO_5.out).1 k_ hs_.symm)) (fun hn_ => (Nat.le_trans (bZ zz) hn_)))) (bZ zz)); replace HO_5 := As.mk (Kd.R_below (by (with_reducible repeat (first | apply Kd.R_alloc | apply Kd.R_drewN | apply Kd.R_drew)); exact HO_5.out) hb); replace HB := As.mk (bS zz hb); (try clear hb); (try clear ho0)))
    go_ret
    exact ⟨_, by first | rfl | (simp [eN, eS] <;> rfl) | (simp [*, eN, eS] <;> rfl), by (with_reducible repeat (first | apply Kd.V_alloc | apply Kd.V_drewN | apply Kd.V_drew)); exact HO213.out, zz⟩
def real_nat_add.l0 : Nat → List Int → List Int → List Int → Int → Int → Int → Option (List Int)
 | 0, _, _, _, _, _, _ => none
 | k + 1, x0, x1, x5, x6, x12, x13 => if x13 < x12 then (if x13 < (x0.length : Int) then (if 0 ≤ x13 then (if x13 < (x1.length : Int) then (if x5.length < 35184372088832 then (real_nat_add.l0 k x0 x1 (x5 ++ [(IntKind.u64.wrap ((IntKind.u64.wrap (x6 + (IntKind.u64.wrap (rd x0 x13)))) + (IntKind.u64.wrap (rd x1 x13)))) % 4294967296]) ((IntKind.u64.wrap ((IntKind.u64.wrap (x6 + (IntKind.u64.wrap (rd x0 x13)))) + (IntKind.u64.wrap (rd x1 x13)))) / 4294967296) x12 (wrap64 (x13 + 1))) else (none)) else (if x5.length < 35184372088832 then (real_nat_add.l0 k x0 x1 (x5 ++ [(IntKind.u64.wrap (x6 + (IntKind.u64.wrap (rd x0 x13)))) % 4294967296]) ((IntKind.u64.wrap (x6 + (IntKind.u64.wrap (rd x0 x13)))) / 4294967296) x12 (wrap64 (x13 + 1))) else (none))) else (none)) else (if x13 < (x1.length : Int) then (if 0 ≤ x13 then (if x5.length < 35184372088832 then (real_nat_add.l0 k x0 x1 (x5 ++ [(IntKind.u64.wrap (x6 + (IntKind.u64.wrap (rd x1 x13)))) % 4294967296]) ((IntKind.u64.wrap (x6 + (IntKind.u64.wrap (rd x1 x13)))) / 4294967296) x12 (wrap64 (x13 + 1))) else (none)) else (none)) else (if x5.length < 35184372088832 then (real_nat_add.l0 k x0 x1 (x5 ++ [(x6) % 4294967296]) (x6 / 4294967296) x12 (wrap64 (x13 + 1))) else (none)))) else (if x5.length < 35184372088832 then ((real_trim.f k (x5 ++ [(x6) % 4294967296])).bind fun t223 => (some t223)) else (none))
def real_nat_add.f (k : Nat) (l0 : List Int) (l1 : List Int) : Option (List Int) := real_nat_add.l0 k l0 l1 ([] : List Int) 0 (mx (l0.length : Int) (l1.length : Int)) 0
theorem real_nat_add.calls (k : Nat) (A0 : Option Addr) (c0 : Nat) (l0 : List Int) (A1 : Option Addr) (c1 : Nat) (l1 : List Int) (r : List Int) (w : World) (hr0 : Kd.C (Kd.int .u32) w A0 l0.length l0) (hc0 : l0.length ≤ c0) (hr1 : Kd.C (Kd.int .u32) w A1 l1.length l1) (hc1 : l1.length ≤ c1) (h : real_nat_add.f k l0 l1 = some r) :
  Calls Tryz.prog 120 #[.slice A0 l0.length c0, .slice A1 l1.length c1] w fun e w' => ∃ v0_ : Value, e = .returned (v0_) ∧ Kd.V (Kd.int .u32) 128 w' w.heap.size (fun k_ => (w.heap.size ≤ k_)) v0_ r ∧ Below w.heap.size w w' := by
 have HR0 := As.mk hr0
 have HC0 := As.mk hc0
 clear hr0 hc0
 have HR1 := As.mk hr1
 have HC1 := As.mk hc1
 clear hr1 hc1
 have HB := As.mk (Below.refl w.heap.size w)
 have H : (real_nat_add.l0 k l0 l1 ([] : List Int) 0 (mx (l0.length : Int) (l1.length : Int)) 0) = some r := h
 clear h
 obtain ⟨ji3, hji3⟩ : ∃ j_ : Int, (mx (l0.length : Int) (l1.length : Int)) = j_ := ⟨_, rfl⟩
 replace H : (real_nat_add.l0 k l0 l1 ([] : List Int) 0 ji3 0) = some r := by first | (rw [hji3] at H; exact H) | (simp only [hji3] at H ⊢; exact H)
 (try (have hji3l : 0 ≤ ji3 := by (rw [← hji3]; unfold mx; (repeat' split) <;> omega)))
 (try (have hji3m : 0 ≤ ji3 := by omega))
 have hji3_ : (if (l0.length : Int) < (l1.length : Int) then (l1.length : Int) else (l0.length : Int)) = ji3 := hji3
 have H' := As.mk H
 clear H
 go_enter Tryz.func120, Tryz.ntmps120
 go_upto_region 3 with (fail)
 go_cut [12, 13] (fun v v2 wc => v = .int .i64 ji3 ∧ v2 = .int .i64 0 ∧ wc = w)
 case first =>
  go_wp2
  all_goals go_meet
  all_goals first | exact ⟨by rw [← hji3_, if_pos (by omega)], rfl, rfl⟩ | exact ⟨by rw [← hji3_, if_neg (by omega)], rfl, rfl⟩
 obtain ⟨rfl, rfl, hwc⟩ := hcut
 replace hwc := hwc.symm
 subst hwc
 go_wp2
 go_loopg [5, 6, 13] k (fun kq v5 v6 v13 w' => ∃ (x5_1 : List Int) (x6_1 : Int) (x13_1 : Int), v6 = .int .u64 x6_1 ∧ v13 = .int .i64 x13_1 ∧ As (real_nat_add.l0 kq l0 l1 x5_1 x6_1 ji3 x13_1 = some r) ∧ As (kq ≤ k) ∧ As (Kd.R (Kd.int .u32) 128 w' w.heap.size (fun k_ => (w.heap.size ≤ k_)) v5 x5_1) ∧ As (Below w.heap.size w w'))
 case atStart => exact ⟨(([] : List Int)), (0), (0), (by first | rfl | (simp; done) | (simp [*]; done)), (by first | rfl | (simp; done) | (simp [*]; done)), H', ⟨Nat.le_refl _⟩, ⟨by first | exact Kd.R_nil _ _ _ _ _ | exact Kd.N_nil _ _ _ _ _ | exact Kd.V_nil _ _ _ _ _ | exact Kd.Q_nil _ _ _ _ _ | exact Kd.S_nil _ _ _ _ _⟩, ⟨zz⟩⟩
 case round =>
  clear H'
  try clear c1
  try clear p2
  obtain ⟨x5_1, x6_1, x13_1, rfl, rfl, HA, HK1, HO_5, HB⟩ := hrel
  cases gk with
  | zero => exact absurd HA.out (by simp [real_nat_add.l0])
  | succ k1 =>
   have H := HA.out
   clear HA
   simp only [real_nat_add.l0] at H
   by_cases c4 : x13_1 < ji3
   ·rw [if_pos c4] at H
    have c4b0 : decide (x13_1 < ji3) = true := decide_eq_true c4
    clear c4
    by_cases c5 : x13_1 < (l0.length : Int)
    ·rw [if_pos c5] at H
     have c5b0 : decide (x13_1 < (l0.length : Int)) = true := decide_eq_true c5
     clear c5
     by_cases c6 : 0 ≤ x13_1
     ·rw [if_pos c6] at H
      have c6b0 : decide (0 ≤ x13_1) = true := decide_eq_true c6
      clear c6
      by_cases c7 : x13_1 < (l1.length : Int)
      ·rw [if_pos c7] at H
       have c7b0 : decide (x13_1 < (l1.length : Int)) = true := decide_eq_true c7
       clear c7
       by_cases c8 : x5_1.length < 35184372088832
       ·rw [if_pos c8] at H
        have LMc8 := As.mk c8
        clear c8
        obtain ⟨y228, hy228⟩ : ∃ y_ : List Int, y_ = (x5_1 ++ [(IntKind.u64.wrap ((IntKind.u64.wrap (x6_1 + (IntKind.u64.wrap (rd l0 x13_1)))) + (IntKind.u64.wrap (rd l1 x13_1)))) % 4294967296]) := ⟨_, rfl⟩
        replace H : (real_nat_add.l0 k1 l0 l1 y228 ((IntKind.u64.wrap ((IntKind.u64.wrap (x6_1 + (IntKind.u64.wrap (rd l0 x13_1)))) + (IntKind.u64.wrap (rd l1 x13_1)))) / 4294967296) ji3 (wrap64 (x13_1 + 1))) = some r := by first | (rw [hy228]; with_reducible exact H) | (have H2_ := (Option.bind_some _ _).symm.trans H; rw [hy228]; with_reducible exact H2_) | (have H2_ := (Option.bind_some _ _).symm.trans H; with_reducible exact H2_) | with_reducible exact H | (rw [hy228]; exact H) | exact H
        have Ny228 := As.mk hy228
        clear hy228
        have H' := As.mk H
        clear H
        have p226 : 0 ≤ (x13_1 : Int) := od
        have q226 : x13_1 < (l0.length : Int) := od
        obtain ⟨ad226, e226, hx226_0⟩ := Kd.at_int HR0.out x13_1 p226 q226
        cases e226
        replace hx226_0 := (HB.out.cell (World.block_lt_of_cell? w _ hx226_0)).trans hx226_0
        replace p226 := eq_true p226
        replace q226 := eq_true q226
        have p227 : 0 ≤ (x13_1 : Int) := od
        have q227 : x13_1 < (l1.length : Int) := od
        obtain ⟨ad227, e227, hx227_0⟩ := Kd.at_int HR1.out x13_1 p227 q227
        cases e227
        replace hx227_0 := (HB.out.cell (World.block_lt_of_cell? w _ hx227_0)).trans hx227_0
        replace p227 := eq_true p227
        replace q227 := eq_true q227
        go_wp2_with (first | ((with_reducible refine gB (b := .append) (xs := #[.tmp 38, .tmp 41]) rfl ?_); at_builtin; refine Kd.R_append (Kd.int .u32) (w0 := w) w.heap.size rfl (.tmp 38) (.tmp 41) 148 128 (.int .u32 0) 4 rfl Tryz.underlying148 info128 rfl (by decide) (by omega) u5 x5_1 ((IntKind.u64.wrap ((IntKind.u64.wrap (x6_1 + (IntKind.u64.wrap (rd l0 x13_1)))) + (IntKind.u64.wrap (rd l1 x13_1)))) % 4294967296) [.int .u32 ((IntKind.u64.wrap ((IntKind.u64.wrap (x6_1 + (IntKind.u64.wrap (rd l0 x13_1)))) + (IntKind.u64.wrap (rd l1 x13_1)))) % 4294967296)] (fun k_ => (w.heap.size ≤ k_)) (fun _ => False) rfl rfl ?aP (fun _ hk => hk.elim) ?aF ?aO ?aB ?aS ?aL ?_; (case aP => exact rfl); (case aB => exact zz); (case aF => exact (fun k_ hk => (Nat.le_trans (bZ zz) hk))); (case aO => exact (by (with_reducible repeat (first | apply Kd.R_alloc | apply Kd.R_drewN | apply Kd.R_drew)); exact HO_5.out)); (case aS => exact (bZ zz)); (case aL => have := LMc8.out; omega); intro v229 w9 ho hb hg hat; rw [← Ny228.out] at ho; replace HB := As.mk (hb); have HO230 := As.mk (ho); clear HO_5; clear ho hb hg hat))
        go_roundg k1
        case measure => have := HK1.out; omega
        case rel => exact ⟨(y228), ((IntKind.u64.wrap ((IntKind.u64.wrap (x6_1 + (IntKind.u64.wrap (rd l0 x13_1)))) + (IntKind.u64.wrap (rd l1 x13_1)))) / 4294967296), (wrap64 (x13_1 + 1)), (by first | rfl | (simp; done) | (simp [*]; done)), (by first | rfl | (simp; done) | (simp [*]; done)), H', ⟨by have := HK1.out; omega⟩, ⟨by (with_reducible repeat (first | apply Kd.R_alloc | apply Kd.R_drewN | apply Kd.R_drew)); exact HO230.out⟩, ⟨zz⟩⟩
       ·rw [if_neg c8] at H
        exact absurd H (by simp)
      ·rw [if_neg c7] at H
       have c7b0 : decide (x13_1 < (l1.length : Int)) = false := decide_eq_false c7
       clear c7
       by_cases c10 : x5_1.length < 35184372088832
       ·rw [if_pos c10] at H
        have LMc10 := As.mk c10
        clear c10
        obtain ⟨y231, hy231⟩ : ∃ y_ : List Int, y_ = (x5_1 ++ [(IntKind.u64.wrap (x6_1 + (IntKind.u64.wrap (rd l0 x13_1)))) % 4294967296]) := ⟨_, rfl⟩
        replace H : (real_nat_add.l0 k1 l0 l1 y231 ((IntKind.u64.wrap (x6_1 + (IntKind.u64.wrap (rd l0 x13_1)))) / 4294967296) ji3 (wrap64 (x13_1 + 1))) = some r := by first | (rw [hy231]; with_reducible exact H) | (have H2_ := (Option.bind_some _ _).symm.trans H; rw [hy231]; with_reducible exact H2_) | (have H2_ := (Option.bind_some _ _).symm.trans H; with_reducible exact H2_) | with_reducible exact H | (rw [hy231]; exact H) | exact H
        have Ny231 := As.mk hy231
        clear hy231
        have H' := As.mk H
        clear H
        have p226 : 0 ≤ (x13_1 : Int) := od
        have q226 : x13_1 < (l0.length : Int) := od
        obtain ⟨ad226, e226, hx226_0⟩ := Kd.at_int HR0.out x13_1 p226 q226
        cases e226
        replace hx226_0 := (HB.out.cell (World.block_lt_of_cell? w _ hx226_0)).trans hx226_0
        replace p226 := eq_true p226
        replace q226 := eq_true q226
        go_wp2_with (first | ((with_reducible refine gB (b := .append) (xs := #[.tmp 38, .tmp 41]) rfl ?_); at_builtin; refine Kd.R_append (Kd.int .u32) (w0 := w) w.heap.size rfl (.tmp 38) (.tmp 41) 148 128 (.int .u32 0) 4 rfl Tryz.underlying148 info128 rfl (by decide) (by omega) u5 x5_1 ((IntKind.u64.wrap (x6_1 + (IntKind.u64.wrap (rd l0 x13_1)))) % 4294967296) [.int .u32 ((IntKind.u64.wrap (x6_1 + (IntKind.u64.wrap (rd l0 x13_1)))) % 4294967296)] (fun k_ => (w.heap.size ≤ k_)) (fun _ => False) rfl rfl ?aP (fun _ hk => hk.elim) ?aF ?aO ?aB ?aS ?aL ?_; (case aP => exact rfl); (case aB => exact zz); (case aF => exact (fun k_ hk => (Nat.le_trans (bZ zz) hk))); (case aO => exact (by (with_reducible repeat (first | apply Kd.R_alloc | apply Kd.R_drewN | apply Kd.R_drew)); exact HO_5.out)); (case aS => exact (bZ zz)); (case aL => have := LMc10.out; omega); intro v232 w11 ho hb hg hat; rw [← Ny231.out] at ho; replace HB := As.mk (hb); have HO233 := As.mk (ho); clear HO_5; clear ho hb hg hat))
        go_roundg k1
        case measure => have := HK1.out; omega
        case rel => exact ⟨(y231), ((IntKind.u64.wrap (x6_1 + (IntKind.u64.wrap (rd l0 x13_1)))) / 4294967296), (wrap64 (x13_1 + 1)), (by first | rfl | (simp; done) | (simp [*]; done)), (by first | rfl | (simp; done) | (simp [*]; done)), H', ⟨by have := HK1.out; omega⟩, ⟨by (with_reducible repeat (first | apply Kd.R_alloc | apply Kd.R_drewN | apply Kd.R_drew)); exact HO233.out⟩, ⟨zz⟩⟩
       ·rw [if_neg c10] at H
        exact absurd H (by simp)
     ·rw [if_neg c6] at H
      exact absurd H (by simp)
    ·rw [if_neg c5] at H
     have c5b0 : decide (x13_1 < (l0.length : Int)) = false := decide_eq_false c5
     clear c5
     by_cases c12 : x13_1 < (l1.length : Int)
     ·rw [if_pos c12] at H
      have c12b0 : decide (x13_1 < (l1.length : Int)) = true := decide_eq_true c12
      clear c12
      by_cases c13 : 0 ≤ x13_1
      ·rw [if_pos c13] at H
       have c13b0 : decide (0 ≤ x13_1) = true := decide_eq_true c13
       clear c13
       by_cases c14 : x5_1.length < 35184372088832
       ·rw [if_pos c14] at H
        have LMc14 := As.mk c14
        clear c14
        obtain ⟨y235, hy235⟩ : ∃ y_ : List Int, y_ = (x5_1 ++ [(IntKind.u64.wrap (x6_1 + (IntKind.u64.wrap (rd l1 x13_1)))) % 4294967296]) := ⟨_, rfl⟩
        replace H : (real_nat_add.l0 k1 l0 l1 y235 ((IntKind.u64.wrap (x6_1 + (IntKind.u64.wrap (rd l1 x13_1)))) / 4294967296) ji3 (wrap64 (x13_1 + 1))) = some r := by first | (rw [hy235]; with_reducible exact H) | (have H2_ := (Option.bind_some _ _).symm.trans H; rw [hy235]; with_reducible exact H2_) | (have H2_ := (Option.bind_some _ _).symm.trans H; with_reducible exact H2_) | with_reducible exact H | (rw [hy235]; exact H) | exact H
        have Ny235 := As.mk hy235
        clear hy235
        have H' := As.mk H
        clear H
        have p234 : 0 ≤ (x13_1 : Int) := od
        have q234 : x13_1 < (l1.length : Int) := od
        obtain ⟨ad234, e234, hx234_0⟩ := Kd.at_int HR1.out x13_1 p234 q234
        cases e234
        replace hx234_0 := (HB.out.cell (World.block_lt_of_cell? w _ hx234_0)).trans hx234_0
        replace p234 := eq_true p234
        replace q234 := eq_true q234
        go_wp2_with (first | ((with_reducible refine gB (b := .append) (xs := #[.tmp 38, .tmp 41]) rfl ?_); at_builtin; refine Kd.R_append (Kd.int .u32) (w0 := w) w.heap.size rfl (.tmp 38) (.tmp 41) 148 128 (.int .u32 0) 4 rfl Tryz.underlying148 info128 rfl (by decide) (by omega) u5 x5_1 ((IntKind.u64.wrap (x6_1 + (IntKind.u64.wrap (rd l1 x13_1)))) % 4294967296) [.int .u32 ((IntKind.u64.wrap (x6_1 + (IntKind.u64.wrap (rd l1 x13_1)))) % 4294967296)] (fun k_ => (w.heap.size ≤ k_)) (fun _ => False) rfl rfl ?aP (fun _ hk => hk.elim) ?aF ?aO ?aB ?aS ?aL ?_; (case aP => exact rfl); (case aB => exact zz); (case aF => exact (fun k_ hk => (Nat.le_trans (bZ zz) hk))); (case aO => exact (by (with_reducible repeat (first | apply Kd.R_alloc | apply Kd.R_drewN | apply Kd.R_drew)); exact HO_5.out)); (case aS => exact (bZ zz)); (case aL => have := LMc14.out; omega); intro v236 w15 ho hb hg hat; rw [← Ny235.out] at ho; replace HB := As.mk (hb); have HO237 := As.mk (ho); clear HO_5; clear ho hb hg hat))
        go_roundg k1
        case measure => have := HK1.out; omega
        case rel => exact ⟨(y235), ((IntKind.u64.wrap (x6_1 + (IntKind.u64.wrap (rd l1 x13_1)))) / 4294967296), (wrap64 (x13_1 + 1)), (by first | rfl | (simp; done) | (simp [*]; done)), (by first | rfl | (simp; done) | (simp [*]; done)), H', ⟨by have := HK1.out; omega⟩, ⟨by (with_reducible repeat (first | apply Kd.R_alloc | apply Kd.R_drewN | apply Kd.R_drew)); exact HO237.out⟩, ⟨zz⟩⟩
       ·rw [if_neg c14] at H
        exact absurd H (by simp)
      ·rw [if_neg c13] at H
       exact absurd H (by simp)
     ·rw [if_neg c12] at H
      have c12b0 : decide (x13_1 < (l1.length : Int)) = false := decide_eq_false c12
      clear c12
      by_cases c16 : x5_1.length < 35184372088832
      ·rw [if_pos c16] at H
       have LMc16 := As.mk c16
       clear c16
       obtain ⟨y238, hy238⟩ : ∃ y_ : List Int, y_ = (x5_1 ++ [(x6_1) % 4294967296]) := ⟨_, rfl⟩
       replace H : (real_nat_add.l0 k1 l0 l1 y238 (x6_1 / 4294967296) ji3 (wrap64 (x13_1 + 1))) = some r := by first | (rw [hy238]; with_reducible exact H) | (have H2_ := (Option.bind_some _ _).symm.trans H; rw [hy238]; with_reducible exact H2_) | (have H2_ := (Option.bind_some _ _).symm.trans H; with_reducible exact H2_) | with_reducible exact H | (rw [hy238]; exact H) | exact H
       have Ny238 := As.mk hy238
       clear hy238
       have H' := As.mk H
       clear H
       go_wp2_with (first | ((with_reducible refine gB (b := .append) (xs := #[.tmp 38, .tmp 41]) rfl ?_); at_builtin; refine Kd.R_append (Kd.int .u32) (w0 := w) w.heap.size rfl (.tmp 38) (.tmp 41) 148 128 (.int .u32 0) 4 rfl Tryz.underlying148 info128 rfl (by decide) (by omega) u5 x5_1 ((x6_1) % 4294967296) [.int .u32 ((x6_1) % 4294967296)] (fun k_ => (w.heap.size ≤ k_)) (fun _ => False) rfl rfl ?aP (fun _ hk => hk.elim) ?aF ?aO ?aB ?aS ?aL ?_; (case aP => exact rfl); (case aB => exact zz); (case aF => exact (fun k_ hk => (Nat.le_trans (bZ zz) hk))); (case aO => exact (by (with_reducible repeat (first | apply Kd.R_alloc | apply Kd.R_drewN | apply Kd.R_drew)); exact HO_5.out)); (case aS => exact (bZ zz)); (case aL => have := LMc16.out; omega); intro v239 w17 ho hb hg hat; rw [← Ny238.out] at ho; replace HB := As.mk (hb); have HO240 := As.mk (ho); clear HO_5; clear ho hb hg hat))
       go_roundg k1
       case measure => have := HK1.out; omega
       case rel => exact ⟨(y238), (x6_1 / 4294967296), (wrap64 (x13_1 + 1)), (by first | rfl | (simp; done) | (simp [*]; done)), (by first | rfl | (simp; done) | (simp [*]; done)), H', ⟨by have := HK1.out; omega⟩, ⟨by (with_reducible repeat (first | apply Kd.R_alloc | apply Kd.R_drewN | apply Kd.R_drew)); exact HO240.out⟩, ⟨zz⟩⟩
      ·rw [if_neg c16] at H
       exact absurd H (by simp)
   ·rw [if_neg c4] at H
    have c4b0 : decide (x13_1 < ji3) = false := decide_eq_false c4
    clear c4
    by_cases c18 : x5_1.length < 35184372088832
    ·rw [if_pos c18] at H
     have LMc18 := As.mk c18
     clear c18
     obtain ⟨y220, hy220⟩ : ∃ y_ : List Int, y_ = (x5_1 ++ [(x6_1) % 4294967296]) := ⟨_, rfl⟩
     replace H : ((real_trim.f k1 y220).bind fun t223 => (some t223)) = some r := by first | (rw [hy220]; with_reducible exact H) | (have H2_ := (Option.bind_some _ _).symm.trans H; rw [hy220]; with_reducible exact H2_) | (have H2_ := (Option.bind_some _ _).symm.trans H; with_reducible exact H2_) | with_reducible exact H | (rw [hy220]; exact H) | exact H
     have Ny220 := As.mk hy220
     clear hy220
     replace H := Option.bind_eq_some_iff.mp H
     obtain ⟨t223, A190, H⟩ := H
     replace H : (some t223) = some r := H
     have A19 := As.mk A190
     clear A190
     obtain rfl := Option.some.inj H
     go_wp2_with (first | ((with_reducible refine gB (b := .append) (xs := #[.tmp 46, .tmp 49]) rfl ?_); at_builtin; refine Kd.R_append (Kd.int .u32) (w0 := w) w.heap.size rfl (.tmp 46) (.tmp 49) 148 128 (.int .u32 0) 4 rfl Tryz.underlying148 info128 rfl (by decide) (by omega) u5 x5_1 ((x6_1) % 4294967296) [.int .u32 ((x6_1) % 4294967296)] (fun k_ => (w.heap.size ≤ k_)) (fun _ => False) rfl rfl ?aP (fun _ hk => hk.elim) ?aF ?aO ?aB ?aS ?aL ?_; (case aP => exact rfl); (case aB => exact zz); (case aF => exact (fun k_ hk => (Nat.le_trans (bZ zz) hk))); (case aO => exact (by (with_reducible repeat (first | apply Kd.R_alloc | apply Kd.R_drewN | apply Kd.R_drew)); exact HO_5.out)); (case aS => exact (bZ zz)); (case aL => have := LMc18.out; omega); intro v221 w20 ho hb hg hat; rw [← Ny220.out] at ho; replace HB := As.mk (hb); have HO222 := As.mk (ho); clear HO_5; clear ho hb hg hat; obtain ⟨Ao21, co21, eo21⟩ := Kd.R_slice HO222.out; subst eo21) | ((with_reducible refine gC (f := 116) rfl ?_); refine gl 51 Tryz.func116 #[.slice Ao21 y220.length co21] ?_; (with_reducible refine (real_trim.calls k1 (fun k_ => some k_ = (.slice Ao21 y220.length co21 : Value).ownBlock) _ _ y220 t223 _ ?side1 A19.out).mono ?_); (case side1 => exact Kd.R_V (Kd.R_tight rfl (HO222.out))); rintro e w22 ⟨v224, rfl, ho0, hb⟩; refine ⟨_, rfl, ?_⟩; have HO225 := As.mk (Kd.V_lower (Kd.V_mono (ok' := fun k_ => (w.heap.size ≤ k_)) ho0 (fun k_ hk_ => Or.elim hk_ (fun hs_ => ((HO222.out).1 k_ hs_.symm)) (fun hn_ => (Nat.le_trans (bZ zz) hn_)))) (bZ zz)); replace HO222 := As.mk (Kd.R_below (by (with_reducible repeat (first | apply Kd.R_alloc | apply Kd.R_drewN | apply Kd.R_drew)); exact HO222.out) hb); replace HB := As.mk (bS zz hb); (try clear hb); (try clear ho0)))
     go_ret
     exact ⟨_, by first | rfl | (simp [eN, eS] <;> rfl) | (simp only [← hji3]; first | rfl | (simp [eN, eS] <;> rfl)) | (simp [*, eN, eS] <;> rfl), by (with_reducible repeat (first | apply Kd.V_alloc | apply Kd.V_drewN | apply Kd.V_drew)); exact HO225.out, zz⟩
    ·rw [if_neg c18] at H
     exact absurd H (by simp)
def real_nat_div.l0 : Nat → List Int → List Int → List Int → Int → Option (List Int × List Int)
 | 0, _, _, _, _ => none
 | k + 1, x1, x6, x7, x8 => if x8 ≥ 0 then ((real_nat_shl.f x1 x8).bind fun t246 => ((real_nat_shl.f x6 1).bind fun t249 => ((real_nat_cmp.f k x7 t246).bind fun t252 => (if t252 ≥ 0 then ((real_nat_sub.f k x7 t246).bind fun t253 => ((real_nat_add.f k t249 (([1] : List Int))).bind fun t259 => (real_nat_div.l0 k x1 t259 t253 (wrap64 (x8 - 1))))) else (real_nat_div.l0 k x1 t249 x7 (wrap64 (x8 - 1))))))) else (some (x6, x7))
def real_nat_div.f (k : Nat) (l0 : List Int) (l1 : List Int) : Option (List Int × List Int) := (real_nat_uint32.f l0).bind fun t241 => ((real_nat_bits.f k l0).bind fun t244 => ((real_nat_bits.f k l1).bind fun t245 => (real_nat_div.l0 k l1 ([] : List Int) t241 (wrap64 (t244 - t245)))))
theorem real_nat_div.calls (k : Nat) (A0 : Option Addr) (c0 : Nat) (l0 : List Int) (A1 : Option Addr) (c1 : Nat) (l1 : List Int) (r1 : List Int) (r2 : List Int) (w : World) (hr0 : Kd.C (Kd.int .u32) w A0 l0.length l0) (hc0 : l0.length ≤ c0) (hr1 : Kd.C (Kd.int .u32) w A1 l1.length l1) (hc1 : l1.length ≤ c1) (h : real_nat_div.f k l0 l1 = some (r1, r2)) :
  Calls Tryz.prog 113 #[.slice A0 l0.length c0, .slice A1 l1.length c1] w fun e w' => ∃ v0_ v1_ : Value, e = .returned (.tuple #[v0_, v1_]) ∧ Kd.V (Kd.int .u32) 128 w' w.heap.size (fun k_ => (w.heap.size ≤ k_)) v0_ r1 ∧ Kd.V (Kd.int .u32) 128 w' w.heap.size (fun k_ => (w.heap.size ≤ k_)) v1_ r2 ∧ Below w.heap.size w w' := by
 have HR0 := As.mk hr0
 have HC0 := As.mk hc0
 clear hr0 hc0
 have HR1 := As.mk hr1
 have HC1 := As.mk hc1
 clear hr1 hc1
 have HB := As.mk (Below.refl w.heap.size w)
 have H : ((real_nat_uint32.f l0).bind fun t241 => ((real_nat_bits.f k l0).bind fun t244 => ((real_nat_bits.f k l1).bind fun t245 => (real_nat_div.l0 k l1 ([] : List Int) t241 (wrap64 (t244 - t245)))))) = some (r1, r2) := h
 clear h
 replace H := Option.bind_eq_some_iff.mp H
 obtain ⟨t241, A30, H⟩ := H
 replace H : ((real_nat_bits.f k l0).bind fun t244 => ((real_nat_bits.f k l1).bind fun t245 => (real_nat_div.l0 k l1 ([] : List Int) t241 (wrap64 (t244 - t245))))) = some (r1, r2) := H
 have A3 := As.mk A30
 clear A30
 replace H := Option.bind_eq_some_iff.mp H
 obtain ⟨t244, A40, H⟩ := H
 replace H : ((real_nat_bits.f k l1).bind fun t245 => (real_nat_div.l0 k l1 ([] : List Int) t241 (wrap64 (t244 - t245)))) = some (r1, r2) := H
 have A4 := As.mk A40
 clear A40
 replace H := Option.bind_eq_some_iff.mp H
 obtain ⟨t245, A50, H⟩ := H
 replace H : (real_nat_div.l0 k l1 ([] : List Int) t241 (wrap64 (t244 - t245))) = some (r1, r2) := H
 have A5 := As.mk A50
 clear A50
 have H' := As.mk H
 clear H
 go_enter Tryz.func113, Tryz.ntmps113
 go_wp2_with (first | ((with_reducible refine gC (f := 118) rfl ?_); refine gl 11 Tryz.func118 #[.slice A0 l0.length c0] ?_; (with_reducible refine (real_nat_uint32.calls _ _ l0 t241 _ ?side1 ?side2 A3.out).mono ?_); (case side1 => repeat (first | exact HR0.out | (with_reducible first | apply Kd.C_alloc | apply Kd.C_drewN | apply Kd.C_drew))); (case side2 => exact HC0.out); rintro e w6 ⟨v242, rfl, ho0, hb⟩; refine ⟨_, rfl, ?_⟩; have HO243 := As.mk (Kd.R_lower (Kd.R_newM (M := fun k_ => (w.heap.size ≤ k_)) ho0 (bZ zz) (fun k_ h_ => h_)) (bZ zz)); replace HB := As.mk (bS zz hb); (try clear hb); (try clear ho0)) | ((with_reducible refine gC (f := 111) rfl ?_); refine gl 13 Tryz.func111 #[.slice A0 l0.length c0] ?_; (with_reducible refine (real_nat_bits.calls k _ _ l0 t244 _ ?side1 ?side2 A4.out).mono ?_); (case side1 => repeat (first | exact (Kd.C_below HR0.out HB.out) | (with_reducible first | apply Kd.C_alloc | apply Kd.C_drewN | apply Kd.C_drew))); (case side2 => exact HC0.out); rintro e w' ⟨rfl, ⟨nd, rfl⟩⟩; refine ⟨_, rfl, ?_⟩) | ((with_reducible refine gC (f := 111) rfl ?_); refine gl 15 Tryz.func111 #[.slice A1 l1.length c1] ?_; (with_reducible refine (real_nat_bits.calls k _ _ l1 t245 _ ?side1 ?side2 A5.out).mono ?_); (case side1 => repeat (first | exact (Kd.C_below HR1.out zz) | (with_reducible first | apply Kd.C_alloc | apply Kd.C_drewN | apply Kd.C_drew))); (case side2 => exact HC1.out); rintro e w' ⟨rfl, ⟨nd, rfl⟩⟩; refine ⟨_, rfl, ?_⟩))
 go_loopg [6, 7, 8] k (fun kq v6 v7 v8 w' => ∃ (x6_1 : List Int) (x7_1 : List Int) (x8_1 : Int), v8 = .int .i64 x8_1 ∧ As (real_nat_div.l0 kq l1 x6_1 x7_1 x8_1 = some (r1, r2)) ∧ As (kq ≤ k) ∧ As (Kd.V (Kd.int .u32) 128 w' w.heap.size (fun k_ => (w.heap.size ≤ k_)) v6 x6_1) ∧ As (Kd.V (Kd.int .u32) 128 w' w.heap.size (fun k_ => (w.heap.size ≤ k_)) v7 x7_1) ∧ As (Below w.heap.size w w'))
 case atStart => exact ⟨(([] : List Int)), (t241), (wrap64 (t244 - t245)), (by first | rfl | (simp; done) | (simp [*]; done)), H', ⟨Nat.le_refl _⟩, ⟨Kd.V_nil _ _ _ _ _⟩, ⟨Kd.R_V (by (with_reducible repeat (first | apply Kd.R_alloc | apply Kd.R_drewN | apply Kd.R_drew)); exact Kd.R_mono HO243.out (fun _ hk => by first | exact hk.1 | exact hk | exact trivial))⟩, ⟨zz⟩⟩
 case round =>
  clear H'
  try clear c1
  try clear p2
  try clear p6
  obtain ⟨x6_1, x7_1, x8_1, rfl, HA, HK1, HO_6, HO_7, HB⟩ := hrel
  cases gk with
  | zero => exact absurd HA.out (by simp [real_nat_div.l0])
  | succ k1 =>
   have H := HA.out
   clear HA
   simp only [real_nat_div.l0] at H
   by_cases c7 : x8_1 ≥ 0
   ·rw [if_pos c7] at H
    have c7b0 : decide (0 ≤ x8_1) = true := decide_eq_true c7
    clear c7
    replace H := Option.bind_eq_some_iff.mp H
    obtain ⟨t246, A80, H⟩ := H
    replace H : ((real_nat_shl.f x6_1 1).bind fun t249 => ((real_nat_cmp.f k1 x7_1 t246).bind fun t252 => (if t252 ≥ 0 then ((real_nat_sub.f k1 x7_1 t246).bind fun t253 => ((real_nat_add.f k1 t249 (([1] : List Int))).bind fun t259 => (real_nat_div.l0 k1 l1 t259 t253 (wrap64 (x8_1 - 1))))) else (real_nat_div.l0 k1 l1 t249 x7_1 (wrap64 (x8_1 - 1)))))) = some (r1, r2) := H
    have A8 := As.mk A80
    clear A80
    replace H := Option.bind_eq_some_iff.mp H
    obtain ⟨t249, A90, H⟩ := H
    replace H : ((real_nat_cmp.f k1 x7_1 t246).bind fun t252 => (if t252 ≥ 0 then ((real_nat_sub.f k1 x7_1 t246).bind fun t253 => ((real_nat_add.f k1 t249 (([1] : List Int))).bind fun t259 => (real_nat_div.l0 k1 l1 t259 t253 (wrap64 (x8_1 - 1))))) else (real_nat_div.l0 k1 l1 t249 x7_1 (wrap64 (x8_1 - 1))))) = some (r1, r2) := H
    have A9 := As.mk A90
    clear A90
    replace H := Option.bind_eq_some_iff.mp H
    obtain ⟨t252, A100, H⟩ := H
    replace H : (if t252 ≥ 0 then ((real_nat_sub.f k1 x7_1 t246).bind fun t253 => ((real_nat_add.f k1 t249 (([1] : List Int))).bind fun t259 => (real_nat_div.l0 k1 l1 t259 t253 (wrap64 (x8_1 - 1))))) else (real_nat_div.l0 k1 l1 t249 x7_1 (wrap64 (x8_1 - 1)))) = some (r1, r2) := H
    have A10 := As.mk A100
    clear A100
    by_cases c11 : t252 ≥ 0
    ·rw [if_pos c11] at H
     have c11b0 : decide (0 ≤ t252) = true := decide_eq_true c11
     clear c11
     replace H := Option.bind_eq_some_iff.mp H
     obtain ⟨t253, A120, H⟩ := H
     replace H : ((real_nat_add.f k1 t249 (([1] : List Int))).bind fun t259 => (real_nat_div.l0 k1 l1 t259 t253 (wrap64 (x8_1 - 1)))) = some (r1, r2) := H
     have A12 := As.mk A120
     clear A120
     obtain ⟨y256, hy256⟩ : ∃ y_ : List Int, y_ = (([1] : List Int)) := ⟨_, rfl⟩
     replace H : ((real_nat_add.f k1 t249 y256).bind fun t259 => (real_nat_div.l0 k1 l1 t259 t253 (wrap64 (x8_1 - 1)))) = some (r1, r2) := by first | (rw [hy256]; with_reducible exact H) | (have H2_ := (Option.bind_some _ _).symm.trans H; rw [hy256]; with_reducible exact H2_) | (have H2_ := (Option.bind_some _ _).symm.trans H; with_reducible exact H2_) | with_reducible exact H | (rw [hy256]; exact H) | exact H
     have Ny256 := As.mk hy256
     clear hy256
     replace H := Option.bind_eq_some_iff.mp H
     obtain ⟨t259, A130, H⟩ := H
     replace H : (real_nat_div.l0 k1 l1 t259 t253 (wrap64 (x8_1 - 1))) = some (r1, r2) := H
     have A13 := As.mk A130
     clear A130
     have H' := As.mk H
     clear H
     go_wp2_with (first | ((with_reducible refine gC (f := 112) rfl ?_); refine gl 23 Tryz.func112 #[.slice A1 l1.length c1, .int .i64 x8_1] ?_; (with_reducible refine (real_nat_shl.calls _ _ l1 x8_1 t246 _ ?side1 ?side2 A8.out).mono ?_); (case side1 => repeat (first | exact (Kd.C_below HR1.out HB.out) | (with_reducible first | apply Kd.C_alloc | apply Kd.C_drewN | apply Kd.C_drew))); (case side2 => exact HC1.out); rintro e w14 ⟨v247, rfl, ho0, hb⟩; refine ⟨_, rfl, ?_⟩; replace HO_6 := As.mk (Kd.V_below (by (with_reducible repeat (first | apply Kd.V_alloc | apply Kd.V_drewN | apply Kd.V_drew)); exact HO_6.out) hb); replace HO_7 := As.mk (Kd.V_below (by (with_reducible repeat (first | apply Kd.V_alloc | apply Kd.V_drewN | apply Kd.V_drew)); exact HO_7.out) hb); have HO248 := As.mk (Kd.V_lower (Kd.V_mono (ok' := fun k_ => (w.heap.size ≤ k_)) ho0 (fun k_ hk_ => (Nat.le_trans (bZ zz) hk_))) (bZ zz)); replace HB := As.mk (bS zz hb); (try clear hb); (try clear ho0); obtain ⟨Ao15, co15, eo15⟩ := Kd.V_slice HO_6.out; subst eo15) | ((with_reducible refine gC (f := 112) rfl ?_); refine gl 25 Tryz.func112 #[.slice Ao15 x6_1.length co15, .int .i64 1] ?_; (with_reducible refine (real_nat_shl.calls _ _ x6_1 1 t249 _ ?side1 ?side2 A9.out).mono ?_); (case side1 => repeat (first | exact (Kd.V_reads' HO_6.out).2.2 | (with_reducible first | apply Kd.C_alloc | apply Kd.C_drewN | apply Kd.C_drew))); (case side2 => exact (Kd.V_reads' HO_6.out).2.1); rintro e w16 ⟨v250, rfl, ho0, hb⟩; refine ⟨_, rfl, ?_⟩; replace HO_6 := As.mk (Kd.V_below (by (with_reducible repeat (first | apply Kd.V_alloc | apply Kd.V_drewN | apply Kd.V_drew)); exact HO_6.out) hb); replace HO_7 := As.mk (Kd.V_below (by (with_reducible repeat (first | apply Kd.V_alloc | apply Kd.V_drewN | apply Kd.V_drew)); exact HO_7.out) hb); replace HO248 := As.mk (Kd.V_below (by (with_reducible repeat (first | apply Kd.V_alloc | apply Kd.V_drewN | apply Kd.V_drew)); exact HO248.out) hb); have HO251 := As.mk (Kd.V_lower (Kd.V_mono (ok' := fun k_ => (w.heap.size ≤ k_)) ho0 (fun k_ hk_ => (Nat.le_trans (bZ zz) hk_))) (bZ zz)); replace HB := As.mk (bS zz hb); (try clear hb); (try clear ho0); obtain ⟨Ao17, co17, eo17⟩ := Kd.V_slice HO_7.out; subst eo17; obtain ⟨Ao18, co18, eo18⟩ := Kd.V_slice HO248.out; subst eo18) | ((with_reducible refine gC (f := 115) rfl ?_); refine gl 28 Tryz.func115 #[.slice Ao17 x7_1.length co17, .slice Ao18 t246.length co18] ?_; (with_reducible refine (real_nat_cmp.calls k1 _ _ x7_1 _ _ t246 t252 _ ?side1 ?side2 ?side3 ?side4 A10.out).mono ?_); (case side1 => repeat (first | exact (Kd.V_reads' HO_7.out).2.2 | (with_reducible first | apply Kd.C_alloc | apply Kd.C_drewN | apply Kd.C_drew))); (case side2 => exact (Kd.V_reads' HO_7.out).2.1); (case side3 => repeat (first | exact (Kd.V_reads' HO248.out).2.2 | (with_reducible first | apply Kd.C_alloc | apply Kd.C_drewN | apply Kd.C_drew))); (case side4 => exact (Kd.V_reads' HO248.out).2.1); rintro e w' ⟨rfl, ⟨nd, rfl⟩⟩; refine ⟨_, rfl, ?_⟩) | ((with_reducible refine gC (f := 119) rfl ?_); refine gl 32 Tryz.func119 #[.slice Ao17 x7_1.length co17, .slice Ao18 t246.length co18] ?_; (with_reducible refine (real_nat_sub.calls k1 _ _ x7_1 _ _ t246 t253 _ ?side1 ?side2 ?side3 ?side4 A12.out).mono ?_); (case side1 => repeat (first | exact (Kd.V_reads' HO_7.out).2.2 | (with_reducible first | apply Kd.C_alloc | apply Kd.C_drewN | apply Kd.C_drew))); (case side2 => exact (Kd.V_reads' HO_7.out).2.1); (case side3 => repeat (first | exact (Kd.V_reads' HO248.out).2.2 | (with_reducible first | apply Kd.C_alloc | apply Kd.C_drewN | apply Kd.C_drew))); (case side4 => exact (Kd.V_reads' HO248.out).2.1); rintro e w19 ⟨v254, rfl, ho0, hb⟩; refine ⟨_, rfl, ?_⟩; replace HO_6 := As.mk (Kd.V_below (by (with_reducible repeat (first | apply Kd.V_alloc | apply Kd.V_drewN | apply Kd.V_drew)); exact HO_6.out) hb); replace HO_7 := As.mk (Kd.V_below (by (with_reducible repeat (first | apply Kd.V_alloc | apply Kd.V_drewN | apply Kd.V_drew)); exact HO_7.out) hb); replace HO248 := As.mk (Kd.V_below (by (with_reducible repeat (first | apply Kd.V_alloc | apply Kd.V_drewN | apply Kd.V_drew)); exact HO248.out) hb); replace HO251 := As.mk (Kd.V_below (by (with_reducible repeat (first | apply Kd.V_alloc | apply Kd.V_drewN | apply Kd.V_drew)); exact HO251.out) hb); have HO255 := As.mk (Kd.V_lower (Kd.V_mono (ok' := fun k_ => (w.heap.size ≤ k_)) ho0 (fun k_ hk_ => (Nat.le_trans (bZ zz) hk_))) (bZ zz)); replace HB := As.mk (bS zz hb); (try clear hb); (try clear ho0)) | ((with_reducible refine gD (N := 34) rfl ?_); refine Kd.R_lit (Kd.int .u32) _ 128 ?hg (N := 34) ?hd (xs := ([1] : List Int)) (inner := [.int .u32 1]) (ok := fun _ => True) (okp := fun _ => True) ?hr ?hp (fun _ hk => hk) trivial (Below.refl _ _) (Nat.le_refl _) (by simp) ?_; (case hd => rfl); (case hg => rfl); (case hr => first | (go_simp; done) | (go_simp; rfl)); (case hp => exact (Reps.one (show Kd.M (Kd.int .u32) _ _ _ 1 [.int .u32 1] from rfl) (Reps.none _ _))); intro v257 w20 ho21 hb hg_ hnew_; clear hg_ hnew_; (first | rw [← Ny256.out] at ho21 | (simp only [Int.reduceToNat] at ho21; rw [← Ny256.out] at ho21)); replace HO_6 := As.mk (Kd.V_elder' (by (with_reducible repeat (first | apply Kd.V_alloc | apply Kd.V_drewN | apply Kd.V_drew)); exact HO_6.out) (Kd.R_base ho21) hb); replace HO_7 := As.mk (Kd.V_elder' (by (with_reducible repeat (first | apply Kd.V_alloc | apply Kd.V_drewN | apply Kd.V_drew)); exact HO_7.out) (Kd.R_base ho21) hb); replace HO248 := As.mk (Kd.V_elder' (by (with_reducible repeat (first | apply Kd.V_alloc | apply Kd.V_drewN | apply Kd.V_drew)); exact HO248.out) (Kd.R_base ho21) hb); replace HO251 := As.mk (Kd.V_elder' (by (with_reducible repeat (first | apply Kd.V_alloc | apply Kd.V_drewN | apply Kd.V_drew)); exact HO251.out) (Kd.R_base ho21) hb); replace HO255 := As.mk (Kd.V_elder' (by (with_reducible repeat (first | apply Kd.V_alloc | apply Kd.V_drewN | apply Kd.V_drew)); exact HO255.out) (Kd.R_base ho21) hb); have HO258 := As.mk (Kd.R_lower (Kd.R_newM (M := fun k_ => (w.heap.size ≤ k_)) ho21 (bZ zz) (fun k_ h_ => h_)) (bZ zz)); replace HB := As.mk (bS zz hb); clear hb ho21; obtain ⟨Ao22, co22, eo22⟩ := Kd.V_slice HO251.out; subst eo22; obtain ⟨Ao23, co23, eo23⟩ := Kd.R_slice HO258.out; subst eo23) | ((with_reducible refine gC (f := 120) rfl ?_); refine gl 35 Tryz.func120 #[.slice Ao22 t249.length co22, .slice Ao23 y256.length co23] ?_; (with_reducible refine (real_nat_add.calls k1 _ _ t249 _ _ y256 t259 _ ?side1 ?side2 ?side3 ?side4 A13.out).mono ?_); (case side1 => repeat (first | exact (Kd.V_reads' HO251.out).2.2 | (with_reducible first | apply Kd.C_alloc | apply Kd.C_drewN | apply Kd.C_drew))); (case side2 => exact (Kd.V_reads' HO251.out).2.1); (case side3 => repeat (first | exact (Kd.R_reads' HO258.out).2.2 | (with_reducible first | apply Kd.C_alloc | apply Kd.C_drewN | apply Kd.C_drew))); (case side4 => exact (Kd.R_reads' HO258.out).2.1); rintro e w24 ⟨v260, rfl, ho0, hb⟩; refine ⟨_, rfl, ?_⟩; replace HO_6 := As.mk (Kd.V_below (by (with_reducible repeat (first | apply Kd.V_alloc | apply Kd.V_drewN | apply Kd.V_drew)); exact HO_6.out) hb); replace HO_7 := As.mk (Kd.V_below (by (with_reducible repeat (first | apply Kd.V_alloc | apply Kd.V_drewN | apply Kd.V_drew)); exact HO_7.out) hb); replace HO248 := As.mk (Kd.V_below (by (with_reducible repeat (first | apply Kd.V_alloc | apply Kd.V_drewN | apply Kd.V_drew)); exact HO248.out) hb); replace HO251 := As.mk (Kd.V_below (by (with_reducible repeat (first | apply Kd.V_alloc | apply Kd.V_drewN | apply Kd.V_drew)); exact HO251.out) hb); replace HO255 := As.mk (Kd.V_below (by (with_reducible repeat (first | apply Kd.V_alloc | apply Kd.V_drewN | apply Kd.V_drew)); exact HO255.out) hb); have HO261 := As.mk (Kd.V_lower (Kd.V_mono (ok' := fun k_ => (w.heap.size ≤ k_) ∧ some k_ ≠ (.slice Ao23 y256.length co23 : Value).ownBlock) ho0 (fun k_ hk_ => ⟨(Nat.le_trans (bZ zz) hk_), (Kd.fresh' (Kd.R_lt (by (with_reducible repeat (first | apply Kd.R_alloc | apply Kd.R_drewN | apply Kd.R_drew)); exact HO258.out)) k_ hk_)⟩)) (bZ zz)); replace HO258 := As.mk (Kd.R_below (by (with_reducible repeat (first | apply Kd.R_alloc | apply Kd.R_drewN | apply Kd.R_drew)); exact HO258.out) hb); replace HB := As.mk (bS zz hb); (try clear hb); (try clear ho0)))
     go_roundg k1
     case measure => have := HK1.out; omega
     case rel => exact ⟨(t259), (t253), (wrap64 (x8_1 - 1)), (by first | rfl | (simp; done) | (simp [*]; done)), H', ⟨by have := HK1.out; omega⟩, ⟨by (with_reducible repeat (first | apply Kd.V_alloc | apply Kd.V_drewN | apply Kd.V_drew)); exact Kd.V_mono HO261.out (fun _ hk => hk.1)⟩, ⟨by (with_reducible repeat (first | apply Kd.V_alloc | apply Kd.V_drewN | apply Kd.V_drew)); exact Kd.V_mono HO255.out (fun _ hk => hk.1)⟩, ⟨zz⟩⟩
    ·rw [if_neg c11] at H
     have c11b0 : decide (0 ≤ t252) = false := decide_eq_false c11
     clear c11
     have H' := As.mk H
     clear H
     go_wp2_with (first | ((with_reducible refine gC (f := 112) rfl ?_); refine gl 23 Tryz.func112 #[.slice A1 l1.length c1, .int .i64 x8_1] ?_; (with_reducible refine (real_nat_shl.calls _ _ l1 x8_1 t246 _ ?side1 ?side2 A8.out).mono ?_); (case side1 => repeat (first | exact (Kd.C_below HR1.out HB.out) | (with_reducible first | apply Kd.C_alloc | apply Kd.C_drewN | apply Kd.C_drew))); (case side2 => exact HC1.out); rintro e w25 ⟨v247, rfl, ho0, hb⟩; refine ⟨_, rfl, ?_⟩; replace HO_6 := As.mk (Kd.V_below (by (with_reducible repeat (first | apply Kd.V_alloc | apply Kd.V_drewN | apply Kd.V_drew)); exact HO_6.out) hb); replace HO_7 := As.mk (Kd.V_below (by (with_reducible repeat (first | apply Kd.V_alloc | apply Kd.V_drewN | apply Kd.V_drew)); exact HO_7.out) hb); have HO248 := As.mk (Kd.V_lower (Kd.V_mono (ok' := fun k_ => (w.heap.size ≤ k_)) ho0 (fun k_ hk_ => (Nat.le_trans (bZ zz) hk_))) (bZ zz)); replace HB := As.mk (bS zz hb); (try clear hb); (try clear ho0); obtain ⟨Ao26, co26, eo26⟩ := Kd.V_slice HO_6.out; subst eo26) | ((with_reducible refine gC (f := 112) rfl ?_); refine gl 25 Tryz.func112 #[.slice Ao26 x6_1.length co26, .int .i64 1] ?_; (with_reducible refine (real_nat_shl.calls _ _ x6_1 1 t249 _ ?side1 ?side2 A9.out).mono ?_); (case side1 => repeat (first | exact (Kd.V_reads' HO_6.out).2.2 | (with_reducible first | apply Kd.C_alloc | apply Kd.C_drewN | apply Kd.C_drew))); (case side2 => exact (Kd.V_reads' HO_6.out).2.1); rintro e w27 ⟨v250, rfl, ho0, hb⟩; refine ⟨_, rfl, ?_⟩; replace HO_6 := As.mk (Kd.V_below (by (with_reducible repeat (first | apply Kd.V_alloc | apply Kd.V_drewN | apply Kd.V_drew)); exact HO_6.out) hb); replace HO_7 := As.mk (Kd.V_below (by (with_reducible repeat (first | apply Kd.V_alloc | apply Kd.V_drewN | apply Kd.V_drew)); exact HO_7.out) hb); replace HO248 := As.mk (Kd.V_below (by (with_reducible repeat (first | apply Kd.V_alloc | apply Kd.V_drewN | apply Kd.V_drew)); exact HO248.out) hb); have HO251 := As.mk (Kd.V_lower (Kd.V_mono (ok' := fun k_ => (w.heap.size ≤ k_)) ho0 (fun k_ hk_ => (Nat.le_trans (bZ zz) hk_))) (bZ zz)); replace HB := As.mk (bS zz hb); (try clear hb); (try clear ho0); obtain ⟨Ao28, co28, eo28⟩ := Kd.V_slice HO_7.out; subst eo28; obtain ⟨Ao29, co29, eo29⟩ := Kd.V_slice HO248.out; subst eo29) | ((with_reducible refine gC (f := 115) rfl ?_); refine gl 28 Tryz.func115 #[.slice Ao28 x7_1.length co28, .slice Ao29 t246.length co29] ?_; (with_reducible refine (real_nat_cmp.calls k1 _ _ x7_1 _ _ t246 t252 _ ?side1 ?side2 ?side3 ?side4 A10.out).mono ?_); (case side1 => repeat (first | exact (Kd.V_reads' HO_7.out).2.2 | (with_reducible first | apply Kd.C_alloc | apply Kd.C_drewN | apply Kd.C_drew))); (case side2 => exact (Kd.V_reads' HO_7.out).2.1); (case side3 => repeat (first | exact (Kd.V_reads' HO248.out).2.2 | (with_reducible first | apply Kd.C_alloc | apply Kd.C_drewN | apply Kd.C_drew))); (case side4 => exact (Kd.V_reads' HO248.out).2.1); rintro e w' ⟨rfl, ⟨nd, rfl⟩⟩; refine ⟨_, rfl, ?_⟩))
     go_roundg k1
     case measure => have := HK1.out; omega
     case rel => exact ⟨(t249), (x7_1), (wrap64 (x8_1 - 1)), (by first | rfl | (simp; done) | (simp [*]; done)), H', ⟨by have := HK1.out; omega⟩, ⟨by (with_reducible repeat (first | apply Kd.V_alloc | apply Kd.V_drewN | apply Kd.V_drew)); exact HO251.out⟩, ⟨by (with_reducible repeat (first | apply Kd.V_alloc | apply Kd.V_drewN | apply Kd.V_drew)); exact HO_7.out⟩, ⟨zz⟩⟩
   ·rw [if_neg c7] at H
    have c7b0 : decide (0 ≤ x8_1) = false := decide_eq_false c7
    clear c7
    simp only [Option.some.injEq, Prod.mk.injEq] at H
    obtain ⟨rfl, rfl⟩ := H
    go_wp2
    go_ret2
    exact ⟨_, _, by first | rfl | (simp [eN, eS] <;> rfl) | (simp [*, eN, eS] <;> rfl), by (with_reducible repeat (first | apply Kd.V_alloc | apply Kd.V_drewN | apply Kd.V_drew)); exact HO_6.out, by (with_reducible repeat (first | apply Kd.V_alloc | apply Kd.V_drewN | apply Kd.V_drew)); exact HO_7.out, zz⟩
def real_nat_small.l0 : Nat → Int → List Int → Int → Int → Option (Int)
 | 0, _, _, _, _ => none
 | k + 1, x3, x6, x7, x8 => if x8 < x7 then (if 0 ≤ x8 then (if x8 < (x6.length : Int) then (if 0 ≤ (wrap64 (32 * x8)) then (real_nat_small.l0 k (Go.bits .or .u64 x3 (shl .u64 (IntKind.u64.wrap (rd x6 x8)) (wrap64 (32 * x8)))) x6 x7 (wrap64 (x8 + 1))) else (none)) else (none)) else (none)) else (some x3)
def real_nat_small.f (k : Nat) (l0 : List Int) : Option (Int) := real_nat_small.l0 k 0 l0 (l0.length : Int) 0
theorem real_nat_small.calls (k : Nat) (A0 : Option Addr) (c0 : Nat) (l0 : List Int) (r : Int) (w : World) (hr0 : Kd.C (Kd.int .u32) w A0 l0.length l0) (hc0 : l0.length ≤ c0) (h : real_nat_small.f k l0 = some r) :
  Calls Tryz.prog 114 #[.slice A0 l0.length c0] w fun e w' => e = .returned (.int .u64 r) ∧ Dn w w' := by
 have HR0 := As.mk hr0
 have HC0 := As.mk hc0
 clear hr0 hc0
 have H : (real_nat_small.l0 k 0 l0 (l0.length : Int) 0) = some r := h
 clear h
 have H' := As.mk H
 clear H
 go_enter Tryz.func114, Tryz.ntmps114
 go_wp2
 go_loopg [3, 8] k (fun kq v3 v8 w' => ∃ (x3_1 : Int) (x8_1 : Int), v3 = .int .u64 x3_1 ∧ v8 = .int .i64 x8_1 ∧ As (real_nat_small.l0 kq x3_1 l0 (l0.length : Int) x8_1 = some r) ∧ As (kq ≤ k) ∧ Dn w w')
 case atStart => exact ⟨(0), (0), (by first | rfl | (simp; done) | (simp [*]; done)), (by first | rfl | (simp; done) | (simp [*]; done)), H', ⟨Nat.le_refl _⟩, by repeat (first | exact Dn.refl _ | apply Dn.step)⟩
 case round =>
  clear H'
  obtain ⟨x3_1, x8_1, rfl, rfl, HA, HK1, ⟨m1, rfl⟩⟩ := hrel
  cases gk with
  | zero => exact absurd HA.out (by simp [real_nat_small.l0])
  | succ k1 =>
   have H := HA.out
   clear HA
   simp only [real_nat_small.l0] at H
   by_cases c2 : x8_1 < (l0.length : Int)
   ·rw [if_pos c2] at H
    have c2b0 : decide (x8_1 < (l0.length : Int)) = true := decide_eq_true c2
    clear c2
    by_cases c3 : 0 ≤ x8_1
    ·rw [if_pos c3] at H
     have c3b0 : decide (0 ≤ x8_1) = true := decide_eq_true c3
     clear c3
     by_cases c4 : x8_1 < (l0.length : Int)
     ·rw [if_pos c4] at H
      have c4b0 : decide (x8_1 < (l0.length : Int)) = true := decide_eq_true c4
      clear c4
      obtain ⟨ji5, hji5⟩ : ∃ j_ : Int, (wrap64 (32 * x8_1)) = j_ := ⟨_, rfl⟩
      replace H : (if 0 ≤ (ji5) then (real_nat_small.l0 k1 (Go.bits .or .u64 x3_1 (shl .u64 (IntKind.u64.wrap (rd l0 x8_1)) (ji5))) l0 (l0.length : Int) (wrap64 (x8_1 + 1))) else (none)) = some r := by first | (rw [hji5] at H; exact H) | (simp only [hji5] at H ⊢; exact H)
      have hji5w : (IntKind.i64.wrap (32 * x8_1)) = ji5 := (i64_w _).trans hji5
      by_cases c6 : 0 ≤ (ji5)
      ·rw [if_pos c6] at H
       have c6b0 := eq_true c6
       have c6b1 : decide (0 ≤ (ji5)) = true := decide_eq_true c6
       clear c6
       obtain ⟨ji7, hji7⟩ : ∃ j_ : Int, (shl .u64 (IntKind.u64.wrap (rd l0 x8_1)) (ji5)) = j_ := ⟨_, rfl⟩
       replace H : (real_nat_small.l0 k1 (Go.bits .or .u64 x3_1 (ji7)) l0 (l0.length : Int) (wrap64 (x8_1 + 1))) = some r := by first | (rw [hji7] at H; exact H) | (simp only [hji7] at H ⊢; exact H)
       have hji7_ : (IntKind.u64.wrap ((IntKind.u64.wrap (rd l0 x8_1)) * 2 ^ min (ji5).toNat 64)) = ji7 := hji7
       have hji7z : (ji5) ≤ 64 → (IntKind.u64.wrap ((IntKind.u64.wrap (rd l0 x8_1)) * 2 ^ (ji5).toNat)) = ji7 := shl_small hji7
       have H' := As.mk H
       clear H
       have p262 : 0 ≤ (x8_1 : Int) := od
       have q262 : x8_1 < (l0.length : Int) := od
       obtain ⟨ad262, e262, hx262_0⟩ := Kd.at_int HR0.out x8_1 p262 q262
       cases e262
       replace p262 := eq_true p262
       replace q262 := eq_true q262
       go_wp2
       go_roundg k1
       case measure => have := HK1.out; omega
       case rel => exact ⟨(Go.bits .or .u64 x3_1 (ji7)), (wrap64 (x8_1 + 1)), (by first | rfl | (simp; done) | (simp only [← hji7] <;> (first | rfl | simp)) | (simp [*]; done)), (by first | rfl | (simp; done) | (simp [*]; done)), H', ⟨by have := HK1.out; omega⟩, by repeat (first | exact Dn.refl _ | apply Dn.step)⟩
      ·rw [if_neg c6] at H
       exact absurd H (by simp)
     ·rw [if_neg c4] at H
      exact absurd H (by simp)
    ·rw [if_neg c3] at H
     exact absurd H (by simp)
   ·rw [if_neg c2] at H
    have c2b0 : decide (x8_1 < (l0.length : Int)) = false := decide_eq_false c2
    clear c2
    obtain rfl := Option.some.inj H
    go_wp2
    go_ret
    exact ⟨by first | rfl | (simp; done) | (simp [*]; done), by repeat (first | exact Dn.refl _ | apply Dn.step)⟩
end Go.Proofs.Q
end
