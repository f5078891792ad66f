import Derived.Test.YtcjjmhgboibbgaaHArr
namespace Go.Proofs.Ytcjjmhgboibbgaa.Q
open Go.RowKit Go.Proofs.YtcjjmhgboibbgaaW.PrintWords Go.Proofs.YtcjjmhgboibbgaaW.PrintLast Go.Proofs.YtcjjmhgboibbgaaW.PrintMore
set_option linter.unusedVariables false
set_option linter.unusedSimpArgs false

def offGo : List S40 → List Int → List Int → Int → Int × Int
  | d :: r, s :: ss, k :: ks, n => if k < d.f0 then (0, 3) else if d.f1 < k then (0, 3) else offGo r ss ks (n + s * k)
  | _, _, _, n => (n, 0)
def offF (l : List S40) (ks : List Int) : Int × Int := if ks.length = l.length then offGo l (strL l) ks (fstL l) else (0, 10)

theorem strL_get (l : List S40) (k : Nat) (h : k < l.length) : (strL l)[k]? = some (prodL (l.drop (k + 1))) := by
  induction l generalizing k with
  | nil => simp at h
  | cons d r ih =>
    cases k with
    | zero => simp [strL]
    | succ k => simpa [strL] using ih k (by simpa using h)


set_option maxHeartbeats 1000000 in
theorem offset_calls (A : Option Addr) (c : Nat) (l : List S40) (A1 : Option Addr) (c1 : Nat) (ks : List Int) (w : World) (hr : Kd.C k40 w A l.length l) (hc : l.length ≤ c) (hr1 : Kd.C (Kd.int .i64) w A1 ks.length ks) (hc1 : ks.length ≤ c1) (hm : l.length ≤ 4) (hp : Proper l) (hq : prodOk l 1 = some (prodL l)) :
    Calls Try.prog 36 #[.slice A l.length c, .slice A1 ks.length c1] w fun e w' => e = .returned (.tuple #[.int .i64 (offF l ks).1, .int .i64 (offF l ks).2]) ∧ Below w.heap.size w w' := by
  have HR := Lib.hid hr; clear hr
  have HR1 := Lib.hid hr1; clear hr1
  have HPP := Lib.hid hp; clear hp
  have HQ := Lib.hid hq; clear hq
  by_cases hlen : ks.length = l.length
  · have HE : Hid (offF l ks = offGo l (strL l) ks (fstL l)) := Lib.hid (by rw [offF, if_pos hlen])
    have hlen1 : (ks.length == l.length) = true := by simpa using hlen
    have hlen2 : (ks.length != l.length) = false := by simpa using hlen
    have hlen3 : ((ks.length : Int) == (l.length : Int)) = true := by simp [hlen]
    have hlen4 : ((ks.length : Int) != (l.length : Int)) = false := by simp [hlen]
    have HL := Lib.hid hlen; clear hlen
    have hle1 : ks.length ≤ l.length := by rw [HL.out]; omega
    go_enter Try.func36, Try.ntmps36
    go_wp2_with (go_at_call 37; refine (strides_calls _ _ l _ HR.out hc hm HPP.out HQ.out).mono ?_; rintro e w2 ⟨v, rfl, hro, hb2⟩; (have HB := Lib.hid hb2); clear hb2; obtain ⟨Ao, co, rfl, hco, hro2⟩ := Kd.R_reads hro; (have HO := Lib.hid hro2); clear hro hro2)
    go_loop [7, 8, 9, 22] (fun n _ _ i => ∃ (k : Nat) (m : Int), k ≤ ks.length ∧ i = .int .i64 k ∧ n = .int .i64 m ∧ -2147483647000 * ((l.length : Int) + k) ≤ m ∧ m ≤ 2147483647000 * ((l.length : Int) + k) ∧ Hid (offGo (l.drop k) ((strL l).drop k) (ks.drop k) m = offGo l (strL l) ks (fstL l)))
      (fun _ _ _ i => ks.length - (intOf i).toNat)
    case atStart =>
      have := fstL_bd l HPP.out
      exact ⟨0, _, Nat.zero_le _, rfl, rfl, by omega, by omega, Lib.hid rfl⟩
    case round =>
      obtain ⟨k, m, hk, rfl, rfl, hm1, hm2, HP⟩ := hrel
      by_cases hlt : k < ks.length
      · have hl2 : k < l.length := by omega
        have hl3 : k < (strL l).length := by rw [strL_length]; exact hl2
        obtain ⟨ad, e1, h0, h1⟩ := at_T40 HR.out (k : Int) (by omega) (by omega)
        have ek : rd_T40 l (k : Int) = l[k] := by simp [rd_T40, List.getD, hl2]
        rw [ek] at h0 h1
        cases e1
        replace h0 := (HB.out.cell (World.block_lt_of_cell? w _ h0)).trans h0
        replace h1 := (HB.out.cell (World.block_lt_of_cell? w _ h1)).trans h1
        obtain ⟨ad1, e2, g0⟩ := at_int HR1.out k hlt
        cases e2
        replace g0 := (HB.out.cell (World.block_lt_of_cell? w _ g0)).trans g0
        obtain ⟨ad2, e3, s0⟩ := at_int HO.out k hl3
        cases e3
        simp only [Int.toNat_natCast] at h0 h1
        have hn := HPP.out.1 _ (List.getElem_mem hl2)
        have hpd := HPP.out.drop (k + 1)
        have pb1 := hpd.pos
        have pb2 := hpd.2.2
        have es : (strL l).getD k 0 = prodL (l.drop (k + 1)) := by rw [List.getD, strL_get l k hl2]; rfl
        have eg : ks.getD k 0 = ks[k] := by simp [List.getD, hlt]
        have HP2 := HP.out
        rw [List.drop_eq_getElem_cons hlt, List.drop_eq_getElem_cons hl2, List.drop_eq_getElem_cons hl3] at HP2
        have es2 : (strL l)[k] = prodL (l.drop (k + 1)) := by
          have := strL_get l k hl2
          rw [List.getElem?_eq_getElem hl3] at this
          exact Option.some.inj this
        simp only [offGo, es2] at HP2
        rw [es] at s0
        rw [eg] at g0
        have HP3 := Lib.hid HP2; clear HP2
        unfold near at hn
        clear hpd es es2 eg ek
        generalize prodL (l.drop (k + 1)) = pp at *
        generalize l[k].f0 = lo at *
        generalize l[k].f1 = hi at *
        generalize ks[k] = kk at *
        obtain ⟨n1, n2, n3, n4⟩ := hn
        by_cases t1 : kk < lo
        · go_wp2
          go_ret2
          exact ⟨by rw [HE.out, ← HP3.out, if_pos t1]; rfl, HB.out⟩
        · by_cases t2 : hi < kk
          · go_wp2
            go_ret2
            exact ⟨by rw [HE.out, ← HP3.out, if_neg (by omega), if_pos t2]; rfl, HB.out⟩
          · have mb := mul_bd pp kk pb1 pb2 (by omega) (by omega)
            obtain ⟨mb1, mb2⟩ := mb
            go_wp2
            go_round
            case rel => exact ⟨k + 1, _, by omega, by go_num, rfl, by omega, by omega, Lib.hid (by rw [← HP3.out, if_neg (by omega), if_neg (by omega)])⟩
            case measure => simp [intOf]; omega
      · have HF : Hid ((m, 0) = offF l ks) := Lib.hid (by
          rw [HE.out, ← HP.out, show ks.drop k = [] from List.drop_eq_nil_of_le (by omega), show l.drop k = [] from List.drop_eq_nil_of_le (by have := HL.out; omega)]; rfl)
        go_wp2
        go_ret2
        exact ⟨by rw [← HF.out]; rfl, HB.out⟩
  · have HE : Hid (offF l ks = (0, 10)) := Lib.hid (by rw [offF, if_neg hlen])
    have hlen1 : (ks.length == l.length) = false := by simpa using hlen
    have hlen2 : (ks.length != l.length) = true := by simpa using hlen
    have hlen3 : ((ks.length : Int) == (l.length : Int)) = false := by simp; omega
    have hlen4 : ((ks.length : Int) != (l.length : Int)) = true := by simp; omega
    clear hlen
    go_enter Try.func36, Try.ntmps36
    go_wp2
    go_ret2
    exact ⟨by rw [HE.out]; rfl, Below.refl _ _⟩

def array_Size.f (l0 : List (S40)) : Option (Int × Int) := if errOf l0 = 0 then some (prodL l0, 0) else some (0, errOf l0)
set_option maxHeartbeats 1000000 in
theorem array_Size.calls (A0 : Option Addr) (c0 : Nat) (l0 : List (S40)) (r1 : Int) (r2 : Int) (w : World) (hr0 : Kd.C k40 w A0 l0.length l0) (hc0 : l0.length ≤ c0) (h : array_Size.f l0 = some (r1, r2)) :
    Calls Try.prog 12 #[.slice A0 l0.length c0] w fun e w' => e = .returned (.tuple #[.int .i64 r1, .int .i64 r2]) ∧ Below w.heap.size w w' := by
  have HR := Lib.hid hr0; clear hr0
  have H1 := Lib.hid (C_one w A0 c0 l0 hc0 HR.out)
  by_cases he : errOf l0 = 0
  · obtain ⟨_, hp, hq, h1, h4⟩ := errOf_zero he
    simp only [array_Size.f, if_pos he, Option.some.injEq, Prod.mk.injEq] at h
    have H := Lib.hid h; clear h
    have HE : Hid (checkedL [l0] = 0) := Lib.hid (by rw [checkedL_one, he]); clear he
    have HPP := Lib.hid hp; clear hp
    have HQ := Lib.hid hq; clear hq
    go_enter Try.func12, Try.ntmps12
    go_wp2_with (first | (go_at_call 34; refine (checked_calls _ _ [l0] _ H1.out (Nat.le_refl _) (by simp)).mono ?_; rintro e w1 ⟨rfl, hb⟩; rw [HE.out]) | (go_at_call 35; refine (sizes_ok _ _ l0 _ _ (Kd.C_below HR.out (below_step (below_alloc (Below.refl _ _) _) hb)) hc0 h4 HPP.out.1 HQ.out).mono ?_; rintro e w2 ⟨x0, x1, x2, x3, rfl, hb2, hb3⟩; clear hb3))
    obtain ⟨rfl, rfl⟩ := H.out
    go_ret2
    exact ⟨rfl, below_alloc (below_step (below_step (below_alloc (Below.refl _ _) _) hb) hb2) _⟩
  · simp only [array_Size.f, if_neg he, Option.some.injEq, Prod.mk.injEq] at h
    have H := Lib.hid h; clear h
    have HE : Hid (checkedL [l0] = errOf l0) := Lib.hid (checkedL_one l0)
    have hne : (errOf l0 != 0) = true := by simpa using he
    clear he
    go_enter Try.func12, Try.ntmps12
    go_wp2_with (go_at_call 34; refine (checked_calls _ _ [l0] _ H1.out (Nat.le_refl _) (by simp)).mono ?_; rintro e w1 ⟨rfl, hb⟩; rw [HE.out])
    obtain ⟨rfl, rfl⟩ := H.out
    go_ret2
    exact ⟨rfl, below_step (below_alloc (Below.refl _ _) _) hb⟩

def array_Offset.f (l0 : List (S40)) (l1 : List Int) : Option (Int × Int) := if errOf l0 = 0 then some (offF l0 l1) else some (0, errOf l0)
set_option maxHeartbeats 1000000 in
theorem array_Offset.calls (A0 : Option Addr) (c0 : Nat) (l0 : List (S40)) (A1 : Option Addr) (c1 : Nat) (l1 : List Int) (r1 : Int) (r2 : Int) (w : World) (hr0 : Kd.C k40 w A0 l0.length l0) (hc0 : l0.length ≤ c0) (hr1 : Kd.C (Kd.int .i64) w A1 l1.length l1) (hc1 : l1.length ≤ c1) (h : array_Offset.f l0 l1 = some (r1, r2)) :
    Calls Try.prog 13 #[.slice A0 l0.length c0, .slice A1 l1.length c1] w fun e w' => e = .returned (.tuple #[.int .i64 r1, .int .i64 r2]) ∧ Below w.heap.size w w' := by
  have HR := Lib.hid hr0; clear hr0
  have HR1 := Lib.hid hr1; clear hr1
  have H1 := Lib.hid (C_one w A0 c0 l0 hc0 HR.out)
  by_cases he : errOf l0 = 0
  · obtain ⟨_, hp, hq, h1, h4⟩ := errOf_zero he
    simp only [array_Offset.f, if_pos he, Option.some.injEq] at h
    have H := Lib.hid h; clear h
    have HE : Hid (checkedL [l0] = 0) := Lib.hid (by rw [checkedL_one, he]); clear he
    have HPP := Lib.hid hp; clear hp
    have HQ := Lib.hid hq; clear hq
    go_enter Try.func13, Try.ntmps13
    go_wp2_with (first | (go_at_call 34; refine (checked_calls _ _ [l0] _ H1.out (Nat.le_refl _) (by simp)).mono ?_; rintro e w1 ⟨rfl, hb⟩; rw [HE.out]) | (go_at_call 36; refine (offset_calls _ _ l0 _ _ l1 _ (Kd.C_below HR.out (below_step (below_alloc (Below.refl _ _) _) hb)) hc0 (Kd.C_below HR1.out (below_step (below_alloc (Below.refl _ _) _) hb)) hc1 h4 HPP.out HQ.out).mono ?_; rintro e w2 ⟨rfl, hb2⟩; rw [H.out]))
    go_ret2
    exact ⟨rfl, below_step (below_step (below_alloc (Below.refl _ _) _) hb) hb2⟩
  · simp only [array_Offset.f, if_neg he, Option.some.injEq, Prod.mk.injEq] at h
    have H := Lib.hid h; clear h
    have HE : Hid (checkedL [l0] = errOf l0) := Lib.hid (checkedL_one l0)
    have hne : (errOf l0 != 0) = true := by simpa using he
    clear he
    go_enter Try.func13, Try.ntmps13
    go_wp2_with (go_at_call 34; refine (checked_calls _ _ [l0] _ H1.out (Nat.le_refl _) (by simp)).mono ?_; rintro e w1 ⟨rfl, hb⟩; rw [HE.out])
    obtain ⟨rfl, rfl⟩ := H.out
    go_ret2
    exact ⟨rfl, below_step (below_alloc (Below.refl _ _) _) hb⟩

def array_Strides.f (l0 : List (S40)) : Option (List Int × Int × Int) := if errOf l0 = 0 then some (strL l0, fstL l0, 0) else some ([], 0, errOf l0)
set_option maxHeartbeats 1000000 in
theorem array_Strides.calls (A0 : Option Addr) (c0 : Nat) (l0 : List (S40)) (r1 : List Int) (r2 : Int) (r3 : Int) (w : World) (hr0 : Kd.C k40 w A0 l0.length l0) (hc0 : l0.length ≤ c0) (h : array_Strides.f l0 = some (r1, r2, r3)) :
    Calls Try.prog 15 #[.slice A0 l0.length c0] w fun e w' => ∃ v0_ : Value, e = .returned (.tuple #[v0_, .int .i64 r2, .int .i64 r3]) ∧ Kd.R (Kd.int .i64) 3 w' w.heap.size (fun _ => True) v0_ r1 ∧ Below w.heap.size w w' := by
  have HR := Lib.hid hr0; clear hr0
  have H1 := Lib.hid (C_one w A0 c0 l0 hc0 HR.out)
  by_cases he : errOf l0 = 0
  · obtain ⟨_, hp, hq, h1, h4⟩ := errOf_zero he
    simp only [array_Strides.f, if_pos he, Option.some.injEq, Prod.mk.injEq] at h
    obtain ⟨rfl, rfl, rfl⟩ := h
    have HE : Hid (checkedL [l0] = 0) := Lib.hid (by rw [checkedL_one, he]); clear he
    have HPP := Lib.hid hp; clear hp
    have HQ := Lib.hid hq; clear hq
    go_enter Try.func15, Try.ntmps15
    go_wp2_with (first | (go_at_call 34; refine (checked_calls _ _ [l0] _ H1.out (Nat.le_refl _) (by simp)).mono ?_; rintro e w1 ⟨rfl, hb⟩; rw [HE.out]) | (go_at_call 37; refine (strides_calls _ _ l0 _ (Kd.C_below HR.out (below_step (below_alloc (Below.refl _ _) _) hb)) hc0 h4 HPP.out HQ.out).mono ?_; rintro e w2 ⟨v, rfl, hv, hb2⟩))
    go_ret3
    exact ⟨_, rfl, Kd.R_lower hv (by have := (below_step (below_alloc (Below.refl _ _) _) hb).size; exact this), below_step (below_step (below_alloc (Below.refl _ _) _) hb) hb2⟩
  · simp only [array_Strides.f, if_neg he, Option.some.injEq, Prod.mk.injEq] at h
    obtain ⟨rfl, rfl, rfl⟩ := h
    have HE : Hid (checkedL [l0] = errOf l0) := Lib.hid (checkedL_one l0)
    have hne : (errOf l0 != 0) = true := by simpa using he
    clear he
    go_enter Try.func15, Try.ntmps15
    go_wp2_with (go_at_call 34; refine (checked_calls _ _ [l0] _ H1.out (Nat.le_refl _) (by simp)).mono ?_; rintro e w1 ⟨rfl, hb⟩; rw [HE.out])
    go_ret3
    exact ⟨_, rfl, Kd.R_nil _ _ _ _ _, below_step (below_alloc (Below.refl _ _) _) hb⟩
end Go.Proofs.Ytcjjmhgboibbgaa.Q
