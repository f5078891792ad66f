import Derived.Test.YtcjjmhgboibbgaaHArr
import Derived.Deep.RegionHeld3
namespace Go.Proofs.Ytcjjmhgboibbgaa.Q
open Go.RowKit Go.Proofs.YtcjjmhgboibbgaaW.PrintWords Go.Proofs.YtcjjmhgboibbgaaW.PrintLast Go.Proofs.YtcjjmhgboibbgaaW.PrintMore
attribute [local go_sem] max2_int min2_int max_two min_two max_three min_three max_four min_four
set_option linter.unusedVariables false
set_option linter.unusedSimpArgs false

def cut (d e : S40) : S40 := ⟨mx d.f0 e.f0, mn d.f1 e.f1⟩
def commonGo : List S40 → List S40 → List S40 → List S40 × Int
  | d :: r, e :: s, acc => if (cut d e).f1 < (cut d e).f0 then ([], 5) else commonGo r s (acc ++ [cut d e])
  | _, _, acc => (acc, 0)
def commonF (a b : List S40) : List S40 × Int := if errOf a = 0 then if errOf b = 0 then if a.length = b.length then commonGo a b [] else ([], 10) else ([], errOf b) else ([], errOf a)
theorem addr_of {W : World} {a : Addr} {v : Value} (h : W.cell? a = some v) : ∃ b o, a = ⟨b, o, none⟩ := by
  obtain ⟨b, o, s⟩ := a
  cases s with
  | none => exact ⟨b, o, rfl⟩
  | some s => exfalso; simp only [World.cell?] at h; split at h <;> simp at h
theorem checkedL_two (a b : List S40) : checkedL [a, b] = if errOf a = 0 then errOf b else errOf a := by
  simp only [checkedL]
  by_cases h : errOf a = 0
  · simp only [h, if_true]; split <;> simp_all
  · simp only [h, if_false]

def array_Common.f (l0 : List (S40)) (l1 : List (S40)) : Option ((List (S40)) × Int) := some (commonF l0 l1)
set_option maxRecDepth 100000 in
set_option maxHeartbeats 4000000 in
theorem array_Common.calls (A0 : Option Addr) (c0 : Nat) (l0 : List (S40)) (A1 : Option Addr) (c1 : Nat) (l1 : List (S40)) (r1 : List (S40)) (r2 : Int) (w : World) (hr0 : Kd.C k40 w A0 l0.length l0) (hc0 : l0.length ≤ c0) (hr1 : Kd.C k40 w A1 l1.length l1) (hc1 : l1.length ≤ c1) (h : array_Common.f l0 l1 = some (r1, r2)) :
    Calls Try.prog 21 #[.slice A0 l0.length c0, .slice A1 l1.length c1] w fun e w' => ∃ v0_ : Value, e = .returned (.tuple #[v0_, .int .i64 r2]) ∧ Kd.R k40 40 w' w.heap.size (fun _ => True) v0_ r1 ∧ Below w.heap.size w w' := by
  simp only [array_Common.f, Option.some.injEq] at h
  have H := Lib.hid h; clear h
  have HR0 := Lib.hid hr0; clear hr0
  have HR1 := Lib.hid hr1; clear hr1
  have H2 := Lib.hid (C_two w A0 c0 l0 hc0 HR0.out A1 c1 l1 hc1 HR1.out)
  by_cases he : checkedL [l0, l1] = 0
  · have HE := Lib.hid he
    rw [checkedL_two] at he
    have he0 : errOf l0 = 0 := by
      by_cases h : errOf l0 = 0
      · exact h
      · rw [if_neg h] at he; exact he
    have he1 : errOf l1 = 0 := by rw [if_pos he0] at he; exact he
    clear he
    obtain ⟨_, hp, hq, h1, h4⟩ := errOf_zero he0
    by_cases hl : l0.length = l1.length
    · have HF : Hid (commonF l0 l1 = commonGo l0 l1 []) := Lib.hid (by rw [commonF, if_pos he0, if_pos he1, if_pos hl])
      have q1 : ((l0.length : Int) != (l1.length : Int)) = false := by simp [hl]
      have q2 : (l0.length != l1.length) = false := by simp [hl]
      have HL := Lib.hid hl
      have hl2 : l0.length ≤ l1.length := by omega
      have HN : Hid (∀ d ∈ l0, near d) := Lib.hid hp.1
      have HN1 : Hid (∀ d ∈ l1, near d) := Lib.hid (errOf_zero he1).2.1.1
      clear hp hq he0 he1 hl
      go_enter Try.func21, Try.ntmps21
      go_wp2_with (go_at_call 34; refine (checked_calls _ _ [l0, l1] _ H2.out (Nat.le_refl _) (by simp)).mono ?_; rintro e w1 ⟨rfl, hb⟩; rw [HE.out]; (have HB := Lib.hid (below_step (below_alloc (Below.refl _ _) _) hb)); clear hb)
      go_loopw [7, 8, 9, 10, 25] (fun v _ _ _ i wr => ∃ (k : Nat) (acc : List S40), k ≤ l0.length ∧ i = .int .i64 k ∧ Hid (acc.length = k ∧ commonGo (l0.drop k) (l1.drop k) acc = commonGo l0 l1 []) ∧ Hid (Below w.heap.size w wr) ∧ Hid (Kd.R k40 40 wr w.heap.size (fun _ => True) v acc))
        (fun _ _ _ _ i _ => l0.length - (intOf i).toNat)
      case atStart => exact ⟨0, [], Nat.zero_le _, rfl, Lib.hid ⟨rfl, rfl⟩, HB, Lib.hid (Kd.R_nil _ _ _ _ _)⟩
      case round =>
        clear HB
        obtain ⟨k, acc, hk, rfl, HP, HB, HO⟩ := hrel
        by_cases hlt : k < l0.length
        · have hlt1 : k < l1.length := by omega
          obtain ⟨ad, e1, h0, h1'⟩ := at_T40 HR0.out (k : Int) (by omega) (by omega)
          have ek : rd_T40 l0 (k : Int) = l0[k] := by simp [rd_T40, List.getD, hlt]
          rw [ek] at h0 h1'
          cases e1
          obtain ⟨ad1, e2, g0, g1⟩ := at_T40 HR1.out (k : Int) (by omega) (by omega)
          have ek1 : rd_T40 l1 (k : Int) = l1[k] := by simp [rd_T40, List.getD, hlt1]
          rw [ek1] at g0 g1
          cases e2
          replace h0 := (HB.out.cell (World.block_lt_of_cell? w _ h0)).trans h0
          replace h1' := (HB.out.cell (World.block_lt_of_cell? w _ h1')).trans h1'
          replace g0 := (HB.out.cell (World.block_lt_of_cell? w _ g0)).trans g0
          replace g1 := (HB.out.cell (World.block_lt_of_cell? w _ g1)).trans g1
          simp only [Int.toNat_natCast] at h0 h1' g0 g1
          obtain ⟨m1, m2, m3, m4⟩ := HN.out _ (List.getElem_mem hlt)
          obtain ⟨n1, n2, n3, n4⟩ := HN1.out _ (List.getElem_mem hlt1)
          have HP2 := HP.out.2
          rw [List.drop_eq_getElem_cons hlt, List.drop_eq_getElem_cons hlt1] at HP2
          simp only [commonGo] at HP2
          have HP3 := Lib.hid HP2; clear HP2 ek ek1
          generalize l0[k] = d at *
          generalize l1[k] = e at *
          obtain ⟨gb, go, hadd⟩ := addr_of g0
          rw [hadd] at g0 g1
          have b1 := World.block_lt_of_cell? wr _ g0
          have i0 : (0 : Int) ≤ (k : Int) := Int.natCast_nonneg _
          have i1 : (k : Int) < (l1.length : Int) := by omega
          go_wp2_with fail
          obtain ⟨g, hg⟩ : ∃ g, g = wr.heap.size := ⟨_, rfl⟩
          obtain ⟨W0, hW0⟩ : ∃ W0, W0 = wr.alloc (.cells #[.int .i64 d.f0, .int .i64 d.f1] 40) := ⟨_, rfl⟩
          have s0 : W0.cell? ⟨g, 0, none⟩ = some (.int .i64 d.f0) := by rw [hW0, hg]; simp [go_sem]
          have s1 : W0.cell? ⟨g, 1, none⟩ = some (.int .i64 d.f1) := by rw [hW0, hg]; simp [go_sem]
          have g0' : W0.cell? ⟨gb, go, none⟩ = some (.int .i64 e.f0) := by rw [hW0]; exact pw_cell_below (below_alloc (Below.refl _ _) _) g0
          have g1' : W0.cell? ⟨gb, go + 1, none⟩ = some (.int .i64 e.f1) := by rw [hW0]; exact pw_cell_below (below_alloc (Below.refl _ _) _) g1
          have hgl : g < W0.heap.size := by rw [hW0, hg, World.size_alloc]; omega
          have b1' : gb < W0.heap.size := by rw [hW0, World.size_alloc]; omega
          rw [← hg, ← hW0]
          have HW0 := Lib.hid hW0; have HG := Lib.hid hg
          clear h0 h1' g0 g1 b1 hW0 hg
          go_region_held3 (fun w' => w'.cell? ⟨g, 0, none⟩ = some (.int .i64 d.f0) ∧ w'.cell? ⟨g, 1, none⟩ = some (.int .i64 d.f1) ∧ w'.cell? ⟨gb, go, none⟩ = some (.int .i64 e.f0) ∧ w'.cell? ⟨gb, go + 1, none⟩ = some (.int .i64 e.f1))
            (first | go_keep | exact ⟨s0, s1, g0', g1'⟩)
            (first | fail)
          all_goals
            have HB1 : Hid (Below w.heap.size w (W0.alloc (.cells #[.int .i64 (if d.f0 < e.f0 then e.f0 else d.f0), .int .i64 (if e.f1 < d.f1 then e.f1 else d.f1)] 40)).drew) := Lib.hid (below_drew (below_alloc (by rw [HW0.out]; exact below_alloc HB.out _) _))
            have HO1 : Hid (Kd.R k40 40 (W0.alloc (.cells #[.int .i64 (if d.f0 < e.f0 then e.f0 else d.f0), .int .i64 (if e.f1 < d.f1 then e.f1 else d.f1)] 40)).drew w.heap.size (fun _ => True) u7 acc) := Lib.hid (Kd.R_drew (Kd.R_alloc (by rw [HW0.out]; exact Kd.R_alloc HO.out _) _))
            have k0 : ((W0.alloc (.cells #[.int .i64 (if d.f0 < e.f0 then e.f0 else d.f0), .int .i64 (if e.f1 < d.f1 then e.f1 else d.f1)] 40)).drew).cell? ⟨W0.heap.size, 0, none⟩ = some (.int .i64 (if d.f0 < e.f0 then e.f0 else d.f0)) := by simp [go_sem]
            have k1 : ((W0.alloc (.cells #[.int .i64 (if d.f0 < e.f0 then e.f0 else d.f0), .int .i64 (if e.f1 < d.f1 then e.f1 else d.f1)] 40)).drew).cell? ⟨W0.heap.size, 1, none⟩ = some (.int .i64 (if e.f1 < d.f1 then e.f1 else d.f1)) := by simp [go_sem]
            have hal : acc.length ≤ 4 := by have := HP.out.1; omega
            have hcut : cut d e = ⟨if d.f0 < e.f0 then e.f0 else d.f0, if e.f1 < d.f1 then e.f1 else d.f1⟩ := rfl
            have HP4 := HP3.out
            rw [hcut] at HP4
            have HP5 := Lib.hid HP4
            clear HP4 hcut HP3 HO HB s0 s1 g0' g1'
            try (rename_i hHeld; clear hHeld)
            generalize (W0.alloc (.cells #[.int .i64 (if d.f0 < e.f0 then e.f0 else d.f0), .int .i64 (if e.f1 < d.f1 then e.f1 else d.f1)] 40)).drew = W1 at *
            generalize W0.heap.size = gx at *
            generalize (if d.f0 < e.f0 then e.f0 else d.f0) = x at *
            generalize (if e.f1 < d.f1 then e.f1 else d.f1) = y at *
            by_cases hxy : y < x
            · go_wp2
              have hh := H.out
              rw [HF.out, ← HP5.out, if_pos hxy] at hh
              simp only [Prod.mk.injEq] at hh
              obtain ⟨rfl, rfl⟩ := hh
              go_ret2
              exact ⟨_, rfl, Kd.R_nil _ _ _ _ _, HB1.out⟩
            · go_wp2_with (at_builtin; refine Kd.R_append k40 (w0 := w) w.heap.size rfl (.tmp 52) (.tmp 54) 22 40 (.agg #[.int .i64 0, .int .i64 0]) 16 rfl Try.underlying22 info40 rfl (by decide) (by omega) u7 acc (⟨x, y⟩ : S40) [.int .i64 x, .int .i64 y] (fun _ => True) (fun _ => False) rfl (by first | (go_simp; done) | (go_simp; rfl)) ?aP (fun _ hk => hk.elim) ?aF ?aO ?aB ?aS ?aL ?_; (case aP => exact k40_mkM _ _ _ (⟨x, y⟩ : S40)); (case aF => exact fun _ _ => trivial); (case aO => exact HO1.out); (case aB => exact HB1.out); (case aS => exact HB1.out.size); (case aL => omega); intro v1 w2 ho hb hg hat; (have HO2 := Lib.hid ho); (have HB2 := Lib.hid hb); clear ho hb hg hat)
              go_roundw
              case rel => exact ⟨k + 1, acc ++ [⟨x, y⟩], by omega, by go_num, Lib.hid ⟨by simp [HP.out.1], by rw [← HP5.out, if_neg (by omega)]⟩, HB2, HO2⟩
              case measure => simp [intOf]; omega
        · have HFE : Hid (commonF l0 l1 = (acc, 0)) := Lib.hid (by rw [HF.out, ← HP.out.2, show l0.drop k = [] from List.drop_eq_nil_of_le (by omega)]; rfl)
          go_wp2
          have hh := H.out
          rw [HFE.out] at hh
          simp only [Prod.mk.injEq] at hh
          obtain ⟨rfl, rfl⟩ := hh
          go_ret2
          exact ⟨_, rfl, HO.out, HB.out⟩
    · have HF : Hid (commonF l0 l1 = ([], 10)) := Lib.hid (by rw [commonF, if_pos he0, if_pos he1, if_neg hl])
      have q1 : ((l0.length : Int) != (l1.length : Int)) = true := by simp; omega
      have q2 : (l0.length != l1.length) = true := by simp [hl]
      have q3 : ((l0.length : Int) == (l1.length : Int)) = false := by simp; omega
      have q4 : (l0.length == l1.length) = false := by simp [hl]
      clear hl hp hq he0 he1
      go_enter Try.func21, Try.ntmps21
      go_wp2_with (go_at_call 34; refine (checked_calls _ _ [l0, l1] _ H2.out (Nat.le_refl _) (by simp)).mono ?_; rintro e w1 ⟨rfl, hb⟩; rw [HE.out]; (have HB := Lib.hid (below_step (below_alloc (Below.refl _ _) _) hb)); clear hb)
      have hh := H.out
      rw [HF.out] at hh
      simp only [Prod.mk.injEq] at hh
      obtain ⟨rfl, rfl⟩ := hh
      go_ret2
      exact ⟨_, rfl, Kd.R_nil _ _ _ _ _, HB.out⟩
  · have hne : (checkedL [l0, l1] != 0) = true := by simpa using he
    have HF : Hid (commonF l0 l1 = ([], checkedL [l0, l1])) := Lib.hid (by
      rw [checkedL_two] at he ⊢
      unfold commonF
      by_cases h : errOf l0 = 0
      · rw [if_pos h] at he; rw [if_pos h, if_neg he, if_pos h]
      · rw [if_neg h, if_neg h])
    clear he
    go_enter Try.func21, Try.ntmps21
    go_wp2_with (go_at_call 34; refine (checked_calls _ _ [l0, l1] _ H2.out (Nat.le_refl _) (by simp)).mono ?_; rintro e w1 ⟨rfl, hb⟩; (have HB := Lib.hid (below_step (below_alloc (Below.refl _ _) _) hb)); clear hb)
    have hh := H.out
    rw [HF.out] at hh
    simp only [Prod.mk.injEq] at hh
    obtain ⟨rfl, rfl⟩ := hh
    go_ret2
    exact ⟨_, rfl, Kd.R_nil _ _ _ _ _, HB.out⟩
end Go.Proofs.Ytcjjmhgboibbgaa.Q
