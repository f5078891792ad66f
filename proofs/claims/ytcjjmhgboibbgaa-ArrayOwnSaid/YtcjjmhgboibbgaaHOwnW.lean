import Derived.Test.YtcjjmhgboibbgaaPOwnC
import Derived.Deep.RegionHeld3
namespace Go.Proofs.Ytcjjmhgboibbgaa.Q
open Go.RowKit Go.Shelf Go.Proofs.Rf Go.Proofs.YtcjjmhgboibbgaaW.PrintWords Go.Proofs.YtcjjmhgboibbgaaW.PrintLast Go.Proofs.YtcjjmhgboibbgaaW.PrintMore
set_option linter.unusedVariables false
set_option linter.unusedSimpArgs false
set_option maxRecDepth 100000
attribute [local go_sem high] eqA40 eqA59
theorem c3_0 {W : World} {g ty : Nat} {x y z : Value} (h : W.heap[g]? = some (.cells #[x, y, z] ty)) : W.cell? ⟨g, 0, none⟩ = some x := by rw [blk_cell h 0]; rfl
theorem c3_1 {W : World} {g ty : Nat} {x y z : Value} (h : W.heap[g]? = some (.cells #[x, y, z] ty)) : W.cell? ⟨g, 1, none⟩ = some y := by rw [blk_cell h 1]; rfl
theorem c3_2 {W : World} {g ty : Nat} {x y z : Value} (h : W.heap[g]? = some (.cells #[x, y, z] ty)) : W.cell? ⟨g, 2, none⟩ = some z := by rw [blk_cell h 2]; rfl
theorem small_c (t : Int) (A1 A2 : Option Addr) (c1 c2 n m : Nat) (ds : List S40) (es : List S59) (w : World) (hr : Arr w A1 n c1 ds A2 m c2 es) :
    Calls Try.prog 25 #[.agg #[.int .i64 t, .slice A1 n c1, .slice A2 m c2]] w fun e w' => e = .returned (.bool (decide (n ≤ 6) && decide (m ≤ 1010))) ∧ Below w.heap.size w w' := by
  obtain ⟨rfl, rfl⟩ := hr.len
  obtain ⟨r1, hc1, r2, hc2⟩ := hr
  refine manorboylaw08_small.calls t A1 c1 ds A2 c2 es _ w r1 hc1 r2 hc2 ?_
  unfold manorboylaw08_small.f
  by_cases h : ds.length ≤ 6
  · rw [if_pos (by omega)]
    simp only [h, decide_true, Bool.true_and, Option.some.injEq]
    by_cases h' : es.length ≤ 1010
    · rw [decide_eq_true h', decide_eq_true (by omega)]
    · rw [decide_eq_false h', decide_eq_false (by omega)]
  · rw [if_neg (by omega)]; simp [h]
theorem getE_zero {ds : List S40} {ks : List Int} : getE ds ks = 0 ↔ inB ds ks = true := by
  unfold getE
  by_cases hl : ks.length = ds.length
  · rw [if_pos hl]
    cases inB ds ks <;> simp
  · rw [if_neg hl]
    constructor
    · intro h; simp at h
    · intro h; exact absurd (inB_len _ _ h) hl
theorem getV_at {t : Int} {ds : List S40} {es : List S59} {ks : List Int} (F : Fine t ds es) (h : inB ds ks = true) : vAt ds es ks = some (getV t ds es ks) := by
  obtain ⟨x, h1, _, h2, _, _⟩ := vAt_some (ext_pos (errOf_zero F.2.1).2.1) F.2.2.1 h
  unfold getV
  rw [if_pos (inB_len _ _ h), if_pos h, h1, h2]
/-- what the two Gets tell -/
theorem own_get {t : Int} {ds one two : List S40} {es : List S59} (F : Fine t ds es) (h1 : errOf one = 0) (h2 : errOf two = 0) (n1 : one.length = ds.length) (n2 : two.length = ds.length) (ks : List Int) :
    getE two ks = 0 → getV t two (resL t one (resL t ds es one) two) ks = if getE ds ks = 0 ∧ inB one ks = true then getV t ds es ks else z59t t := by
  intro hy
  rw [getE_zero] at hy
  have F1 := fine_res F h1 n1
  have F2 := fine_res F1 h2 (by rw [n2, n1])
  have hp := ext_pos (errOf_zero F.2.1).2.1
  have hp1 := ext_pos (errOf_zero h1).2.1
  have hp2 := ext_pos (errOf_zero h2).2.1
  have h4 := (errOf_zero F.2.1).2.2.2.2
  have e := getV_at F2 hy
  rw [vAt_resL hp1 F1.2.2.1 (by omega) (by rw [n2, n1]) hp2, if_pos hy, vAt_resL hp F.2.2.1 h4 n1 hp1] at e
  rw [← Option.some.inj e]
  by_cases hb : inB one ks = true
  · rw [if_pos hb]
    by_cases hx : getE ds ks = 0
    · rw [if_pos ⟨hx, hb⟩, getV_at F (getE_zero.1 hx)]; rfl
    · rw [if_neg (fun h => hx h.1)]
      have : ¬ inB ds ks = true := fun h => hx (getE_zero.2 h)
      unfold vAt
      rw [if_neg this]; rfl
  · rw [if_neg hb, if_neg (fun h => hb h.2)]; rfl
theorem inb_c {l : List S40} (h : errOf l = 0) (ks : List Int) (A1 A2 : Option Addr) (c1 c2 n n5 : Nat) (w : World) (hr : Kd.C k40 w A1 n l) (hc1 : n ≤ c1) (hs : Kd.C (Kd.int .i64) w A2 n5 ks) (hc2 : n5 ≤ c2) :
    Calls Try.prog 24 #[.slice A1 n c1, .slice A2 n5 c2] w fun e w' => e = .returned (.bool (inB l ks)) ∧ Below w.heap.size w w' := by
  have e1 := hr.1
  have e2 := hs.1
  subst e1 e2
  refine manorboylaw08_inBounds.calls A1 c1 l A2 c2 ks _ w hr hc1 hs hc2 ?_
  unfold manorboylaw08_inBounds.f array_Offset.f
  rw [if_pos h, offF_eq]
  simp only [Option.bind_some, Option.some.injEq]
  by_cases hl : ks.length = l.length
  · rw [if_pos hl]
    cases inB l ks <;> simp
  · rw [if_neg hl]
    cases hb : inB l ks with
    | true => exact absurd (inB_len _ _ hb) hl
    | false => simp
theorem c5_of {W : World} {g ty : Nat} {a b c d e : Value} (h : W.heap[g]? = some (.cells #[a, b, c, d, e] ty)) : W.cell? ⟨g, 0, none⟩ = some a ∧ W.cell? ⟨g, 1, none⟩ = some b ∧ W.cell? ⟨g, 2, none⟩ = some c ∧ W.cell? ⟨g, 3, none⟩ = some d ∧ W.cell? ⟨g, 4, none⟩ = some e ∧ g < W.heap.size :=
  ⟨by rw [blk_cell h 0]; rfl, by rw [blk_cell h 1]; rfl, by rw [blk_cell h 2]; rfl, by rw [blk_cell h 3]; rfl, by rw [blk_cell h 4]; rfl, blk_lt h⟩
theorem common_c (ds two : List S40) (A1 A2 : Option Addr) (c1 c2 n : Nat) (w : World) (hr : Kd.C k40 w A1 n ds) (hc1 : n ≤ c1) (hr2 : Kd.C k40 w A2 n two) (hc2 : n ≤ c2) :
    Calls Try.prog 21 #[.slice A1 n c1, .slice A2 n c2] w fun e w' => ∃ G g k, e = .returned (.tuple #[.slice G k g, .int .i64 (commonF ds two).2]) ∧ (k ≤ g ∧ Kd.C k40 w' G k (commonF ds two).1) ∧ Below w.heap.size w w' := by
  have e1 := hr.1
  have e2 := hr2.1
  have h := array_Common.calls A1 c1 ds A2 c2 two (commonF ds two).1 (commonF ds two).2 w (by rw [e1]; exact hr) (by rw [e1]; exact hc1) (by rw [e2]; exact hr2) (by rw [e2]; exact hc2) rfl
  rw [e1, e2] at h
  refine h.mono ?_
  rintro e w' ⟨v, rfl, hv, hb⟩
  obtain ⟨G, g, rfl, h1, h2⟩ := Kd.R_reads hv
  exact ⟨G, g, _, rfl, ⟨h1, h2⟩, hb⟩
set_option maxHeartbeats 40000000 in
theorem own_main (t : Int) (ds one two : List S40) (es : List S59) (ks : List Int) (A1 A2 A3 A4 A5 : Option Addr) (c1 c2 c3 c4 c5 n m n5 : Nat) (w : World)
    (hr : Arr w A1 n c1 ds A2 m c2 es) (h3 : Kd.C k40 w A3 n one) (hc3 : n ≤ c3) (h4 : Kd.C k40 w A4 n two) (hc4 : n ≤ c4) (h5 : Kd.C (Kd.int .i64) w A5 n5 ks) (hc5 : n5 ≤ c5)
    (F : Fine t ds es) (hone : errOf one = 0) (htwo : errOf two = 0) (hm : m ≤ 1010) (hn5 : n5 ≤ 6) :
    Calls Try.prog 7 #[.agg #[.int .i64 t, .slice A1 n c1, .slice A2 m c2], .slice A3 n c3, .slice A4 n c4, .slice A5 n5 c5] w (SanPost w) := by
  have hn6 : n ≤ 6 := by have := (errOf_zero F.2.1).2.2.2.2; have := hr.1.1; omega
  have q1 : ((n : Int) > 6) = False := by simp; omega
  have q2 : ((n5 : Int) > 6) = False := by simp; omega
  have q3 : (6 : Int) < (n : Int) ↔ False := by simp; omega
  have q4 : (6 : Int) < (n5 : Int) ↔ False := by simp; omega
  have q5 : decide (n ≤ 6) = true := decide_eq_true hn6
  have q6 : decide (m ≤ 1010) = true := decide_eq_true hm
  have hlo : one.length = ds.length := by rw [h3.1, hr.1.1]
  have hlt : two.length = ds.length := by rw [h4.1, hr.1.1]
  have hl21 : two.length = one.length := by rw [hlo, hlt]
  obtain ⟨ex, hex⟩ : ∃ e, e = getE ds ks := ⟨_, rfl⟩
  obtain ⟨ey, hey⟩ : ∃ e, e = getE two ks := ⟨_, rfl⟩
  obtain ⟨vx, hvx⟩ : ∃ v, v = getV t ds es ks := ⟨_, rfl⟩
  obtain ⟨vy, hvy⟩ : ∃ v, v = getV t two (resL t one (resL t ds es one) two) ks := ⟨_, rfl⟩
  have hE := own_get F hone htwo (by rw [h3.1, hr.1.1]) (by rw [h4.1, hr.1.1]) ks
  rw [← hex, ← hey, ← hvx, ← hvy] at hE
  have HE := Lib.hid hE
  have HEX := Lib.hid hex
  have HEY := Lib.hid hey
  have HVX := Lib.hid hvx
  have HVY := Lib.hid hvy
  clear hex hey hvx hvy hE
  have HL21 := Lib.hid hl21
  have HLO := Lib.hid hlo
  have HLT := Lib.hid hlt
  have HR := Lib.hid hr
  have H3 := Lib.hid h3
  have H4 := Lib.hid h4
  have H5 := Lib.hid h5
  have HF := Lib.hid F
  have H1 := Lib.hid hone
  have H2 := Lib.hid htwo
  clear hr h3 h4 h5 F hone htwo hlo hlt hm hn5 hl21
  have hB := Below.refl w.heap.size w
  have M1 := Lib.hid trivial
  go_enter Try.func7, Try.ntmps7
  go_upto_region 15 with (first
    | (go_at_call 25; refine (small_c t _ _ _ _ _ _ ds es _ (HR.out.below (below_alloc (Below.refl _ _) _))).mono ?_; rintro e w1 ⟨rfl, hb⟩; rw [q5, q6]; (replace hB := below_step (by first | exact hB | exact below_alloc hB _ | exact below_alloc (below_alloc hB _) _) hb); (have hA := blk_below (heap_alloc_new _ _) hb); (have a0 := c3_0 hA); (have a1 := c3_1 hA); (have a2 := c3_2 hA); (have al := blk_lt hA); clear hb)
    | (go_at_call 26; (have M := M1); clear M; refine (ck_c HF.out _ _ _ _ _ _ _ (HR.out.below hB)).mono ?_; rintro e w2 ⟨rfl, hb⟩; (replace hB := below_step (by first | exact hB | exact below_alloc hB _ | exact below_alloc (below_alloc hB _) _) hb); (replace hA := blk_below (by first | exact hA | exact blk_alloc hA _ | exact blk_alloc (blk_alloc hA _) _) hb); (try clear a0 a1 a2 al); (have a0 := c3_0 hA); (have a1 := c3_1 hA); (have a2 := c3_2 hA); (have al := blk_lt hA); clear hb)
    | (go_at_call 27; (have M := M1); clear M M1; refine (rz_ok HF.out HF.out.2.1 rfl _ _ _ _ _ _ _ _ _ (HR.out.below hB) (Kd.C_below HR.out.1 hB) HR.out.2.1).mono ?_; rintro e w3 ⟨B1, x1, B2, x2, k2, rfl, hS, hb⟩; rw [resL_self HF.out] at hS; (replace hB := below_step (by first | exact hB | exact below_alloc hB _ | exact below_alloc (below_alloc hB _) _) hb); (replace hA := blk_below (by first | exact hA | exact blk_alloc hA _ | exact blk_alloc (blk_alloc hA _) _) hb); (try clear a0 a1 a2 al); (have a0 := c3_0 hA); (have a1 := c3_1 hA); (have a2 := c3_2 hA); (have al := blk_lt hA); (have HS := Lib.hid hS); (have M2 := Lib.hid trivial); clear hb hS)
    | (go_at_call 28; (have M := M2); clear M M2; refine (same_c2 HF.out rfl _ _ _ _ _ _ _ _ _ _ _ _ _ (HS.out.below (by first | exact Below.refl _ _ | exact below_alloc (Below.refl _ _) _)) (HR.out.below (by first | exact hB | exact below_alloc hB _ | exact below_alloc (below_alloc hB _) _))).mono ?_; rintro e w4 ⟨rfl, hb⟩; (replace hB := below_step (by first | exact hB | exact below_alloc hB _ | exact below_alloc (below_alloc hB _) _) hb); (replace hA := blk_below (by first | exact hA | exact blk_alloc hA _ | exact blk_alloc (blk_alloc hA _) _) hb); (try clear a0 a1 a2 al); (have a0 := c3_0 hA); (have a1 := c3_1 hA); (have a2 := c3_2 hA); (have al := blk_lt hA); (have M3 := Lib.hid trivial); clear hb HS)
    | (go_at_call 27; (have M := M3); clear M M3; refine (rz_ok HF.out H1.out HLO.out _ _ _ _ _ _ _ _ _ (HR.out.below (by first | exact hB | exact below_alloc hB _ | exact below_alloc (below_alloc hB _) _)) (Kd.C_below H3.out (by first | exact hB | exact below_alloc hB _ | exact below_alloc (below_alloc hB _) _)) hc3).mono ?_; rintro e w5 ⟨B3, x3, B4, x4, k4, rfl, hS, hb⟩; (replace hB := below_step (by first | exact hB | exact below_alloc hB _ | exact below_alloc (below_alloc hB _) _) hb); (replace hA := blk_below (by first | exact hA | exact blk_alloc hA _ | exact blk_alloc (blk_alloc hA _) _) hb); (try clear a0 a1 a2 al); (have a0 := c3_0 hA); (have a1 := c3_1 hA); (have a2 := c3_2 hA); (have al := blk_lt hA); (have HBb := Lib.hid hS); (have M4 := Lib.hid trivial); clear hb hS)
    | (go_at_call 27; (have M := M4); clear M M4; refine (rz_ok (fine_res HF.out H1.out HLO.out) H2.out HL21.out _ _ _ _ _ _ _ _ _ (HBb.out.below (by first | exact Below.refl _ _ | exact below_alloc (Below.refl _ _) _)) (Kd.C_below H4.out (by first | exact hB | exact below_alloc hB _ | exact below_alloc (below_alloc hB _) _)) hc4).mono ?_; rintro e w6 ⟨B5, x5, B6, x6, k6, rfl, hS, hb⟩; (replace hB := below_step (by first | exact hB | exact below_alloc hB _ | exact below_alloc (below_alloc hB _) _) hb); (replace hA := blk_below (by first | exact hA | exact blk_alloc hA _ | exact blk_alloc (blk_alloc hA _) _) hb); (try clear a0 a1 a2 al); (have a0 := c3_0 hA); (have a1 := c3_1 hA); (have a2 := c3_2 hA); (have al := blk_lt hA); (have hBx := blk_below (heap_alloc_new _ _) hb); (have b0 := c3_0 hBx); (have b1 := c3_1 hBx); (have b2 := c3_2 hBx); (have bl := blk_lt hBx); (replace HBb := Lib.hid (HBb.out.below (below_step (by first | exact Below.refl _ _ | exact below_alloc (Below.refl _ _) _) hb))); (have HCc := Lib.hid hS); (have M5 := Lib.hid trivial); clear hb hS)
    | (go_at_call 27; (have M := M5); clear M M5; refine (rz_ok HF.out H2.out HLT.out _ _ _ _ _ _ _ _ _ (HR.out.below (by first | exact hB | exact below_alloc hB _ | exact below_alloc (below_alloc hB _) _)) (Kd.C_below H4.out (by first | exact hB | exact below_alloc hB _ | exact below_alloc (below_alloc hB _) _)) hc4).mono ?_; rintro e w7 ⟨B7, x7, B8, x8, k8, rfl, hS, hb⟩; (replace hB := below_step (by first | exact hB | exact below_alloc hB _ | exact below_alloc (below_alloc hB _) _) hb); (replace hA := blk_below (by first | exact hA | exact blk_alloc hA _ | exact blk_alloc (blk_alloc hA _) _) hb); (try clear a0 a1 a2 al); (have a0 := c3_0 hA); (have a1 := c3_1 hA); (have a2 := c3_2 hA); (have al := blk_lt hA); (replace hBx := blk_below (by first | exact hBx | exact blk_alloc hBx _ | exact blk_alloc (blk_alloc hBx _) _) hb); (try clear b0 b1 b2 bl); (have b0 := c3_0 hBx); (have b1 := c3_1 hBx); (have b2 := c3_2 hBx); (have bl := blk_lt hBx); (have hCx := blk_below (heap_alloc_new _ _) hb); (have y0 := c3_0 hCx); (have y1 := c3_1 hCx); (have y2 := c3_2 hCx); (have yl := blk_lt hCx); (replace HBb := Lib.hid (HBb.out.below (below_step (by first | exact Below.refl _ _ | exact below_alloc (Below.refl _ _) _) hb))); (replace HCc := Lib.hid (HCc.out.below (below_step (by first | exact Below.refl _ _ | exact below_alloc (Below.refl _ _) _) hb))); (have HDd := Lib.hid hS); (have M6 := Lib.hid trivial); clear hb hS)
    | (go_at_call 26; (have M := M6); clear M M6; refine (ck_c (fine_res HF.out H1.out HLO.out) _ _ _ _ _ _ _ (HBb.out.below (by first | exact Below.refl _ _ | exact below_alloc (Below.refl _ _) _))).mono ?_; rintro e w8 ⟨rfl, hb⟩; (replace hB := below_step (by first | exact hB | exact below_alloc hB _ | exact below_alloc (below_alloc hB _) _) hb); (replace hA := blk_below (by first | exact hA | exact blk_alloc hA _ | exact blk_alloc (blk_alloc hA _) _) hb); (try clear a0 a1 a2 al); (have a0 := c3_0 hA); (have a1 := c3_1 hA); (have a2 := c3_2 hA); (have al := blk_lt hA); (replace hCx := blk_below (by first | exact hCx | exact blk_alloc hCx _ | exact blk_alloc (blk_alloc hCx _) _) hb); (try clear y0 y1 y2 yl); (have y0 := c3_0 hCx); (have y1 := c3_1 hCx); (have y2 := c3_2 hCx); (have yl := blk_lt hCx); (have hDx := blk_below (heap_alloc_new _ _) hb); (have d0 := c3_0 hDx); (have d1 := c3_1 hDx); (have d2 := c3_2 hDx); (have dl := blk_lt hDx); (replace HCc := Lib.hid (HCc.out.below (below_step (by first | exact Below.refl _ _ | exact below_alloc (Below.refl _ _) _) hb))); (replace HDd := Lib.hid (HDd.out.below (below_step (by first | exact Below.refl _ _ | exact below_alloc (Below.refl _ _) _) hb))); (have M7 := Lib.hid trivial); clear hb HBb hBx b0 b1 b2 bl)
    | (go_at_call 26; (have M := M7); clear M M7; refine (ck_c (fine_res (fine_res HF.out H1.out HLO.out) H2.out HL21.out) _ _ _ _ _ _ _ (HCc.out.below (by first | exact Below.refl _ _ | exact below_alloc (Below.refl _ _) _))).mono ?_; rintro e w9 ⟨rfl, hb⟩; (replace hB := below_step (by first | exact hB | exact below_alloc hB _ | exact below_alloc (below_alloc hB _) _) hb); (replace hA := blk_below (by first | exact hA | exact blk_alloc hA _ | exact blk_alloc (blk_alloc hA _) _) hb); (try clear a0 a1 a2 al); (have a0 := c3_0 hA); (have a1 := c3_1 hA); (have a2 := c3_2 hA); (have al := blk_lt hA); (replace hCx := blk_below (by first | exact hCx | exact blk_alloc hCx _ | exact blk_alloc (blk_alloc hCx _) _) hb); (try clear y0 y1 y2 yl); (have y0 := c3_0 hCx); (have y1 := c3_1 hCx); (have y2 := c3_2 hCx); (have yl := blk_lt hCx); (replace hDx := blk_below (by first | exact hDx | exact blk_alloc hDx _ | exact blk_alloc (blk_alloc hDx _) _) hb); (try clear d0 d1 d2 dl); (have d0 := c3_0 hDx); (have d1 := c3_1 hDx); (have d2 := c3_2 hDx); (have dl := blk_lt hDx); (replace HCc := Lib.hid (HCc.out.below (below_step (by first | exact Below.refl _ _ | exact below_alloc (Below.refl _ _) _) hb))); (replace HDd := Lib.hid (HDd.out.below (below_step (by first | exact Below.refl _ _ | exact below_alloc (Below.refl _ _) _) hb))); clear hb))
  have M8 := Lib.hid trivial
  go_upto_region 17 with (first
    | (go_at_call 29; (have M := M8); clear M M8; refine (get_c HF.out ks _ _ _ _ _ _ _ _ _ _ (HR.out.below hB) (Kd.C_below H5.out hB) hc5).mono ?_; rintro e w10 ⟨rfl, hb⟩; rw [← HVX.out, ← HEX.out]; (replace hB := below_step (by first | exact hB | exact below_alloc hB _ | exact below_alloc (below_alloc hB _) _) hb); (replace hA := blk_below (by first | exact hA | exact blk_alloc hA _ | exact blk_alloc (blk_alloc hA _) _) hb); (try clear a0 a1 a2 al); (have a0 := c3_0 hA); (have a1 := c3_1 hA); (have a2 := c3_2 hA); (have al := blk_lt hA); (replace hCx := blk_below (by first | exact hCx | exact blk_alloc hCx _ | exact blk_alloc (blk_alloc hCx _) _) hb); (try clear y0 y1 y2 yl); (have y0 := c3_0 hCx); (have y1 := c3_1 hCx); (have y2 := c3_2 hCx); (have yl := blk_lt hCx); (replace hDx := blk_below (by first | exact hDx | exact blk_alloc hDx _ | exact blk_alloc (blk_alloc hDx _) _) hb); (try clear d0 d1 d2 dl); (have d0 := c3_0 hDx); (have d1 := c3_1 hDx); (have d2 := c3_2 hDx); (have dl := blk_lt hDx); (replace HCc := Lib.hid (HCc.out.below (below_step (by first | exact Below.refl _ _ | exact below_alloc (Below.refl _ _) _) hb))); (replace HDd := Lib.hid (HDd.out.below (below_step (by first | exact Below.refl _ _ | exact below_alloc (Below.refl _ _) _) hb))); (have M9 := Lib.hid trivial); clear hb)
    | (go_at_call 29; (have M := M9); clear M M9; refine (get_c (fine_res (fine_res HF.out H1.out HLO.out) H2.out HL21.out) ks _ _ _ _ _ _ _ _ _ _ (HCc.out.below (by first | exact Below.refl _ _ | exact below_alloc (Below.refl _ _) _)) (Kd.C_below H5.out (by first | exact hB | exact below_alloc hB _ | exact below_alloc (below_alloc hB _) _)) hc5).mono ?_; rintro e w11 ⟨rfl, hb⟩; rw [← HVY.out, ← HEY.out]; (replace hB := below_step (by first | exact hB | exact below_alloc hB _ | exact below_alloc (below_alloc hB _) _) hb); (replace hA := blk_below (by first | exact hA | exact blk_alloc hA _ | exact blk_alloc (blk_alloc hA _) _) hb); (try clear a0 a1 a2 al); (have a0 := c3_0 hA); (have a1 := c3_1 hA); (have a2 := c3_2 hA); (have al := blk_lt hA); (replace hCx := blk_below (by first | exact hCx | exact blk_alloc hCx _ | exact blk_alloc (blk_alloc hCx _) _) hb); (try clear y0 y1 y2 yl); (have y0 := c3_0 hCx); (have y1 := c3_1 hCx); (have y2 := c3_2 hCx); (have yl := blk_lt hCx); (replace hDx := blk_below (by first | exact hDx | exact blk_alloc hDx _ | exact blk_alloc (blk_alloc hDx _) _) hb); (try clear d0 d1 d2 dl); (have d0 := c3_0 hDx); (have d1 := c3_1 hDx); (have d2 := c3_2 hDx); (have dl := blk_lt hDx); (have hXx := blk_below (heap_alloc_new _ _) hb); (replace HCc := Lib.hid (HCc.out.below (below_step (by first | exact Below.refl _ _ | exact below_alloc (Below.refl _ _) _) hb))); (replace HDd := Lib.hid (HDd.out.below (below_step (by first | exact Below.refl _ _ | exact below_alloc (Below.refl _ _) _) hb))); clear hb))
  have hz := below_alloc (Below.refl w11.heap.size w11) (.cells #[.int .i64 vy.f0, .int .i64 vy.f1, .int .i64 vy.f2.f0, .int .i64 vy.f2.f1, .bool vy.f3] 59)
  replace hA := blk_below hA hz
  replace hCx := blk_below hCx hz
  replace hDx := blk_below hDx hz
  replace hXx := blk_below hXx hz
  have hYy := heap_alloc_new w11 (.cells #[.int .i64 vy.f0, .int .i64 vy.f1, .int .i64 vy.f2.f0, .int .i64 vy.f2.f1, .bool vy.f3] 59)
  replace HCc := Lib.hid (HCc.out.below hz)
  replace HDd := Lib.hid (HDd.out.below hz)
  replace hB := below_step hB hz
  clear hz a0 a1 a2 al y0 y1 y2 yl d0 d1 d2 dl
  generalize (w11.alloc (.cells #[.int .i64 vy.f0, .int .i64 vy.f1, .int .i64 vy.f2.f0, .int .i64 vy.f2.f1, .bool vy.f3] 59)) = W1 at *
  generalize w11.heap.size = gY at *
  generalize w10.heap.size = gX at *
  generalize w6.heap.size = gC at *
  generalize w7.heap.size = gD at *
  obtain ⟨gA, hgA⟩ : ∃ g, g = w.heap.size := ⟨_, rfl⟩
  rw [← hgA] at hA ⊢
  have HgA := Lib.hid hgA
  clear hgA
  go_cut [122] (fun v wc => v = .bool (decide (ex = 0 ∧ ey = 0)) ∧ wc = W1)
  case first =>
    by_cases hx : ex = 0
    · have b1 : (ex == 0) = true := beq_iff_eq.mpr hx
      by_cases hy : ey = 0
      · have b2 : (ey == 0) = true := beq_iff_eq.mpr hy
        go_wp2
        go_meet
        case rel => exact ⟨by rw [decide_eq_true (show ex = 0 ∧ ey = 0 from ⟨hx, hy⟩)], rfl⟩
      · have b2 : (ey == 0) = false := beq_eq_false_iff_ne.mpr hy
        go_wp2
        go_meet
        case rel => exact ⟨by rw [decide_eq_false (show ¬ (ex = 0 ∧ ey = 0) from fun h => hy h.2)], rfl⟩
    · have b1 : (ex == 0) = false := beq_eq_false_iff_ne.mpr hx
      go_wp2
      go_meet
      case rel => exact ⟨by rw [decide_eq_false (show ¬ (ex = 0 ∧ ey = 0) from fun h => hx h.1)], rfl⟩
  case rest =>
    obtain ⟨rfl, rfl⟩ := hcut
    go_upto_if 122 with (fail)
    go_cut [] (fun wc => Hid (Below w.heap.size w wc) ∧ Hid (wc.heap[gA]? = some (.cells #[.int .i64 t, .slice A1 n c1, .slice A2 m c2] 50)) ∧ Hid (wc.heap[gC]? = some (.cells #[.int .i64 t, .slice B5 n x5, .slice B6 k6 x6] 50)) ∧ Hid (wc.heap[gD]? = some (.cells #[.int .i64 t, .slice B7 n x7, .slice B8 k8 x8] 50)) ∧ Hid (wc.heap[gY]? = some (.cells #[.int .i64 vy.f0, .int .i64 vy.f1, .int .i64 vy.f2.f0, .int .i64 vy.f2.f1, .bool vy.f3] 59)) ∧ Hid (Arr wc B5 n x5 two B6 k6 x6 (resL t one (resL t ds es one) two)) ∧ Hid (Arr wc B7 n x7 two B8 k8 x8 (resL t ds es two)))
    case first =>
      by_cases hz : ex = 0 ∧ ey = 0
      · rw [decide_eq_true hz]
        have hv := HE.out hz.2
        have HZ := Lib.hid hz
        clear hz
        have ny : gY ≠ wc.heap.size := by have := blk_lt hYy; omega
        have ny2 : wc.heap.size ≠ gY := ny.symm
        have nx : gX ≠ wc.heap.size := by have := blk_lt hXx; omega
        have nx2 : wc.heap.size ≠ gX := nx.symm
        have a0 := c3_0 hA
        have al := blk_lt hA
        have key : ∀ Wf, Below wc.heap.size wc Wf → Hid (Below w.heap.size w Wf) ∧ Hid (Wf.heap[gA]? = some (.cells #[.int .i64 t, .slice A1 n c1, .slice A2 m c2] 50)) ∧ Hid (Wf.heap[gC]? = some (.cells #[.int .i64 t, .slice B5 n x5, .slice B6 k6 x6] 50)) ∧ Hid (Wf.heap[gD]? = some (.cells #[.int .i64 t, .slice B7 n x7, .slice B8 k8 x8] 50)) ∧ Hid (Wf.heap[gY]? = some (.cells #[.int .i64 vy.f0, .int .i64 vy.f1, .int .i64 vy.f2.f0, .int .i64 vy.f2.f1, .bool vy.f3] 59)) ∧ Hid (Arr Wf B5 n x5 two B6 k6 x6 (resL t one (resL t ds es one) two)) ∧ Hid (Arr Wf B7 n x7 two B8 k8 x8 (resL t ds es two)) :=
          fun Wf hz => ⟨Lib.hid (below_step hB hz), Lib.hid (blk_below hA hz), Lib.hid (blk_below hCx hz), Lib.hid (blk_below hDx hz), Lib.hid (blk_below hYy hz), Lib.hid (HCc.out.below hz), Lib.hid (HDd.out.below hz)⟩
        have KEY := Lib.hid key
        clear key
        by_cases hbI : inB one ks = true
        · rw [if_pos ⟨HZ.out.1, hbI⟩] at hv
          subst hv
          go_wp2_with (first | (go_at_call 24; refine (inb_c H1.out ks _ _ _ _ _ _ _ (Kd.C_below H3.out (below_alloc hB _)) hc3 (Kd.C_below H5.out (below_alloc hB _)) hc5).mono ?_; rintro e w12 ⟨rfl, hb⟩; rw [hbI]; (have hb2 := below_step (below_alloc (Below.refl wc.heap.size wc) _) hb); (have hZ := blk_below (heap_alloc_new _ _) hb); (obtain ⟨z0, z1, z2, z3, z4, zl⟩ := c5_of hZ); (have f0 := blk_frozen hZ 0); (have f1 := blk_frozen hZ 1); (have f2 := blk_frozen hZ 2); (have f3 := blk_frozen hZ 3); (have f4 := blk_frozen hZ 4); (obtain ⟨x0, xx1, xx2, xx3, xx4, xl⟩ := c5_of (blk_below hXx hb2)); (obtain ⟨y0, y1, y2, y3, y4, yl⟩ := c5_of (blk_below hYy hb2)); clear a0 al hZ))
          go_meet
          case rel => exact KEY.out _ (by first | exact hb2 | exact below_set (below_set (below_set (below_set (below_set hb2 (Nat.le_refl _)) (Nat.le_refl _)) (Nat.le_refl _)) (Nat.le_refl _)) (Nat.le_refl _))
        · rw [if_neg (fun h => hbI h.2)] at hv
          subst hv
          simp only [z59t, z57] at hYy
          replace hbI : inB one ks = false := by simpa using hbI
          go_wp2_with (first | (go_at_call 24; refine (inb_c H1.out ks _ _ _ _ _ _ _ (Kd.C_below H3.out (below_alloc hB _)) hc3 (Kd.C_below H5.out (below_alloc hB _)) hc5).mono ?_; rintro e w12 ⟨rfl, hb⟩; rw [hbI]; (have hb2 := below_step (below_alloc (Below.refl wc.heap.size wc) _) hb); (have hZ := blk_below (heap_alloc_new _ _) hb); (obtain ⟨z0, z1, z2, z3, z4, zl⟩ := c5_of hZ); (have f0 := blk_frozen hZ 0); (have f1 := blk_frozen hZ 1); (have f2 := blk_frozen hZ 2); (have f3 := blk_frozen hZ 3); (have f4 := blk_frozen hZ 4); (obtain ⟨x0, xx1, xx2, xx3, xx4, xl⟩ := c5_of (blk_below hXx hb2)); (obtain ⟨y0, y1, y2, y3, y4, yl⟩ := c5_of (blk_below hYy hb2)); clear a0 al hZ))
          go_meet
          case rel => exact KEY.out _ (by first | exact hb2 | exact below_set (below_set (below_set (below_set (below_set hb2 (Nat.le_refl _)) (Nat.le_refl _)) (Nat.le_refl _)) (Nat.le_refl _)) (Nat.le_refl _))
      · rw [decide_eq_false hz]
        go_wp2
        go_meet
        case rel => exact ⟨Lib.hid hB, Lib.hid hA, Lib.hid hCx, Lib.hid hDx, Lib.hid hYy, HCc, HDd⟩
    case rest =>
      clear hA hCx hDx hXx hYy hB HCc HDd
      obtain ⟨HB, HA, HCx, HDx, HYy, HCc, HDd⟩ := hcut
      go_upto_region 23 with (fail)
      go_cut [145] (fun v w' => v = .bool false ∧ w' = wc)
      case first =>
        have a0 := c3_0 HA.out
        have al := blk_lt HA.out
        by_cases hx : ex = 0
        · have b1 : (ex != 0) = false := by simp [hx]
          clear hx
          go_wp2
          go_meet
          case rel => exact ⟨rfl, rfl⟩
        · have b1 : (ex != 0) = true := by simp [hx]
          by_cases hy : ey = 0
          · have b2 : (ey == 0) = true := by simp [hy]
            have hv := HE.out hy
            rw [if_neg (fun h => hx h.1)] at hv
            have hYy := HYy.out
            rw [hv] at hYy
            simp only [z59t, z57] at hYy
            obtain ⟨y0, y1, y2, y3, y4, yl⟩ := c5_of hYy
            clear hx hy hYy hv
            go_wp2
            go_meet
            case rel => exact ⟨rfl, rfl⟩
          · have b2 : (ey == 0) = false := by simp [hy]
            clear hx hy
            go_wp2
            go_meet
            case rel => exact ⟨rfl, rfl⟩
      case rest =>
        obtain ⟨rfl, rfl⟩ := hcut
        have a1 := c3_1 HA.out
        have al := blk_lt HA.out
        go_wp2_with (first | (go_at_call 21; refine (common_c ds two _ _ _ _ _ _ (Kd.C_below HR.out.1 HB.out) HR.out.2.1 (Kd.C_below H4.out HB.out) hc4).mono ?_; rintro e w13 ⟨G, g, k, rfl, ⟨hkg, hG⟩, hb⟩; (replace HB := Lib.hid (below_step HB.out hb)); (replace HCx := Lib.hid (blk_below HCx.out hb)); (replace HDx := Lib.hid (blk_below HDx.out hb)); (replace HCc := Lib.hid (HCc.out.below hb)); (replace HDd := Lib.hid (HDd.out.below hb)); (have HG := Lib.hid hG); (have H3b := Lib.hid (Kd.C_below H3.out HB.out)); clear hG hb a1 al HA HYy))
        obtain ⟨cm, hcm⟩ : ∃ l, l = (commonF ds two).1 := ⟨_, rfl⟩
        obtain ⟨ec, hec⟩ : ∃ x, x = (commonF ds two).2 := ⟨_, rfl⟩
        have hcl := common_len HF.out.2.1 H2.out HLT.out
        rw [← hcm, ← hec] at hcl
        rw [← hcm] at HG
        rw [← hec]
        have hlk : cm.length = k := HG.out.1
        have hln : one.length = n := H3.out.1
        have hldn : ds.length = n := HR.out.1.1
        rw [hlk, hldn] at hcl
        have HCL := Lib.hid hcl
        have HCM := Lib.hid hcm
        have HEC := Lib.hid hec
        have HLN := Lib.hid hln
        clear hcl hcm hec hlk hln hldn
        clear q1 q2 q3 q4 q5 q6
        go_loopw [23, 24] (fun vi vk wr => ∃ j : Nat, j ≤ k ∧ j ≤ n ∧ vk = .int .i64 j ∧ vi = .bool (insK one cm j) ∧ Hid (Below w13.heap.size w13 wr)) (fun _ vk _ => n - (intOf vk).toNat)
        case atStart => exact ⟨0, Nat.zero_le _, Nat.zero_le _, rfl, rfl, Lib.hid (Below.refl _ _)⟩
        case round =>
          obtain ⟨j, hjk, hjn, rfl, rfl, HW⟩ := hrel
          by_cases hlt : j < k ∧ j < n
          · obtain ⟨hk, hn⟩ := hlt
            have hki : (j : Int) < (k : Int) := by omega
            have hni : (j : Int) < (n : Int) := by omega
            have hj0 : (0 : Int) ≤ (j : Int) := by omega
            obtain ⟨ad, e1, p0, p1⟩ := at_T40 (Kd.C_below H3b.out HW.out) (j : Int) hj0 hni
            obtain ⟨ad2, e2, r0, r1⟩ := at_T40 (Kd.C_below HG.out HW.out) (j : Int) hj0 hki
            cases e1
            cases e2
            simp only [Int.toNat_natCast] at p0 p1 r0 r1
            obtain ⟨gb, go, hadd⟩ := addr_of p0
            rw [hadd] at p0 p1
            obtain ⟨gb2, go2, hadd2⟩ := addr_of r0
            rw [hadd2] at r0 r1
            have hIK : insK one cm (j + 1) = (insK one cm j && (decide ((rd_T40 one (j : Int)).f0 ≤ (rd_T40 cm (j : Int)).f0) && decide ((rd_T40 cm (j : Int)).f1 ≤ (rd_T40 one (j : Int)).f1))) := rfl
            have HIK := Lib.hid hIK
            clear hIK
            generalize rd_T40 one (j : Int) = d at *
            generalize rd_T40 cm (j : Int) = e at *
            have hw : wrap64 ((j : Int) + 1) = ((j + 1 : Nat) : Int) := wrap_next (by omega)
            go_wp2
            obtain ⟨vi, hvi⟩ : ∃ b, b = insK one cm j := ⟨_, rfl⟩
            rw [← hvi] at HIK ⊢
            clear hvi
            cases vi with
            | false =>
              go_quiet (fail)
              go_wp2
              go_roundw
              case rel => exact ⟨j + 1, by omega, by omega, by first | rfl | (push_cast; rfl), by rw [HIK.out, Bool.false_and], Lib.hid (by first | exact pw_below_drewN HW.out _ | exact below_drew HW.out | exact HW.out)⟩
              case measure => simp [intOf, hw]; omega
            | true =>
              by_cases u1 : d.f0 ≤ e.f0
              · have v1 : decide (d.f0 ≤ e.f0) = true := decide_eq_true u1
                by_cases u2 : e.f1 ≤ d.f1
                · have v2 : decide (e.f1 ≤ d.f1) = true := decide_eq_true u2
                  clear u1 u2
                  go_quiet (fail)
                  go_wp2
                  go_roundw
                  case rel => exact ⟨j + 1, by omega, by omega, by first | rfl | (push_cast; rfl), by rw [HIK.out, v1, v2]; first | rfl | simp [v1, v2], Lib.hid (by first | exact pw_below_drewN HW.out _ | exact below_drew HW.out | exact HW.out)⟩
                  case measure => simp [intOf, hw]; omega
                · have v2 : decide (e.f1 ≤ d.f1) = false := decide_eq_false u2
                  clear u1 u2
                  go_quiet (fail)
                  go_wp2
                  go_roundw
                  case rel => exact ⟨j + 1, by omega, by omega, by first | rfl | (push_cast; rfl), by rw [HIK.out, v1, v2]; first | rfl | simp [v1, v2], Lib.hid (by first | exact pw_below_drewN HW.out _ | exact below_drew HW.out | exact HW.out)⟩
                  case measure => simp [intOf, hw]; omega
              · have v1 : decide (d.f0 ≤ e.f0) = false := decide_eq_false u1
                clear u1
                go_quiet (fail)
                go_wp2
                go_roundw
                case rel => exact ⟨j + 1, by omega, by omega, by first | rfl | (push_cast; rfl), by rw [HIK.out, v1]; first | rfl | simp [v1], Lib.hid (by first | exact pw_below_drewN HW.out _ | exact below_drew HW.out | exact HW.out)⟩
                case measure => simp [intOf, hw]; omega
          · have hje : j = k := by
              have := HCL.out
              omega
            subst hje
            have HEND := Lib.hid (own_end HF.out.2.1 H2.out HLO.out HLT.out)
            rw [← HCM.out, ← HEC.out, HLN.out] at HEND
            have hjj : ¬ ((j : Int) < (j : Int)) := by omega
            obtain ⟨vi, hvi⟩ : ∃ b, b = insK one cm j := ⟨_, rfl⟩
            rw [← hvi]
            have HVI := Lib.hid hvi
            clear hvi
            rcases HCL.out with ⟨he, hk⟩ | ⟨he, hk⟩
            · have b1 : (ec == 0) = true := by simp [he]
              cases vi with
              | false =>
                clear he
                go_wp2_with (first | (go_at_call 11; refine (manorboylaw08_sanity.calls true _ rfl).mono ?_; rintro e w20 ⟨rfl, hb⟩; (have hW9 := below_step HW.out hb); (have hC9 := blk_below HCx.out hW9); (have hD9 := blk_below HDx.out hW9); (have m0 := c3_0 hC9); (have m1 := c3_1 hC9); (have m2 := c3_2 hC9); (have ml := blk_lt hC9); (have o0 := c3_0 hD9); (have o1 := c3_1 hD9); (have o2 := c3_2 hD9); (have ol := blk_lt hD9); (have HW9 := Lib.hid hW9); clear hb hW9 hC9 hD9))
                go_ret
                exact ⟨rfl, below_step HB.out HW9.out⟩
              | true =>
                have HEQ : Hid (resL t ds es two = resL t one (resL t ds es one) two) := Lib.hid (resL_two HF.out H1.out H2.out HLO.out HLT.out (HEND.out (fun _ => by rw [← hk]; exact HVI.out.symm))).symm
                clear he
                go_wp2_with (first | (go_at_call 11; refine (manorboylaw08_sanity.calls true _ rfl).mono ?_; rintro e w20 ⟨rfl, hb⟩; (have hW9 := below_step HW.out hb); (have hC9 := blk_below HCx.out hW9); (have hD9 := blk_below HDx.out hW9); (have m0 := c3_0 hC9); (have m1 := c3_1 hC9); (have m2 := c3_2 hC9); (have ml := blk_lt hC9); (have o0 := c3_0 hD9); (have o1 := c3_1 hD9); (have o2 := c3_2 hD9); (have ol := blk_lt hD9); (have HW9 := Lib.hid hW9); clear hb hW9 hC9 hD9) | (go_at_call 28; refine (same_c2 (fine_res (fine_res HF.out H1.out HLO.out) H2.out HL21.out) HEQ.out _ _ _ _ _ _ _ _ _ _ _ _ _ (HCc.out.below HW9.out) (HDd.out.below HW9.out)).mono ?_; rintro e w21 ⟨rfl, hb⟩; (have hW8 := below_step HW9.out hb); (have HW8 := Lib.hid hW8); clear hb hW8))
                go_ret
                exact ⟨rfl, below_step HB.out HW8.out⟩
            · have b1 : (ec == 0) = false := by simp [he]
              have HEQ : Hid (resL t ds es two = resL t one (resL t ds es one) two) := Lib.hid (resL_two HF.out H1.out H2.out HLO.out HLT.out (HEND.out (fun h => by omega))).symm
              clear he
              go_wp2_with (first | (go_at_call 11; refine (manorboylaw08_sanity.calls true _ rfl).mono ?_; rintro e w20 ⟨rfl, hb⟩; (have hW9 := below_step HW.out hb); (have hC9 := blk_below HCx.out hW9); (have hD9 := blk_below HDx.out hW9); (have m0 := c3_0 hC9); (have m1 := c3_1 hC9); (have m2 := c3_2 hC9); (have ml := blk_lt hC9); (have o0 := c3_0 hD9); (have o1 := c3_1 hD9); (have o2 := c3_2 hD9); (have ol := blk_lt hD9); (have HW9 := Lib.hid hW9); clear hb hW9 hC9 hD9) | (go_at_call 28; refine (same_c2 (fine_res (fine_res HF.out H1.out HLO.out) H2.out HL21.out) HEQ.out _ _ _ _ _ _ _ _ _ _ _ _ _ (HCc.out.below HW9.out) (HDd.out.below HW9.out)).mono ?_; rintro e w21 ⟨rfl, hb⟩; (have hW8 := below_step HW9.out hb); (have HW8 := Lib.hid hW8); clear hb hW8))
              go_ret
              exact ⟨rfl, below_step HB.out HW8.out⟩
end Go.Proofs.Ytcjjmhgboibbgaa.Q

namespace Go.Proofs.Ytcjjmhgboibbgaa.Q
open Go.RowKit Go.Shelf Go.Proofs.Rf Go.Proofs.YtcjjmhgboibbgaaW.PrintWords Go.Proofs.YtcjjmhgboibbgaaW.PrintLast Go.Proofs.YtcjjmhgboibbgaaW.PrintMore
set_option linter.unusedVariables false
set_option linter.unusedSimpArgs false
set_option maxRecDepth 100000
attribute [local go_sem high] eqA40 eqA59
set_option maxHeartbeats 40000000 in
theorem own_no1 (t : Int) (ds one two : List S40) (es : List S59) (ks : List Int) (A1 A2 A3 A4 A5 : Option Addr) (c1 c2 c3 c4 c5 n m n3 n4 n5 : Nat) (w : World)
    (hr : Arr w A1 n c1 ds A2 m c2 es) (h3 : Kd.C k40 w A3 n3 one) (hc3 : n3 ≤ c3) (h4 : Kd.C k40 w A4 n4 two) (hc4 : n4 ≤ c4) (h5 : Kd.C (Kd.int .i64) w A5 n5 ks) (hc5 : n5 ≤ c5)
    (F : Fine t ds es) (hone : errN n one ≠ 0) (hm : m ≤ 1010) (hn3 : n3 ≤ 6) (hn4 : n4 ≤ 6) (hn5 : n5 ≤ 6) :
    Calls Try.prog 7 #[.agg #[.int .i64 t, .slice A1 n c1, .slice A2 m c2], .slice A3 n3 c3, .slice A4 n4 c4, .slice A5 n5 c5] w (SanPost w) := by
  have hn6 : n ≤ 6 := by have := (errOf_zero F.2.1).2.2.2.2; have := hr.1.1; omega
  have q1 : (6 : Int) < (n3 : Int) ↔ False := by simp; omega
  have q2 : (6 : Int) < (n4 : Int) ↔ False := by simp; omega
  have q4 : (6 : Int) < (n5 : Int) ↔ False := by simp; omega
  have q5 : decide (n ≤ 6) = true := decide_eq_true hn6
  have q6 : decide (m ≤ 1010) = true := decide_eq_true hm
  have q7 : (errN n one != 0) = true := by simpa using hone
  have HR := Lib.hid hr
  have H3 := Lib.hid h3
  have H4 := Lib.hid h4
  have H5 := Lib.hid h5
  have HF := Lib.hid F
  have H1 := Lib.hid hone
  clear hr h3 h4 h5 F hone hm hn5 hn6 hn3 hn4
  have hB := Below.refl w.heap.size w
  have M1 := Lib.hid trivial
  go_enter Try.func7, Try.ntmps7
  go_wp2_with (first
    | (go_at_call 25; refine (small_c t _ _ _ _ _ _ ds es _ (HR.out.below (below_alloc (Below.refl _ _) _))).mono ?_; rintro e w1 ⟨rfl, hb⟩; rw [q5, q6]; (replace hB := below_step (by first | exact hB | exact below_alloc hB _ | exact below_alloc (below_alloc hB _) _) hb); (have hA := blk_below (heap_alloc_new _ _) hb); (have a0 := c3_0 hA); (have a1 := c3_1 hA); (have a2 := c3_2 hA); (have al := blk_lt hA); clear hb)
    | (go_at_call 26; (have M := M1); clear M; refine (ck_c HF.out _ _ _ _ _ _ _ (HR.out.below hB)).mono ?_; rintro e w2 ⟨rfl, hb⟩; (replace hB := below_step (by first | exact hB | exact below_alloc hB _ | exact below_alloc (below_alloc hB _) _) hb); (replace hA := blk_below (by first | exact hA | exact blk_alloc hA _ | exact blk_alloc (blk_alloc hA _) _) hb); (try clear a0 a1 a2 al); (have a0 := c3_0 hA); (have a1 := c3_1 hA); (have a2 := c3_2 hA); (have al := blk_lt hA); clear hb)
    | (go_at_call 27; (have M := M1); clear M M1; refine (rz_ok HF.out HF.out.2.1 rfl _ _ _ _ _ _ _ _ _ (HR.out.below hB) (Kd.C_below HR.out.1 hB) HR.out.2.1).mono ?_; rintro e w3 ⟨B1, x1, B2, x2, k2, rfl, hS, hb⟩; rw [resL_self HF.out] at hS; (replace hB := below_step (by first | exact hB | exact below_alloc hB _ | exact below_alloc (below_alloc hB _) _) hb); (replace hA := blk_below (by first | exact hA | exact blk_alloc hA _ | exact blk_alloc (blk_alloc hA _) _) hb); (try clear a0 a1 a2 al); (have a0 := c3_0 hA); (have a1 := c3_1 hA); (have a2 := c3_2 hA); (have al := blk_lt hA); (have HS := Lib.hid hS); (have M2 := Lib.hid trivial); clear hb hS)
    | (go_at_call 28; (have M := M2); clear M M2; refine (same_c2 HF.out rfl _ _ _ _ _ _ _ _ _ _ _ _ _ (HS.out.below (by first | exact Below.refl _ _ | exact below_alloc (Below.refl _ _) _)) (HR.out.below (by first | exact hB | exact below_alloc hB _ | exact below_alloc (below_alloc hB _) _))).mono ?_; rintro e w4 ⟨rfl, hb⟩; (replace hB := below_step (by first | exact hB | exact below_alloc hB _ | exact below_alloc (below_alloc hB _) _) hb); (replace hA := blk_below (by first | exact hA | exact blk_alloc hA _ | exact blk_alloc (blk_alloc hA _) _) hb); (try clear a0 a1 a2 al); (have a0 := c3_0 hA); (have a1 := c3_1 hA); (have a2 := c3_2 hA); (have al := blk_lt hA); (have M3 := Lib.hid trivial); clear hb HS)
    | (go_at_call 27; (have M := M3); clear M M3; refine (rz_no HF.out _ _ _ _ _ _ _ _ _ H1.out _ (HR.out.below (by first | exact hB | exact below_alloc hB _ | exact below_alloc (below_alloc hB _) _)) (Kd.C_below H3.out (by first | exact hB | exact below_alloc hB _ | exact below_alloc (below_alloc hB _) _)) hc3).mono ?_; rintro e w5 ⟨rfl, hb⟩; (replace hB := below_step (by first | exact hB | exact below_alloc hB _ | exact below_alloc (below_alloc hB _) _) hb); clear hb)
    | (go_at_call 11; refine (manorboylaw08_sanity.calls true _ rfl).mono ?_; rintro e w20 ⟨rfl, hb⟩; (replace hB := below_step (by first | exact hB | exact below_alloc hB _ | exact below_alloc (below_alloc hB _) _) hb); clear hb))
  go_ret
  exact ⟨rfl, hB⟩
set_option maxHeartbeats 40000000 in
theorem own_no2 (t : Int) (ds one two : List S40) (es : List S59) (ks : List Int) (A1 A2 A3 A4 A5 : Option Addr) (c1 c2 c3 c4 c5 n m n4 n5 : Nat) (w : World)
    (hr : Arr w A1 n c1 ds A2 m c2 es) (h3 : Kd.C k40 w A3 n one) (hc3 : n ≤ c3) (h4 : Kd.C k40 w A4 n4 two) (hc4 : n4 ≤ c4) (h5 : Kd.C (Kd.int .i64) w A5 n5 ks) (hc5 : n5 ≤ c5)
    (F : Fine t ds es) (hone : errOf one = 0) (htwo : errN n two ≠ 0) (hm : m ≤ 1010) (hn4 : n4 ≤ 6) (hn5 : n5 ≤ 6) :
    Calls Try.prog 7 #[.agg #[.int .i64 t, .slice A1 n c1, .slice A2 m c2], .slice A3 n c3, .slice A4 n4 c4, .slice A5 n5 c5] w (SanPost w) := by
  have hn6 : n ≤ 6 := by have := (errOf_zero F.2.1).2.2.2.2; have := hr.1.1; omega
  have q1 : (6 : Int) < (n : Int) ↔ False := by simp; omega
  have q2 : (6 : Int) < (n4 : Int) ↔ False := by simp; omega
  have q4 : (6 : Int) < (n5 : Int) ↔ False := by simp; omega
  have q5 : decide (n ≤ 6) = true := decide_eq_true hn6
  have q6 : decide (m ≤ 1010) = true := decide_eq_true hm
  have q7 : (errN n two != 0) = true := by simpa using htwo
  have hlo : one.length = ds.length := by rw [h3.1, hr.1.1]
  have HLO := Lib.hid hlo
  have H2 := Lib.hid htwo
  have q8 : (errN n two == errN n two) = true := by simp
  have HR := Lib.hid hr
  have H3 := Lib.hid h3
  have H4 := Lib.hid h4
  have H5 := Lib.hid h5
  have HF := Lib.hid F
  have H1 := Lib.hid hone
  clear hr h3 h4 h5 F hone htwo hlo hm hn5 hn6 hn4
  have hB := Below.refl w.heap.size w
  have M1 := Lib.hid trivial
  go_enter Try.func7, Try.ntmps7
  go_wp2_with (first
    | (go_at_call 25; refine (small_c t _ _ _ _ _ _ ds es _ (HR.out.below (below_alloc (Below.refl _ _) _))).mono ?_; rintro e w1 ⟨rfl, hb⟩; rw [q5, q6]; (replace hB := below_step (by first | exact hB | exact below_alloc hB _ | exact below_alloc (below_alloc hB _) _) hb); (have hA := blk_below (heap_alloc_new _ _) hb); (have a0 := c3_0 hA); (have a1 := c3_1 hA); (have a2 := c3_2 hA); (have al := blk_lt hA); clear hb)
    | (go_at_call 26; (have M := M1); clear M; refine (ck_c HF.out _ _ _ _ _ _ _ (HR.out.below hB)).mono ?_; rintro e w2 ⟨rfl, hb⟩; (replace hB := below_step (by first | exact hB | exact below_alloc hB _ | exact below_alloc (below_alloc hB _) _) hb); (replace hA := blk_below (by first | exact hA | exact blk_alloc hA _ | exact blk_alloc (blk_alloc hA _) _) hb); (try clear a0 a1 a2 al); (have a0 := c3_0 hA); (have a1 := c3_1 hA); (have a2 := c3_2 hA); (have al := blk_lt hA); clear hb)
    | (go_at_call 27; (have M := M1); clear M M1; refine (rz_ok HF.out HF.out.2.1 rfl _ _ _ _ _ _ _ _ _ (HR.out.below hB) (Kd.C_below HR.out.1 hB) HR.out.2.1).mono ?_; rintro e w3 ⟨B1, x1, B2, x2, k2, rfl, hS, hb⟩; rw [resL_self HF.out] at hS; (replace hB := below_step (by first | exact hB | exact below_alloc hB _ | exact below_alloc (below_alloc hB _) _) hb); (replace hA := blk_below (by first | exact hA | exact blk_alloc hA _ | exact blk_alloc (blk_alloc hA _) _) hb); (try clear a0 a1 a2 al); (have a0 := c3_0 hA); (have a1 := c3_1 hA); (have a2 := c3_2 hA); (have al := blk_lt hA); (have HS := Lib.hid hS); (have M2 := Lib.hid trivial); clear hb hS)
    | (go_at_call 28; (have M := M2); clear M M2; refine (same_c2 HF.out rfl _ _ _ _ _ _ _ _ _ _ _ _ _ (HS.out.below (by first | exact Below.refl _ _ | exact below_alloc (Below.refl _ _) _)) (HR.out.below (by first | exact hB | exact below_alloc hB _ | exact below_alloc (below_alloc hB _) _))).mono ?_; rintro e w4 ⟨rfl, hb⟩; (replace hB := below_step (by first | exact hB | exact below_alloc hB _ | exact below_alloc (below_alloc hB _) _) hb); (replace hA := blk_below (by first | exact hA | exact blk_alloc hA _ | exact blk_alloc (blk_alloc hA _) _) hb); (try clear a0 a1 a2 al); (have a0 := c3_0 hA); (have a1 := c3_1 hA); (have a2 := c3_2 hA); (have al := blk_lt hA); (have M3 := Lib.hid trivial); clear hb HS)
    | (go_at_call 27; (have M := M3); clear M M3; refine (rz_ok HF.out H1.out HLO.out _ _ _ _ _ _ _ _ _ (HR.out.below (by first | exact hB | exact below_alloc hB _ | exact below_alloc (below_alloc hB _) _)) (Kd.C_below H3.out (by first | exact hB | exact below_alloc hB _ | exact below_alloc (below_alloc hB _) _)) hc3).mono ?_; rintro e w5 ⟨B3, x3, B4, x4, k4, rfl, hS, hb⟩; (replace hB := below_step (by first | exact hB | exact below_alloc hB _ | exact below_alloc (below_alloc hB _) _) hb); (replace hA := blk_below (by first | exact hA | exact blk_alloc hA _ | exact blk_alloc (blk_alloc hA _) _) hb); (try clear a0 a1 a2 al); (have a0 := c3_0 hA); (have a1 := c3_1 hA); (have a2 := c3_2 hA); (have al := blk_lt hA); (have HBb := Lib.hid hS); (have M4 := Lib.hid trivial); clear hb hS)
    | (go_at_call 27; (have M := M4); clear M M4; refine (rz_no (fine_res HF.out H1.out HLO.out) _ _ _ _ _ _ _ _ _ H2.out _ (HBb.out.below (by first | exact Below.refl _ _ | exact below_alloc (Below.refl _ _) _)) (Kd.C_below H4.out (by first | exact hB | exact below_alloc hB _ | exact below_alloc (below_alloc hB _) _)) hc4).mono ?_; rintro e w6 ⟨rfl, hb⟩; (replace hB := below_step (by first | exact hB | exact below_alloc hB _ | exact below_alloc (below_alloc hB _) _) hb); (replace hA := blk_below (by first | exact hA | exact blk_alloc hA _ | exact blk_alloc (blk_alloc hA _) _) hb); (try clear a0 a1 a2 al); (have a0 := c3_0 hA); (have a1 := c3_1 hA); (have a2 := c3_2 hA); (have al := blk_lt hA); (have M5 := Lib.hid trivial); clear hb HBb)
    | (go_at_call 27; (have M := M5); clear M M5; refine (rz_no HF.out _ _ _ _ _ _ _ _ _ H2.out _ (HR.out.below (by first | exact hB | exact below_alloc hB _ | exact below_alloc (below_alloc hB _) _)) (Kd.C_below H4.out (by first | exact hB | exact below_alloc hB _ | exact below_alloc (below_alloc hB _) _)) hc4).mono ?_; rintro e w7 ⟨rfl, hb⟩; (replace hB := below_step (by first | exact hB | exact below_alloc hB _ | exact below_alloc (below_alloc hB _) _) hb); clear hb)
    | (go_at_call 11; refine (manorboylaw08_sanity.calls true _ rfl).mono ?_; rintro e w20 ⟨rfl, hb⟩; (replace hB := below_step (by first | exact hB | exact below_alloc hB _ | exact below_alloc (below_alloc hB _) _) hb); clear hb))
  go_ret
  exact ⟨rfl, hB⟩
set_option maxHeartbeats 40000000 in
theorem own_bad (t : Int) (ds one two : List S40) (es : List S59) (ks : List Int) (A1 A2 A3 A4 A5 : Option Addr) (c1 c2 c3 c4 c5 n m n3 n4 n5 : Nat) (w : World)
    (hr : Arr w A1 n c1 ds A2 m c2 es) (hbad : ¬ (n ≤ 6 ∧ m ≤ 1010 ∧ n3 ≤ 6 ∧ n4 ≤ 6 ∧ n5 ≤ 6 ∧ Fine t ds es)) :
    Calls Try.prog 7 #[.agg #[.int .i64 t, .slice A1 n c1, .slice A2 m c2], .slice A3 n3 c3, .slice A4 n4 c4, .slice A5 n5 c5] w (SanPost w) := by
  obtain ⟨r, hrz, hck⟩ := ck_any t ds es
  have HR := Lib.hid hr
  have HK := Lib.hid hck
  clear hr hck
  have hB := Below.refl w.heap.size w
  obtain ⟨sm, hsm⟩ : ∃ b, b = (decide (n ≤ 6) && decide (m ≤ 1010)) := ⟨_, rfl⟩
  have HSM := Lib.hid hsm
  cases sm with
  | false =>
    clear hsm hbad hrz
    go_enter Try.func7, Try.ntmps7
    go_wp2_with (first
      | (go_at_call 25; refine (small_c t _ _ _ _ _ _ ds es _ (HR.out.below (below_alloc (Below.refl _ _) _))).mono ?_; rintro e w1 ⟨rfl, hb⟩; rw [← HSM.out]; (replace hB := below_step (by first | exact hB | exact below_alloc hB _ | exact below_alloc (below_alloc hB _) _) hb); (have hA := blk_below (heap_alloc_new _ _) hb); (have a0 := c3_0 hA); (have a1 := c3_1 hA); (have a2 := c3_2 hA); (have al := blk_lt hA); clear hb)
      | (go_at_call 11; refine (manorboylaw08_sanity.calls true _ rfl).mono ?_; rintro e w20 ⟨rfl, hb⟩; (replace hB := below_step (by first | exact hB | exact below_alloc hB _ | exact below_alloc (below_alloc hB _) _) hb); clear hb))
    go_ret
    exact ⟨rfl, hB⟩
  | true =>
    have hs2 : n ≤ 6 ∧ m ≤ 1010 := by simpa using hsm.symm
    clear hsm
    by_cases h3 : n3 ≤ 6
    · have q1 : (6 : Int) < (n3 : Int) ↔ False := by simp; omega
      by_cases h4 : n4 ≤ 6
      · have q2 : (6 : Int) < (n4 : Int) ↔ False := by simp; omega
        by_cases h5 : n5 ≤ 6
        · have q4 : (6 : Int) < (n5 : Int) ↔ False := by simp; omega
          have hr0 : r ≠ 0 := fun h => hbad ⟨hs2.1, hs2.2, h3, h4, h5, hrz.1 h⟩
          have q5 : (r != 0) = true := by simpa using hr0
          clear hbad hrz hr0 hs2 h3 h4 h5
          go_enter Try.func7, Try.ntmps7
          go_wp2_with (first
            | (go_at_call 25; refine (small_c t _ _ _ _ _ _ ds es _ (HR.out.below (below_alloc (Below.refl _ _) _))).mono ?_; rintro e w1 ⟨rfl, hb⟩; rw [← HSM.out]; (replace hB := below_step (by first | exact hB | exact below_alloc hB _ | exact below_alloc (below_alloc hB _) _) hb); (have hA := blk_below (heap_alloc_new _ _) hb); (have a0 := c3_0 hA); (have a1 := c3_1 hA); (have a2 := c3_2 hA); (have al := blk_lt hA); clear hb)
            | (go_at_call 26; refine (HK.out _ _ _ _ _ _ _ (HR.out.below hB)).mono ?_; rintro e w2 ⟨rfl, hb⟩; (replace hB := below_step (by first | exact hB | exact below_alloc hB _ | exact below_alloc (below_alloc hB _) _) hb); clear hb)
            | (go_at_call 11; refine (manorboylaw08_sanity.calls true _ rfl).mono ?_; rintro e w20 ⟨rfl, hb⟩; (replace hB := below_step (by first | exact hB | exact below_alloc hB _ | exact below_alloc (below_alloc hB _) _) hb); clear hb))
          go_ret
          exact ⟨rfl, hB⟩
        · have q4 : (6 : Int) < (n5 : Int) ↔ True := by simp; omega
          clear hbad hrz hs2 h3 h4 h5
          go_enter Try.func7, Try.ntmps7
          go_wp2_with (first
            | (go_at_call 25; refine (small_c t _ _ _ _ _ _ ds es _ (HR.out.below (below_alloc (Below.refl _ _) _))).mono ?_; rintro e w1 ⟨rfl, hb⟩; rw [← HSM.out]; (replace hB := below_step (by first | exact hB | exact below_alloc hB _ | exact below_alloc (below_alloc hB _) _) hb); (have hA := blk_below (heap_alloc_new _ _) hb); (have a0 := c3_0 hA); (have a1 := c3_1 hA); (have a2 := c3_2 hA); (have al := blk_lt hA); clear hb)
            | (go_at_call 11; refine (manorboylaw08_sanity.calls true _ rfl).mono ?_; rintro e w20 ⟨rfl, hb⟩; (replace hB := below_step (by first | exact hB | exact below_alloc hB _ | exact below_alloc (below_alloc hB _) _) hb); clear hb))
          go_ret
          exact ⟨rfl, hB⟩
      · have q2 : (6 : Int) < (n4 : Int) ↔ True := by simp; omega
        clear hbad hrz hs2 h3 h4
        go_enter Try.func7, Try.ntmps7
        go_wp2_with (first
          | (go_at_call 25; refine (small_c t _ _ _ _ _ _ ds es _ (HR.out.below (below_alloc (Below.refl _ _) _))).mono ?_; rintro e w1 ⟨rfl, hb⟩; rw [← HSM.out]; (replace hB := below_step (by first | exact hB | exact below_alloc hB _ | exact below_alloc (below_alloc hB _) _) hb); (have hA := blk_below (heap_alloc_new _ _) hb); (have a0 := c3_0 hA); (have a1 := c3_1 hA); (have a2 := c3_2 hA); (have al := blk_lt hA); clear hb)
          | (go_at_call 11; refine (manorboylaw08_sanity.calls true _ rfl).mono ?_; rintro e w20 ⟨rfl, hb⟩; (replace hB := below_step (by first | exact hB | exact below_alloc hB _ | exact below_alloc (below_alloc hB _) _) hb); clear hb))
        go_ret
        exact ⟨rfl, hB⟩
    · have q1 : (6 : Int) < (n3 : Int) ↔ True := by simp; omega
      clear hbad hrz hs2 h3
      go_enter Try.func7, Try.ntmps7
      go_wp2_with (first
        | (go_at_call 25; refine (small_c t _ _ _ _ _ _ ds es _ (HR.out.below (below_alloc (Below.refl _ _) _))).mono ?_; rintro e w1 ⟨rfl, hb⟩; rw [← HSM.out]; (replace hB := below_step (by first | exact hB | exact below_alloc hB _ | exact below_alloc (below_alloc hB _) _) hb); (have hA := blk_below (heap_alloc_new _ _) hb); (have a0 := c3_0 hA); (have a1 := c3_1 hA); (have a2 := c3_2 hA); (have al := blk_lt hA); clear hb)
        | (go_at_call 11; refine (manorboylaw08_sanity.calls true _ rfl).mono ?_; rintro e w20 ⟨rfl, hb⟩; (replace hB := below_step (by first | exact hB | exact below_alloc hB _ | exact below_alloc (below_alloc hB _) _) hb); clear hb))
      go_ret
      exact ⟨rfl, hB⟩
/-- The law, for every input. -/
theorem own_calls (t : Int) (ds one two : List S40) (es : List S59) (ks : List Int) (A1 A2 A3 A4 A5 : Option Addr) (c1 c2 c3 c4 c5 : Nat) (w : World)
    (hr1 : Kd.C k40 w A1 ds.length ds) (hc1 : ds.length ≤ c1) (hr2 : Kd.C k59 w A2 es.length es) (hc2 : es.length ≤ c2) (h3 : Kd.C k40 w A3 one.length one) (hc3 : one.length ≤ c3) (h4 : Kd.C k40 w A4 two.length two) (hc4 : two.length ≤ c4) (h5 : Kd.C (Kd.int .i64) w A5 ks.length ks) (hc5 : ks.length ≤ c5) :
    Calls Try.prog 7 #[.agg #[.int .i64 t, .slice A1 ds.length c1, .slice A2 es.length c2], .slice A3 one.length c3, .slice A4 two.length c4, .slice A5 ks.length c5] w (SanPost w) := by
  have hr : Arr w A1 ds.length c1 ds A2 es.length c2 es := ⟨hr1, hc1, hr2, hc2⟩
  by_cases hg : ds.length ≤ 6 ∧ es.length ≤ 1010 ∧ one.length ≤ 6 ∧ two.length ≤ 6 ∧ ks.length ≤ 6 ∧ Fine t ds es
  · obtain ⟨g1, g2, g3, g4, g5, F⟩ := hg
    by_cases h1 : errN ds.length one = 0
    · obtain ⟨e1, l1⟩ := errN_zero h1
      rw [l1] at h3 hc3 ⊢
      by_cases h2 : errN ds.length two = 0
      · obtain ⟨e2, l2⟩ := errN_zero h2
        rw [l2] at h4 hc4 ⊢
        exact own_main t ds one two es ks A1 A2 A3 A4 A5 c1 c2 c3 c4 c5 _ _ _ w hr h3 hc3 h4 hc4 h5 hc5 F e1 e2 g2 g5
      · exact own_no2 t ds one two es ks A1 A2 A3 A4 A5 c1 c2 c3 c4 c5 _ _ _ _ w hr h3 hc3 h4 hc4 h5 hc5 F e1 h2 g2 g4 g5
    · exact own_no1 t ds one two es ks A1 A2 A3 A4 A5 c1 c2 c3 c4 c5 _ _ _ _ _ w hr h3 hc3 h4 hc4 h5 hc5 F h1 g2 g3 g4 g5
  · exact own_bad t ds one two es ks A1 A2 A3 A4 A5 c1 c2 c3 c4 c5 _ _ _ _ _ w hr hg
end Go.Proofs.Ytcjjmhgboibbgaa.Q
