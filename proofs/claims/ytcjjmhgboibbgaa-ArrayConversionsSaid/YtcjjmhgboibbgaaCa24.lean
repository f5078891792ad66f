/-
  Texts of the proof, in build order: words that the walks use, contracts of functions, plain facts.
-/
import Derived.Deep.RegionHeld3
import Derived.Test.YtcjjmhgboibbgaaCa23
section
namespace Go.Proofs.Ytcjjmhgboibbgaa.Q
open Go.RowKit Go.Shelf Go.Proofs.Rf Go.Proofs.YtcjjmhgboibbgaaW.PrintWords Go.Proofs.YtcjjmhgboibbgaaW.PrintLast Go.Proofs.YtcjjmhgboibbgaaW.PrintMore
set_option linter.unusedVariables false
set_option linter.unusedSimpArgs false
set_option maxRecDepth 100000
theorem mapped_e (a t : Int) (l r : List S59) (v : Int) (he : cvGo t l [] = (r, v)) (A : Option Addr) (n c p : Nat) (w : World) (ht : t = 1 ∨ t = 2 ∨ t = 3) (hx : ∀ x ∈ l, badF a x = some false) (hl : Kd.C k59 w A n l) (hn : n ≤ 1000) (hp : w.cell? ⟨p, 0, none⟩ = some (.int .i64 t)) :
    Calls Try.prog 52 #[.slice A n c, .func (.func 53) #[] #[.pointer (some ⟨p, 0, none⟩)]] w (MapPost r v w) := by
  have := mapped_c a t l A n c p w ht hx hl hn hp
  rwa [he] at this
theorem c1_0 {W : World} {g ty : Nat} {x : Value} (h : W.heap[g]? = some (.cells #[x] ty)) : W.cell? ⟨g, 0, none⟩ = some x := by rw [blk_cell h 0]; rfl
theorem kept2 {w W W' : World} {p0 p1 : Addr} {v0 v1 : Value} (h : W.cell? p0 = some v0 ∧ W.cell? p1 = some v1 ∧ Below w.heap.size w W) (hb : Below W.heap.size W W') : W'.cell? p0 = some v0 ∧ W'.cell? p1 = some v1 ∧ Below w.heap.size w W' :=
  ⟨pw_cell_below hb h.1, pw_cell_below hb h.2.1, below_step h.2.2 hb⟩
theorem kept2s {w W : World} {B B' D i j : Nat} {v0 v1 x0 x1 x2 : Value} (hne : B ≠ D) (hne' : B' ≠ D) (hD : w.heap.size ≤ D) (h : W.cell? ⟨B, i, none⟩ = some v0 ∧ W.cell? ⟨B', j, none⟩ = some v1 ∧ Below w.heap.size w W) :
    (((W.setCell ⟨D, 0, none⟩ x0).setCell ⟨D, 1, none⟩ x1).setCell ⟨D, 2, none⟩ x2).cell? ⟨B, i, none⟩ = some v0 ∧ (((W.setCell ⟨D, 0, none⟩ x0).setCell ⟨D, 1, none⟩ x1).setCell ⟨D, 2, none⟩ x2).cell? ⟨B', j, none⟩ = some v1 ∧ Below w.heap.size w (((W.setCell ⟨D, 0, none⟩ x0).setCell ⟨D, 1, none⟩ x1).setCell ⟨D, 2, none⟩ x2) :=
  ⟨cell_far hne (cell_far hne (cell_far hne h.1)), cell_far hne' (cell_far hne' (cell_far hne' h.2.1)), below_set (below_set (below_set h.2.2 hD) hD) hD⟩
theorem last2 {w W : World} {p0 p1 : Addr} {v0 v1 : Value} (h : W.cell? p0 = some v0 ∧ W.cell? p1 = some v1 ∧ Below w.heap.size w W) : Below w.heap.size w W := h.2.2
set_option maxHeartbeats 40000000 in
theorem aconv_ok {a t : Int} {ds : List S40} {es : List S59} (F : Fine a ds es) (ht : t = 1 ∨ t = 2 ∨ t = 3) (hes : ∀ x ∈ es, (cvF t x).2 = 0)
    (A1 A2 : Option Addr) (c1 c2 n m : Nat) (w : World) (hr : Arr w A1 n c1 ds A2 m c2 es) :
    Calls Try.prog 30 #[.agg #[.int .i64 a, .slice A1 n c1, .slice A2 m c2], .int .i64 t] w (SetPost t n m ds (cvM t es) w) := by
  have hl := hr.len
  have hm1000 : m ≤ 1000 := by have := (errOf_zero F.2.1).2.1.2.2; have := F.2.2.1; omega
  have hn4 : n ≤ 4 := by have := (errOf_zero F.2.1).2.2.2.2; omega
  have hn1 : 1 ≤ n := by have := (errOf_zero F.2.1).2.2.2.1; omega
  have hn1000 : n ≤ 1000 := by omega
  obtain ⟨ad1, rfl⟩ := C_some hr.1 (by omega)
  have HCV : Hid (cvGo t es [] = (cvM t es, 0)) := Lib.hid (by rw [cvGo_ok t es [] hes]; rfl)
  have hty : isTy t = true := by rcases ht with rfl | rfl | rfl <;> rfl
  have hlm : (cvM t es).length = m := by unfold cvM; rw [List.length_map]; exact hl.2
  have HLM := Lib.hid hlm
  have HL := Lib.hid hl
  have HR := Lib.hid hr
  have HF := Lib.hid F
  have HT := Lib.hid ht
  have HTY := Lib.hid hty
  clear hr F hl hes ht hty hlm
  have hA : (((w.alloc (.cells #[.int .i64 a, .slice (some ad1) n c1, .slice A2 m c2] 50)).alloc (.cells #[.int .i64 t] 3)).alloc (.cells #[.int .i64 0, .slice none 0 0, .slice none 0 0] 50)).heap[w.heap.size]? = some (.cells #[.int .i64 a, .slice (some ad1) n c1, .slice A2 m c2] 50) := blk_alloc (blk_alloc (heap_alloc_new w _) _) _
  have hK : (((w.alloc (.cells #[.int .i64 a, .slice (some ad1) n c1, .slice A2 m c2] 50)).alloc (.cells #[.int .i64 t] 3)).alloc (.cells #[.int .i64 0, .slice none 0 0, .slice none 0 0] 50)).heap[w.heap.size + 1]? = some (.cells #[.int .i64 t] 3) := newC w _ _ _
  have hZ : (((w.alloc (.cells #[.int .i64 a, .slice (some ad1) n c1, .slice A2 m c2] 50)).alloc (.cells #[.int .i64 t] 3)).alloc (.cells #[.int .i64 0, .slice none 0 0, .slice none 0 0] 50)).heap[w.heap.size + 1 + 1]? = some (.cells #[.int .i64 0, .slice none 0 0, .slice none 0 0] 50) := newD w _ _ _
  have hB : Below w.heap.size w (((w.alloc (.cells #[.int .i64 a, .slice (some ad1) n c1, .slice A2 m c2] 50)).alloc (.cells #[.int .i64 t] 3)).alloc (.cells #[.int .i64 0, .slice none 0 0, .slice none 0 0] 50)) := below_alloc (below_alloc (below_alloc (Below.refl _ _) _) _) _
  go_enter Try.func30, Try.ntmps30
  go_upto_region 9 with (first
    | (go_at_call 26; refine (ck_c HF.out _ _ _ _ _ _ _ (HR.out.below hB)).mono ?_; rintro e w1 ⟨rfl, hb⟩; (replace hB := below_step hB hb); (replace hA := blk_below hA hb); (replace hK := blk_below hK hb); (replace hZ := blk_below hZ hb); (have k0 := c1_0 hK); (have kl := blk_lt hK); clear hb)
    | (go_at_call 40; refine (isTy_calls t _).mono ?_; rintro e w2 ⟨rfl, hb⟩; rw [HTY.out]; (replace hB := below_step hB hb); (replace hA := blk_below hA hb); (replace hK := blk_below hK hb); (replace hZ := blk_below hZ hb); clear k0 kl; (have k0 := c1_0 hK); (have kl := blk_lt hK); (have a2 := c3_2 hA); (have al := blk_lt hA); (have zl := blk_lt hZ); clear hb)
    | (go_at_call 52; refine (mapped_e a t es _ _ HCV.out _ _ _ _ _ HT.out HF.out.2.2.2 (Kd.C_below HR.out.2.2.1 hB) hm1000 k0).mono ?_; rintro e w3 ⟨u, rfl, hu, hb⟩; (obtain ⟨A3, q3, rfl⟩ := Kd.R_slice hu); (replace hB := below_step hB hb); (replace hA := blk_below hA hb); (replace hK := blk_below hK hb); (replace hZ := blk_below hZ hb); clear k0 kl a2 al; (have hs2 := hb.size); (have HU := Lib.hid hu); clear hb hu))
  rw [HLM.out] at HU ⊢
  have a1 := c3_1 hA
  have k0 := c1_0 hK
  obtain ⟨B, hBe⟩ : ∃ B, B = w.heap.size := ⟨_, rfl⟩
  obtain ⟨K, hKe⟩ : ∃ K, K = w.heap.size + 1 := ⟨_, rfl⟩
  obtain ⟨D, hDe⟩ : ∃ D, D = w.heap.size + 1 + 1 := ⟨_, rfl⟩
  have hne : B ≠ D := by omega
  have hne' : K ≠ D := by omega
  have hDw : w.heap.size ≤ D := by omega
  have hBl := blk_lt hA
  have hKl := blk_lt hK
  have hBs := hB.size
  rw [← hDe] at hZ zl
  rw [← hKe] at k0 hKl
  rw [← hBe] at a1 hBl
  rw [← hDe, ← hKe, ← hBe]
  have HBE := Lib.hid hBe
  have HKE := Lib.hid hKe
  have HDE := Lib.hid hDe
  have HZL := Lib.hid zl
  have HBS := Lib.hid hBs
  clear hBe hKe hDe hA hK zl hBs
  have hZl : Hid (D < w3.drew.heap.size) := Lib.hid (Array.getElem?_eq_some_iff.1 hZ).1
  replace hZ : w3.drew.heap[D]? = some (Obj.cells #[Value.int IntKind.i64 0, Value.slice none 0 0, Value.slice none 0 0] 50) := hZ
  replace HU : Hid (k59.R 59 w3.drew w2.heap.size (fun x => True) (Value.slice A3 m q3) (cvM t es)) := Lib.hid (Kd.R_drew HU.out)
  go_region_held3 (fun w' => w'.cell? ⟨B, 1, none⟩ = some (.slice (some ad1) n c1) ∧ w'.cell? ⟨K, 0, none⟩ = some (.int .i64 t) ∧ Below w.heap.size w w')
    (first | exact ⟨a1, k0, below_drew hB⟩ | exact ⟨a1, k0, hB⟩ | exact kept2 (by assumption) (by assumption) | exact kept2s hne hne' hDw (by assumption))
    (first
      | (go_at_call 55; go_loud (refine (clone40_calls ad1 n c1 ds hn1000 _ (Kd.C_below HR.out.1 (last2 (by assumption)))).mono ?_); rintro e wA ⟨v1, rfl, hv1, hb⟩; obtain ⟨A4, q4, rfl⟩ := Kd.R_slice hv1; (replace hZ := blk_below hZ hb); (have HV1 := Lib.hid hv1); (replace HU := Lib.hid (Kd.R_below HU.out hb)); (have z0 := blk_cell hZ 0); (have z1 := blk_cell hZ 1); (have z2 := blk_cell hZ 2); (have f0 := blk_frozen hZ 0); (have f1 := blk_frozen hZ 1); (have f2 := blk_frozen hZ 2); clear hv1; (have HZ0 := Lib.hid hZ); clear hZ))
  rename_i hHeld
  have hBf := last2 hHeld
  clear hHeld
  rw [HL.out.1] at HV1 hBf ⊢
  go_wp2
  have hne4 : ∀ k, w2.heap.size ≤ k → k ≠ D := fun k hk e => by have := HZL.out; omega
  have hsz : w2.heap.size ≤ w3.drew.heap.size := by have := hs2; exact this
  have g1 := Kd.R_reads' (R_stay HV1.out (w1 := ((wA.setCell ⟨D, 0, none⟩ (.int .i64 t)).setCell ⟨D, 1, none⟩ (.slice A4 n q4)).setCell ⟨D, 2, none⟩ (.slice A3 m q3)) (fun k hk _ => by have hkk := hne4 k (by omega); rw [Below.heap_setCell _ _ _ k hkk, Below.heap_setCell _ _ _ k hkk, Below.heap_setCell _ _ _ k hkk]))
  have g2 := Kd.R_reads' (R_stay HU.out (w1 := ((wA.setCell ⟨D, 0, none⟩ (.int .i64 t)).setCell ⟨D, 1, none⟩ (.slice A4 n q4)).setCell ⟨D, 2, none⟩ (.slice A3 m q3)) (fun k hk _ => by have hkk := hne4 k (by omega); rw [Below.heap_setCell _ _ _ k hkk, Below.heap_setCell _ _ _ k hkk, Below.heap_setCell _ _ _ k hkk]))
  have g3 := g1.2.2
  have g4 := g2.2.2
  rw [← g1.1] at g3
  rw [← g2.1] at g4
  refine bodyPost_ret (v := .tuple #[.agg #[.int .i64 t, .slice A4 n q4, .slice A3 m q3], .int .i64 0]) ?_ rfl ⟨A4, q4, A3, q3, rfl, ⟨g3, g1.2.1, g4, g2.2.1⟩, hBf⟩
  simp [results, Try.results30, go_sem, z0, z1, z2]
set_option maxHeartbeats 40000000 in
theorem aconv_no {a t v : Int} {ds : List S40} {es : List S59} (F : Fine a ds es) (ht : t = 1 ∨ t = 2 ∨ t = 3) (hv : v ≠ 0) (hcv : cvGo t es [] = ([], v))
    (A1 A2 : Option Addr) (c1 c2 n m : Nat) (w : World) (hr : Arr w A1 n c1 ds A2 m c2 es) :
    Calls Try.prog 30 #[.agg #[.int .i64 a, .slice A1 n c1, .slice A2 m c2], .int .i64 t] w (ResizeNo v w) := by
  have hl := hr.len
  have hm1000 : m ≤ 1000 := by have := (errOf_zero F.2.1).2.1.2.2; have := F.2.2.1; omega
  have hty : isTy t = true := by rcases ht with rfl | rfl | rfl <;> rfl
  have hvb : (v != 0) = true := by simpa using hv
  have HCV := Lib.hid hcv
  have HR := Lib.hid hr
  have HF := Lib.hid F
  have HT := Lib.hid ht
  have HTY := Lib.hid hty
  clear hr F hl hcv ht hty hv
  have hA : (((w.alloc (.cells #[.int .i64 a, .slice A1 n c1, .slice A2 m c2] 50)).alloc (.cells #[.int .i64 t] 3)).alloc (.cells #[.int .i64 0, .slice none 0 0, .slice none 0 0] 50)).heap[w.heap.size]? = some (.cells #[.int .i64 a, .slice A1 n c1, .slice A2 m c2] 50) := blk_alloc (blk_alloc (heap_alloc_new w _) _) _
  have hK : (((w.alloc (.cells #[.int .i64 a, .slice A1 n c1, .slice A2 m c2] 50)).alloc (.cells #[.int .i64 t] 3)).alloc (.cells #[.int .i64 0, .slice none 0 0, .slice none 0 0] 50)).heap[w.heap.size + 1]? = some (.cells #[.int .i64 t] 3) := newC w _ _ _
  have hZ : (((w.alloc (.cells #[.int .i64 a, .slice A1 n c1, .slice A2 m c2] 50)).alloc (.cells #[.int .i64 t] 3)).alloc (.cells #[.int .i64 0, .slice none 0 0, .slice none 0 0] 50)).heap[w.heap.size + 1 + 1]? = some (.cells #[.int .i64 0, .slice none 0 0, .slice none 0 0] 50) := newD w _ _ _
  have hB : Below w.heap.size w (((w.alloc (.cells #[.int .i64 a, .slice A1 n c1, .slice A2 m c2] 50)).alloc (.cells #[.int .i64 t] 3)).alloc (.cells #[.int .i64 0, .slice none 0 0, .slice none 0 0] 50)) := below_alloc (below_alloc (below_alloc (Below.refl _ _) _) _) _
  go_enter Try.func30, Try.ntmps30
  go_wp2_with (first
    | (go_at_call 26; refine (ck_c HF.out _ _ _ _ _ _ _ (HR.out.below hB)).mono ?_; rintro e w1 ⟨rfl, hb⟩; (replace hB := below_step hB hb); (replace hA := blk_below hA hb); (replace hK := blk_below hK hb); (replace hZ := blk_below hZ hb); (have k0 := c1_0 hK); (have kl := blk_lt hK); clear hb)
    | (go_at_call 40; refine (isTy_calls t _).mono ?_; rintro e w2 ⟨rfl, hb⟩; rw [HTY.out]; (replace hB := below_step hB hb); (replace hA := blk_below hA hb); (replace hK := blk_below hK hb); (replace hZ := blk_below hZ hb); clear k0 kl; (have k0 := c1_0 hK); (have kl := blk_lt hK); (have a2 := c3_2 hA); (have al := blk_lt hA); clear hb)
    | (go_at_call 52; refine (mapped_e a t es _ _ HCV.out _ _ _ _ _ HT.out HF.out.2.2.2 (Kd.C_below HR.out.2.2.1 hB) hm1000 k0).mono ?_; rintro e w3 ⟨u, rfl, hu, hb⟩; (obtain ⟨A3, q3, rfl⟩ := Kd.R_slice hu); (replace hB := below_step hB hb); (replace hZ := blk_below hZ hb); clear k0 kl a2 al hA hK hu; (have z0 := c3_0 hZ); (have z1 := c3_1 hZ); (have z2 := c3_2 hZ); (have zl := blk_lt hZ); (have zf0 := blk_frozen hZ 0); (have zf1 := blk_frozen hZ 1); (have zf2 := blk_frozen hZ 2); clear hb))
  have hzw : w.heap.size ≤ w.heap.size + 1 + 1 := by omega
  refine bodyPost_ret (v := .tuple #[.agg #[.int .i64 0, .slice none 0 0, .slice none 0 0], .int .i64 v]) ?_ rfl ⟨rfl, ?_⟩
  · clear hZ
    simp [results, Try.results30, go_sem, z0, z1, z2, zl]
  · exact below_set (below_set (below_set hB hzw) hzw) hzw
set_option maxHeartbeats 40000000 in
theorem aconv_ty {a t : Int} {ds : List S40} {es : List S59} (F : Fine a ds es) (ht : ¬ (t = 1 ∨ t = 2 ∨ t = 3))
    (A1 A2 : Option Addr) (c1 c2 n m : Nat) (w : World) (hr : Arr w A1 n c1 ds A2 m c2 es) :
    Calls Try.prog 30 #[.agg #[.int .i64 a, .slice A1 n c1, .slice A2 m c2], .int .i64 t] w (ResizeNo 1 w) := by
  have hty : isTy t = false := by simp [isTy]; omega
  have HR := Lib.hid hr
  have HF := Lib.hid F
  have HTY := Lib.hid hty
  clear hr F ht hty
  have hA : (((w.alloc (.cells #[.int .i64 a, .slice A1 n c1, .slice A2 m c2] 50)).alloc (.cells #[.int .i64 t] 3)).alloc (.cells #[.int .i64 0, .slice none 0 0, .slice none 0 0] 50)).heap[w.heap.size]? = some (.cells #[.int .i64 a, .slice A1 n c1, .slice A2 m c2] 50) := blk_alloc (blk_alloc (heap_alloc_new w _) _) _
  have hK : (((w.alloc (.cells #[.int .i64 a, .slice A1 n c1, .slice A2 m c2] 50)).alloc (.cells #[.int .i64 t] 3)).alloc (.cells #[.int .i64 0, .slice none 0 0, .slice none 0 0] 50)).heap[w.heap.size + 1]? = some (.cells #[.int .i64 t] 3) := newC w _ _ _
  have hZ : (((w.alloc (.cells #[.int .i64 a, .slice A1 n c1, .slice A2 m c2] 50)).alloc (.cells #[.int .i64 t] 3)).alloc (.cells #[.int .i64 0, .slice none 0 0, .slice none 0 0] 50)).heap[w.heap.size + 1 + 1]? = some (.cells #[.int .i64 0, .slice none 0 0, .slice none 0 0] 50) := newD w _ _ _
  have hB : Below w.heap.size w (((w.alloc (.cells #[.int .i64 a, .slice A1 n c1, .slice A2 m c2] 50)).alloc (.cells #[.int .i64 t] 3)).alloc (.cells #[.int .i64 0, .slice none 0 0, .slice none 0 0] 50)) := below_alloc (below_alloc (below_alloc (Below.refl _ _) _) _) _
  go_enter Try.func30, Try.ntmps30
  go_wp2_with (first
    | (go_at_call 26; refine (ck_c HF.out _ _ _ _ _ _ _ (HR.out.below hB)).mono ?_; rintro e w1 ⟨rfl, hb⟩; (replace hB := below_step hB hb); (replace hA := blk_below hA hb); (replace hK := blk_below hK hb); (replace hZ := blk_below hZ hb); (have k0 := c1_0 hK); (have kl := blk_lt hK); clear hb)
    | (go_at_call 40; refine (isTy_calls t _).mono ?_; rintro e w2 ⟨rfl, hb⟩; rw [HTY.out]; (replace hB := below_step hB hb); (replace hZ := blk_below hZ hb); clear k0 kl hA hK; (have z0 := c3_0 hZ); (have z1 := c3_1 hZ); (have z2 := c3_2 hZ); (have zl := blk_lt hZ); (have zf0 := blk_frozen hZ 0); (have zf1 := blk_frozen hZ 1); (have zf2 := blk_frozen hZ 2); clear hb))
  have hzw : w.heap.size ≤ w.heap.size + 1 + 1 := by omega
  refine bodyPost_ret (v := .tuple #[.agg #[.int .i64 0, .slice none 0 0, .slice none 0 0], .int .i64 1]) ?_ rfl ⟨rfl, ?_⟩
  · clear hZ
    simp [results, Try.results30, go_sem, z0, z1, z2, zl]
  · exact below_set (below_set (below_set hB hzw) hzw) hzw
/-- what the empty array's Check says -/
theorem ck_zero (w : World) : Calls Try.prog 26 #[.agg #[.int .i64 0, .slice none 0 0, .slice none 0 0]] w fun e w' => e = .returned (.int .i64 1) ∧ Below w.heap.size w w' :=
  array_Check.calls 0 none 0 [] none 0 [] 1 w (Kd.C_nil _ _) (Nat.le_refl _) (Kd.C_nil _ _) (Nat.le_refl _) (by rfl)
end Go.Proofs.Ytcjjmhgboibbgaa.Q
end
section
namespace Go.Proofs.Ytcjjmhgboibbgaa.Q
open Go.RowKit Go.Shelf Go.Proofs.Rf Go.Proofs.YtcjjmhgboibbgaaW.PrintWords Go.Proofs.YtcjjmhgboibbgaaW.PrintLast Go.Proofs.YtcjjmhgboibbgaaW.PrintMore
set_option linter.unusedVariables false
set_option linter.unusedSimpArgs false
set_option maxRecDepth 100000
attribute [local go_sem high] eqA40 eqA59
/-- what Resize returns, told in one form -/
def RzU (t v : Int) (n : Nat) (ds l1 : List S40) (es : List S59) (w : World) (e : Ending) (w' : World) : Prop :=
  ∃ (t' : Int) (B1 : Option Addr) (n1 x1 : Nat) (B2 : Option Addr) (m1 x2 : Nat), e = .returned (.tuple #[.agg #[.int .i64 t', .slice B1 n1 x1, .slice B2 m1 x2], .int .i64 v]) ∧ (v = 0 → t' = t ∧ n1 = n ∧ Arr w' B1 n1 x1 l1 B2 m1 x2 (resL t ds es l1)) ∧ Below w.heap.size w w'
theorem rz_u {t : Int} {ds l1 : List S40} {es : List S59} (F : Fine t ds es) (A1 A2 A3 : Option Addr) (c1 c2 c3 n m n3 : Nat) (w : World) (hr : Arr w A1 n c1 ds A2 m c2 es) (hr3 : Kd.C k40 w A3 n3 l1) (hc3 : n3 ≤ c3) :
    Calls Try.prog 27 #[.agg #[.int .i64 t, .slice A1 n c1, .slice A2 m c2], .slice A3 n3 c3] w (RzU t (errN n l1) n ds l1 es w) := by
  by_cases hx : errN n l1 = 0
  · obtain ⟨h1, hn⟩ := errN_zero hx
    have hl := hr.len.1
    have h3 := hr3.1
    rw [hn] at h3
    subst h3
    refine (rz_ok F h1 (by rw [hn, hl]) A1 A2 A3 c1 c2 c3 n m w hr hr3 hc3).mono ?_
    rintro e w' ⟨B1, x1, B2, x2, k2, rfl, hS, hb⟩
    rw [hx]
    exact ⟨_, _, _, _, _, _, _, rfl, fun _ => ⟨rfl, rfl, hS⟩, hb⟩
  · refine (rz_no F A1 A2 A3 c1 c2 c3 n m n3 hx w hr hr3 hc3).mono ?_
    rintro e w' ⟨rfl, hb⟩
    exact ⟨_, _, _, _, _, _, _, rfl, fun h => absurd h hx, hb⟩
set_option maxHeartbeats 40000000 in
theorem cnv_main (a t : Int) (ds l1 : List S40) (es es1 : List S59) (A1 A2 A3 : Option Addr) (c1 c2 c3 n m n3 : Nat) (w : World)
    (hr : Arr w A1 n c1 ds A2 m c2 es) (h3 : Kd.C k40 w A3 n3 l1) (hc3 : n3 ≤ c3)
    (F : Fine a ds es) (hm : m ≤ 1010) (hn3 : n3 ≤ 6) (ht : t = 1 ∨ t = 2 ∨ t = 3) (hes : ∀ x ∈ es, (cvF t x).2 = 0) (he1 : es1 = cvM t es) :
    Calls Try.prog 8 #[.agg #[.int .i64 a, .slice A1 n c1, .slice A2 m c2], .int .i64 t, .slice A3 n3 c3] w (SanPost w) := by
  have hn6 : n ≤ 6 := by have := (errOf_zero F.2.1).2.2.2.2; have := hr.1.1; omega
  have q1 : (6 : Int) < (n3 : Int) ↔ False := by simp; omega
  have q5 : decide (n ≤ 6) = true := decide_eq_true hn6
  have q6 : decide (m ≤ 1010) = true := decide_eq_true hm
  obtain ⟨ev, hev⟩ : ∃ e, e = errN n l1 := ⟨_, rfl⟩
  have q7 : (ev != ev) = false := by simp
  have HF1 : Hid (Fine t ds es1) := Lib.hid (by rw [he1]; exact fine_cv F ht hes)
  have HEV := Lib.hid hev
  have HL := Lib.hid hr.len
  have HR := Lib.hid hr
  have H3 := Lib.hid h3
  have HF := Lib.hid F
  have HT := Lib.hid ht
  have HES := Lib.hid hes
  have HE1 := Lib.hid he1
  clear hr h3 F hn3 hn6 hev ht hes he1
  have hAx : (w.alloc (.cells #[.int .i64 a, .slice A1 n c1, .slice A2 m c2] 50)).heap[w.heap.size]? = some (.cells #[.int .i64 a, .slice A1 n c1, .slice A2 m c2] 50) := heap_alloc_new w _
  have hB : Below w.heap.size w (w.alloc (.cells #[.int .i64 a, .slice A1 n c1, .slice A2 m c2] 50)) := below_alloc (Below.refl _ _) _
  have M1 := Lib.hid trivial
  go_enter Try.func8, Try.ntmps8
  go_upto_region 13 with (first
    | (go_at_call 25; refine (small_c a _ _ _ _ _ _ ds es _ (HR.out.below hB)).mono ?_; rintro e w1 ⟨rfl, hb⟩; rw [q5, q6]; (replace hB := below_step (by first | exact hB | exact below_alloc hB _ | exact below_alloc (below_alloc hB _) _) hb); (replace hAx := blk_below (by first | exact hAx | exact blk_alloc hAx _ | exact blk_alloc (blk_alloc hAx _) _) hb); (have aq0 := c3_0 hAx); (have aq1 := c3_1 hAx); (have aq2 := c3_2 hAx); (have aql := blk_lt hAx); clear hb)
    | (go_at_call 26; (have M := M1); clear M M1; refine (ck_c HF.out _ _ _ _ _ _ _ (HR.out.below hB)).mono ?_; rintro e w2 ⟨rfl, hb⟩; (replace hB := below_step (by first | exact hB | exact below_alloc hB _ | exact below_alloc (below_alloc hB _) _) hb); (replace hAx := blk_below (by first | exact hAx | exact blk_alloc hAx _ | exact blk_alloc (blk_alloc hAx _) _) hb); (clear aq0 aq1 aq2 aql); (have aq0 := c3_0 hAx); (have aq1 := c3_1 hAx); (have aq2 := c3_2 hAx); (have aql := blk_lt hAx); clear hb; (have M2 := Lib.hid trivial))
    | (go_at_call 30; (have M := M2); clear M M2; refine (aconv_ok HF.out (fine_ty HF.out) (self_ok HF.out) _ _ _ _ _ _ _ (HR.out.below hB)).mono ?_; rintro e w3 ⟨B1, k1, B2, k2, rfl, hS, hb⟩; rw [cvM_self HF.out] at hS; (have HSs := Lib.hid hS); clear hS; (replace hB := below_step (by first | exact hB | exact below_alloc hB _ | exact below_alloc (below_alloc hB _) _) hb); (replace hAx := blk_below (by first | exact hAx | exact blk_alloc hAx _ | exact blk_alloc (blk_alloc hAx _) _) hb); (clear aq0 aq1 aq2 aql); (have aq0 := c3_0 hAx); (have aq1 := c3_1 hAx); (have aq2 := c3_2 hAx); (have aql := blk_lt hAx); clear hb; (have M3 := Lib.hid trivial))
    | (go_at_call 28; (have M := M3); clear M M3; refine (same_c2 HF.out rfl _ _ _ _ _ _ _ _ _ _ _ _ _ (HSs.out.below (by first | exact Below.refl _ _ | exact below_alloc (Below.refl _ _) _)) (HR.out.below (by first | exact hB | exact below_alloc hB _ | exact below_alloc (below_alloc hB _) _))).mono ?_; rintro e w4 ⟨rfl, hb⟩; (replace hB := below_step (by first | exact hB | exact below_alloc hB _ | exact below_alloc (below_alloc hB _) _) hb); (replace hAx := blk_below (by first | exact hAx | exact blk_alloc hAx _ | exact blk_alloc (blk_alloc hAx _) _) hb); (clear aq0 aq1 aq2 aql); (have aq0 := c3_0 hAx); (have aq1 := c3_1 hAx); (have aq2 := c3_2 hAx); (have aql := blk_lt hAx); clear hb HSs; (have M4 := Lib.hid trivial))
    | (go_at_call 30; (have M := M4); clear M M4; refine (aconv_ok HF.out HT.out HES.out _ _ _ _ _ _ _ (HR.out.below (by first | exact hB | exact below_alloc hB _ | exact below_alloc (below_alloc hB _) _))).mono ?_; rintro e w5 ⟨B1, k1, B2, k2, rfl, hS, hb⟩; rw [← HE1.out] at hS; (have HBb := Lib.hid hS); clear hS; (replace hB := below_step (by first | exact hB | exact below_alloc hB _ | exact below_alloc (below_alloc hB _) _) hb); (replace hAx := blk_below (by first | exact hAx | exact blk_alloc hAx _ | exact blk_alloc (blk_alloc hAx _) _) hb); (clear aq0 aq1 aq2 aql); (have aq0 := c3_0 hAx); (have aq1 := c3_1 hAx); (have aq2 := c3_2 hAx); (have aql := blk_lt hAx); clear hb; (have M5 := Lib.hid trivial))
    | (go_at_call 27; (have M := M5); clear M M5; refine (rz_u HF1.out _ _ _ _ _ _ _ _ _ _ (HBb.out.below (by first | exact Below.refl _ _ | exact below_alloc (Below.refl _ _) _)) (Kd.C_below H3.out (by first | exact hB | exact below_alloc hB _ | exact below_alloc (below_alloc hB _) _)) hc3).mono ?_; rintro e w6 ⟨tc, B3, nc, k3, B4, mc, k4, rfl, hS, hb⟩; (have HCc := Lib.hid hS); rw [← HEV.out] at HCc ⊢; clear hS; (replace hB := below_step (by first | exact hB | exact below_alloc hB _ | exact below_alloc (below_alloc hB _) _) hb); (replace hAx := blk_below (by first | exact hAx | exact blk_alloc hAx _ | exact blk_alloc (blk_alloc hAx _) _) hb); (have hBx := blk_below (heap_alloc_new _ _) hb); (clear aq0 aq1 aq2 aql); (have aq0 := c3_0 hAx); (have aq1 := c3_1 hAx); (have aq2 := c3_2 hAx); (have aql := blk_lt hAx); (replace HBb := Lib.hid (HBb.out.below (below_step (by first | exact Below.refl _ _ | exact below_alloc (Below.refl _ _) _) hb))); clear hb; (have M6 := Lib.hid trivial))
    | (go_at_call 27; (have M := M6); clear M M6; refine (rz_u HF.out _ _ _ _ _ _ _ _ _ _ (HR.out.below (by first | exact hB | exact below_alloc hB _ | exact below_alloc (below_alloc hB _) _)) (Kd.C_below H3.out (by first | exact hB | exact below_alloc hB _ | exact below_alloc (below_alloc hB _) _)) hc3).mono ?_; rintro e w7 ⟨td, B5, nd, k5, B6, md, k6, rfl, hS, hb⟩; (have HDd := Lib.hid hS); rw [← HEV.out] at HDd ⊢; clear hS; (have hb7 := Lib.hid (below_step (below_alloc (Below.refl _ _) _) hb)); (replace hB := below_step (by first | exact hB | exact below_alloc hB _ | exact below_alloc (below_alloc hB _) _) hb); (replace hAx := blk_below (by first | exact hAx | exact blk_alloc hAx _ | exact blk_alloc (blk_alloc hAx _) _) hb); (replace hBx := blk_below (by first | exact hBx | exact blk_alloc hBx _ | exact blk_alloc (blk_alloc hBx _) _) hb); (have hCx := blk_below (heap_alloc_new _ _) hb); (clear aq0 aq1 aq2 aql); (replace HBb := Lib.hid (HBb.out.below (below_step (by first | exact Below.refl _ _ | exact below_alloc (Below.refl _ _) _) hb))); clear hb))
  have hz := below_alloc (Below.refl w7.heap.size w7) (.cells #[.int .i64 td, .slice B5 nd k5, .slice B6 md k6] 50)
  replace hAx := blk_below hAx hz
  replace hBx := blk_below hBx hz
  replace hCx := blk_below hCx hz
  have hDx := heap_alloc_new w7 (.cells #[.int .i64 td, .slice B5 nd k5, .slice B6 md k6] 50)
  replace HBb := Lib.hid (HBb.out.below hz)
  replace HDd := Lib.hid (fun h0 => (⟨(HDd.out h0).1, (HDd.out h0).2.1, (HDd.out h0).2.2.below hz⟩ : td = a ∧ nd = n ∧ Arr (w7.alloc (.cells #[.int .i64 td, .slice B5 nd k5, .slice B6 md k6] 50)) B5 nd k5 l1 B6 md k6 (resL a ds es l1)))
  replace HCc := Lib.hid (fun h0 => (⟨(HCc.out h0).1, (HCc.out h0).2.1, (HCc.out h0).2.2.below (below_step hb7.out hz)⟩ : tc = t ∧ nc = n ∧ Arr (w7.alloc (.cells #[.int .i64 td, .slice B5 nd k5, .slice B6 md k6] 50)) B3 nc k3 l1 B4 mc k4 (resL t ds es1 l1)))
  replace hB := below_step hB hz
  clear hz hb7
  generalize (w7.alloc (.cells #[.int .i64 td, .slice B5 nd k5, .slice B6 md k6] 50)) = W1 at *
  generalize w7.heap.size = gD at *
  generalize w6.heap.size = gC at *
  generalize w5.heap.size = gB at *
  obtain ⟨gA, hgA⟩ : ∃ g, g = w.heap.size := ⟨_, rfl⟩
  rw [← hgA] at hAx ⊢
  have HgA := Lib.hid hgA
  clear hgA
  go_upto_if 79 with (fail)
  go_cut [] (fun wc => Hid (Below w.heap.size w wc) ∧ Hid (wc.heap[gA]? = some (.cells #[.int .i64 a, .slice A1 n c1, .slice A2 m c2] 50)) ∧ Hid (wc.heap[gB]? = some (.cells #[.int .i64 t, .slice B1 n k1, .slice B2 m k2] 50)) ∧ Hid (Arr wc B1 n k1 ds B2 m k2 es1))
  case first =>
    by_cases hx : ev = 0
    · have b1 : (ev == 0) = true := beq_iff_eq.mpr hx
      obtain ⟨he0, hen⟩ := errN_zero (HEV.out ▸ hx)
      obtain ⟨rfl, rfl, hC⟩ := HCc.out hx
      obtain ⟨rfl, hdn, hD⟩ := HDd.out hx
      subst hdn
      have hln : l1.length = ds.length := by rw [hen, HL.out.1]
      obtain ⟨hr1, hr2⟩ := res_cv HF.out HT.out HES.out he0 hln
      rw [← HE1.out] at hr2
      replace HCc := Lib.hid hC
      replace HDd := Lib.hid hD
      have HF3 := Lib.hid (fine_res HF.out he0 hln)
      have HF2 := Lib.hid (fine_res HF1.out he0 hln)
      have HE3 := Lib.hid hr1
      have HEQ := Lib.hid hr2
      clear hx he0 hen hC hD hln hr1 hr2
      (have dq0 := c3_0 hDx); (have dq1 := c3_1 hDx); (have dq2 := c3_2 hDx); (have dql := blk_lt hDx)
      (have cq0 := c3_0 hCx); (have cq1 := c3_1 hCx); (have cq2 := c3_2 hCx); (have cql := blk_lt hCx)
      go_wp2_with (first
        | (go_at_call 30; refine (aconv_ok HF3.out HT.out HE3.out _ _ _ _ _ _ _ HDd.out).mono ?_; rintro e w8 ⟨B7, k7, B8, k8, rfl, hS, hb⟩; rw [HEQ.out] at hS; (have HEe := Lib.hid hS); clear hS; (replace hB := below_step (by first | exact hB | exact below_alloc hB _ | exact below_alloc (below_alloc hB _) _) hb); (replace hAx := blk_below (by first | exact hAx | exact blk_alloc hAx _ | exact blk_alloc (blk_alloc hAx _) _) hb); (replace hBx := blk_below (by first | exact hBx | exact blk_alloc hBx _ | exact blk_alloc (blk_alloc hBx _) _) hb); (replace hCx := blk_below (by first | exact hCx | exact blk_alloc hCx _ | exact blk_alloc (blk_alloc hCx _) _) hb); (clear cq0 cq1 cq2 cql); (clear dq0 dq1 dq2 dql); (have cq0 := c3_0 hCx); (have cq1 := c3_1 hCx); (have cq2 := c3_2 hCx); (have cql := blk_lt hCx); (replace HBb := Lib.hid (HBb.out.below (below_step (by first | exact Below.refl _ _ | exact below_alloc (Below.refl _ _) _) hb))); (replace HCc := Lib.hid (HCc.out.below (below_step (by first | exact Below.refl _ _ | exact below_alloc (Below.refl _ _) _) hb))); clear hb hDx HDd)
        | (go_at_call 28; refine (same_c2 HF2.out rfl _ _ _ _ _ _ _ _ _ _ _ _ _ (HEe.out.below (by first | exact Below.refl _ _ | exact below_alloc (Below.refl _ _) _)) (HCc.out.below (by first | exact Below.refl _ _ | exact below_alloc (Below.refl _ _) _))).mono ?_; rintro e w9 ⟨rfl, hb⟩; (replace hB := below_step (by first | exact hB | exact below_alloc hB _ | exact below_alloc (below_alloc hB _) _) hb); (replace hAx := blk_below (by first | exact hAx | exact blk_alloc hAx _ | exact blk_alloc (blk_alloc hAx _) _) hb); (replace hBx := blk_below (by first | exact hBx | exact blk_alloc hBx _ | exact blk_alloc (blk_alloc hBx _) _) hb); (clear cq0 cq1 cq2 cql); (replace HBb := Lib.hid (HBb.out.below (below_step (by first | exact Below.refl _ _ | exact below_alloc (Below.refl _ _) _) hb))); clear hb hCx HCc HEe))
      go_meet
      case rel => exact ⟨Lib.hid hB, Lib.hid hAx, Lib.hid hBx, HBb⟩
    · have b1 : (ev == 0) = false := beq_eq_false_iff_ne.mpr hx
      clear hx
      go_wp2
      go_meet
      case rel => exact ⟨Lib.hid hB, Lib.hid hAx, Lib.hid hBx, HBb⟩
  case rest =>
    clear hAx hBx hCx hDx hB HBb HCc HDd
    obtain ⟨HB, HAx, HBx, HBb⟩ := hcut
    have hAx := HAx.out
    have hBx := HBx.out
    have hB := HB.out
    clear HAx HBx HB
    by_cases ha : a = 1
    · by_cases hk : t = 2
      · subst ha hk
        (have aq0 := c3_0 hAx); (have aq1 := c3_1 hAx); (have aq2 := c3_2 hAx); (have aql := blk_lt hAx)
        (have bq0 := c3_0 hBx); (have bq1 := c3_1 hBx); (have bq2 := c3_2 hBx); (have bql := blk_lt hBx)
        rcases cvGo_any 1 es1 [] with hall | ⟨x, hxm, hxn, hxe⟩
        · go_wp2_with (first
            | (go_at_call 30; refine (aconv_ok HF1.out (.inl rfl) hall _ _ _ _ _ _ _ (HBb.out.below (Below.refl _ _))).mono ?_; rintro e w8 ⟨B7, k7, B8, k8, rfl, hS, hb⟩; (have HEe := Lib.hid hS); clear hS; (replace hB := below_step (by first | exact hB | exact below_alloc hB _ | exact below_alloc (below_alloc hB _) _) hb); (replace hAx := blk_below (by first | exact hAx | exact blk_alloc hAx _ | exact blk_alloc (blk_alloc hAx _) _) hb); (clear aq0 aq1 aq2 aql); (clear bq0 bq1 bq2 bql); clear hb hBx))
          have hz := below_alloc (Below.refl w8.heap.size w8) (.cells #[.int .i64 1, .slice B7 n k7, .slice B8 m k8] 50)
          have HAx := Lib.hid (blk_below hAx hz)
          have HEx := Lib.hid (heap_alloc_new w8 (.cells #[.int .i64 1, .slice B7 n k7, .slice B8 m k8] 50))
          have HBl := Lib.hid (below_step hB hz)
          replace HEe := Lib.hid (HEe.out.below hz)
          clear hz hAx hB
          generalize (w8.alloc (.cells #[.int .i64 1, .slice B7 n k7, .slice B8 m k8] 50)) = W2 at *
          generalize w8.heap.size = gE at *
          go_loopw [18] (fun vi wr => ∃ j : Nat, j ≤ m ∧ vi = .int .i64 j ∧ Hid (Below W2.heap.size W2 wr)) (fun vi _ => m - (intOf vi).toNat)
          case atStart => exact ⟨0, Nat.zero_le _, rfl, Lib.hid (Below.refl _ _)⟩
          case round =>
            obtain ⟨j, hj, rfl, HW⟩ := hrel
            have ha := blk_below HAx.out HW.out
            have a0 := c3_0 ha
            have a1 := c3_1 ha
            have a2 := c3_2 ha
            have al := blk_lt ha
            have hb := blk_below HEx.out HW.out
            have b0 := c3_0 hb
            have b1 := c3_1 hb
            have b2 := c3_2 hb
            have bl := blk_lt hb
            clear ha hb
            by_cases hlt : j < m
            · have hj0 : (0 : Int) ≤ (j : Int) := by omega
              have hji : (j : Int) < (m : Int) := by omega
              obtain ⟨au, eu, p0, p1, p2, p3, p4⟩ := at_T59 (Kd.C_below HR.out.2.2.1 (below_step HBl.out HW.out)) (j : Int) hj0 hji
              cases eu
              simp only [Int.toNat_natCast] at p0 p1 p2 p3 p4
              obtain ⟨gu, ou, du⟩ := addr_of p0
              rw [du] at p0 p1 p2 p3 p4
              obtain ⟨ar, er, z0, z1, z2, z3, z4⟩ := at_T59 (Kd.C_below HEe.out.2.2.1 HW.out) (j : Int) hj0 hji
              cases er
              simp only [Int.toNat_natCast] at z0 z1 z2 z3 z4
              obtain ⟨gr, or, dr⟩ := addr_of z0
              rw [dr] at z0 z1 z2 z3 z4
              have hw : wrap64 ((j : Int) + 1) = ((j + 1 : Nat) : Int) := wrap_next (by omega)
              have hf1 : rd_T59 es1 (j : Int) = (cvF 2 (rd_T59 es (j : Int))).1 := by rw [HE1.out]; exact (rd_map (g := fun x => (cvF 2 x).1) hj0 (by rw [HL.out.2]; exact hji)).1
              have hf2 : rd_T59 (cvM 1 es1) (j : Int) = (cvF 1 (rd_T59 es1 (j : Int))).1 := (rd_map (g := fun x => (cvF 1 x).1) hj0 (by rw [HBb.out.len.2]; exact hji)).1
              have hm2 : rd_T59 es (j : Int) ∈ es := (rd_map (g := fun x => x) hj0 (by rw [HL.out.2]; exact hji)).2
              have hcb := fun h0 h1 => cv_back (HF.out.2.2.2 _ hm2) h0 h1
              rw [← hf1] at hcb
              clear hf1 hm2
              have HCB := Lib.hid hcb
              have HF2 := Lib.hid hf2
              clear hcb hf2
              generalize rd_T59 es (j : Int) = d at *
              by_cases g0 : -16777216 ≤ d.f1
              · have v1 : decide (-16777216 ≤ d.f1) = true := decide_eq_true g0
                by_cases g1 : d.f1 ≤ 16777216
                · have v2 : decide (d.f1 ≤ 16777216) = true := decide_eq_true g1
                  have he := HF2.out
                  rw [HCB.out g0 g1] at he
                  rw [he] at z0 z1 z2 z3 z4
                  clear he g0 g1
                  go_wp2
                  go_quiet (fail)
                  clear a0 a1 a2 al b0 b1 b2 bl p0 p1 p2 p3 p4 z0 z1 z2 z3 z4 du dr
                  go_wp2
                  go_roundw
                  case rel => exact ⟨j + 1, by omega, by first | rfl | (push_cast; rfl), Lib.hid (by first | exact pw_below_drewN HW.out _ | exact below_drew HW.out | exact HW.out)⟩
                  case measure => simp [intOf, hw]; omega
                · have v2 : decide (d.f1 ≤ 16777216) = false := decide_eq_false g1
                  clear g0 g1
                  generalize rd_T59 (cvM 1 es1) (j : Int) = e at *
                  go_wp2
                  go_quiet (fail)
                  clear a0 a1 a2 al b0 b1 b2 bl p0 p1 p2 p3 p4 z0 z1 z2 z3 z4 du dr
                  go_wp2
                  go_roundw
                  case rel => exact ⟨j + 1, by omega, by first | rfl | (push_cast; rfl), Lib.hid (by first | exact pw_below_drewN HW.out _ | exact below_drew HW.out | exact HW.out)⟩
                  case measure => simp [intOf, hw]; omega
              · have v1 : decide (-16777216 ≤ d.f1) = false := decide_eq_false g0
                clear g0
                generalize rd_T59 (cvM 1 es1) (j : Int) = e at *
                go_wp2
                go_quiet (fail)
                clear a0 a1 a2 al b0 b1 b2 bl p0 p1 p2 p3 p4 z0 z1 z2 z3 z4 du dr
                go_wp2
                go_roundw
                case rel => exact ⟨j + 1, by omega, by first | rfl | (push_cast; rfl), Lib.hid (by first | exact pw_below_drewN HW.out _ | exact below_drew HW.out | exact HW.out)⟩
                case measure => simp [intOf, hw]; omega
            · obtain rfl : m = j := by omega
              have hmm : ¬ ((m : Int) < (m : Int)) := by omega
              have hB := below_step HBl.out HW.out
              go_wp2_with (first | (go_at_call 11; refine (manorboylaw08_sanity.calls true _ rfl).mono ?_; rintro e w20 ⟨rfl, hb⟩; (replace hB := below_step (by first | exact hB | exact below_alloc hB _ | exact below_alloc (below_alloc hB _) _) hb); clear hb))
              go_ret
              exact ⟨rfl, hB⟩
        · have hx3 : (cvF 1 x).2 = 3 := (cv_code (HF1.out.2.2.2 x hxm)).resolve_left hxn
          have HER : Hid (cvGo 1 es1 [] = ([], 3)) := Lib.hid (by rw [hxe, hx3])
          clear hxm hxn hxe hx3
          go_wp2_with (first
            | (go_at_call 30; refine (aconv_no HF1.out (.inl rfl) (by decide) HER.out _ _ _ _ _ _ _ (HBb.out.below (Below.refl _ _))).mono ?_; rintro e w8 ⟨rfl, hb⟩; (replace hB := below_step (by first | exact hB | exact below_alloc hB _ | exact below_alloc (below_alloc hB _) _) hb); (clear aq0 aq1 aq2 aql); (clear bq0 bq1 bq2 bql); clear hb hAx hBx))
          have hz := below_alloc (Below.refl w8.heap.size w8) (.cells #[.int .i64 0, .slice none 0 0, .slice none 0 0] 50)
          have HEx := Lib.hid (heap_alloc_new w8 (.cells #[.int .i64 0, .slice none 0 0, .slice none 0 0] 50))
          have HBl := Lib.hid (below_step hB hz)
          clear hz hB
          generalize (w8.alloc (.cells #[.int .i64 0, .slice none 0 0, .slice none 0 0] 50)) = W2 at *
          generalize w8.heap.size = gE at *
          go_loopw [18] (fun vi wr => vi = .int .i64 0 ∧ Hid (Below W2.heap.size W2 wr)) (fun vi _ => 0)
          case atStart => exact ⟨rfl, Lib.hid (Below.refl _ _)⟩
          case round =>
            obtain ⟨rfl, HW⟩ := hrel
            have hb := blk_below HEx.out HW.out
            have b0 := c3_0 hb
            have b1 := c3_1 hb
            have b2 := c3_2 hb
            have bl := blk_lt hb
            have hB := below_step HBl.out HW.out
            clear hb
            go_wp2_with (first | (go_at_call 11; refine (manorboylaw08_sanity.calls true _ rfl).mono ?_; rintro e w20 ⟨rfl, hb⟩; (replace hB := below_step (by first | exact hB | exact below_alloc hB _ | exact below_alloc (below_alloc hB _) _) hb); clear hb))
            go_ret
            exact ⟨rfl, hB⟩
      · have b1 : (t != 2) = true := by simpa using hk
        subst ha
        clear hk
        (have aq0 := c3_0 hAx); (have aq1 := c3_1 hAx); (have aq2 := c3_2 hAx); (have aql := blk_lt hAx)
        go_wp2_with (first | (go_at_call 11; refine (manorboylaw08_sanity.calls true _ rfl).mono ?_; rintro e w20 ⟨rfl, hb⟩; (replace hB := below_step (by first | exact hB | exact below_alloc hB _ | exact below_alloc (below_alloc hB _) _) hb); clear hb))
        go_ret
        exact ⟨rfl, hB⟩
    · have b1 : (a != 1) = true := by simpa using ha
      clear ha
      (have aq0 := c3_0 hAx); (have aq1 := c3_1 hAx); (have aq2 := c3_2 hAx); (have aql := blk_lt hAx)
      go_wp2_with (first | (go_at_call 11; refine (manorboylaw08_sanity.calls true _ rfl).mono ?_; rintro e w20 ⟨rfl, hb⟩; (replace hB := below_step (by first | exact hB | exact below_alloc hB _ | exact below_alloc (below_alloc hB _) _) hb); clear hb))
      go_ret
      exact ⟨rfl, hB⟩
set_option maxHeartbeats 40000000 in
theorem cnv_no (a t v : Int) (ds : List S40) (es : List S59) (A1 A2 A3 : Option Addr) (c1 c2 c3 n m n3 : Nat) (w : World)
    (hr : Arr w A1 n c1 ds A2 m c2 es) (F : Fine a ds es) (hm : m ≤ 1010) (hn3 : n3 ≤ 6) (hv : v ≠ 0)
    (hs1 : ∀ (c1 c2 : Nat) (A1 A2 : Option Addr) {w : World}, Arr w A1 n c1 ds A2 m c2 es → Calls Try.prog 30 #[.agg #[.int .i64 a, .slice A1 n c1, .slice A2 m c2], .int .i64 t] w (ResizeNo v w)) :
    Calls Try.prog 8 #[.agg #[.int .i64 a, .slice A1 n c1, .slice A2 m c2], .int .i64 t, .slice A3 n3 c3] w (SanPost w) := by
  have hn6 : n ≤ 6 := by have := (errOf_zero F.2.1).2.2.2.2; have := hr.1.1; omega
  have q1 : (6 : Int) < (n3 : Int) ↔ False := by simp; omega
  have q5 : decide (n ≤ 6) = true := decide_eq_true hn6
  have q6 : decide (m ≤ 1010) = true := decide_eq_true hm
  have q7 : (v != 0) = true := by simpa using hv
  have HL := Lib.hid hr.len
  have HR := Lib.hid hr
  have HF := Lib.hid F
  have HS1 := Lib.hid @hs1
  clear hr F hn3 hn6 hs1 hv
  have hAx : (w.alloc (.cells #[.int .i64 a, .slice A1 n c1, .slice A2 m c2] 50)).heap[w.heap.size]? = some (.cells #[.int .i64 a, .slice A1 n c1, .slice A2 m c2] 50) := heap_alloc_new w _
  have hB : Below w.heap.size w (w.alloc (.cells #[.int .i64 a, .slice A1 n c1, .slice A2 m c2] 50)) := below_alloc (Below.refl _ _) _
  have M1 := Lib.hid trivial
  go_enter Try.func8, Try.ntmps8
  go_wp2_with (first
    | (go_at_call 25; refine (small_c a _ _ _ _ _ _ ds es _ (HR.out.below hB)).mono ?_; rintro e w1 ⟨rfl, hb⟩; rw [q5, q6]; (replace hB := below_step (by first | exact hB | exact below_alloc hB _ | exact below_alloc (below_alloc hB _) _) hb); (replace hAx := blk_below (by first | exact hAx | exact blk_alloc hAx _ | exact blk_alloc (blk_alloc hAx _) _) hb); (have aq0 := c3_0 hAx); (have aq1 := c3_1 hAx); (have aq2 := c3_2 hAx); (have aql := blk_lt hAx); clear hb)
    | (go_at_call 26; (have M := M1); clear M M1; refine (ck_c HF.out _ _ _ _ _ _ _ (HR.out.below hB)).mono ?_; rintro e w2 ⟨rfl, hb⟩; (replace hB := below_step (by first | exact hB | exact below_alloc hB _ | exact below_alloc (below_alloc hB _) _) hb); (replace hAx := blk_below (by first | exact hAx | exact blk_alloc hAx _ | exact blk_alloc (blk_alloc hAx _) _) hb); (clear aq0 aq1 aq2 aql); (have aq0 := c3_0 hAx); (have aq1 := c3_1 hAx); (have aq2 := c3_2 hAx); (have aql := blk_lt hAx); clear hb; (have M2 := Lib.hid trivial))
    | (go_at_call 30; (have M := M2); clear M M2; refine (aconv_ok HF.out (fine_ty HF.out) (self_ok HF.out) _ _ _ _ _ _ _ (HR.out.below hB)).mono ?_; rintro e w3 ⟨B1, k1, B2, k2, rfl, hS, hb⟩; rw [cvM_self HF.out] at hS; (have HSs := Lib.hid hS); clear hS; (replace hB := below_step (by first | exact hB | exact below_alloc hB _ | exact below_alloc (below_alloc hB _) _) hb); (replace hAx := blk_below (by first | exact hAx | exact blk_alloc hAx _ | exact blk_alloc (blk_alloc hAx _) _) hb); (clear aq0 aq1 aq2 aql); (have aq0 := c3_0 hAx); (have aq1 := c3_1 hAx); (have aq2 := c3_2 hAx); (have aql := blk_lt hAx); clear hb; (have M3 := Lib.hid trivial))
    | (go_at_call 28; (have M := M3); clear M M3; refine (same_c2 HF.out rfl _ _ _ _ _ _ _ _ _ _ _ _ _ (HSs.out.below (by first | exact Below.refl _ _ | exact below_alloc (Below.refl _ _) _)) (HR.out.below (by first | exact hB | exact below_alloc hB _ | exact below_alloc (below_alloc hB _) _))).mono ?_; rintro e w4 ⟨rfl, hb⟩; (replace hB := below_step (by first | exact hB | exact below_alloc hB _ | exact below_alloc (below_alloc hB _) _) hb); (replace hAx := blk_below (by first | exact hAx | exact blk_alloc hAx _ | exact blk_alloc (blk_alloc hAx _) _) hb); (clear aq0 aq1 aq2 aql); (have aq0 := c3_0 hAx); (have aq1 := c3_1 hAx); (have aq2 := c3_2 hAx); (have aql := blk_lt hAx); clear hb HSs; (have M4 := Lib.hid trivial))
    | (go_at_call 30; (have M := M4); clear M M4; refine (HS1.out _ _ _ _ (HR.out.below (by first | exact hB | exact below_alloc hB _ | exact below_alloc (below_alloc hB _) _))).mono ?_; rintro e w5 ⟨rfl, hb⟩; (replace hB := below_step (by first | exact hB | exact below_alloc hB _ | exact below_alloc (below_alloc hB _) _) hb); (clear aq0 aq1 aq2 aql); clear hb hAx)
    | (go_at_call 11; refine (manorboylaw08_sanity.calls true _ rfl).mono ?_; rintro e w6 ⟨rfl, hb⟩; (replace hB := below_step (by first | exact hB | exact below_alloc hB _ | exact below_alloc (below_alloc hB _) _) hb); (have hBx := blk_below (heap_alloc_new _ _) hb); (have bq0 := c3_0 hBx); (have bq1 := c3_1 hBx); (have bq2 := c3_2 hBx); (have bql := blk_lt hBx); clear hb)
    | (go_at_call 26; refine (ck_zero _).mono ?_; rintro e w7 ⟨rfl, hb⟩; (replace hB := below_step (by first | exact hB | exact below_alloc hB _ | exact below_alloc (below_alloc hB _) _) hb); clear hb))
  go_ret
  exact ⟨rfl, hB⟩
set_option maxHeartbeats 40000000 in
theorem cnv_bad (a t : Int) (ds : List S40) (es : List S59) (A1 A2 A3 : Option Addr) (c1 c2 c3 n m n3 : Nat) (w : World)
    (hr : Arr w A1 n c1 ds A2 m c2 es) (hbad : ¬ (n ≤ 6 ∧ m ≤ 1010 ∧ n3 ≤ 6 ∧ Fine a ds es)) :
    Calls Try.prog 8 #[.agg #[.int .i64 a, .slice A1 n c1, .slice A2 m c2], .int .i64 t, .slice A3 n3 c3] w (SanPost w) := by
  obtain ⟨r, hrz, hck⟩ := ck_any a ds es
  have HR := Lib.hid hr
  have HK := Lib.hid hck
  clear hr hck
  have hAx : (w.alloc (.cells #[.int .i64 a, .slice A1 n c1, .slice A2 m c2] 50)).heap[w.heap.size]? = some (.cells #[.int .i64 a, .slice A1 n c1, .slice A2 m c2] 50) := heap_alloc_new w _
  have hB : Below w.heap.size w (w.alloc (.cells #[.int .i64 a, .slice A1 n c1, .slice A2 m c2] 50)) := below_alloc (Below.refl _ _) _
  obtain ⟨sm, hsm⟩ : ∃ b, b = (decide (n ≤ 6) && decide (m ≤ 1010)) := ⟨_, rfl⟩
  have HSM := Lib.hid hsm
  cases sm with
  | false =>
    clear hsm hbad hrz
    go_enter Try.func8, Try.ntmps8
    go_wp2_with (first
      | (go_at_call 25; refine (small_c a _ _ _ _ _ _ ds es _ (HR.out.below hB)).mono ?_; rintro e w1 ⟨rfl, hb⟩; rw [← HSM.out]; (replace hB := below_step (by first | exact hB | exact below_alloc hB _ | exact below_alloc (below_alloc hB _) _) hb); (replace hAx := blk_below (by first | exact hAx | exact blk_alloc hAx _ | exact blk_alloc (blk_alloc hAx _) _) hb); (have aq0 := c3_0 hAx); (have aq1 := c3_1 hAx); (have aq2 := c3_2 hAx); (have aql := blk_lt hAx); clear hb)
      | (go_at_call 11; refine (manorboylaw08_sanity.calls true _ rfl).mono ?_; rintro e w20 ⟨rfl, hb⟩; (replace hB := below_step (by first | exact hB | exact below_alloc hB _ | exact below_alloc (below_alloc hB _) _) hb); clear hb))
    go_ret
    exact ⟨rfl, hB⟩
  | true =>
    have hs2 : n ≤ 6 ∧ m ≤ 1010 := by simpa using hsm.symm
    clear hsm
    by_cases h3 : n3 ≤ 6
    · have q1 : (6 : Int) < (n3 : Int) ↔ False := by simp; omega
      have hr0 : r ≠ 0 := fun h => hbad ⟨hs2.1, hs2.2, h3, hrz.1 h⟩
      have q5 : (r != 0) = true := by simpa using hr0
      clear hbad hrz hr0 hs2 h3
      go_enter Try.func8, Try.ntmps8
      go_wp2_with (first
        | (go_at_call 25; refine (small_c a _ _ _ _ _ _ ds es _ (HR.out.below hB)).mono ?_; rintro e w1 ⟨rfl, hb⟩; rw [← HSM.out]; (replace hB := below_step (by first | exact hB | exact below_alloc hB _ | exact below_alloc (below_alloc hB _) _) hb); (replace hAx := blk_below (by first | exact hAx | exact blk_alloc hAx _ | exact blk_alloc (blk_alloc hAx _) _) hb); (have aq0 := c3_0 hAx); (have aq1 := c3_1 hAx); (have aq2 := c3_2 hAx); (have aql := blk_lt hAx); clear hb)
        | (go_at_call 26; refine (HK.out _ _ _ _ _ _ _ (HR.out.below hB)).mono ?_; rintro e w2 ⟨rfl, hb⟩; (replace hB := below_step (by first | exact hB | exact below_alloc hB _ | exact below_alloc (below_alloc hB _) _) hb); (clear aq0 aq1 aq2 aql); clear hb hAx)
        | (go_at_call 11; refine (manorboylaw08_sanity.calls true _ rfl).mono ?_; rintro e w20 ⟨rfl, hb⟩; (replace hB := below_step (by first | exact hB | exact below_alloc hB _ | exact below_alloc (below_alloc hB _) _) hb); clear hb))
      go_ret
      exact ⟨rfl, hB⟩
    · have q1 : (6 : Int) < (n3 : Int) ↔ True := by simp; omega
      clear hbad hrz hs2 h3
      go_enter Try.func8, Try.ntmps8
      go_wp2_with (first
        | (go_at_call 25; refine (small_c a _ _ _ _ _ _ ds es _ (HR.out.below hB)).mono ?_; rintro e w1 ⟨rfl, hb⟩; rw [← HSM.out]; (replace hB := below_step (by first | exact hB | exact below_alloc hB _ | exact below_alloc (below_alloc hB _) _) hb); (replace hAx := blk_below (by first | exact hAx | exact blk_alloc hAx _ | exact blk_alloc (blk_alloc hAx _) _) hb); (have aq0 := c3_0 hAx); (have aq1 := c3_1 hAx); (have aq2 := c3_2 hAx); (have aql := blk_lt hAx); clear hb)
        | (go_at_call 11; refine (manorboylaw08_sanity.calls true _ rfl).mono ?_; rintro e w20 ⟨rfl, hb⟩; (replace hB := below_step (by first | exact hB | exact below_alloc hB _ | exact below_alloc (below_alloc hB _) _) hb); clear hb))
      go_ret
      exact ⟨rfl, hB⟩
/-- The law, for every input. -/
theorem cnv_calls (a t : Int) (ds l1 : List S40) (es : List S59) (A1 A2 A3 : Option Addr) (c1 c2 c3 : Nat) (w : World)
    (hr1 : Kd.C k40 w A1 ds.length ds) (hc1 : ds.length ≤ c1) (hr2 : Kd.C k59 w A2 es.length es) (hc2 : es.length ≤ c2) (h3 : Kd.C k40 w A3 l1.length l1) (hc3 : l1.length ≤ c3) :
    Calls Try.prog 8 #[.agg #[.int .i64 a, .slice A1 ds.length c1, .slice A2 es.length c2], .int .i64 t, .slice A3 l1.length c3] w (SanPost w) := by
  have hr : Arr w A1 ds.length c1 ds A2 es.length c2 es := ⟨hr1, hc1, hr2, hc2⟩
  by_cases hg : ds.length ≤ 6 ∧ es.length ≤ 1010 ∧ l1.length ≤ 6 ∧ Fine a ds es
  · obtain ⟨g1, g2, g3, F⟩ := hg
    by_cases ht : t = 1 ∨ t = 2 ∨ t = 3
    · rcases cvGo_any t es [] with hall | ⟨x, hx, hne, he⟩
      · exact cnv_main a t ds l1 es _ A1 A2 A3 c1 c2 c3 _ _ _ w hr h3 hc3 F g2 g3 ht hall rfl
      · exact cnv_no a t _ ds es A1 A2 A3 c1 c2 c3 _ _ _ w hr F g2 g3 hne (fun c1 c2 A1 A2 w hr => aconv_no F ht hne he A1 A2 c1 c2 _ _ w hr)
    · exact cnv_no a t 1 ds es A1 A2 A3 c1 c2 c3 _ _ _ w hr F g2 g3 (by decide) (fun c1 c2 A1 A2 w hr => aconv_ty F ht A1 A2 c1 c2 _ _ w hr)
  · exact cnv_bad a t ds es A1 A2 A3 c1 c2 c3 _ _ _ w hr hg
end Go.Proofs.Ytcjjmhgboibbgaa.Q
end
