import Derived.Test.YtcjjmhgboibbgaaPDa
import Derived.Test.YtcjjmhgboibbgaaHRz2
import Derived.Test.YtcjjmhgboibbgaaHArrC
import Derived.Test.YtcjjmhgboibbgaaG9
import Derived.Test.YtcjjmhgboibbgaaHArr5
namespace Go.Proofs.Ytcjjmhgboibbgaa.Q
open Go.RowKit Go.Proofs.Rf Go.Proofs.YtcjjmhgboibbgaaW.PrintWords Go.Proofs.YtcjjmhgboibbgaaW.PrintLast Go.Proofs.YtcjjmhgboibbgaaW.PrintMore
set_option linter.unusedVariables false
set_option linter.unusedSimpArgs false
/-! ### validity -/
theorem badF_total (t : Int) (x : S59) : ∃ b, badF t x = some b := by
  unfold badF
  split
  · have : ∃ b, validO x = some b := by
      unfold validO value_Valid.f value_ofInt.f value_ofReal.f value_ofBool.f integer_Valid.f real_Valid.f
      simp only [Option.bind_some]
      repeat' split
      all_goals first | exact ⟨_, rfl⟩ | (simp only [Option.bind_some]; exact ⟨_, rfl⟩)
    obtain ⟨b, hb⟩ := this
    exact ⟨!b, by rw [hb]; rfl⟩
  · exact ⟨true, rfl⟩
theorem firstBad_word (t : Int) : ∀ (es : List S59) (i : Int), 0 ≤ i → ∃ r, firstBad t es i = some r ∧ (r < 0 ↔ ∀ x ∈ es, badF t x = some false)
  | [], i, hi => ⟨-1, rfl, by simp⟩
  | x :: es, i, hi => by
    obtain ⟨b, hb⟩ := badF_total t x
    cases b with
    | true =>
      refine ⟨i, by simp [firstBad, hb], ?_⟩
      constructor
      · intro h; omega
      · intro h; have := h x (by simp); rw [hb] at this; cases this
    | false =>
      obtain ⟨r, h1, h2⟩ := firstBad_word t es (i + 1) (by omega)
      refine ⟨r, by simp [firstBad, hb, h1], h2.trans ?_⟩
      simp [hb]
/-- what a valid array is -/
def Fine (t : Int) (ds : List S40) (es : List S59) : Prop := isTy t = true ∧ errOf ds = 0 ∧ (es.length : Int) = prodL ds ∧ ∀ x ∈ es, badF t x = some false
theorem check_word (t : Int) (ds : List S40) (es : List S59) : ∃ r, checkF t ds es = some r ∧ (r = 0 ↔ Fine t ds es) := by
  unfold checkF Fine
  by_cases h1 : isTy t = true
  · by_cases h2 : errOf ds = 0
    · by_cases h3 : (es.length : Int) = prodL ds
      · obtain ⟨r, h4, h5⟩ := firstBad_word t es 0 (Int.le_refl _)
        rw [if_pos h1, if_pos h2, if_pos h3, h4]
        refine ⟨_, rfl, ?_⟩
        simp only [h1, h2, h3, true_and]
        rw [← h5]
        constructor
        · intro h
          by_cases h0 : 0 ≤ r
          · simp only [if_pos h0] at h; cases h
          · omega
        · intro h; rw [if_neg (by omega)]
      · rw [if_pos h1, if_pos h2, if_neg h3]; exact ⟨1, rfl, by simp [h3]⟩
    · rw [if_pos h1, if_neg h2]; exact ⟨1, rfl, by simp [h2]⟩
  · rw [if_neg h1]; exact ⟨1, rfl, by simp [h1]⟩
theorem check_fine {t : Int} {ds : List S40} {es : List S59} (h : Fine t ds es) : checkF t ds es = some 0 := by
  obtain ⟨r, h1, h2⟩ := check_word t ds es
  rw [h1, h2.2 h]
theorem badF_zero {t : Int} (h : isTy t = true) : badF t (z59t t) = some false := by
  have : t = 1 ∨ t = 2 ∨ t = 3 := by simp [isTy] at h; omega
  rcases this with rfl | rfl | rfl <;> decide +kernel
/-! ### the places -/
theorem subsAt_plc : ∀ (l : List S40) (s : List Int), (∀ d ∈ l, 1 ≤ ext d) → inB l s = true → 0 ≤ plc l s ∧ plc l s < prodL l ∧ subsAt l (plc l s) = s
  | [], [], _, _ => ⟨by simp [plc], by simp [plc, prodL], rfl⟩
  | [], _ :: _, _, h => by simp [inB] at h
  | _ :: _, [], _, h => by simp [inB] at h
  | d :: r, k :: s, hp, h => by
    simp only [inB, Bool.and_eq_true, decide_eq_true_eq] at h
    have hr : ∀ d ∈ r, 1 ≤ ext d := fun e he => hp e (by simp [he])
    obtain ⟨i0, i1, i2⟩ := subsAt_plc r s hr h.2
    have hP := prodL_pos r hr
    have e1 : plc (d :: r) (k :: s) / prodL r = k - d.f0 := by
      simp only [plc]
      rw [Int.add_comm, Int.add_mul_ediv_left _ _ (by omega), Int.ediv_eq_zero_of_lt i0 i1]; omega
    have e2 : plc (d :: r) (k :: s) % prodL r = plc r s := by
      simp only [plc]
      rw [Int.add_comm, Int.add_mul_emod_self_left, Int.emod_eq_of_lt i0 i1]
    have he : ext d = d.f1 - d.f0 + 1 := rfl
    refine ⟨?_, ?_, ?_⟩
    · simp only [plc]
      have := Int.mul_nonneg (show 0 ≤ prodL r by omega) (show 0 ≤ k - d.f0 by omega)
      omega
    · simp only [plc, prodL]
      have := Int.mul_le_mul_of_nonneg_left (show k - d.f0 + 1 ≤ ext d by omega) (show 0 ≤ prodL r by omega)
      rw [Int.mul_add, Int.mul_comm (prodL r) (ext d)] at this
      omega
    · simp only [subsAt, e1, e2, i2]
      congr 1
      omega
theorem allS_in {l : List S40} (h : ∀ d ∈ l, 1 ≤ ext d) {s : List Int} (hs : s ∈ allS l) : inB l s = true := by
  obtain ⟨i, hi⟩ := List.mem_iff_getElem?.1 hs
  have hlt : (i : Int) < prodL l := by
    rw [← allS_len2 l h]
    have := (List.getElem?_eq_some_iff.1 hi).1
    omega
  rw [allS_get l h i hlt] at hi
  rw [← Option.some.inj hi]
  exact inB_subs l h i (by omega) hlt
theorem allS_at {l : List S40} (h : ∀ d ∈ l, 1 ≤ ext d) {s : List Int} (hs : inB l s = true) : (allS l)[(plc l s).toNat]? = some s := by
  obtain ⟨h0, h1, h2⟩ := subsAt_plc l s h hs
  have := allS_get l h (plc l s).toNat (by omega)
  rw [Int.toNat_of_nonneg h0, h2] at this
  exact this
/-- the element at a subscript list -/
def vAt (ds : List S40) (es : List S59) (s : List Int) : Option S59 := if inB ds s = true then es[(plc ds s).toNat]? else none
theorem look_zip (s : List Int) (h4 : s.length ≤ 4) : ∀ (K : List (List Int)) (es : List S59), (∀ k ∈ K, k.length = s.length) → K.Pairwise (· ≠ ·) → K.length = es.length →
    (∀ i : Nat, K[i]? = some s → lookL (K.zip es) s = es[i]?) ∧ (s ∉ K → lookL (K.zip es) s = none)
  | [], es, _, _, _ => ⟨fun i h => by simp at h, fun _ => rfl⟩
  | k :: K, [], _, _, hl => by simp at hl
  | k :: K, x :: es, hk, hn, hl => by
    have ih := look_zip s h4 K es (fun k' h' => hk k' (by simp [h'])) (List.pairwise_cons.1 hn).2 (by simpa using hl)
    have hks := hk k (by simp)
    simp only [List.zip_cons_cons, lookL]
    by_cases hs : same4 s k = true
    · have he : s = k := same4_inj s k hks.symm h4 hs
      rw [if_pos hs]
      refine ⟨fun i hi => ?_, fun hm => absurd (by rw [he]; simp) hm⟩
      cases i with
      | zero => rfl
      | succ i =>
        have hm : s ∈ K := List.mem_of_getElem? (by simpa using hi)
        exact absurd he.symm ((List.pairwise_cons.1 hn).1 s hm)
    · rw [if_neg hs]
      have hne : ¬ k = s := by
        rintro rfl
        apply hs
        simp [same4]
      refine ⟨fun i hi => ?_, fun hm => ih.2 (fun h' => hm (by simp [h']))⟩
      cases i with
      | zero => simp at hi; exact absurd hi hne
      | succ i => simpa using ih.1 i (by simpa using hi)
theorem look_vAt {ds : List S40} {es : List S59} (hp : ∀ d ∈ ds, 1 ≤ ext d) (hl : (es.length : Int) = prodL ds) {s : List Int} (hs : s.length = ds.length) (h4 : ds.length ≤ 4) : lookL ((allS ds).zip es) s = vAt ds es s := by
  have h := look_zip s (by omega) (allS ds) es (fun k hk => by rw [allS_length ds k hk, hs]) (allS_nodup ds) (by have := allS_len2 ds hp; omega)
  unfold vAt
  by_cases hb : inB ds s = true
  · rw [if_pos hb]; exact h.1 _ (allS_at hp hb)
  · rw [if_neg hb]; exact h.2 (fun hm => hb (allS_in hp hm))
theorem resL_eq {t : Int} {ds : List S40} {es : List S59} (hp : ∀ d ∈ ds, 1 ≤ ext d) (hl : (es.length : Int) = prodL ds) (h4 : ds.length ≤ 4) {l1 : List S40} (hn : l1.length = ds.length) : resL t ds es l1 = (allS l1).map fun s => (vAt ds es s).getD (z59t t) := by
  unfold resL
  apply List.map_congr_left
  intro s hs
  rw [look_vAt hp hl (by rw [allS_length l1 s hs, hn]) h4]
theorem vAt_resL {t : Int} {ds : List S40} {es : List S59} (hp : ∀ d ∈ ds, 1 ≤ ext d) (hl : (es.length : Int) = prodL ds) (h4 : ds.length ≤ 4) {l1 : List S40} (hn : l1.length = ds.length) (hp1 : ∀ d ∈ l1, 1 ≤ ext d) (s : List Int) :
    vAt l1 (resL t ds es l1) s = if inB l1 s = true then some ((vAt ds es s).getD (z59t t)) else none := by
  rw [resL_eq hp hl h4 hn]
  unfold vAt
  by_cases hb : inB l1 s = true
  · rw [if_pos hb, if_pos hb, List.getElem?_map, allS_at hp1 hb]; rfl
  · rw [if_neg hb, if_neg hb]
theorem vAt_some {ds : List S40} {es : List S59} (hp : ∀ d ∈ ds, 1 ≤ ext d) (hl : (es.length : Int) = prodL ds) {s : List Int} (hb : inB ds s = true) : ∃ x, vAt ds es s = some x ∧ x ∈ es ∧ x = rd_T59 es (plc ds s) ∧ 0 ≤ plc ds s ∧ plc ds s < (es.length : Int) := by
  obtain ⟨h0, h1, _⟩ := subsAt_plc ds s hp hb
  have hlt : (plc ds s).toNat < es.length := by omega
  refine ⟨es[(plc ds s).toNat], by unfold vAt; rw [if_pos hb]; exact List.getElem?_eq_getElem hlt, List.getElem_mem hlt, ?_, h0, by omega⟩
  simp [rd_T59, List.getD, hlt]
theorem fine_res {t : Int} {ds : List S40} {es : List S59} (h : Fine t ds es) {l1 : List S40} (h1 : errOf l1 = 0) (hn : l1.length = ds.length) : Fine t l1 (resL t ds es l1) := by
  obtain ⟨a, b, c, d⟩ := h
  have hp := ext_pos (errOf_zero b).2.1
  have hp1 := ext_pos (errOf_zero h1).2.1
  have h4 := (errOf_zero b).2.2.2.2
  refine ⟨a, h1, ?_, ?_⟩
  · rw [resL_eq hp c h4 hn, List.length_map, allS_len2 l1 hp1]
  · intro x hx
    rw [resL_eq hp c h4 hn] at hx
    obtain ⟨s, hs, rfl⟩ := List.mem_map.1 hx
    cases hv : vAt ds es s with
    | none => exact badF_zero a
    | some y =>
      simp only [Option.getD_some]
      refine d y ?_
      unfold vAt at hv
      split at hv
      · exact List.mem_of_getElem? hv
      · cases hv
theorem allSame_eq : ∀ (l m : List S40), l.length = m.length → allSame l m = true → l = m
  | [], [], _, _ => rfl
  | x :: r, y :: s, hl, h => by
    simp only [allSame] at h
    split at h
    · rename_i he
      rw [allSame_eq r s (by simpa using hl) h]
      congr 1
      simp only [s40eq, Bool.and_eq_true, beq_iff_eq] at he
      obtain ⟨a, b⟩ := x
      obtain ⟨a', b'⟩ := y
      simp only at he
      rw [he.1, he.2]
    · cases h
theorem resL_self {t : Int} {ds : List S40} {es : List S59} (h : Fine t ds es) : resL t ds es ds = es := by
  obtain ⟨a, b, c, d⟩ := h
  have hp := ext_pos (errOf_zero b).2.1
  have h4 := (errOf_zero b).2.2.2.2
  rw [resL_eq hp c h4 rfl]
  apply List.ext_getElem?
  intro i
  rw [List.getElem?_map]
  by_cases hi : i < es.length
  · rw [allS_get ds hp i (by omega)]
    have hin := inB_subs ds hp i (by omega) (by omega)
    obtain ⟨x, hx, _, _⟩ := vAt_some hp c hin
    simp only [Option.map_some, hx, Option.getD_some]
    unfold vAt at hx
    rw [if_pos hin, plc_subs ds hp i (by omega) (by omega), Int.toNat_natCast] at hx
    exact hx.symm
  · have hal := allS_len2 ds hp
    rw [List.getElem?_eq_none (by omega), List.getElem?_eq_none (by omega)]; rfl
/-- two resizings are one -/
theorem resL_two {t : Int} {ds one two : List S40} {es : List S59} (h : Fine t ds es) (h1 : errOf one = 0) (h2 : errOf two = 0) (n1 : one.length = ds.length) (n2 : two.length = ds.length) (hi : ∀ s, inB two s = true → inB ds s = true → inB one s = true) :
    resL t one (resL t ds es one) two = resL t ds es two := by
  have hf := fine_res h h1 n1
  have hp := ext_pos (errOf_zero h.2.1).2.1
  have hp1 := ext_pos (errOf_zero h1).2.1
  have hp2 := ext_pos (errOf_zero h2).2.1
  have h4 := (errOf_zero h.2.1).2.2.2.2
  rw [resL_eq hp1 hf.2.2.1 (by omega) (by omega), resL_eq hp h.2.2.1 h4 n2]
  apply List.map_congr_left
  intro s hs
  rw [vAt_resL hp h.2.2.1 h4 n1 hp1]
  by_cases hb : inB one s = true
  · rw [if_pos hb]; rfl
  · rw [if_neg hb]
    have : ¬ inB ds s = true := fun hd => hb (hi s (allS_in hp2 hs) hd)
    unfold vAt
    rw [if_neg this]
/-! ### what the printed functions answer -/
theorem dim_same_l (a : List S40) (h4 : a.length ≤ 1000) : ∀ (r : List S40) (j : Nat), a.drop j = r → Ev (fun k => api_Dim_50.l0 k a a (a.length : Int) (j : Int)) true := by
  intro r
  induction r with
  | nil =>
    intro j h
    refine Ev.one fun k => ?_
    simp only [api_Dim_50.l0, if_neg (not_lt_nil h)]
  | cons d r ih =>
    intro j h
    have hj := lt_drop h
    have c1 : (j : Int) < (a.length : Int) := by omega
    have c2 : (0 : Int) ≤ (j : Int) := by omega
    refine Ev.succ (ih (j + 1) (drop_next h)) fun k => ?_
    simp only [api_Dim_50.l0, if_pos c1, if_pos c2, rdT_drop h, wrap_next (j := j) (by omega)]
    simp
theorem rdV_drop {l r : List S59} {d : S59} {j : Nat} (h : l.drop j = d :: r) : rd_T59 l (j : Int) = d := by
  have : l[j]? = some d := by
    have := congrArg (fun x => x[0]?) h
    simpa using this
  simp [rd_T59, List.getD, this]
theorem val_same_l (a : List S59) (h4 : a.length ≤ 2000) : ∀ (r : List S59) (j : Nat), a.drop j = r → Ev (fun k => api_Value_51.l0 k a a (a.length : Int) (j : Int)) true := by
  intro r
  induction r with
  | nil =>
    intro j h
    refine Ev.one fun k => ?_
    simp only [api_Value_51.l0, if_neg (not_lt_nil h)]
  | cons d r ih =>
    intro j h
    have hj := lt_drop h
    have c1 : (j : Int) < (a.length : Int) := by omega
    have c2 : (0 : Int) ≤ (j : Int) := by omega
    refine Ev.succ (ih (j + 1) (drop_next h)) fun k => ?_
    simp only [api_Value_51.l0, if_pos c1, if_pos c2, rdV_drop h, wrap_next (j := j) (by omega)]
    simp
theorem same_self {t : Int} {ds : List S40} {es : List S59} (h : Fine t ds es) : ∃ k, array_Same.f k t ds es t ds es = some true := by
  have hc := check_fine h
  obtain ⟨K1, h1⟩ := dim_same_l ds (by have := (errOf_zero h.2.1).2.2.2.2; omega) ds 0 rfl
  obtain ⟨K2, h2⟩ := val_same_l es (by have := (errOf_zero h.2.1).2.1.2.2; have := h.2.2.1; omega) es 0 rfl
  refine ⟨K1 + K2, ?_⟩
  have a1 : api_Dim_50.l0 (K1 + K2) ds ds (ds.length : Int) 0 = some true := h1 _ (by omega)
  have a2 : api_Value_51.l0 (K1 + K2) es es (es.length : Int) 0 = some true := h2 _ (by omega)
  simp only [array_Same.f, array_Check.f, hc, Option.bind_some, if_true, api_Dim_50.f, api_Value_51.f, a1, a2]
theorem get_off_l (l : List S40) (ks : List Int) (hp : Proper l) (h4 : l.length ≤ 4) : ∀ (r : List S40) (s : List Int) (j : Nat) (n : Int), l.drop j = r → ks.drop j = s → ks.length = l.length → -2147483647000 * (4 + (j : Int)) ≤ n → n ≤ 2147483647000 * (4 + (j : Int)) →
    Ev (fun k => array_offset.l0 k l (strL l) n ks (ks.length : Int) (j : Int)) (offGo r (strL r) s n) := by
  intro r
  induction r with
  | nil =>
    intro s j n h hs hl hlo hhi
    have hj := List.drop_eq_nil_iff.1 h
    have hs2 : s = [] := by rw [← hs]; exact List.drop_eq_nil_iff.2 (by omega)
    subst hs2
    refine Ev.one fun k => ?_
    simp only [array_offset.l0, if_neg (not_lt_nil hs), strL, offGo]
  | cons d r ih =>
    intro s j n h hs hl hlo hhi
    have hj := lt_drop h
    cases s with
    | nil => have := List.drop_eq_nil_iff.1 hs; omega
    | cons x s =>
      have c1 : (j : Int) < (l.length : Int) := by omega
      have c2 : (0 : Int) ≤ (j : Int) := by omega
      have c3 : (j : Int) < (ks.length : Int) := by omega
      have c4 : (j : Int) < ((strL l).length : Int) := by rw [strL_length]; exact c1
      have hpr : Proper r := by rw [← drop_next h]; exact hp.drop _
      have hn := hp.1 d (mem_drop h)
      unfold near at hn
      by_cases b1 : x < d.f0
      · refine Ev.one fun k => ?_
        simp only [array_offset.l0, if_pos c1, if_pos c2, if_pos c3, rdT_drop h, rd_drop hs, if_pos b1, strL, offGo]
      · by_cases b2 : x > d.f1
        · refine Ev.one fun k => ?_
          simp only [array_offset.l0, if_pos c1, if_pos c2, if_pos c3, rdT_drop h, rd_drop hs, if_neg b1, if_pos b2, strL, offGo, if_pos (show d.f1 < x from b2)]
        · have hm := mul_bd (prodL r) x hpr.pos hpr.2.2 (by omega) (by omega)
          have w1 : wrap64 (prodL r * x) = prodL r * x := wrap64_id (by omega) (by omega)
          have w2 : wrap64 (n + prodL r * x) = n + prodL r * x := wrap64_id (by omega) (by omega)
          have e : offGo (d :: r) (strL (d :: r)) (x :: s) n = offGo r (strL r) s (n + prodL r * x) := by
            simp only [strL, offGo, if_neg b1, if_neg (show ¬ d.f1 < x from b2)]
          rw [e]
          refine Ev.succ (ih s (j + 1) (n + prodL r * x) (drop_next h) (drop_next hs) hl (by push_cast; omega) (by push_cast; omega)) fun k => ?_
          simp only [array_offset.l0, if_pos c1, if_pos c2, if_pos c3, rdT_drop h, rd_drop hs, if_neg b1, if_neg b2, if_pos c4, strL_rd h, w1, w2, wrap_next (j := j) (by omega)]
/-- Get's word, of a valid array -/
theorem get_ev {t : Int} {ds : List S40} {es : List S59} (h : Fine t ds es) (ks : List Int) : ∃ k, array_Get.f k t ds es ks = some (if ks.length = ds.length then (if inB ds ks = true then ((rd_T59 es (plc ds ks)).f0, (rd_T59 es (plc ds ks)).f1, (rd_T59 es (plc ds ks)).f2.f0, (rd_T59 es (plc ds ks)).f2.f1, (rd_T59 es (plc ds ks)).f3, 0) else (0, 0, 0, 0, false, 3)) else (0, 0, 0, 0, false, 10)) := by
  have hc := check_fine h
  obtain ⟨a, b, c, d⟩ := h
  obtain ⟨_, hp, _, hl1, hl4⟩ := errOf_zero b
  have hs : array_strides.f ds = some (strL ds, fstL ds) := by rw [array_strides.f, if_pos b]
  by_cases hl : ks.length = ds.length
  · have hf := fstL_bd ds hp
    obtain ⟨K, hK⟩ := get_off_l ds ks hp hl4 ds ks 0 (fstL ds) rfl rfl hl (by simp; omega) (by simp; omega)
    have a1 : array_offset.l0 K ds (strL ds) (fstL ds) ks (ks.length : Int) 0 = _ := hK K (Nat.le_refl _)
    have a2 : array_offset.f K ds ks = some (if inB ds ks = true then (plc ds ks, 0) else (0, 3)) := by
      unfold array_offset.f
      rw [if_pos (by omega), hs]
      simp only [Option.bind_some]
      rw [a1]
      cases hb : inB ds ks with
      | true => rw [offGo_in ds ks _ hb, if_pos rfl]; simp only [Option.some.injEq, Prod.mk.injEq, and_true]; omega
      | false => rw [offGo_out ds _ ks _ (strL_length ds) hl hb]; simp
    refine ⟨K, ?_⟩
    rw [if_pos hl]
    simp only [array_Get.f, array_Check.f, hc, Option.bind_some, if_true, a2]
    cases hb : inB ds ks with
    | true =>
      obtain ⟨x, _, _, _, g0, g1⟩ := vAt_some (ext_pos hp) c hb
      simp only [if_true]
      rw [if_pos g0, if_pos g1]
    | false => simp
  · refine ⟨0, ?_⟩
    rw [if_neg hl]
    have a2 : array_offset.f 0 ds ks = some (0, 10) := by unfold array_offset.f; rw [if_neg (by omega)]
    simp only [array_Get.f, array_Check.f, hc, Option.bind_some, if_true, a2]
    simp
end Go.Proofs.Ytcjjmhgboibbgaa.Q

namespace Go.Proofs.Ytcjjmhgboibbgaa.Q
open Go.RowKit Go.Proofs.Rf Go.Proofs.YtcjjmhgboibbgaaW.PrintWords Go.Proofs.YtcjjmhgboibbgaaW.PrintLast Go.Proofs.YtcjjmhgboibbgaaW.PrintMore
set_option linter.unusedVariables false
set_option linter.unusedSimpArgs false
theorem commonGo_word : ∀ (a b acc : List S40), (commonGo a b acc).2 = 0 ∨ (commonGo a b acc) = ([], 5)
  | [], _, _ => .inl (by simp [commonGo])
  | _ :: _, [], _ => .inl (by simp [commonGo])
  | d :: r, e :: s, acc => by
    simp only [commonGo]
    split
    · exact .inr rfl
    · exact commonGo_word r s _
def cuts (a b : List S40) : List S40 := (a.zip b).map fun p => cut p.1 p.2
theorem commonGo_cuts : ∀ (a b acc : List S40), (commonGo a b acc).2 = 0 → a.length = b.length → (commonGo a b acc).1 = acc ++ cuts a b
  | [], [], acc, _, _ => by simp [commonGo, cuts]
  | d :: r, e :: s, acc, h, hl => by
    simp only [commonGo] at h ⊢
    split at h
    · cases h
    · rename_i hc
      rw [if_neg hc, commonGo_cuts r s _ h (by simpa using hl)]
      simp [cuts]
theorem commonGo_zero : ∀ (a b acc : List S40), a.length = b.length → ((commonGo a b acc).2 = 0 ↔ ∀ c ∈ cuts a b, c.f0 ≤ c.f1)
  | [], [], acc, _ => by simp [commonGo, cuts]
  | d :: r, e :: s, acc, hl => by
    have ih := commonGo_zero r s (acc ++ [cut d e]) (by simpa using hl)
    simp only [commonGo]
    have hs : cuts (d :: r) (e :: s) = cut d e :: cuts r s := by simp [cuts]
    rw [hs]
    split
    · rename_i hc
      simp only [List.mem_cons, forall_eq_or_imp]
      constructor
      · intro h; simp at h
      · intro h; omega
    · rename_i hc
      rw [ih]
      simp only [List.mem_cons, forall_eq_or_imp]
      constructor
      · intro h; exact ⟨by omega, h⟩
      · intro h; exact h.2
theorem inB_cuts : ∀ (a b : List S40) (ks : List Int), a.length = b.length → inB (cuts a b) ks = (inB a ks && inB b ks)
  | [], [], [], _ => rfl
  | [], [], _ :: _, _ => rfl
  | d :: r, e :: s, [], _ => rfl
  | d :: r, e :: s, k :: ks, hl => by
    have ih := inB_cuts r s ks (by simpa using hl)
    have hs : cuts (d :: r) (e :: s) = cut d e :: cuts r s := by simp [cuts]
    rw [hs]
    simp only [inB, ih]
    have : decide ((cut d e).f0 ≤ k ∧ k ≤ (cut d e).f1) = (decide (d.f0 ≤ k ∧ k ≤ d.f1) && decide (e.f0 ≤ k ∧ k ≤ e.f1)) := by
      rw [← Bool.decide_and]
      congr 1
      unfold cut mx mn
      apply propext
      simp only
      split <;> split <;> omega
    rw [this]
    cases decide (d.f0 ≤ k ∧ k ≤ d.f1) <;> cases decide (e.f0 ≤ k ∧ k ≤ e.f1) <;> simp
theorem inB_empty : ∀ (l : List S40) (ks : List Int) (c : S40), c ∈ l → c.f1 < c.f0 → inB l ks = false
  | [], _, c, h, _ => by cases h
  | d :: r, [], _, _, _ => rfl
  | d :: r, k :: ks, c, h, hc => by
    simp only [inB]
    rcases List.mem_cons.1 h with rfl | h
    · have : decide (c.f0 ≤ k ∧ k ≤ c.f1) = false := by simp; omega
      rw [this]; rfl
    · rw [inB_empty r ks c h hc]; simp
/-! ### the dimensions in the middle contain the common ones -/
def insK (one cm : List S40) : Nat → Bool
  | 0 => true
  | k + 1 => insK one cm k && (decide ((rd_T40 one (k : Int)).f0 ≤ (rd_T40 cm (k : Int)).f0) && decide ((rd_T40 cm (k : Int)).f1 ≤ (rd_T40 one (k : Int)).f1))
theorem insK_all {one cm : List S40} : ∀ {n : Nat}, insK one cm n = true → ∀ i, i < n → (rd_T40 one (i : Int)).f0 ≤ (rd_T40 cm (i : Int)).f0 ∧ (rd_T40 cm (i : Int)).f1 ≤ (rd_T40 one (i : Int)).f1
  | 0, _, i, h => by omega
  | n + 1, h, i, hi => by
    simp only [insK, Bool.and_eq_true, decide_eq_true_eq] at h
    rcases Nat.lt_or_ge i n with h' | h'
    · exact insK_all h.1 i h'
    · obtain rfl : i = n := by omega
      exact h.2
theorem inB_wide : ∀ (l m : List S40) (s : List Int), l.length = m.length → (∀ i : Nat, i < l.length → (rd_T40 l (i : Int)).f0 ≤ (rd_T40 m (i : Int)).f0 ∧ (rd_T40 m (i : Int)).f1 ≤ (rd_T40 l (i : Int)).f1) → inB m s = true → inB l s = true
  | [], [], s, _, _, h => h
  | d :: l, e :: m, [], _, _, h => by simp [inB] at h
  | d :: l, e :: m, k :: s, hl, hi, h => by
    simp only [inB, Bool.and_eq_true, decide_eq_true_eq] at h ⊢
    have h0 := hi 0 (by simp)
    have e0 : rd_T40 (d :: l) ((0 : Nat) : Int) = d := rfl
    have e1 : rd_T40 (e :: m) ((0 : Nat) : Int) = e := rfl
    rw [e0, e1] at h0
    refine ⟨by omega, inB_wide l m s (by simpa using hl) (fun i hi' => ?_) h.2⟩
    have := hi (i + 1) (by simpa using hi')
    simp only [rd_T40] at this ⊢
    exact this
/-- what the law's end needs -/
theorem own_end {ds one two : List S40} (h0 : errOf ds = 0) (h2 : errOf two = 0) (n1 : one.length = ds.length) (n2 : two.length = ds.length) (h : (commonF ds two).2 = 0 → insK one (commonF ds two).1 one.length = true) : ∀ s, inB two s = true → inB ds s = true → inB one s = true := by
  intro s b2 b0
  have hcf : commonF ds two = commonGo ds two [] := by rw [commonF, if_pos h0, if_pos h2, if_pos n2.symm]
  have hin : inB (cuts ds two) s = true := by rw [inB_cuts ds two s n2.symm, b0, b2]; rfl
  rcases commonGo_word ds two [] with hw | hw
  · rw [hcf] at h
    have hi := h hw
    have hc : (commonGo ds two []).1 = cuts ds two := commonGo_cuts ds two [] hw n2.symm
    rw [hc] at hi
    refine inB_wide one (cuts ds two) s (by rw [n1]; simp [cuts, n2]) (insK_all hi) hin
  · have : ¬ ∀ c ∈ cuts ds two, c.f0 ≤ c.f1 := fun h => by
      have := (commonGo_zero ds two [] n2.symm).2 h
      rw [hw] at this; simp at this
    simp only [Classical.not_forall] at this
    obtain ⟨c, hc, hlt⟩ := this
    rw [inB_empty _ s c hc (by omega)] at hin
    cases hin
theorem common_len {ds two : List S40} (h0 : errOf ds = 0) (h2 : errOf two = 0) (n2 : two.length = ds.length) : ((commonF ds two).2 = 0 ∧ (commonF ds two).1.length = ds.length) ∨ ((commonF ds two).2 = 5 ∧ (commonF ds two).1.length = 0) := by
  have hcf : commonF ds two = commonGo ds two [] := by rw [commonF, if_pos h0, if_pos h2, if_pos n2.symm]
  rw [hcf]
  rcases commonGo_word ds two [] with hw | hw
  · left
    refine ⟨hw, ?_⟩
    rw [commonGo_cuts ds two [] hw n2.symm]
    simp [cuts, n2]
  · right
    rw [hw]; exact ⟨rfl, rfl⟩
end Go.Proofs.Ytcjjmhgboibbgaa.Q

namespace Go.Proofs.Ytcjjmhgboibbgaa.Q
open Go.RowKit Go.Shelf Go.Proofs.Rf Go.Proofs.YtcjjmhgboibbgaaW.PrintWords Go.Proofs.YtcjjmhgboibbgaaW.PrintLast Go.Proofs.YtcjjmhgboibbgaaW.PrintMore
set_option linter.unusedVariables false
set_option linter.unusedSimpArgs false
/-- an array lies here -/
def Arr (W : World) (A : Option Addr) (n c : Nat) (ds : List S40) (B : Option Addr) (m d : Nat) (es : List S59) : Prop := Kd.C k40 W A n ds ∧ n ≤ c ∧ Kd.C k59 W B m es ∧ m ≤ d
theorem Arr.below {W W' : World} {A : Option Addr} {n c : Nat} {ds : List S40} {B : Option Addr} {m d : Nat} {es : List S59} (h : Arr W A n c ds B m d es) (hb : Below W.heap.size W W') : Arr W' A n c ds B m d es :=
  ⟨Kd.C_below h.1 hb, h.2.1, Kd.C_below h.2.2.1 hb, h.2.2.2⟩
theorem Arr.len {W : World} {A : Option Addr} {n c : Nat} {ds : List S40} {B : Option Addr} {m d : Nat} {es : List S59} (h : Arr W A n c ds B m d es) : ds.length = n ∧ es.length = m := ⟨h.1.1, h.2.2.1.1⟩
/-- Resize, of a valid array -/
theorem rz_ok {t : Int} {ds l1 : List S40} {es : List S59} (F : Fine t ds es) (h1 : errOf l1 = 0) (hn : l1.length = ds.length) (A1 A2 A3 : Option Addr) (c1 c2 c3 n m : Nat) (w : World) (hr : Arr w A1 n c1 ds A2 m c2 es) (hr3 : Kd.C k40 w A3 n l1) (hc3 : n ≤ c3) :
    Calls Try.prog 27 #[.agg #[.int .i64 t, .slice A1 n c1, .slice A2 m c2], .slice A3 n c3] w fun e w' => ∃ B1 q1 B2 q2 k, e = .returned (.tuple #[.agg #[.int .i64 t, .slice B1 n q1, .slice B2 k q2], .int .i64 0]) ∧ Arr w' B1 n q1 l1 B2 k q2 (resL t ds es l1) ∧ Below w.heap.size w w' := by
  obtain ⟨rfl, rfl⟩ := hr.len
  obtain ⟨r1, hc1, r2, hc2⟩ := hr
  obtain ⟨ht, hd, hl, hv⟩ := F
  obtain ⟨_, hp, _, hl1, hl4⟩ := errOf_zero hd
  have hp1 := hp.pos
  have hp2 := hp.2.2
  obtain ⟨ad1, rfl⟩ := C_some r1 hl1
  obtain ⟨ad2, rfl⟩ := C_some r2 (by omega)
  obtain ⟨ad3, rfl⟩ := C_some hr3 (by omega)
  have hk := check_fine ⟨ht, hd, hl, hv⟩
  have fin : ∀ (xs : List S40) (ys : List S59), xs = l1 → ys = resL t ds es l1 → ∀ e w', ResizePost t xs ys w e w' → ∃ B1 q1 B2 q2 k, e = .returned (.tuple #[.agg #[.int .i64 t, .slice B1 ds.length q1, .slice B2 k q2], .int .i64 0]) ∧ Arr w' B1 ds.length q1 l1 B2 k q2 (resL t ds es l1) ∧ Below w.heap.size w w' := by
    rintro xs ys rfl rfl e w' ⟨v1, v2, rfl, h1, h2, hb⟩
    obtain ⟨B1, q1, rfl, g1, g2⟩ := Kd.R_reads h1
    obtain ⟨B2, q2, rfl, g3, g4⟩ := Kd.R_reads h2
    rw [hn] at g1 g2 ⊢
    exact ⟨B1, q1, B2, q2, _, rfl, ⟨g2, g1, g4, g3⟩, hb⟩
  by_cases hs : allSame l1 ds = true
  · obtain rfl := allSame_eq l1 ds hn hs
    refine ((callsIn_wide (n := 0)).1 (resize_same t ad1 ad2 (some ad3) c1 c2 c3 l1.length es.length l1 l1 es w r1 hc1 r2 hc2 hr3 hc3 hk hd h1 hs (by omega))).mono ?_
    exact fin l1 es rfl (resL_self ⟨ht, hd, hl, hv⟩).symm
  · refine ((callsIn_wide (n := 0)).1 (resize_walk t ad1 ad2 ad3 c1 c2 c3 ds.length es.length ds l1 es w r1 hc1 r2 hc2 hr3 hc3 ht hk hd h1 (by simpa using hs) hl)).mono ?_
    exact fin l1 _ rfl rfl
/-- the error of a list of dimensions, for arrays of n -/
def errN (n : Nat) (l1 : List S40) : Int := if errOf l1 = 0 then if l1.length = n then 0 else 10 else errOf l1
theorem errN_zero {n : Nat} {l1 : List S40} (h : errN n l1 = 0) : errOf l1 = 0 ∧ l1.length = n := by
  unfold errN at h
  split at h
  · split at h
    · exact ⟨by assumption, by assumption⟩
    · cases h
  · contradiction
theorem rz_no {t : Int} {ds l1 : List S40} {es : List S59} (F : Fine t ds es) (A1 A2 A3 : Option Addr) (c1 c2 c3 n m n3 : Nat) (hx : errN n l1 ≠ 0) (w : World) (hr : Arr w A1 n c1 ds A2 m c2 es) (hr3 : Kd.C k40 w A3 n3 l1) (hc3 : n3 ≤ c3) :
    Calls Try.prog 27 #[.agg #[.int .i64 t, .slice A1 n c1, .slice A2 m c2], .slice A3 n3 c3] w fun e w' => e = .returned (.tuple #[.agg #[.int .i64 0, .slice none 0 0, .slice none 0 0], .int .i64 (errN n l1)]) ∧ Below w.heap.size w w' := by
  obtain ⟨rfl, rfl⟩ := hr.len
  obtain ⟨r1, hc1, r2, hc2⟩ := hr
  have hk := check_fine F
  obtain ⟨ht, hd, hl, hv⟩ := F
  obtain ⟨_, hp, _, hl1, hl4⟩ := errOf_zero hd
  have hp1 := hp.pos
  obtain ⟨ad1, rfl⟩ := C_some r1 hl1
  obtain ⟨ad2, rfl⟩ := C_some r2 (by omega)
  have h3 := hr3.1
  unfold errN at hx ⊢
  by_cases he : errOf l1 = 0
  · rw [if_pos he] at hx ⊢
    by_cases hn : l1.length = ds.length
    · rw [if_pos hn] at hx; exact absurd rfl hx
    · rw [if_neg hn]
      exact (callsIn_wide (n := 0)).1 (resize_kind t ad1 ad2 A3 c1 c2 c3 ds.length es.length n3 ds l1 es w r1 hc1 r2 hc2 hr3 hc3 hk he (by omega))
  · rw [if_neg he]
    exact (callsIn_wide (n := 0)).1 (resize_bad t ad1 ad2 A3 c1 c2 c3 ds.length es.length n3 ds l1 es w r1 hc1 r2 hc2 hr3 hc3 hk he)
theorem ck_c {t : Int} {ds : List S40} {es : List S59} (F : Fine t ds es) (A1 A2 : Option Addr) (c1 c2 n m : Nat) (w : World) (hr : Arr w A1 n c1 ds A2 m c2 es) :
    Calls Try.prog 26 #[.agg #[.int .i64 t, .slice A1 n c1, .slice A2 m c2]] w fun e w' => e = .returned (.int .i64 0) ∧ Below w.heap.size w w' := by
  obtain ⟨rfl, rfl⟩ := hr.len
  obtain ⟨r1, hc1, r2, hc2⟩ := hr
  exact array_Check.calls t A1 c1 ds A2 c2 es 0 w r1 hc1 r2 hc2 (check_fine F)
theorem ck_any (t : Int) (ds : List S40) (es : List S59) : ∃ r, (r = 0 ↔ Fine t ds es) ∧ ∀ (A1 A2 : Option Addr) (c1 c2 n m : Nat) (w : World), Arr w A1 n c1 ds A2 m c2 es →
    Calls Try.prog 26 #[.agg #[.int .i64 t, .slice A1 n c1, .slice A2 m c2]] w fun e w' => e = .returned (.int .i64 r) ∧ Below w.heap.size w w' := by
  obtain ⟨r, h1, h2⟩ := check_word t ds es
  refine ⟨r, h2, fun A1 A2 c1 c2 n m w hr => ?_⟩
  obtain ⟨rfl, rfl⟩ := hr.len
  obtain ⟨r1, hc1, r2, hc2⟩ := hr
  exact array_Check.calls t A1 c1 ds A2 c2 es r w r1 hc1 r2 hc2 h1
theorem same_c2 {t : Int} {ds : List S40} {es es' : List S59} (F : Fine t ds es) (he : es' = es) (A1 A2 B1 B2 : Option Addr) (c1 c2 d1 d2 n m n' m' : Nat) (w : World) (hr : Arr w A1 n c1 ds A2 m c2 es) (hr' : Arr w B1 n' d1 ds B2 m' d2 es') :
    Calls Try.prog 28 #[.agg #[.int .i64 t, .slice A1 n c1, .slice A2 m c2], .agg #[.int .i64 t, .slice B1 n' d1, .slice B2 m' d2]] w fun e w' => e = .returned (.bool true) ∧ Below w.heap.size w w' := by
  subst he
  obtain ⟨rfl, rfl⟩ := hr.len
  obtain ⟨rfl, rfl⟩ := hr'.len
  obtain ⟨r1, hc1, r2, hc2⟩ := hr
  obtain ⟨s1, hd1, s2, hd2⟩ := hr'
  obtain ⟨k, hk⟩ := same_self F
  exact (array_Same.calls k t A1 c1 ds A2 c2 es' t B1 d1 ds B2 d2 es' true w r1 hc1 r2 hc2 s1 hd1 s2 hd2 hk)
/-- what Get returns -/
def getV (t : Int) (ds : List S40) (es : List S59) (ks : List Int) : S59 := if ks.length = ds.length then if inB ds ks = true then rd_T59 es (plc ds ks) else ⟨0, 0, z57, false⟩ else ⟨0, 0, z57, false⟩
def getE (ds : List S40) (ks : List Int) : Int := if ks.length = ds.length then if inB ds ks = true then 0 else 3 else 10
theorem get_c {t : Int} {ds : List S40} {es : List S59} (F : Fine t ds es) (ks : List Int) (A1 A2 A3 : Option Addr) (c1 c2 c3 n m n3 : Nat) (w : World) (hr : Arr w A1 n c1 ds A2 m c2 es) (hr3 : Kd.C (Kd.int .i64) w A3 n3 ks) (hc3 : n3 ≤ c3) :
    Calls Try.prog 29 #[.agg #[.int .i64 t, .slice A1 n c1, .slice A2 m c2], .slice A3 n3 c3] w fun e w' => e = .returned (.tuple #[.agg #[.int .i64 (getV t ds es ks).f0, .int .i64 (getV t ds es ks).f1, .int .i64 (getV t ds es ks).f2.f0, .int .i64 (getV t ds es ks).f2.f1, .bool (getV t ds es ks).f3], .int .i64 (getE ds ks)]) ∧ Below w.heap.size w w' := by
  obtain ⟨rfl, rfl⟩ := hr.len
  obtain ⟨r1, hc1, r2, hc2⟩ := hr
  have h3 := hr3.1
  subst h3
  obtain ⟨k, hk⟩ := get_ev F ks
  refine array_Get.calls k t A1 c1 ds A2 c2 es A3 c3 ks _ _ _ _ _ _ w r1 hc1 r2 hc2 hr3 hc3 ?_
  rw [hk]
  unfold getV getE
  split
  · split <;> rfl
  · rfl
end Go.Proofs.Ytcjjmhgboibbgaa.Q
