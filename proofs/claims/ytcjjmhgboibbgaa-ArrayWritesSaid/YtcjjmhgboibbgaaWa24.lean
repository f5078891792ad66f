/-
  Texts of the proof, in build order: words that the walks use, contracts of functions, plain facts.
-/
import Derived.Deep.RegionHeld3
import Derived.Test.YtcjjmhgboibbgaaWa23
section
namespace Go.Proofs.Ytcjjmhgboibbgaa.Q
open Go.RowKit Go.Shelf Go.Proofs.Rf Go.Proofs.YtcjjmhgboibbgaaW.PrintWords Go.Proofs.YtcjjmhgboibbgaaW.PrintLast Go.Proofs.YtcjjmhgboibbgaaW.PrintMore
set_option linter.unusedVariables false
set_option linter.unusedSimpArgs false
set_option maxRecDepth 100000
attribute [local go_sem high] eqA40 eqA59
def setK (t : Int) (n m n3 : Nat) (a b c d : Int) (f : Bool) (ds : List S40) (ks : List Int) (es : List S59) (P : World → Ending → World → Prop) : Prop :=
  ∀ (A1 A2 A3 : Option Addr) (c1 c2 c3 : Nat) (w : World), Arr w A1 n c1 ds A2 m c2 es → Kd.C (Kd.int .i64) w A3 n3 ks → n3 ≤ c3 →
    Calls Try.prog 31 #[.agg #[.int .i64 t, .slice A1 n c1, .slice A2 m c2], .slice A3 n3 c3, .agg #[.int .i64 a, .int .i64 b, .int .i64 c, .int .i64 d, .bool f]] w (P w)
set_option maxHeartbeats 40000000 in
theorem wr_main (t : Int) (ds : List S40) (es es1 es2 es3 es4 : List S59) (ks js : List Int) (va vb vc vd za zb zc zd : Int) (vf zf : Bool) (y1 y2 : S59) (x2 pk pj : Int) (A1 A2 A3 A4 : Option Addr) (c1 c2 c3 c4 n m n3 n4 : Nat) (w : World)
    (hr : Arr w A1 n c1 ds A2 m c2 es) (h3 : Kd.C (Kd.int .i64) w A3 n3 ks) (hc3 : n3 ≤ c3) (h4 : Kd.C (Kd.int .i64) w A4 n4 js) (hc4 : n4 ≤ c4)
    (F : Fine t ds es) (hm : m ≤ 1010) (hn3 : n3 ≤ 6) (hn4 : n4 ≤ 6) (hk : inB ds ks = true) (hpk : pk = plc ds ks)
    (hy1 : badF t y1 = some false) (hv1 : va = t → y1 = ⟨va, vb, ⟨vc, vd⟩, vf⟩) (he1 : es1 = es.set pk.toNat y1)
    (hs1 : setK t n m n3 va vb vc vd vf ds ks es (SetPost t n m ds es1))
    (hx2 : (x2 ≠ 0 ∧ setK t n m n4 za zb zc zd zf ds js es1 (ResizeNo x2)) ∨ (x2 = 0 ∧ inB ds js = true ∧ pj = plc ds js ∧ Fine t ds es2 ∧ (pj = pk → es3 = es2) ∧ (pj ≠ pk → es4 = es2) ∧ setK t n m n4 za zb zc zd zf ds js es1 (SetPost t n m ds es2) ∧ setK t n m n4 za zb zc zd zf ds js es (SetPost t n m ds es3) ∧ setK t n m n3 va vb vc vd vf ds ks es3 (SetPost t n m ds es4))) :
    Calls Try.prog 9 #[.agg #[.int .i64 t, .slice A1 n c1, .slice A2 m c2], .slice A3 n3 c3, .slice A4 n4 c4, .agg #[.int .i64 va, .int .i64 vb, .int .i64 vc, .int .i64 vd, .bool vf], .agg #[.int .i64 za, .int .i64 zb, .int .i64 zc, .int .i64 zd, .bool zf]] w (SanPost w) := by
  have hn6 : n ≤ 6 := by have := (errOf_zero F.2.1).2.2.2.2; have := hr.1.1; omega
  have q1 : (6 : Int) < (n3 : Int) ↔ False := by simp; omega
  have q2 : (6 : Int) < (n4 : Int) ↔ False := by simp; omega
  have q5 : decide (n ≤ 6) = true := decide_eq_true hn6
  have q6 : decide (m ≤ 1010) = true := decide_eq_true hm
  have hp := plc_in F hk
  rw [← hpk, hr.len.2] at hp
  obtain ⟨ad2, rfl⟩ := C_some hr.2.2.1 (by omega)
  have HF1 : Hid (Fine t ds es1) := Lib.hid (by rw [he1]; exact fine_set F _ hy1)
  have HG : Hid (getV t ds es1 ks = y1) := Lib.hid (by rw [he1, hpk]; exact get_set F hk y1)
  have HGE : Hid (getE ds ks = 0) := Lib.hid (getE_zero.2 hk)
  have HPE := Lib.hid hpk
  have HP := Lib.hid hp
  have HL := Lib.hid hr.len
  have HR := Lib.hid hr
  have H3 := Lib.hid h3
  have H4 := Lib.hid h4
  have HF := Lib.hid F
  have HY := Lib.hid hy1
  have HV := Lib.hid hv1
  have HE1 := Lib.hid he1
  have HS1 := Lib.hid hs1
  have HX2 := Lib.hid hx2
  clear hr h3 h4 F hn3 hn4 hn6 hpk hk hy1 hv1 he1 hs1 hx2 hp
  have hAx : (((w.alloc (.cells #[.int .i64 t, .slice A1 n c1, .slice (some ad2) m c2] 50)).alloc (.cells #[.int .i64 va, .int .i64 vb, .int .i64 vc, .int .i64 vd, .bool vf] 59)).alloc (.cells #[.int .i64 za, .int .i64 zb, .int .i64 zc, .int .i64 zd, .bool zf] 59)).heap[w.heap.size]? = some (.cells #[.int .i64 t, .slice A1 n c1, .slice (some ad2) m c2] 50) := blk_alloc (blk_alloc (heap_alloc_new w _) _) _
  have hVx : (((w.alloc (.cells #[.int .i64 t, .slice A1 n c1, .slice (some ad2) m c2] 50)).alloc (.cells #[.int .i64 va, .int .i64 vb, .int .i64 vc, .int .i64 vd, .bool vf] 59)).alloc (.cells #[.int .i64 za, .int .i64 zb, .int .i64 zc, .int .i64 zd, .bool zf] 59)).heap[w.heap.size + 1]? = some (.cells #[.int .i64 va, .int .i64 vb, .int .i64 vc, .int .i64 vd, .bool vf] 59) := newC w _ _ _
  have hXx : (((w.alloc (.cells #[.int .i64 t, .slice A1 n c1, .slice (some ad2) m c2] 50)).alloc (.cells #[.int .i64 va, .int .i64 vb, .int .i64 vc, .int .i64 vd, .bool vf] 59)).alloc (.cells #[.int .i64 za, .int .i64 zb, .int .i64 zc, .int .i64 zd, .bool zf] 59)).heap[w.heap.size + 1 + 1]? = some (.cells #[.int .i64 za, .int .i64 zb, .int .i64 zc, .int .i64 zd, .bool zf] 59) := newD w _ _ _
  have hB : Below w.heap.size w (((w.alloc (.cells #[.int .i64 t, .slice A1 n c1, .slice (some ad2) m c2] 50)).alloc (.cells #[.int .i64 va, .int .i64 vb, .int .i64 vc, .int .i64 vd, .bool vf] 59)).alloc (.cells #[.int .i64 za, .int .i64 zb, .int .i64 zc, .int .i64 zd, .bool zf] 59)) := below_alloc (below_alloc (below_alloc (Below.refl _ _) _) _) _
  have M1 := Lib.hid trivial
  go_enter Try.func9, Try.ntmps9
  go_upto_region 9 with (first
    | (go_at_call 25; refine (small_c t _ _ _ _ _ _ ds es _ (HR.out.below hB)).mono ?_; rintro e w1 ⟨rfl, hb⟩; rw [q5, q6]; (replace hB := below_step (by first | exact hB | exact below_alloc hB _ | exact below_alloc (below_alloc hB _) _) hb); (replace hAx := blk_below (by first | exact hAx | exact blk_alloc hAx _ | exact blk_alloc (blk_alloc hAx _) _) hb); (replace hVx := blk_below (by first | exact hVx | exact blk_alloc hVx _ | exact blk_alloc (blk_alloc hVx _) _) hb); (replace hXx := blk_below (by first | exact hXx | exact blk_alloc hXx _ | exact blk_alloc (blk_alloc hXx _) _) hb); (have aq0 := c3_0 hAx); (have aq1 := c3_1 hAx); (have aq2 := c3_2 hAx); (have aql := blk_lt hAx); clear hb)
    | (go_at_call 26; refine (ck_c HF.out _ _ _ _ _ _ _ (HR.out.below hB)).mono ?_; rintro e w2 ⟨rfl, hb⟩; (replace hB := below_step (by first | exact hB | exact below_alloc hB _ | exact below_alloc (below_alloc hB _) _) hb); (replace hAx := blk_below (by first | exact hAx | exact blk_alloc hAx _ | exact blk_alloc (blk_alloc hAx _) _) hb); (replace hVx := blk_below (by first | exact hVx | exact blk_alloc hVx _ | exact blk_alloc (blk_alloc hVx _) _) hb); (replace hXx := blk_below (by first | exact hXx | exact blk_alloc hXx _ | exact blk_alloc (blk_alloc hXx _) _) hb); (clear aq0 aq1 aq2 aql); (have aq0 := c3_0 hAx); (have aq1 := c3_1 hAx); (have aq2 := c3_2 hAx); (have aql := blk_lt hAx); clear hb)
    | (at_builtin; (refine Kd.R_append_rows k59 (Rr := k59.K (w2.alloc (.cells #[] 59))) (w0 := w2) w2.heap.size rfl (.tmp 42) (.tmp 44) 48 59 (.agg #[.int .i64 0, .int .i64 0, .int .i64 0, .int .i64 0, .bool false]) 40 rfl Try.underlying48 info59 rfl (by decide) (by omega) (.slice (some ⟨w2.heap.size, 0, none⟩) 0 0) [] es (some ad2) m c2 (fun _ => True) (fun _ => False) rfl rfl ?aO ?aR ?aK (fun _ hk => hk.elim) (fun _ _ => trivial) ?aB ?aS ?aL ?_); (case aO => exact R_empty _ _ _ w2 _ _ (Nat.le_refl _) (heap_alloc_new _ _)); (case aR => exact Kd.C_below HR.out.2.2.1 (below_alloc hB _)); (case aK => exact fun x cs h => k59_KM x cs h); (case aB => exact below_alloc (Below.refl _ _) _); (case aS => simp); (case aL => simp only [List.length_nil]; omega); intro v1 w3 ho hb hg hat; (have ho2 := own_row ho); rw [List.nil_append, HL.out.2] at ho2; clear ho hg hat; (obtain ⟨O, oc, rfl, hoc, ho3⟩ := ho2); (have HO := Lib.hid ho3); (have HOC := Lib.hid hoc); clear ho3 hoc; (replace hB := below_step (by first | exact hB | exact below_alloc hB _ | exact below_alloc (below_alloc hB _) _) hb); (replace hAx := blk_below (by first | exact hAx | exact blk_alloc hAx _ | exact blk_alloc (blk_alloc hAx _) _) hb); (replace hVx := blk_below (by first | exact hVx | exact blk_alloc hVx _ | exact blk_alloc (blk_alloc hVx _) _) hb); (replace hXx := blk_below (by first | exact hXx | exact blk_alloc hXx _ | exact blk_alloc (blk_alloc hXx _) _) hb); (clear aq0 aq1 aq2 aql); (have aq0 := c3_0 hAx); (have aq1 := c3_1 hAx); (have aq2 := c3_2 hAx); (have aql := blk_lt hAx); (obtain ⟨vq0, vq1, vq2, vq3, vq4, vql⟩ := c5_of hVx); clear hb)
    | (go_at_call 31; (have M := M1); clear M M1; refine (HS1.out _ _ _ _ _ _ _ (HR.out.below hB) (Kd.C_below H3.out hB) hc3).mono ?_; rintro e w4 ⟨B1, k1, B2, k2, rfl, hS, hb⟩; (have HBb := Lib.hid hS); clear hS; (replace hB := below_step (by first | exact hB | exact below_alloc hB _ | exact below_alloc (below_alloc hB _) _) hb); (replace hAx := blk_below (by first | exact hAx | exact blk_alloc hAx _ | exact blk_alloc (blk_alloc hAx _) _) hb); (replace hVx := blk_below (by first | exact hVx | exact blk_alloc hVx _ | exact blk_alloc (blk_alloc hVx _) _) hb); (replace hXx := blk_below (by first | exact hXx | exact blk_alloc hXx _ | exact blk_alloc (blk_alloc hXx _) _) hb); (clear aq0 aq1 aq2 aql); (clear vq0 vq1 vq2 vq3 vq4 vql); (have aq0 := c3_0 hAx); (have aq1 := c3_1 hAx); (have aq2 := c3_2 hAx); (have aql := blk_lt hAx); (replace HO := Lib.hid (Kd.C_below HO.out (below_step (by first | exact Below.refl _ _ | exact below_alloc (Below.refl _ _) _) hb))); clear hb; (have M2 := Lib.hid trivial))
    | (go_at_call 29; refine (get_c HF1.out ks _ _ _ _ _ _ _ _ _ _ (HBb.out.below (by first | exact Below.refl _ _ | exact below_alloc (Below.refl _ _) _)) (Kd.C_below H3.out (by first | exact hB | exact below_alloc hB _ | exact below_alloc (below_alloc hB _) _)) hc3).mono ?_; rintro e w5 ⟨rfl, hb⟩; rw [HG.out, HGE.out]; (replace hB := below_step (by first | exact hB | exact below_alloc hB _ | exact below_alloc (below_alloc hB _) _) hb); (replace hAx := blk_below (by first | exact hAx | exact blk_alloc hAx _ | exact blk_alloc (blk_alloc hAx _) _) hb); (replace hVx := blk_below (by first | exact hVx | exact blk_alloc hVx _ | exact blk_alloc (blk_alloc hVx _) _) hb); (replace hXx := blk_below (by first | exact hXx | exact blk_alloc hXx _ | exact blk_alloc (blk_alloc hXx _) _) hb); (have hBx := blk_below (heap_alloc_new _ _) hb); (clear aq0 aq1 aq2 aql); (have aq0 := c3_0 hAx); (have aq1 := c3_1 hAx); (have aq2 := c3_2 hAx); (have aql := blk_lt hAx); (have bq0 := c3_0 hBx); (have bq1 := c3_1 hBx); (have bq2 := c3_2 hBx); (have bql := blk_lt hBx); (replace HO := Lib.hid (Kd.C_below HO.out (below_step (by first | exact Below.refl _ _ | exact below_alloc (Below.refl _ _) _) hb))); (replace HBb := Lib.hid (HBb.out.below (below_step (by first | exact Below.refl _ _ | exact below_alloc (Below.refl _ _) _) hb))); clear hb)
    | (go_at_call 13; (have M := M2); clear M M2; refine (pub_c HF.out.2.1 ks _ _ _ _ _ _ _ (Kd.C_below HR.out.1 (by first | exact hB | exact below_alloc hB _ | exact below_alloc (below_alloc hB _) _)) HR.out.2.1 (Kd.C_below H3.out (by first | exact hB | exact below_alloc hB _ | exact below_alloc (below_alloc hB _) _)) hc3).mono ?_; rintro e w6 ⟨rfl, hb⟩; rw [if_pos HGE.out, HGE.out, ← HPE.out]; (replace hB := below_step (by first | exact hB | exact below_alloc hB _ | exact below_alloc (below_alloc hB _) _) hb); (replace hAx := blk_below (by first | exact hAx | exact blk_alloc hAx _ | exact blk_alloc (blk_alloc hAx _) _) hb); (replace hVx := blk_below (by first | exact hVx | exact blk_alloc hVx _ | exact blk_alloc (blk_alloc hVx _) _) hb); (replace hXx := blk_below (by first | exact hXx | exact blk_alloc hXx _ | exact blk_alloc (blk_alloc hXx _) _) hb); (replace hBx := blk_below (by first | exact hBx | exact blk_alloc hBx _ | exact blk_alloc (blk_alloc hBx _) _) hb); (have hGx := blk_below (heap_alloc_new _ _) hb); (clear aq0 aq1 aq2 aql); (clear bq0 bq1 bq2 bql); (have aq0 := c3_0 hAx); (have aq1 := c3_1 hAx); (have aq2 := c3_2 hAx); (have aql := blk_lt hAx); (obtain ⟨vq0, vq1, vq2, vq3, vq4, vql⟩ := c5_of hVx); (have bq0 := c3_0 hBx); (have bq1 := c3_1 hBx); (have bq2 := c3_2 hBx); (have bql := blk_lt hBx); (obtain ⟨gq0, gq1, gq2, gq3, gq4, gql⟩ := c5_of hGx); (replace HO := Lib.hid (Kd.C_below HO.out (below_step (by first | exact Below.refl _ _ | exact below_alloc (Below.refl _ _) _) hb))); (replace HBb := Lib.hid (HBb.out.below (below_step (by first | exact Below.refl _ _ | exact below_alloc (Below.refl _ _) _) hb))); clear hb; (have M3 := Lib.hid trivial)))
  have hyk := bad_kind HY.out
  have hoc := HOC.out
  go_cut [101] (fun v wc => v = .bool false ∧ wc = w6)
  case first =>
    have b1 : (y1.f0 != t) = false := by simp [hyk]
    clear hyk
    by_cases hvt : va = t
    · have b2 : (va == t) = true := beq_iff_eq.mpr hvt
      have b3 : (va != t) = false := by simp [hvt]
      have hy := HV.out hvt
      clear hvt
      subst hy
      go_wp2
      go_meet
      case rel => exact ⟨rfl, rfl⟩
    · have b2 : (va == t) = false := beq_eq_false_iff_ne.mpr hvt
      clear hvt
      go_wp2
      go_meet
      case rel => exact ⟨rfl, rfl⟩
  case rest =>
    obtain ⟨rfl, rfl⟩ := hcut
    clear hyk aq0 aq1 aq2 aql vq0 vq1 vq2 vq3 vq4 vql bq0 bq1 bq2 bql gq0 gq1 gq2 gq3 gq4 gql hGx
    have HBl := Lib.hid hB
    have HAx := Lib.hid hAx
    have HVx := Lib.hid hVx
    have HXx := Lib.hid hXx
    have HBx := Lib.hid hBx
    clear hB hAx hVx hXx hBx
    go_wp2
    go_loopw [18] (fun vi wr => ∃ j : Nat, j ≤ m ∧ vi = .int .i64 j ∧ Hid (Below wc.heap.size wc wr)) (fun vi _ => m - (intOf vi).toNat)
    case atStart => exact ⟨0, Nat.zero_le _, rfl, Lib.hid (Below.refl _ _)⟩
    case round =>
      obtain ⟨j, hj, rfl, HW⟩ := hrel
      by_cases hlt : j < m
      · have hj0 : (0 : Int) ≤ (j : Int) := by omega
        have hji : (j : Int) < (m : Int) := by omega
        have ha := blk_below HAx.out HW.out
        have a0 := c3_0 ha
        have a1 := c3_1 ha
        have a2 := c3_2 ha
        have al := blk_lt ha
        have hb := blk_below HBx.out HW.out
        have b0 := c3_0 hb
        have b1 := c3_1 hb
        have b2 := c3_2 hb
        have bl := blk_lt hb
        clear ha hb
        obtain ⟨au, eu, p0, p1, p2, p3, p4⟩ := at_T59 (Kd.C_below (Kd.C_below HR.out.2.2.1 HBl.out) HW.out) (j : Int) hj0 hji
        cases eu
        simp only [Int.toNat_natCast] at p0 p1 p2 p3 p4
        obtain ⟨gu, ou, du⟩ := addr_of p0
        rw [du] at p0 p1 p2 p3 p4
        obtain ⟨av, ev, s0, s1, s2, s3, s4⟩ := at_T59 (Kd.C_below HO.out HW.out) (j : Int) hj0 hji
        cases ev
        simp only [Int.toNat_natCast] at s0 s1 s2 s3 s4
        obtain ⟨gv, ov, dv⟩ := addr_of s0
        rw [dv] at s0 s1 s2 s3 s4
        obtain ⟨ar, er, z0, z1, z2, z3, z4⟩ := at_T59 (Kd.C_below HBb.out.2.2.1 HW.out) (j : Int) hj0 hji
        cases er
        simp only [Int.toNat_natCast] at z0 z1 z2 z3 z4
        obtain ⟨gr, or, dr⟩ := addr_of z0
        rw [dr] at z0 z1 z2 z3 z4
        have hrd := rd_set (es := es) y1 HP.out.1 (by rw [HL.out.2]; exact HP.out.2) hj0
        rw [← HE1.out] at hrd
        have hw : wrap64 ((j : Int) + 1) = ((j + 1 : Nat) : Int) := wrap_next (by omega)
        by_cases hjp : (j : Int) = pk
        · have n1 : ((j : Int) != pk) = false := by simp [hjp]
          clear hrd hjp
          generalize rd_T59 es (j : Int) = d at *
          generalize rd_T59 es1 (j : Int) = e at *
          go_wp2
          go_quiet (fail)
          clear a0 a1 a2 al b0 b1 b2 bl p0 p1 p2 p3 p4 s0 s1 s2 s3 s4 z0 z1 z2 z3 z4 du dv dr n1
          go_wp2
          go_roundw
          case rel => exact ⟨j + 1, by omega, by first | rfl | (push_cast; rfl), Lib.hid (by first | exact pw_below_drewN HW.out _ | exact below_drew HW.out | exact HW.out)⟩
          case measure => simp [intOf, hw]; omega
        · have n1 : ((j : Int) != pk) = true := by simp [hjp]
          rw [if_neg hjp] at hrd
          rw [hrd] at z0 z1 z2 z3 z4
          clear hrd hjp
          generalize rd_T59 es (j : Int) = d at *
          go_wp2
          go_quiet (fail)
          clear a0 a1 a2 al b0 b1 b2 bl p0 p1 p2 p3 p4 s0 s1 s2 s3 s4 z0 z1 z2 z3 z4 du dv dr n1
          go_wp2
          go_roundw
          case rel => exact ⟨j + 1, by omega, by first | rfl | (push_cast; rfl), Lib.hid (by first | exact pw_below_drewN HW.out _ | exact below_drew HW.out | exact HW.out)⟩
          case measure => simp [intOf, hw]; omega
      · obtain rfl : m = j := by omega
        have hmm : ¬ ((m : Int) < (m : Int)) := by omega
        have hB := below_step HBl.out HW.out
        have hAx := blk_below HAx.out HW.out
        have hVx := blk_below HVx.out HW.out
        have hXx := blk_below HXx.out HW.out
        have hBx := blk_below HBx.out HW.out
        replace HBb := Lib.hid (HBb.out.below HW.out)
        clear HW HBl HAx HVx HXx HBx HO
        (have aq0 := c3_0 hAx); (have aq1 := c3_1 hAx); (have aq2 := c3_2 hAx); (have aql := blk_lt hAx)
        (obtain ⟨xq0, xq1, xq2, xq3, xq4, xql⟩ := c5_of hXx)
        (have bq0 := c3_0 hBx); (have bq1 := c3_1 hBx); (have bq2 := c3_2 hBx); (have bql := blk_lt hBx)
        have M4 := Lib.hid trivial
        rcases HX2.out with ⟨hx, hs2⟩ | ⟨hx, hkj, hpj, hF2, hs23, hs24, hs2, hs3, hs4⟩
        · have HS2 := Lib.hid hs2
          have b1 : (x2 != 0) = true := by simpa using hx
          clear hs2 hx HX2
          go_wp2_with (first
            | (go_at_call 31; refine (HS2.out _ _ _ _ _ _ _ (HBb.out.below (by first | exact Below.refl _ _ | exact below_alloc (Below.refl _ _) _)) (Kd.C_below H4.out (by first | exact hB | exact below_alloc hB _ | exact below_alloc (below_alloc hB _) _)) hc4).mono ?_; rintro e w7 ⟨rfl, hb⟩; (replace hB := below_step (by first | exact hB | exact below_alloc hB _ | exact below_alloc (below_alloc hB _) _) hb); (clear aq0 aq1 aq2 aql); (clear xq0 xq1 xq2 xq3 xq4 xql); (clear bq0 bq1 bq2 bql); clear hb hAx hVx hXx hBx)
            | (go_at_call 11; refine (manorboylaw08_sanity.calls true _ rfl).mono ?_; rintro e w20 ⟨rfl, hb⟩; (replace hB := below_step (by first | exact hB | exact below_alloc hB _ | exact below_alloc (below_alloc hB _) _) hb); clear hb))
          go_ret
          exact ⟨rfl, hB⟩
        · subst hx
          have HS2 := Lib.hid hs2
          have HS3 := Lib.hid hs3
          have HS4 := Lib.hid hs4
          have HF2 := Lib.hid hF2
          have HGJ : Hid (getE ds js = 0) := Lib.hid (getE_zero.2 hkj)
          have HPJ := Lib.hid hpj
          have H23 := Lib.hid hs23
          have H24 := Lib.hid hs24
          clear hs2 hs3 hs4 hF2 hpj hkj hs23 hs24 HX2
          by_cases hp : pj = pk
          · have b1 : (pj == pk) = true := beq_iff_eq.mpr hp
            have HEQ := Lib.hid (H23.out hp)
            clear hp H23 H24
            go_wp2_with (first
              | (go_at_call 31; (have M := M4); clear M M4; refine (HS2.out _ _ _ _ _ _ _ (HBb.out.below (by first | exact Below.refl _ _ | exact below_alloc (Below.refl _ _) _)) (Kd.C_below H4.out (by first | exact hB | exact below_alloc hB _ | exact below_alloc (below_alloc hB _) _)) hc4).mono ?_; rintro e w7 ⟨B3, k3, B4, k4, rfl, hS, hb⟩; (have HCc := Lib.hid hS); clear hS; (replace hB := below_step (by first | exact hB | exact below_alloc hB _ | exact below_alloc (below_alloc hB _) _) hb); (replace hAx := blk_below (by first | exact hAx | exact blk_alloc hAx _ | exact blk_alloc (blk_alloc hAx _) _) hb); (replace hVx := blk_below (by first | exact hVx | exact blk_alloc hVx _ | exact blk_alloc (blk_alloc hVx _) _) hb); (replace hXx := blk_below (by first | exact hXx | exact blk_alloc hXx _ | exact blk_alloc (blk_alloc hXx _) _) hb); (clear aq0 aq1 aq2 aql); (clear xq0 xq1 xq2 xq3 xq4 xql); (clear bq0 bq1 bq2 bql); (have aq0 := c3_0 hAx); (have aq1 := c3_1 hAx); (have aq2 := c3_2 hAx); (have aql := blk_lt hAx); (obtain ⟨xq0, xq1, xq2, xq3, xq4, xql⟩ := c5_of hXx); clear hb hBx HBb; (have M5 := Lib.hid trivial))
              | (go_at_call 31; (have M := M5); clear M M5; refine (HS3.out _ _ _ _ _ _ _ (HR.out.below (by first | exact hB | exact below_alloc hB _ | exact below_alloc (below_alloc hB _) _)) (Kd.C_below H4.out (by first | exact hB | exact below_alloc hB _ | exact below_alloc (below_alloc hB _) _)) hc4).mono ?_; rintro e w8 ⟨B5, k5, B6, k6, rfl, hS, hb⟩; (have HDd := Lib.hid hS); clear hS; (replace hB := below_step (by first | exact hB | exact below_alloc hB _ | exact below_alloc (below_alloc hB _) _) hb); (replace hAx := blk_below (by first | exact hAx | exact blk_alloc hAx _ | exact blk_alloc (blk_alloc hAx _) _) hb); (replace hVx := blk_below (by first | exact hVx | exact blk_alloc hVx _ | exact blk_alloc (blk_alloc hVx _) _) hb); (have hCx := blk_below (heap_alloc_new _ _) hb); (clear aq0 aq1 aq2 aql); (clear xq0 xq1 xq2 xq3 xq4 xql); (have aq0 := c3_0 hAx); (have aq1 := c3_1 hAx); (have aq2 := c3_2 hAx); (have aql := blk_lt hAx); (replace HCc := Lib.hid (HCc.out.below (below_step (by first | exact Below.refl _ _ | exact below_alloc (Below.refl _ _) _) hb))); clear hb hXx; (have M6 := Lib.hid trivial))
              | (go_at_call 13; (have M := M6); clear M M6; refine (pub_c HF.out.2.1 js _ _ _ _ _ _ _ (Kd.C_below HR.out.1 (by first | exact hB | exact below_alloc hB _ | exact below_alloc (below_alloc hB _) _)) HR.out.2.1 (Kd.C_below H4.out (by first | exact hB | exact below_alloc hB _ | exact below_alloc (below_alloc hB _) _)) hc4).mono ?_; rintro e w9 ⟨rfl, hb⟩; rw [if_pos HGJ.out, HGJ.out, ← HPJ.out]; (replace hB := below_step (by first | exact hB | exact below_alloc hB _ | exact below_alloc (below_alloc hB _) _) hb); (replace hVx := blk_below (by first | exact hVx | exact blk_alloc hVx _ | exact blk_alloc (blk_alloc hVx _) _) hb); (replace hCx := blk_below (by first | exact hCx | exact blk_alloc hCx _ | exact blk_alloc (blk_alloc hCx _) _) hb); (have hDx := blk_below (heap_alloc_new _ _) hb); (clear aq0 aq1 aq2 aql); (obtain ⟨vq0, vq1, vq2, vq3, vq4, vql⟩ := c5_of hVx); (have dq0 := c3_0 hDx); (have dq1 := c3_1 hDx); (have dq2 := c3_2 hDx); (have dql := blk_lt hDx); (replace HCc := Lib.hid (HCc.out.below (below_step (by first | exact Below.refl _ _ | exact below_alloc (Below.refl _ _) _) hb))); (replace HDd := Lib.hid (HDd.out.below (below_step (by first | exact Below.refl _ _ | exact below_alloc (Below.refl _ _) _) hb))); clear hb hAx; (have M7 := Lib.hid trivial))
              | (go_at_call 11; refine (manorboylaw08_sanity.calls true _ rfl).mono ?_; rintro e w10 ⟨rfl, hb⟩; (replace hB := below_step (by first | exact hB | exact below_alloc hB _ | exact below_alloc (below_alloc hB _) _) hb); (replace hCx := blk_below (by first | exact hCx | exact blk_alloc hCx _ | exact blk_alloc (blk_alloc hCx _) _) hb); (replace hDx := blk_below (by first | exact hDx | exact blk_alloc hDx _ | exact blk_alloc (blk_alloc hDx _) _) hb); (clear vq0 vq1 vq2 vq3 vq4 vql); (clear dq0 dq1 dq2 dql); (have cq0 := c3_0 hCx); (have cq1 := c3_1 hCx); (have cq2 := c3_2 hCx); (have cql := blk_lt hCx); (have dq0 := c3_0 hDx); (have dq1 := c3_1 hDx); (have dq2 := c3_2 hDx); (have dql := blk_lt hDx); (replace HCc := Lib.hid (HCc.out.below (below_step (by first | exact Below.refl _ _ | exact below_alloc (Below.refl _ _) _) hb))); (replace HDd := Lib.hid (HDd.out.below (below_step (by first | exact Below.refl _ _ | exact below_alloc (Below.refl _ _) _) hb))); clear hb)
              | (go_at_call 28; refine (same_c2 HF2.out HEQ.out _ _ _ _ _ _ _ _ _ _ _ _ _ HCc.out HDd.out).mono ?_; rintro e w21 ⟨rfl, hb⟩; (replace hB := below_step hB hb); clear hb))
            go_ret
            exact ⟨rfl, hB⟩
          · have b1 : (pj == pk) = false := beq_eq_false_iff_ne.mpr hp
            have HEQ := Lib.hid (H24.out hp)
            clear hp H23 H24
            go_wp2_with (first
              | (go_at_call 31; (have M := M4); clear M M4; refine (HS2.out _ _ _ _ _ _ _ (HBb.out.below (by first | exact Below.refl _ _ | exact below_alloc (Below.refl _ _) _)) (Kd.C_below H4.out (by first | exact hB | exact below_alloc hB _ | exact below_alloc (below_alloc hB _) _)) hc4).mono ?_; rintro e w7 ⟨B3, k3, B4, k4, rfl, hS, hb⟩; (have HCc := Lib.hid hS); clear hS; (replace hB := below_step (by first | exact hB | exact below_alloc hB _ | exact below_alloc (below_alloc hB _) _) hb); (replace hAx := blk_below (by first | exact hAx | exact blk_alloc hAx _ | exact blk_alloc (blk_alloc hAx _) _) hb); (replace hVx := blk_below (by first | exact hVx | exact blk_alloc hVx _ | exact blk_alloc (blk_alloc hVx _) _) hb); (replace hXx := blk_below (by first | exact hXx | exact blk_alloc hXx _ | exact blk_alloc (blk_alloc hXx _) _) hb); (clear aq0 aq1 aq2 aql); (clear xq0 xq1 xq2 xq3 xq4 xql); (clear bq0 bq1 bq2 bql); (have aq0 := c3_0 hAx); (have aq1 := c3_1 hAx); (have aq2 := c3_2 hAx); (have aql := blk_lt hAx); (obtain ⟨xq0, xq1, xq2, xq3, xq4, xql⟩ := c5_of hXx); clear hb hBx HBb; (have M5 := Lib.hid trivial))
              | (go_at_call 31; (have M := M5); clear M M5; refine (HS3.out _ _ _ _ _ _ _ (HR.out.below (by first | exact hB | exact below_alloc hB _ | exact below_alloc (below_alloc hB _) _)) (Kd.C_below H4.out (by first | exact hB | exact below_alloc hB _ | exact below_alloc (below_alloc hB _) _)) hc4).mono ?_; rintro e w8 ⟨B5, k5, B6, k6, rfl, hS, hb⟩; (have HDd := Lib.hid hS); clear hS; (replace hB := below_step (by first | exact hB | exact below_alloc hB _ | exact below_alloc (below_alloc hB _) _) hb); (replace hAx := blk_below (by first | exact hAx | exact blk_alloc hAx _ | exact blk_alloc (blk_alloc hAx _) _) hb); (replace hVx := blk_below (by first | exact hVx | exact blk_alloc hVx _ | exact blk_alloc (blk_alloc hVx _) _) hb); (have hCx := blk_below (heap_alloc_new _ _) hb); (clear aq0 aq1 aq2 aql); (clear xq0 xq1 xq2 xq3 xq4 xql); (have aq0 := c3_0 hAx); (have aq1 := c3_1 hAx); (have aq2 := c3_2 hAx); (have aql := blk_lt hAx); (replace HCc := Lib.hid (HCc.out.below (below_step (by first | exact Below.refl _ _ | exact below_alloc (Below.refl _ _) _) hb))); clear hb hXx; (have M6 := Lib.hid trivial))
              | (go_at_call 13; (have M := M6); clear M M6; refine (pub_c HF.out.2.1 js _ _ _ _ _ _ _ (Kd.C_below HR.out.1 (by first | exact hB | exact below_alloc hB _ | exact below_alloc (below_alloc hB _) _)) HR.out.2.1 (Kd.C_below H4.out (by first | exact hB | exact below_alloc hB _ | exact below_alloc (below_alloc hB _) _)) hc4).mono ?_; rintro e w9 ⟨rfl, hb⟩; rw [if_pos HGJ.out, HGJ.out, ← HPJ.out]; (replace hB := below_step (by first | exact hB | exact below_alloc hB _ | exact below_alloc (below_alloc hB _) _) hb); (replace hVx := blk_below (by first | exact hVx | exact blk_alloc hVx _ | exact blk_alloc (blk_alloc hVx _) _) hb); (replace hCx := blk_below (by first | exact hCx | exact blk_alloc hCx _ | exact blk_alloc (blk_alloc hCx _) _) hb); (have hDx := blk_below (heap_alloc_new _ _) hb); (clear aq0 aq1 aq2 aql); (obtain ⟨vq0, vq1, vq2, vq3, vq4, vql⟩ := c5_of hVx); (have dq0 := c3_0 hDx); (have dq1 := c3_1 hDx); (have dq2 := c3_2 hDx); (have dql := blk_lt hDx); (replace HCc := Lib.hid (HCc.out.below (below_step (by first | exact Below.refl _ _ | exact below_alloc (Below.refl _ _) _) hb))); (replace HDd := Lib.hid (HDd.out.below (below_step (by first | exact Below.refl _ _ | exact below_alloc (Below.refl _ _) _) hb))); clear hb hAx; (have M7 := Lib.hid trivial))
              | (go_at_call 31; (have M := M7); clear M M7; refine (HS4.out _ _ _ _ _ _ _ (HDd.out.below (by first | exact Below.refl _ _ | exact below_alloc (Below.refl _ _) _)) (Kd.C_below H3.out (by first | exact hB | exact below_alloc hB _ | exact below_alloc (below_alloc hB _) _)) hc3).mono ?_; rintro e w10 ⟨B7, k7, B8, k8, rfl, hS, hb⟩; (have HEe := Lib.hid hS); clear hS; (replace hB := below_step (by first | exact hB | exact below_alloc hB _ | exact below_alloc (below_alloc hB _) _) hb); (replace hCx := blk_below (by first | exact hCx | exact blk_alloc hCx _ | exact blk_alloc (blk_alloc hCx _) _) hb); (clear vq0 vq1 vq2 vq3 vq4 vql); (clear dq0 dq1 dq2 dql); (replace HCc := Lib.hid (HCc.out.below (below_step (by first | exact Below.refl _ _ | exact below_alloc (Below.refl _ _) _) hb))); clear hb hVx hDx HDd; (have M8 := Lib.hid trivial))
              | (go_at_call 11; refine (manorboylaw08_sanity.calls true _ rfl).mono ?_; rintro e w11 ⟨rfl, hb⟩; (replace hB := below_step (by first | exact hB | exact below_alloc hB _ | exact below_alloc (below_alloc hB _) _) hb); (replace hCx := blk_below (by first | exact hCx | exact blk_alloc hCx _ | exact blk_alloc (blk_alloc hCx _) _) hb); (have hEx := blk_below (heap_alloc_new _ _) hb); (have cq0 := c3_0 hCx); (have cq1 := c3_1 hCx); (have cq2 := c3_2 hCx); (have cql := blk_lt hCx); (have eq0 := c3_0 hEx); (have eq1 := c3_1 hEx); (have eq2 := c3_2 hEx); (have eql := blk_lt hEx); (replace HCc := Lib.hid (HCc.out.below (below_step (by first | exact Below.refl _ _ | exact below_alloc (Below.refl _ _) _) hb))); (replace HEe := Lib.hid (HEe.out.below (below_step (by first | exact Below.refl _ _ | exact below_alloc (Below.refl _ _) _) hb))); clear hb)
              | (go_at_call 28; refine (same_c2 HF2.out HEQ.out _ _ _ _ _ _ _ _ _ _ _ _ _ HCc.out HEe.out).mono ?_; rintro e w21 ⟨rfl, hb⟩; (replace hB := below_step hB hb); clear hb))
            go_ret
            exact ⟨rfl, hB⟩
set_option maxHeartbeats 40000000 in
theorem wr_no1 (t : Int) (ds : List S40) (es : List S59) (ks js : List Int) (va vb vc vd za zb zc zd : Int) (vf zf : Bool) (x1 : Int) (A1 A2 A3 A4 : Option Addr) (c1 c2 c3 c4 n m n3 n4 : Nat) (w : World)
    (hr : Arr w A1 n c1 ds A2 m c2 es) (h3 : Kd.C (Kd.int .i64) w A3 n3 ks) (hc3 : n3 ≤ c3)
    (F : Fine t ds es) (hm : m ≤ 1010) (hn3 : n3 ≤ 6) (hn4 : n4 ≤ 6) (hx : x1 ≠ 0)
    (hs1 : setK t n m n3 va vb vc vd vf ds ks es (ResizeNo x1)) :
    Calls Try.prog 9 #[.agg #[.int .i64 t, .slice A1 n c1, .slice A2 m c2], .slice A3 n3 c3, .slice A4 n4 c4, .agg #[.int .i64 va, .int .i64 vb, .int .i64 vc, .int .i64 vd, .bool vf], .agg #[.int .i64 za, .int .i64 zb, .int .i64 zc, .int .i64 zd, .bool zf]] w (SanPost w) := by
  have hn6 : n ≤ 6 := by have := (errOf_zero F.2.1).2.2.2.2; have := hr.1.1; omega
  have hm1 : (0 : Int) < es.length := by have := (errOf_zero F.2.1).2.1.pos; have := F.2.2.1; omega
  rw [hr.len.2] at hm1
  have q1 : (6 : Int) < (n3 : Int) ↔ False := by simp; omega
  have q2 : (6 : Int) < (n4 : Int) ↔ False := by simp; omega
  have q5 : decide (n ≤ 6) = true := decide_eq_true hn6
  have q6 : decide (m ≤ 1010) = true := decide_eq_true hm
  have b1 : (x1 != 0) = true := by simpa using hx
  obtain ⟨ad2, rfl⟩ := C_some hr.2.2.1 (by omega)
  have HL := Lib.hid hr.len
  have HR := Lib.hid hr
  have H3 := Lib.hid h3
  have HF := Lib.hid F
  have HS1 := Lib.hid hs1
  clear hr h3 F hn3 hn4 hn6 hs1 hm1 hx
  have hAx : (((w.alloc (.cells #[.int .i64 t, .slice A1 n c1, .slice (some ad2) m c2] 50)).alloc (.cells #[.int .i64 va, .int .i64 vb, .int .i64 vc, .int .i64 vd, .bool vf] 59)).alloc (.cells #[.int .i64 za, .int .i64 zb, .int .i64 zc, .int .i64 zd, .bool zf] 59)).heap[w.heap.size]? = some (.cells #[.int .i64 t, .slice A1 n c1, .slice (some ad2) m c2] 50) := blk_alloc (blk_alloc (heap_alloc_new w _) _) _
  have hVx : (((w.alloc (.cells #[.int .i64 t, .slice A1 n c1, .slice (some ad2) m c2] 50)).alloc (.cells #[.int .i64 va, .int .i64 vb, .int .i64 vc, .int .i64 vd, .bool vf] 59)).alloc (.cells #[.int .i64 za, .int .i64 zb, .int .i64 zc, .int .i64 zd, .bool zf] 59)).heap[w.heap.size + 1]? = some (.cells #[.int .i64 va, .int .i64 vb, .int .i64 vc, .int .i64 vd, .bool vf] 59) := newC w _ _ _
  have hXx : (((w.alloc (.cells #[.int .i64 t, .slice A1 n c1, .slice (some ad2) m c2] 50)).alloc (.cells #[.int .i64 va, .int .i64 vb, .int .i64 vc, .int .i64 vd, .bool vf] 59)).alloc (.cells #[.int .i64 za, .int .i64 zb, .int .i64 zc, .int .i64 zd, .bool zf] 59)).heap[w.heap.size + 1 + 1]? = some (.cells #[.int .i64 za, .int .i64 zb, .int .i64 zc, .int .i64 zd, .bool zf] 59) := newD w _ _ _
  have hB : Below w.heap.size w (((w.alloc (.cells #[.int .i64 t, .slice A1 n c1, .slice (some ad2) m c2] 50)).alloc (.cells #[.int .i64 va, .int .i64 vb, .int .i64 vc, .int .i64 vd, .bool vf] 59)).alloc (.cells #[.int .i64 za, .int .i64 zb, .int .i64 zc, .int .i64 zd, .bool zf] 59)) := below_alloc (below_alloc (below_alloc (Below.refl _ _) _) _) _
  go_enter Try.func9, Try.ntmps9
  go_wp2_with (first
    | (go_at_call 25; refine (small_c t _ _ _ _ _ _ ds es _ (HR.out.below hB)).mono ?_; rintro e w1 ⟨rfl, hb⟩; rw [q5, q6]; (replace hB := below_step (by first | exact hB | exact below_alloc hB _ | exact below_alloc (below_alloc hB _) _) hb); (replace hAx := blk_below (by first | exact hAx | exact blk_alloc hAx _ | exact blk_alloc (blk_alloc hAx _) _) hb); (replace hVx := blk_below (by first | exact hVx | exact blk_alloc hVx _ | exact blk_alloc (blk_alloc hVx _) _) hb); (replace hXx := blk_below (by first | exact hXx | exact blk_alloc hXx _ | exact blk_alloc (blk_alloc hXx _) _) hb); (have aq0 := c3_0 hAx); (have aq1 := c3_1 hAx); (have aq2 := c3_2 hAx); (have aql := blk_lt hAx); clear hb)
    | (go_at_call 26; refine (ck_c HF.out _ _ _ _ _ _ _ (HR.out.below hB)).mono ?_; rintro e w2 ⟨rfl, hb⟩; (replace hB := below_step (by first | exact hB | exact below_alloc hB _ | exact below_alloc (below_alloc hB _) _) hb); (replace hAx := blk_below (by first | exact hAx | exact blk_alloc hAx _ | exact blk_alloc (blk_alloc hAx _) _) hb); (replace hVx := blk_below (by first | exact hVx | exact blk_alloc hVx _ | exact blk_alloc (blk_alloc hVx _) _) hb); (replace hXx := blk_below (by first | exact hXx | exact blk_alloc hXx _ | exact blk_alloc (blk_alloc hXx _) _) hb); (clear aq0 aq1 aq2 aql); (have aq0 := c3_0 hAx); (have aq1 := c3_1 hAx); (have aq2 := c3_2 hAx); (have aql := blk_lt hAx); clear hb)
    | (at_builtin; (refine Kd.R_append_rows k59 (Rr := k59.K (w2.alloc (.cells #[] 59))) (w0 := w2) w2.heap.size rfl (.tmp 42) (.tmp 44) 48 59 (.agg #[.int .i64 0, .int .i64 0, .int .i64 0, .int .i64 0, .bool false]) 40 rfl Try.underlying48 info59 rfl (by decide) (by omega) (.slice (some ⟨w2.heap.size, 0, none⟩) 0 0) [] es (some ad2) m c2 (fun _ => True) (fun _ => False) rfl rfl ?aO ?aR ?aK (fun _ hk => hk.elim) (fun _ _ => trivial) ?aB ?aS ?aL ?_); (case aO => exact R_empty _ _ _ w2 _ _ (Nat.le_refl _) (heap_alloc_new _ _)); (case aR => exact Kd.C_below HR.out.2.2.1 (below_alloc hB _)); (case aK => exact fun x cs h => k59_KM x cs h); (case aB => exact below_alloc (Below.refl _ _) _); (case aS => simp); (case aL => simp only [List.length_nil]; omega); intro v1 w3 ho hb hg hat; (have ho2 := own_row ho); rw [List.nil_append, HL.out.2] at ho2; clear ho hg hat; (obtain ⟨O, oc, rfl, hoc, ho3⟩ := ho2); (have HO := Lib.hid ho3); (have HOC := Lib.hid hoc); clear ho3 hoc; (replace hB := below_step (by first | exact hB | exact below_alloc hB _ | exact below_alloc (below_alloc hB _) _) hb); (replace hAx := blk_below (by first | exact hAx | exact blk_alloc hAx _ | exact blk_alloc (blk_alloc hAx _) _) hb); (replace hVx := blk_below (by first | exact hVx | exact blk_alloc hVx _ | exact blk_alloc (blk_alloc hVx _) _) hb); (replace hXx := blk_below (by first | exact hXx | exact blk_alloc hXx _ | exact blk_alloc (blk_alloc hXx _) _) hb); (clear aq0 aq1 aq2 aql); (have aq0 := c3_0 hAx); (have aq1 := c3_1 hAx); (have aq2 := c3_2 hAx); (have aql := blk_lt hAx); (obtain ⟨vq0, vq1, vq2, vq3, vq4, vql⟩ := c5_of hVx); clear hb)
    | (go_at_call 31; refine (HS1.out _ _ _ _ _ _ _ (HR.out.below hB) (Kd.C_below H3.out hB) hc3).mono ?_; rintro e w4 ⟨rfl, hb⟩; (replace hB := below_step (by first | exact hB | exact below_alloc hB _ | exact below_alloc (below_alloc hB _) _) hb); (clear aq0 aq1 aq2 aql); (clear vq0 vq1 vq2 vq3 vq4 vql); clear hb hAx hVx hXx HO)
    | (go_at_call 11; refine (manorboylaw08_sanity.calls true _ rfl).mono ?_; rintro e w20 ⟨rfl, hb⟩; (replace hB := below_step (by first | exact hB | exact below_alloc hB _ | exact below_alloc (below_alloc hB _) _) hb); clear hb))
  go_ret
  exact ⟨rfl, hB⟩
set_option maxHeartbeats 40000000 in
theorem wr_bad (t : Int) (ds : List S40) (es : List S59) (va vb vc vd za zb zc zd : Int) (vf zf : Bool) (A1 A2 A3 A4 : Option Addr) (c1 c2 c3 c4 n m n3 n4 : Nat) (w : World)
    (hr : Arr w A1 n c1 ds A2 m c2 es) (hbad : ¬ (n ≤ 6 ∧ m ≤ 1010 ∧ n3 ≤ 6 ∧ n4 ≤ 6 ∧ Fine t ds es)) :
    Calls Try.prog 9 #[.agg #[.int .i64 t, .slice A1 n c1, .slice A2 m c2], .slice A3 n3 c3, .slice A4 n4 c4, .agg #[.int .i64 va, .int .i64 vb, .int .i64 vc, .int .i64 vd, .bool vf], .agg #[.int .i64 za, .int .i64 zb, .int .i64 zc, .int .i64 zd, .bool zf]] w (SanPost w) := by
  obtain ⟨r, hrz, hck⟩ := ck_any t ds es
  have HR := Lib.hid hr
  have HK := Lib.hid hck
  clear hr hck
  have hAx : (((w.alloc (.cells #[.int .i64 t, .slice A1 n c1, .slice A2 m c2] 50)).alloc (.cells #[.int .i64 va, .int .i64 vb, .int .i64 vc, .int .i64 vd, .bool vf] 59)).alloc (.cells #[.int .i64 za, .int .i64 zb, .int .i64 zc, .int .i64 zd, .bool zf] 59)).heap[w.heap.size]? = some (.cells #[.int .i64 t, .slice A1 n c1, .slice A2 m c2] 50) := blk_alloc (blk_alloc (heap_alloc_new w _) _) _
  have hVx : (((w.alloc (.cells #[.int .i64 t, .slice A1 n c1, .slice A2 m c2] 50)).alloc (.cells #[.int .i64 va, .int .i64 vb, .int .i64 vc, .int .i64 vd, .bool vf] 59)).alloc (.cells #[.int .i64 za, .int .i64 zb, .int .i64 zc, .int .i64 zd, .bool zf] 59)).heap[w.heap.size + 1]? = some (.cells #[.int .i64 va, .int .i64 vb, .int .i64 vc, .int .i64 vd, .bool vf] 59) := newC w _ _ _
  have hXx : (((w.alloc (.cells #[.int .i64 t, .slice A1 n c1, .slice A2 m c2] 50)).alloc (.cells #[.int .i64 va, .int .i64 vb, .int .i64 vc, .int .i64 vd, .bool vf] 59)).alloc (.cells #[.int .i64 za, .int .i64 zb, .int .i64 zc, .int .i64 zd, .bool zf] 59)).heap[w.heap.size + 1 + 1]? = some (.cells #[.int .i64 za, .int .i64 zb, .int .i64 zc, .int .i64 zd, .bool zf] 59) := newD w _ _ _
  have hB : Below w.heap.size w (((w.alloc (.cells #[.int .i64 t, .slice A1 n c1, .slice A2 m c2] 50)).alloc (.cells #[.int .i64 va, .int .i64 vb, .int .i64 vc, .int .i64 vd, .bool vf] 59)).alloc (.cells #[.int .i64 za, .int .i64 zb, .int .i64 zc, .int .i64 zd, .bool zf] 59)) := below_alloc (below_alloc (below_alloc (Below.refl _ _) _) _) _
  obtain ⟨sm, hsm⟩ : ∃ b, b = (decide (n ≤ 6) && decide (m ≤ 1010)) := ⟨_, rfl⟩
  have HSM := Lib.hid hsm
  cases sm with
  | false =>
    clear hsm hbad hrz
    go_enter Try.func9, Try.ntmps9
    go_wp2_with (first
      | (go_at_call 25; refine (small_c t _ _ _ _ _ _ ds es _ (HR.out.below hB)).mono ?_; rintro e w1 ⟨rfl, hb⟩; rw [← HSM.out]; (replace hB := below_step (by first | exact hB | exact below_alloc hB _ | exact below_alloc (below_alloc hB _) _) hb); (replace hAx := blk_below (by first | exact hAx | exact blk_alloc hAx _ | exact blk_alloc (blk_alloc hAx _) _) hb); (have aq0 := c3_0 hAx); (have aq1 := c3_1 hAx); (have aq2 := c3_2 hAx); (have aql := blk_lt hAx); clear hb hVx hXx)
      | (go_at_call 11; refine (manorboylaw08_sanity.calls true _ rfl).mono ?_; rintro e w20 ⟨rfl, hb⟩; (replace hB := below_step (by first | exact hB | exact below_alloc hB _ | exact below_alloc (below_alloc hB _) _) hb); clear hb))
    go_ret
    exact ⟨rfl, hB⟩
  | true =>
    have hs2 : n ≤ 6 ∧ m ≤ 1010 := by simpa using hsm.symm
    clear hsm
    by_cases h3 : n3 ≤ 6
    · have q1 : (6 : Int) < (n3 : Int) ↔ False := by simp; omega
      by_cases h4 : n4 ≤ 6
      · have q2 : (6 : Int) < (n4 : Int) ↔ False := by simp; omega
        have hr0 : r ≠ 0 := fun h => hbad ⟨hs2.1, hs2.2, h3, h4, hrz.1 h⟩
        have q5 : (r != 0) = true := by simpa using hr0
        clear hbad hrz hr0 hs2 h3 h4
        go_enter Try.func9, Try.ntmps9
        go_wp2_with (first
          | (go_at_call 25; refine (small_c t _ _ _ _ _ _ ds es _ (HR.out.below hB)).mono ?_; rintro e w1 ⟨rfl, hb⟩; rw [← HSM.out]; (replace hB := below_step (by first | exact hB | exact below_alloc hB _ | exact below_alloc (below_alloc hB _) _) hb); (replace hAx := blk_below (by first | exact hAx | exact blk_alloc hAx _ | exact blk_alloc (blk_alloc hAx _) _) hb); (have aq0 := c3_0 hAx); (have aq1 := c3_1 hAx); (have aq2 := c3_2 hAx); (have aql := blk_lt hAx); clear hb hVx hXx)
          | (go_at_call 26; refine (HK.out _ _ _ _ _ _ _ (HR.out.below hB)).mono ?_; rintro e w2 ⟨rfl, hb⟩; (replace hB := below_step (by first | exact hB | exact below_alloc hB _ | exact below_alloc (below_alloc hB _) _) hb); (clear aq0 aq1 aq2 aql); clear hb hAx)
          | (go_at_call 11; refine (manorboylaw08_sanity.calls true _ rfl).mono ?_; rintro e w20 ⟨rfl, hb⟩; (replace hB := below_step (by first | exact hB | exact below_alloc hB _ | exact below_alloc (below_alloc hB _) _) hb); clear hb))
        go_ret
        exact ⟨rfl, hB⟩
      · have q2 : (6 : Int) < (n4 : Int) ↔ True := by simp; omega
        clear hbad hrz hs2 h3 h4
        go_enter Try.func9, Try.ntmps9
        go_wp2_with (first
          | (go_at_call 25; refine (small_c t _ _ _ _ _ _ ds es _ (HR.out.below hB)).mono ?_; rintro e w1 ⟨rfl, hb⟩; rw [← HSM.out]; (replace hB := below_step (by first | exact hB | exact below_alloc hB _ | exact below_alloc (below_alloc hB _) _) hb); (replace hAx := blk_below (by first | exact hAx | exact blk_alloc hAx _ | exact blk_alloc (blk_alloc hAx _) _) hb); (have aq0 := c3_0 hAx); (have aq1 := c3_1 hAx); (have aq2 := c3_2 hAx); (have aql := blk_lt hAx); clear hb hVx hXx)
          | (go_at_call 11; refine (manorboylaw08_sanity.calls true _ rfl).mono ?_; rintro e w20 ⟨rfl, hb⟩; (replace hB := below_step (by first | exact hB | exact below_alloc hB _ | exact below_alloc (below_alloc hB _) _) hb); clear hb))
        go_ret
        exact ⟨rfl, hB⟩
    · have q1 : (6 : Int) < (n3 : Int) ↔ True := by simp; omega
      clear hbad hrz hs2 h3
      go_enter Try.func9, Try.ntmps9
      go_wp2_with (first
        | (go_at_call 25; refine (small_c t _ _ _ _ _ _ ds es _ (HR.out.below hB)).mono ?_; rintro e w1 ⟨rfl, hb⟩; rw [← HSM.out]; (replace hB := below_step (by first | exact hB | exact below_alloc hB _ | exact below_alloc (below_alloc hB _) _) hb); (replace hAx := blk_below (by first | exact hAx | exact blk_alloc hAx _ | exact blk_alloc (blk_alloc hAx _) _) hb); (have aq0 := c3_0 hAx); (have aq1 := c3_1 hAx); (have aq2 := c3_2 hAx); (have aql := blk_lt hAx); clear hb hVx hXx)
        | (go_at_call 11; refine (manorboylaw08_sanity.calls true _ rfl).mono ?_; rintro e w20 ⟨rfl, hb⟩; (replace hB := below_step (by first | exact hB | exact below_alloc hB _ | exact below_alloc (below_alloc hB _) _) hb); clear hb))
      go_ret
      exact ⟨rfl, hB⟩
/-- Set, as the walk wants it -/
theorem set_cases (t : Int) (ds : List S40) (ks : List Int) (a b c d : Int) (f : Bool) :
    (∃ x, x ≠ 0 ∧ ∀ es, Fine t ds es → ∀ n m n3, setK t n m n3 a b c d f ds ks es (ResizeNo x)) ∨
    (∃ y, inB ds ks = true ∧ badF t y = some false ∧ (a = t → y = ⟨a, b, ⟨c, d⟩, f⟩) ∧ ∀ es, Fine t ds es → ∀ n m n3, setK t n m n3 a b c d f ds ks es (SetPost t n m ds (es.set (plc ds ks).toNat y))) := by
  obtain ⟨x, y, h1, h2⟩ := set_c t ds ks a b c d f
  by_cases hx : x = 0
  · obtain ⟨g1, g2, g3⟩ := h1 hx
    exact .inr ⟨y, g1, g2, g3, fun es F n m n3 A1 A2 A3 c1 c2 c3 w hr h3 hc => (h2 es F A1 A2 A3 c1 c2 c3 n m n3 w hr h3 hc).mono fun e w' h => h.1 hx⟩
  · exact .inl ⟨x, hx, fun es F n m n3 A1 A2 A3 c1 c2 c3 w hr h3 hc => (h2 es F A1 A2 A3 c1 c2 c3 n m n3 w hr h3 hc).mono fun e w' h => h.2 hx⟩
/-- The law, for every input. -/
theorem wr_calls (t : Int) (ds : List S40) (es : List S59) (ks js : List Int) (va vb vc vd za zb zc zd : Int) (vf zf : Bool) (A1 A2 A3 A4 : Option Addr) (c1 c2 c3 c4 : Nat) (w : World)
    (hr1 : Kd.C k40 w A1 ds.length ds) (hc1 : ds.length ≤ c1) (hr2 : Kd.C k59 w A2 es.length es) (hc2 : es.length ≤ c2) (h3 : Kd.C (Kd.int .i64) w A3 ks.length ks) (hc3 : ks.length ≤ c3) (h4 : Kd.C (Kd.int .i64) w A4 js.length js) (hc4 : js.length ≤ c4) :
    Calls Try.prog 9 #[.agg #[.int .i64 t, .slice A1 ds.length c1, .slice A2 es.length c2], .slice A3 ks.length c3, .slice A4 js.length c4, .agg #[.int .i64 va, .int .i64 vb, .int .i64 vc, .int .i64 vd, .bool vf], .agg #[.int .i64 za, .int .i64 zb, .int .i64 zc, .int .i64 zd, .bool zf]] w (SanPost w) := by
  have hr : Arr w A1 ds.length c1 ds A2 es.length c2 es := ⟨hr1, hc1, hr2, hc2⟩
  by_cases hg : ds.length ≤ 6 ∧ es.length ≤ 1010 ∧ ks.length ≤ 6 ∧ js.length ≤ 6 ∧ Fine t ds es
  · obtain ⟨g1, g2, g3, g4, F⟩ := hg
    rcases set_cases t ds ks va vb vc vd vf with ⟨x, hx, H⟩ | ⟨y, hk, hy, hv, H⟩
    · exact wr_no1 t ds es ks js va vb vc vd za zb zc zd vf zf x A1 A2 A3 A4 c1 c2 c3 c4 _ _ _ _ w hr h3 hc3 F g2 g3 g4 hx (H es F _ _ _)
    · have F1 := fine_set F (plc ds ks).toNat hy
      have p0 := (plc_in F hk).1
      rcases set_cases t ds js za zb zc zd zf with ⟨x, hx, H2⟩ | ⟨z, hj, hz, _, H2⟩
      · exact wr_main t ds es _ [] [] [] ks js va vb vc vd za zb zc zd vf zf y y x (plc ds ks) 0 A1 A2 A3 A4 c1 c2 c3 c4 _ _ _ _ w hr h3 hc3 h4 hc4 F g2 g3 g4 hk rfl hy hv rfl (H es F _ _ _) (.inl ⟨hx, H2 _ F1 _ _ _⟩)
      · have F3 := fine_set F (plc ds js).toNat hz
        have q0 := (plc_in F hj).1
        exact wr_main t ds es _ _ _ _ ks js va vb vc vd za zb zc zd vf zf y y 0 (plc ds ks) (plc ds js) A1 A2 A3 A4 c1 c2 c3 c4 _ _ _ _ w hr h3 hc3 h4 hc4 F g2 g3 g4 hk rfl hy hv rfl (H es F _ _ _)
          (.inr ⟨rfl, hj, rfl, fine_set F1 _ hz, fun h => by rw [h, set_two], fun h => (set_comm' p0 q0 y z (fun e => h e.symm)).symm, H2 _ F1 _ _ _, H2 _ F _ _ _, H _ F3 _ _ _⟩)
  · exact wr_bad t ds es va vb vc vd za zb zc zd vf zf A1 A2 A3 A4 c1 c2 c3 c4 _ _ _ _ w hr hg
end Go.Proofs.Ytcjjmhgboibbgaa.Q
end
