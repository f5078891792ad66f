/-
 Texts of the proof, in build order: words that the walks use, contracts of functions, plain facts.
-/
import Derived.Test.YtcjjmhgboibbgaaGreatBa6
import Derived.Test.YtcjjmhgboibbgaaGreatBa15
import Derived.Test.YtcjjmhgboibbgaaGreatBa26
set_option maxHeartbeats 40000000
set_option maxRecDepth 100000
set_option linter.unusedVariables false
set_option linter.unusedSimpArgs false
section
namespace Go.Proofs.Q
open RowKit Shelf Rf Pw Pl Pm
def rzT12 : Bool × List (List Nat × List Nat) := (true, [([], []), ([0], [0]), ([], []), ([], []), ([2, 3], [2, 3]), ([4], [4]), ([1, 5], [1, 5])])
def rzB12 : List Nat := [0, 1, 0, 0, 12, 28, 63]
theorem rz_tab12 : rtab .any (opsOf Tryz.f9 12) = rzT12 := by kernel_rfl
theorem rz_bits12 : waitsOk rzT12.2 rzB12 = true := by kernel_rfl
def rzT13 : Bool × List (List Nat × List Nat) := (true, [([], []), ([0], [0]), ([], []), ([], []), ([3], [3]), ([], []), ([5], [5]), ([], []), ([], []), ([7, 8], [7, 8]), ([9], [9]), ([6, 10], [6, 10]), ([4, 11], [4, 11]), ([12], [12]), ([1, 2, 0, 1, 2, 3, 4, 5, 6, 7, 8, 9, 10, 11, 12, 13], [1, 2]), ([14, 13, 11, 0, 1, 2, 3, 4, 5, 6, 7, 8, 9, 10, 11, 12, 13], [13, 14])])
def rzB13 : List Nat := [0, 1, 0, 0, 8, 0, 32, 0, 0, 384, 896, 2016, 4088, 8184, 16383, 32767]
theorem rz_tab13 : rtab .any (opsOf Tryz.f9 13) = rzT13 := by kernel_rfl
theorem rz_bits13 : waitsOk rzT13.2 rzB13 = true := by kernel_rfl
theorem allS_lenN {l : List S54} (he : errOf l = 0) : (allS l).length = (prodL l).toNat ∧ 0 < (allS l).length ∧ (allS l).length ≤ 1000 := by
 obtain ⟨_, hp, _, h1, h4⟩ := errOf_zero he
 have h := allS_len l fun d hd => (hp.2.1 d hd).1
 have := hp.pos
 have := hp.2.2
 omega
theorem res_len {t : Int} {ds l1 : List S54} {es : List S38} (he : errOf l1 = 0) : (resL t ds es l1).length ≤ 1000 := by
 unfold resL
 rw [List.length_map]
 exact (allS_lenN he).2.2
theorem rrz_ok {t : Int} {ds l1 : List S54} {es : List S38} (F : Fine t ds es) (h1 : errOf l1 = 0) (hn : l1.length = ds.length) (A1 A2 A3 : Option Addr) (c1 c2 c3 : Nat) (w : World) (HK : Hid (∀ W, Below w.heap.size w W → Calls Tryz.prog 16 #[.agg #[.int .i64 t, .slice A1 ds.length c1, .slice A2 es.length c2]] W (Bq true W)))
  (hr : Arr w A1 ds.length c1 ds A2 es.length c2 es) (h3 : Kd.C k54 w A3 ds.length l1) (hc3 : ds.length ≤ c3) :
  Calls Tryz.prog 9 #[.agg #[.int .i64 t, .slice A1 ds.length c1, .slice A2 es.length c2], .slice A3 ds.length c3] w (UP (0, t, l1, resL t ds es l1) w) := by
 obtain ⟨_, hp, _, hl1, hl4⟩ := errOf_zero F.2.1
 have hp1 : ∀ d ∈ ds, 1 ≤ ext d := fun d hd => (hp.2.1 d hd).1
 obtain ⟨hS1, hS2, hS3⟩ := allS_lenN h1
 rw [resX hp1 F.2.2.1 hl4 hn]
 obtain ⟨z, hz⟩ : ∃ z, z = z38t t := ⟨_, rfl⟩
 obtain ⟨f, hf⟩ : ∃ f, f = rzX t ds es := ⟨_, rfl⟩
 rw [← hf]
 have HN : Hid (∀ W, Below w.heap.size w W → Calls Tryz.prog 13 #[.int .i64 t, .slice A3 ds.length c3] W fun e w' => ∃ v1 v2 : Value, e = .returned (.tuple #[.agg #[.int .i64 t, v1, v2], .int .i64 0]) ∧ Kd.R k54 54 w' W.heap.size (fun _ => True) v1 l1 ∧ Kd.R k38 38 w' W.heap.size (fun _ => True) v2 (prt f z (allS l1) 0) ∧ Below W.heap.size W w') := Lib.hid fun W hb => by
  have := rnew_ok F.1 h1 A3 c3 W (by rw [hn]; exact Kd.C_below h3 hb) (by rw [hn]; exact hc3)
  rw [prt_zero, hS1, hz]
  rwa [hn] at this
 have HL : Hid (∀ W, Kd.C k54 W A3 ds.length l1 → Calls Tryz.prog 39 #[.slice A3 ds.length c3] W fun e w' => ∃ v : Value, e = .returned v ∧ Kd.N (Kd.slice 3 (Kd.int .i64)) 34 w' W.heap.size (fun k_ => W.heap.size ≤ k_) v (allS l1) ∧ Below W.heap.size W w') := Lib.hid fun W hC => by
  have := rall_w h1 A3 c3 W (by rw [hn]; exact hC) (by rw [hn]; exact hc3)
  rwa [hn] at this
 have HIN : Hid (∀ s ∈ allS l1, ∀ (A : Option Addr) (c : Nat) (W : World), Kd.C (Kd.int .i64) W A s.length s → s.length ≤ c → Kd.C k54 W A1 ds.length ds → Calls Tryz.prog 40 #[.slice A1 ds.length c1, .slice A s.length c] W (Bq (inB ds s) W)) := Lib.hid fun s hs A c W h1 h2 h3 => rin_w ds s (by rw [allS_length l1 s hs, hn]) hl4 A1 A c1 c W h3 hr.2.1 h1 h2
 have HPL : Hid (∀ s, inB ds s = true → ∀ (A : Option Addr) (c : Nat) (W : World), Kd.C (Kd.int .i64) W A s.length s → s.length ≤ c → Kd.C k54 W A1 ds.length ds → Calls Tryz.prog 41 #[.slice A1 ds.length c1, .slice A s.length c] W (AI (plc ds s) W)) := Lib.hid fun s hs A c W h1 h2 h3 => rplace_w F.2.1 s hs A1 A c1 c W h3 hr.2.1 h1 h2
 have HV : Hid (∀ s, inB ds s = true → f s = rd_T38 es (plc ds s) ∧ 0 ≤ plc ds s ∧ plc ds s < (es.length : Int)) := Lib.hid fun s hs => by
  obtain ⟨x, _, _, _, h4, h5⟩ := vAt_some hp1 F.2.2.1 hs
  exact ⟨by rw [hf]; unfold rzX; rw [if_pos hs], h4, h5⟩
 have HW : Hid (∀ s, inB ds s = false → f s = z) := Lib.hid fun s hs => by rw [hf, hz]; unfold rzX; rw [hs]; rfl
 have hNp : 0 < (prt f z (allS l1) 0).length := by rw [prt_len (Nat.zero_le _)]; exact hS2
 have HNl := Lib.hid hn
 have R1 := Lib.hid hr.1
 have R2 := Lib.hid hr.2.2.1
 have R3 := Lib.hid h3
 have HSp := Lib.hid hS2
 have hNN : ((ds.length : Int) != (ds.length : Int)) = false := by simp
 clear F h1 hr h3 hc3 hp hp1 hl1 hl4 hS1 hS2 hz hf hn
 have hA : ((w.alloc (.cells #[.int .i64 t, .slice A1 ds.length c1, .slice A2 es.length c2] 25)).alloc (.cells #[.int .i64 0, .slice none 0 0, .slice none 0 0] 25)).heap[w.heap.size]? = some (.cells #[.int .i64 t, .slice A1 ds.length c1, .slice A2 es.length c2] 25) := kA (heap_alloc_new w _) _
 have hZ : ((w.alloc (.cells #[.int .i64 t, .slice A1 ds.length c1, .slice A2 es.length c2] 25)).alloc (.cells #[.int .i64 0, .slice none 0 0, .slice none 0 0] 25)).heap[w.heap.size + 1]? = some (.cells #[.int .i64 0, .slice none 0 0, .slice none 0 0] 25) := nB w _ _
 have hB : Below w.heap.size w ((w.alloc (.cells #[.int .i64 t, .slice A1 ds.length c1, .slice A2 es.length c2] 25)).alloc (.cells #[.int .i64 0, .slice none 0 0, .slice none 0 0] 25)) := bA (bA (Below.refl _ _) _) _
 obtain ⟨⟨x0, x1, x2⟩, xl, _, _, _⟩ := c3_of hA
 go_enter Tryz.func9, Tryz.ntmps9
 go_wp2_with (first
  | (go_at_call 16; refine (HK.out _ hB).mono ?_; rintro e w1 ⟨rfl, hb⟩; clear x0 x1 x2 xl; (replace hA := kB hA hb); (replace hZ := kB hZ hb); (replace hB := bS hB hb); (obtain ⟨⟨x0, x1, x2⟩, xl, _, _, _⟩ := c3_of hA); clear hb)
  | (go_at_call 13; refine (HN.out _ hB).mono ?_; rintro e w2 ⟨v1, v2, rfl, g1, g2, hb⟩; clear x0 x1 x2 xl; (obtain ⟨V1, e1, hv1⟩ := Kd.R_slice g1); rw [HNl.out] at hv1; subst hv1; (obtain ⟨go, e2, hv2, hgo1, hgo2, cgo, hgo3⟩ := Kd.R_form g2 hNp); rw [prt_len (Nat.zero_le _)] at hv2; subst hv2; (have HO1 := Lib.hid (Kd.R_lower g1 (bZ hB))); (have HO2 := Lib.hid (Kd.R_lower g2 (bZ hB))); (replace hA := kB hA hb); (replace hZ := kB hZ hb); (replace hB := bS hB hb); (obtain ⟨⟨x0, x1, x2⟩, xl, _, _, _⟩ := c3_of hA); (have hgo := Lib.hid hgo2); clear hb g1 g2 hgo1 hgo2 hgo3)
  | ((with_reducible refine gD (N := 6) rfl ?_); refine bX (by rfl) (N := 6) (by rfl) (cs := #[.int .i64 0, .slice none 0 0, .slice none 0 0]) (t := 25) (by first | (go_simp; done) | (go_simp; rfl)) ?_; intro D hD w15 hX hb; clear x0 x1 x2 xl; (have hAD := Nat.ne_of_lt (hD ▸ blk_lt hA)); (have hDA := Ne.symm hAD); (have hZD := Lib.hid (Nat.ne_of_lt (hD ▸ blk_lt hZ))); (replace HO1 := Lib.hid (Kd.R_below HO1.out hb)); (replace HO2 := Lib.hid (Kd.R_below HO2.out hb)); (have hDw := Lib.hid (hD ▸ bZ hB : w.heap.size ≤ D)); (replace hA := kB hA hb); (replace hZ := kB hZ hb); (replace hB := bS hB hb); (obtain ⟨⟨x0, x1, x2⟩, xl, _, _, _⟩ := c3_of hA); (obtain ⟨⟨q0, q1, q2⟩, ql, qf0, qf1, qf2⟩ := c3_of hX); (replace hgo := Lib.hid (Nat.lt_of_lt_of_le hgo.out hb.size)); clear hb hD)
  | (go_at_call 39; clear q0 q1 q2 ql qf0 qf1 qf2 x0 x1 x2 xl; refine (HL.out _ (Kd.C_below R3.out (below_set3 hB hDw.out))).mono ?_; rintro e w17 ⟨v39, rfl, g3, hb⟩; (replace HO1 := Lib.hid (Kd.R_below (s3_R HO1.out hX (by decide)) hb)); (replace HO2 := Lib.hid (Kd.R_below (s3_R HO2.out hX (by decide)) hb)); (replace hX := kB (s3_put hX) hb); (replace hA := kB (s3_far hA hAD) hb); (replace hZ := kB (s3_far hZ hZD.out) hb); (have g4 := Kd.N_lower (base' := w.heap.size) (Kd.N_mono g3 (ok' := fun k_ => k_ ≠ go) (fun k_ hk => Nat.ne_of_gt (Nat.lt_of_lt_of_le hgo.out (by simpa using hk)))) (bZ (below_set3 hB hDw.out))); (replace hB := bS (below_set3 hB hDw.out) hb); (obtain ⟨AN, cN, hv39⟩ := Kd.N_slice g4); subst hv39; (have HNN := Lib.hid g4); clear hb g3 g4))
 obtain ⟨ad, hAN⟩ := C_some (Kd.N_reads' HNN.out).2.2 HSp.out
 subst hAN
 clear HK HN HL hNp R3 hgo
 have hAD2 := Lib.hid hAD
 clear hAD hDA
 replace hA := Lib.hid hA
 replace hZ := Lib.hid hZ
 replace hX := Lib.hid hX
 replace hB := Lib.hid hB
 go_loopw [9] (fun vv wr => ∃ i : Int, vv = .int .i64 i ∧ 0 ≤ i ∧ i ≤ ((allS l1).length : Int) ∧ Hid (Kd.N (Kd.slice 3 (Kd.int .i64)) 34 wr w.heap.size (fun k_ => k_ ≠ go) (.slice (some ad) (allS l1).length cN) (allS l1)) ∧ Hid (Kd.R k54 54 wr w.heap.size (fun _ => True) (.slice V1 ds.length e1) l1) ∧ Hid (Kd.R k38 38 wr w.heap.size (fun _ => True) (.slice (some ⟨go, 0, none⟩) (allS l1).length e2) (prt f z (allS l1) i.toNat)) ∧ Hid (wr.heap[w.heap.size]? = some (.cells #[.int .i64 t, .slice A1 ds.length c1, .slice A2 es.length c2] 25)) ∧ Hid (wr.heap[w.heap.size + 1]? = some (.cells #[.int .i64 0, .slice none 0 0, .slice none 0 0] 25)) ∧ Hid (wr.heap[D]? = some (.cells #[.int .i64 t, .slice V1 ds.length e1, .slice (some ⟨go, 0, none⟩) (allS l1).length e2] 25)) ∧ Hid (Below w.heap.size w wr)) (fun vv _ => (((allS l1).length : Int) - intOf vv).toNat)
 case atStart => exact ⟨0, rfl, by decide, by omega, HNN, HO1, HO2, hA, hZ, hX, hB⟩
 case round =>
  clear hX hB hA hZ HO1 HO2 HNN
  obtain ⟨i, rfl, h0, h1, HN2, HO1, HO2, HA, HZ, HX, HB⟩ := hrel
  have hA := HA.out
  have hZ := HZ.out
  have hX := HX.out
  have hB := HB.out
  clear HA HZ HX HB
  by_cases hp : i < ((allS l1).length : Int)
  ·obtain ⟨ad', A9, c9, e9, hx, hl9, hi9⟩ := at_L10 (Kd.N_reads' HN2.out).2.2 i h0 hp
   cases e9
   obtain ⟨ps1, ps2, ps3⟩ := prt_stepI (f := f) (z := z) h0 hp
   have HI := Lib.hid (fun (A : Option Addr) (c : Nat) (W : World) => HIN.out _ ps3 A c W)
   clear ps3
   generalize rd_L10 (allS l1) i = s at hx hl9 hi9 ps1 ps2 HI
   have p0 := eq_true h0
   have q0 := eq_true hp
   cases hb0 : inB ds s with
   | false =>
    have HE := Lib.hid (ps2 (HW.out _ hb0))
    rw [hb0] at HI
    clear ps1 ps2 hb0 HV HW HPL HIN
    obtain ⟨⟨x0, x1, x2⟩, xl, _, _, _⟩ := c3_of hA
    go_wp2
    clear x0 x1 x2 xl
    replace hx : wr.drew.cell? (ad.add i.toNat) = some (.slice A9 s.length c9) := hx
    refine start_ (n := 7) (S := fun w' => w'.cell? ⟨w.heap.size, 0, none⟩ = some (.int .i64 t) ∧ w'.cell? ⟨w.heap.size, 1, none⟩ = some (.slice A1 ds.length c1) ∧ w'.cell? ⟨w.heap.size, 2, none⟩ = some (.slice A2 es.length c2) ∧ w'.cell? (ad.add i.toNat) = some (.slice A9 s.length c9)) (ds := []) (lq 7 0) (by kernel_rfl) rfl (by kernel_rfl) ⟨(c3_of (kD hA)).1.1, (c3_of (kD hA)).1.2.1, (c3_of (kD hA)).1.2.2, hx⟩ (fun hHeld => ?_); refine with_tabW rz_tab12 rz_bits12 (fun HT_ HW_ => ?_)
    refine pv 0 40 7 1 HT_ ?_
    refine pv 2 42 7 5 HT_ ?_
    refine pv 3 43 7 13 HT_ ?_
    refine pv 4 44 7 29 HT_ ?_
    refine tv 1 41 7 31 HT_ HW_ hHeld ?_
    refine tv 5 45 7 63 HT_ HW_ hHeld ?_
    refine one_ (i := 6) (N := some 46) (lq 7 127) rfl rfl (one_of HT_.out (by kernel_rfl)) (by decide) (fun K hK => ?_)
    refine goes_ Tryz.func40 (by kernel_rfl) rfl #[.slice A1 ds.length c1, .slice A9 s.length c9] (by rfl) rfl rfl (by (try simp only [List.map_toArray, List.map_cons, List.map_nil]); first | done | rfl) ?_
    refine (HI.out _ _ _ (Kd.C_drew hi9) hl9 (Kd.C_below R1.out (below_drew hB))).mono ?_
    rintro e w20 ⟨rfl, hb⟩
    replace hA := kB (kD hA) hb
    replace hZ := kB (kD hZ) hb
    replace hX := kB (kD hX) hb
    replace HN2 := Lib.hid (Kd.N_below (Kd.N_drew HN2.out) hb)
    replace HO1 := Lib.hid (Kd.R_below (Kd.R_drew HO1.out) hb)
    replace HO2 := Lib.hid (Kd.R_below (Kd.R_drew HO2.out) hb)
    replace hi9 := Kd.C_below (Kd.C_drew hi9) hb
    replace hB := bS (below_drew hB) hb
    replace hx := cB hb hx
    clear hb
    refine ⟨_, rfl, hK.out _ _ ⟨(c3_of hA).1.1, (c3_of hA).1.2.1, (c3_of hA).1.2.2, hx⟩ (fun hHeld => ?_)⟩; clear hK K
    refine norm_ (a' := ?_) ?_ ?_; rotate_left; show Act.put _ (some 46) _ = _; (go_simp; rfl)
    refine done_ (done_of HT_.out (by kernel_rfl)) ?_
    clear HT_ HW_ hHeld hx hi9
    go_wp2
    go_roundw
    case rel => exact ⟨i + 1, rfl, by omega, by omega, HN2, HO1, Lib.hid (HE.out ▸ HO2.out), Lib.hid hA, Lib.hid hZ, Lib.hid hX, Lib.hid hB⟩
    case measure => simp [intOf]; omega
   | true =>
    obtain ⟨hf, g0, g1⟩ := HV.out _ hb0
    rw [hf] at ps1
    have HE := Lib.hid ps1
    have HPq := Lib.hid (HPL.out _ hb0)
    rw [hb0] at HI
    clear ps1 ps2 hb0 HV HW HPL HIN hf
    obtain ⟨be, ee, y0, y1, y2, y3, y4⟩ := at_T38 R2.out (plc ds s) g0 g1
    cases ee
    generalize rd_T38 es (plc ds s) = x at y0 y1 y2 y3 y4 HE
    generalize plc ds s = q at y0 y1 y2 y3 y4 HPq g0 g1
    have p1 := eq_true g0
    have q1 := eq_true g1
    obtain ⟨⟨x0, x1, x2⟩, xl, _, _, _⟩ := c3_of hA
    go_wp2
    clear x0 x1 x2 xl
    replace hx : wr.drew.cell? (ad.add i.toNat) = some (.slice A9 s.length c9) := hx
    refine start_ (n := 7) (S := fun w' => w'.cell? ⟨w.heap.size, 0, none⟩ = some (.int .i64 t) ∧ w'.cell? ⟨w.heap.size, 1, none⟩ = some (.slice A1 ds.length c1) ∧ w'.cell? ⟨w.heap.size, 2, none⟩ = some (.slice (some be) es.length c2) ∧ w'.cell? (ad.add i.toNat) = some (.slice A9 s.length c9)) (ds := []) (lq 7 0) (by kernel_rfl) rfl (by kernel_rfl) ⟨(c3_of (kD hA)).1.1, (c3_of (kD hA)).1.2.1, (c3_of (kD hA)).1.2.2, hx⟩ (fun hHeld => ?_); refine with_tabW rz_tab12 rz_bits12 (fun HT_ HW_ => ?_)
    refine pv 0 40 7 1 HT_ ?_
    refine pv 2 42 7 5 HT_ ?_
    refine pv 3 43 7 13 HT_ ?_
    refine pv 4 44 7 29 HT_ ?_
    refine tv 1 41 7 31 HT_ HW_ hHeld ?_
    refine tv 5 45 7 63 HT_ HW_ hHeld ?_
    refine one_ (i := 6) (N := some 46) (lq 7 127) rfl rfl (one_of HT_.out (by kernel_rfl)) (by decide) (fun K hK => ?_)
    refine goes_ Tryz.func40 (by kernel_rfl) rfl #[.slice A1 ds.length c1, .slice A9 s.length c9] (by rfl) rfl rfl (by (try simp only [List.map_toArray, List.map_cons, List.map_nil]); first | done | rfl) ?_
    refine (HI.out _ _ _ (Kd.C_drew hi9) hl9 (Kd.C_below R1.out (below_drew hB))).mono ?_
    rintro e w20 ⟨rfl, hb⟩
    replace hA := kB (kD hA) hb
    replace hZ := kB (kD hZ) hb
    replace hX := kB (kD hX) hb
    replace HN2 := Lib.hid (Kd.N_below (Kd.N_drew HN2.out) hb)
    replace HO1 := Lib.hid (Kd.R_below (Kd.R_drew HO1.out) hb)
    replace HO2 := Lib.hid (Kd.R_below (Kd.R_drew HO2.out) hb)
    replace hi9 := Kd.C_below (Kd.C_drew hi9) hb
    replace hB := bS (below_drew hB) hb
    replace hx := cB hb hx
    clear hb
    refine ⟨_, rfl, hK.out _ _ ⟨(c3_of hA).1.1, (c3_of hA).1.2.1, (c3_of hA).1.2.2, hx⟩ (fun hHeld => ?_)⟩; clear hK K
    refine norm_ (a' := ?_) ?_ ?_; rotate_left; show Act.put _ (some 46) _ = _; (go_simp; rfl)
    refine done_ (done_of HT_.out (by kernel_rfl)) ?_
    clear HT_ HW_ hHeld
    replace y0 := (hB.cell (World.block_lt_of_cell? w _ y0)).trans y0
    replace y1 := (hB.cell (World.block_lt_of_cell? w _ y1)).trans y1
    replace y2 := (hB.cell (World.block_lt_of_cell? w _ y2)).trans y2
    replace y3 := (hB.cell (World.block_lt_of_cell? w _ y3)).trans y3
    replace y4 := (hB.cell (World.block_lt_of_cell? w _ y4)).trans y4
    go_wp2
    replace hx : w20.drew.cell? (ad.add i.toNat) = some (.slice A9 s.length c9) := hx
    refine start_ (n := 16) (S := fun w' => w'.cell? ⟨D, 0, none⟩ = some (.int .i64 t) ∧ w'.cell? ⟨D, 1, none⟩ = some (.slice V1 ds.length e1) ∧ w'.cell? ⟨D, 2, none⟩ = some (.slice (some ⟨go, 0, none⟩) (allS l1).length e2) ∧ w'.cell? ⟨w.heap.size, 0, none⟩ = some (.int .i64 t) ∧ w'.cell? ⟨w.heap.size, 1, none⟩ = some (.slice A1 ds.length c1) ∧ w'.cell? ⟨w.heap.size, 2, none⟩ = some (.slice (some be) es.length c2) ∧ w'.cell? (ad.add i.toNat) = some (.slice A9 s.length c9) ∧ w'.cell? (be.add (q.toNat * 5)) = some (.int .i64 x.f0) ∧ w'.cell? ⟨(be.add (q.toNat * 5)).block, (be.add (q.toNat * 5)).off + 1, none⟩ = some (.int .i64 x.f1) ∧ w'.cell? ⟨(be.add (q.toNat * 5)).block, (be.add (q.toNat * 5)).off + 2, none⟩ = some (.int .i64 x.f2.f0) ∧ w'.cell? ⟨(be.add (q.toNat * 5)).block, (be.add (q.toNat * 5)).off + 3, none⟩ = some (.int .i64 x.f2.f1) ∧ w'.cell? ⟨(be.add (q.toNat * 5)).block, (be.add (q.toNat * 5)).off + 4, none⟩ = some (.bool x.f3)) (ds := [15]) (lq 16 0) (by kernel_rfl) rfl (by kernel_rfl) ⟨(c3_of (kD hX)).1.1, (c3_of (kD hX)).1.2.1, (c3_of (kD hX)).1.2.2, (c3_of (kD hA)).1.1, (c3_of (kD hA)).1.2.1, (c3_of (kD hA)).1.2.2, hx, y0, y1, y2, y3, y4⟩ (fun hHeld => ?_); refine with_tabW rz_tab13 rz_bits13 (fun HT_ HW_ => ?_)
    refine pv 0 47 16 1 HT_ ?_
    refine pv 2 49 16 5 HT_ ?_
    refine pv 3 50 16 13 HT_ ?_
    refine pv 5 52 16 45 HT_ ?_
    refine pv 7 54 16 173 HT_ ?_
    refine pv 8 55 16 429 HT_ ?_
    refine pv 9 56 16 941 HT_ ?_
    refine tv 1 48 16 943 HT_ HW_ hHeld ?_
    refine tv 4 51 16 959 HT_ HW_ hHeld ?_
    refine tv 6 53 16 1023 HT_ HW_ hHeld ?_
    refine tv 10 57 16 2047 HT_ HW_ hHeld ?_
    refine one_ (i := 11) (N := some 58) (lq 16 4095) rfl rfl (one_of HT_.out (by kernel_rfl)) (by decide) (fun K hK => ?_)
    refine goes_ Tryz.func41 (by kernel_rfl) rfl #[.slice A1 ds.length c1, .slice A9 s.length c9] (by rfl) rfl rfl (by (try simp only [List.map_toArray, List.map_cons, List.map_nil]); first | done | rfl) ?_
    refine (HPq.out _ _ _ (Kd.C_drew hi9) hl9 (Kd.C_below R1.out (below_drew hB))).mono ?_
    rintro e w21 ⟨rfl, hb⟩
    replace hA := kB (kD hA) hb
    replace hZ := kB (kD hZ) hb
    replace hX := kB (kD hX) hb
    replace HN2 := Lib.hid (Kd.N_below (Kd.N_drew HN2.out) hb)
    replace HO1 := Lib.hid (Kd.R_below (Kd.R_drew HO1.out) hb)
    replace HO2 := Lib.hid (Kd.R_below (Kd.R_drew HO2.out) hb)
    replace hi9 := Kd.C_below (Kd.C_drew hi9) hb
    replace hB := bS (below_drew hB) hb
    replace hx := cB hb hx
    replace y0 := cB hb y0
    replace y1 := cB hb y1
    replace y2 := cB hb y2
    replace y3 := cB hb y3
    replace y4 := cB hb y4
    clear hb
    obtain ⟨ce, hcl, hM, hcc, hfr⟩ := Kd.R_elem HO2.out z38 i h0 hp
    obtain rfl := k38_openM hM
    have r0 : World.cell? _ ⟨go, i.toNat * 5, none⟩ = _ := hcc 0 _ rfl
    have r1 : World.cell? _ ⟨go, i.toNat * 5 + 1, none⟩ = _ := hcc 1 _ rfl
    have r2 : World.cell? _ ⟨go, i.toNat * 5 + 2, none⟩ = _ := hcc 2 _ rfl
    have r3 : World.cell? _ ⟨go, i.toNat * 5 + 3, none⟩ = _ := hcc 3 _ rfl
    have r4 : World.cell? _ ⟨go, i.toNat * 5 + 4, none⟩ = _ := hcc 4 _ rfl
    have f0 : World.frozen? _ ⟨go, i.toNat * 5, none⟩ = false := hfr 0
    have f1 : World.frozen? _ ⟨go, i.toNat * 5 + 1, none⟩ = false := hfr 1
    have f2 : World.frozen? _ ⟨go, i.toNat * 5 + 2, none⟩ = false := hfr 2
    have f3 : World.frozen? _ ⟨go, i.toNat * 5 + 3, none⟩ = false := hfr 3
    have f4 : World.frozen? _ ⟨go, i.toNat * 5 + 4, none⟩ = false := hfr 4
    obtain ⟨HP, hg⟩ := Kd.R_seg HO2.out i h0 hp (seg := [.int .i64 x.f0, .int .i64 x.f1, .int .i64 x.f2.f0, .int .i64 x.f2.f1, .bool x.f3]) (j := 0) hcl hcc (show 5 ≤ 5 from by decide) (x' := x) (k38_mkM _ _ _ x) (fun _ hk => hk)
    rw [HE.out] at HP
    clear hcl hcc hfr hM
    refine ⟨_, rfl, hK.out _ _ ⟨(c3_of hX).1.1, (c3_of hX).1.2.1, (c3_of hX).1.2.2, (c3_of hA).1.1, (c3_of hA).1.2.1, (c3_of hA).1.2.2, hx, y0, y1, y2, y3, y4⟩ (fun hHeld => ?_)⟩; clear hK K
    refine norm_ (a' := ?_) ?_ ?_; rotate_left; show Act.put _ (some 58) _ = _; (go_simp; rfl)
    refine pv 12 59 16 8191 HT_ ?_
    refine tv 13 60 16 16383 HT_ HW_ hHeld ?_
    refine pv 14 61 16 32767 HT_ ?_
    refine last_ (i := 15) (N := none) (lq 16 65535) rfl rfl (one_of HT_.out (by kernel_rfl)) (by decide) (fun K hK => ?_)
    refine skip_ (w1 := ?_) (by rfl) rfl ?_ ?_
    rotate_left
    ·go_simp
     rfl
    refine hK.out _ _ ?_
    clear hK K
    refine done_ (done_of HT_.out (by kernel_rfl)) ?_
    clear HT_ HW_ hHeld hx hi9 y0 y1 y2 y3 y4 r0 r1 r2 r3 r4 f0 f1 f2 f3 f4
    go_wp2
    have hgb := Kd.R_base HO2.out go rfl
    go_roundw
    case rel => exact ⟨i + 1, rfl, by omega, by omega, Lib.hid (Kd.N_grown HN2.out hg (fun k hk he => hk (Option.some.inj he))), Lib.hid (Kd.R_over' HO1.out (Kd.R_typed HO2.out) (by decide) hg), Lib.hid HP, Lib.hid (blk_grown hA hg (Kd.R_ne HO2.out hA (by decide))), Lib.hid (blk_grown hZ hg (Kd.R_ne HO2.out hZ (by decide))), Lib.hid (blk_grown hX hg (Kd.R_ne HO2.out hX (by decide))), Lib.hid (bT (bT (bT (bT (bT hB hgb) hgb) hgb) hgb) hgb)⟩
    case measure => simp [intOf]; omega
  ·have hie : i.toNat = (allS l1).length := by omega
   rw [hie, prt_all] at HO2
   obtain rfl : i = ((allS l1).length : Int) := by omega
   obtain ⟨⟨q0, q1, q2⟩, ql, qf0, qf1, qf2⟩ := c3_of hX
   obtain ⟨⟨z0, z1, z2⟩, zl, zf0, zf1, zf2⟩ := c3_of hZ
   have hl : ¬ (((allS l1).length : Int) < ((allS l1).length : Int)) := by omega
   have hzw : w.heap.size ≤ w.heap.size + 1 := Nat.le_succ _
   clear hX hA hie
   go_wp2
   refine bodyPost_ret (v := .tuple #[.agg #[.int .i64 t, .slice V1 ds.length e1, .slice (some ⟨go, 0, none⟩) (allS l1).length e2], .int .i64 0]) (by clear hZ; simp [results, Tryz.results9, go_sem, z0, z1, z2, zl]) rfl (up_rr (s3_R HO1.out hZ (by decide)) (s3_R HO2.out hZ (by decide)) (below_set3 hB hzw))
end Go.Proofs.Q
end
section
namespace Go.Proofs.Q
open RowKit Shelf Rf Pw Pl Pm
def RcP (k : Int) (ds : List S54) (r : List S38) (v : Int) (w : World) (e : Ending) (w' : World) : Prop := (v = 0 → ∃ v1 v2 : Value, e = .returned (.tuple #[.agg #[.int .i64 k, v1, v2], .int .i64 0]) ∧ Kd.R k54 54 w' w.heap.size (fun _ => True) v1 ds ∧ Kd.R k38 38 w' w.heap.size (fun _ => True) v2 r ∧ Below w.heap.size w w') ∧ (v ≠ 0 → ResizeNo v w e w')
theorem racv_go (t k : Int) (A1 A2 : Option Addr) (c1 c2 : Nat) (ds : List S54) (es : List S38) (w : World) (HK : Hid (∀ W, Below w.heap.size w W → Calls Tryz.prog 16 #[.agg #[.int .i64 t, .slice A1 ds.length c1, .slice A2 es.length c2]] W (Bq true W)))
  (HT : Hid (∀ W, Calls Tryz.prog 42 #[.int .i64 k] W (Bq true W))) (HC : Hid (∀ x ∈ es, ∀ W, Calls Tryz.prog 43 #[.int .i64 k, .agg #[.int .i64 x.f0, .int .i64 x.f1, .int .i64 x.f2.f0, .int .i64 x.f2.f1, .bool x.f3]] W (VE (cvF k x).1 (cvF k x).2 W))) (hel : es.length ≤ 1000000) (R1 : Hid (Kd.C k54 w A1 ds.length ds)) (R2 : Hid (Kd.C k38 w A2 es.length es)) (hdl : ds.length ≤ 1000) (r : List S38) (v : Int) (HQ : Hid (cvGo k es [] = (r, v))) :
  Calls Tryz.prog 10 #[.agg #[.int .i64 t, .slice A1 ds.length c1, .slice A2 es.length c2], .int .i64 k] w (RcP k ds r v w) := by
 have hA : ((w.alloc (.cells #[.int .i64 t, .slice A1 ds.length c1, .slice A2 es.length c2] 25)).alloc (.cells #[.int .i64 0, .slice none 0 0, .slice none 0 0] 25)).heap[w.heap.size]? = some (.cells #[.int .i64 t, .slice A1 ds.length c1, .slice A2 es.length c2] 25) := kA (heap_alloc_new w _) _
 have hZ : ((w.alloc (.cells #[.int .i64 t, .slice A1 ds.length c1, .slice A2 es.length c2] 25)).alloc (.cells #[.int .i64 0, .slice none 0 0, .slice none 0 0] 25)).heap[w.heap.size + 1]? = some (.cells #[.int .i64 0, .slice none 0 0, .slice none 0 0] 25) := nB w _ _
 have hB : Below w.heap.size w ((w.alloc (.cells #[.int .i64 t, .slice A1 ds.length c1, .slice A2 es.length c2] 25)).alloc (.cells #[.int .i64 0, .slice none 0 0, .slice none 0 0] 25)) := bA (bA (Below.refl _ _) _) _
 have hz : w.heap.size ≤ w.heap.size + 1 := Nat.le_succ _
 obtain ⟨⟨x0, x1, x2⟩, xl, _, _, _⟩ := c3_of hA
 go_enter Tryz.func10, Tryz.ntmps10
 go_wp2_with (first
  | (go_at_call 16; refine (HK.out _ hB).mono ?_; rintro e w1 ⟨rfl, hb⟩; clear x0 x1 x2 xl; (replace hA := kB hA hb); (replace hZ := kB hZ hb); (replace hB := bS hB hb); clear hb)
  | (go_at_call 42; refine (HT.out _).mono ?_; rintro e w2 ⟨rfl, hb⟩; (replace hA := kB hA hb); (replace hZ := kB hZ hb); (replace hB := bS hB hb); (obtain ⟨⟨x0, x1, x2⟩, xl, _, _, _⟩ := c3_of hA); clear hb)
  | ((with_reducible refine gD (N := 20) rfl ?_); refine Kd.R_lit k54 _ 54 ?hg (N := 20) ?hd (xs := ([] : List S54)) (inner := []) (ok := fun _ => True) (okp := fun _ => True) ?hr ?hp (fun _ hk => hk) trivial (Below.refl _ _) (Nat.le_refl _) (by simp) ?_; (case hd => rfl); (case hg => rfl); (case hr => first | (go_simp; done) | (go_simp; rfl)); (case hp => exact (Reps.none _ _)); intro v20 w11 ho12 hb hg_ hnew_; clear hg_ hnew_ x0 x1 x2 xl; (have HO := Lib.hid (Kd.R_lower ho12 (bZ hB))); (replace hA := kB hA hb); (replace hZ := kB hZ hb); (replace hB := bS hB hb); (obtain ⟨⟨x0, x1, x2⟩, xl, _, _, _⟩ := c3_of hA); clear hb ho12)
  | ((with_reducible refine gB (b := .append) (xs := #[.tmp 20, .tmp 22]) rfl ?_); at_builtin; refine Kd.R_append_rows k54 (w0 := w) w.heap.size rfl (.tmp 20) (.tmp 22) 22 54 (.agg #[(.int .i64 0), (.int .i64 0)]) 16 rfl Tryz.underlying22 info54 rfl (by decide) (by omega) v20 [] ds _ _ _ (fun _ => True) (fun _ => False) rfl rfl ?aO ?aR (fun _ _ h => h) (fun _ h => h.elim) ?aF ?aB ?aS ?aL ?_; (case aR => exact Kd.C_below R1.out hB); (case aB => exact hB); (case aF => exact (fun _ _ => trivial)); (case aO => exact HO.out); (case aS => exact bZ hB); (case aL => simp; omega); intro v1 w13 ho hb hg hat; rw [List.nil_append] at ho; (replace hA := blk_grown hA hg (Kd.R_ne HO.out hA (by decide))); (replace hZ := blk_grown hZ hg (Kd.R_ne HO.out hZ (by decide))); clear HO; (have HO := Lib.hid ho); (replace hB := hb); (obtain ⟨V1, e1, hv1⟩ := Kd.R_slice ho); subst hv1; clear ho hb hg hat x0 x1 x2 xl)
  | ((with_reducible refine gD (N := 6) rfl ?_); refine bX (by rfl) (N := 6) (by rfl) (cs := #[.int .i64 0, .slice none 0 0, .slice none 0 0]) (t := 25) (by first | (go_simp; done) | (go_simp; rfl)) ?_; intro D hD w15 hX hb; (have hDA := Lib.hid (hD ▸ Nat.ne_of_gt (blk_lt hA))); (have hDZ := Lib.hid (hD ▸ Nat.ne_of_gt (blk_lt hZ))); (replace hA := kB hA hb); (replace hZ := kB hZ hb); (replace HO := Lib.hid (Kd.R_below HO.out hb)); (have hDw := Lib.hid (hD ▸ bZ hB : w.heap.size ≤ D)); (replace hB := bS hB hb); (obtain ⟨⟨q0, q1, q2⟩, ql, qf0, qf1, qf2⟩ := c3_of hX); clear hb hD))
 clear HK HT
 replace hA : (((w15.setCell ⟨D, 0, none⟩ (.int .i64 k)).setCell ⟨D, 1, none⟩ (.slice V1 ds.length e1)).setCell ⟨D, 2, none⟩ (.slice none 0 0)).heap[w.heap.size]? = _ := s3_far hA hDA.out.symm
 replace hZ : (((w15.setCell ⟨D, 0, none⟩ (.int .i64 k)).setCell ⟨D, 1, none⟩ (.slice V1 ds.length e1)).setCell ⟨D, 2, none⟩ (.slice none 0 0)).heap[w.heap.size + 1]? = _ := s3_far hZ hDZ.out.symm
 replace HO : Hid (Kd.R k54 54 (((w15.setCell ⟨D, 0, none⟩ (.int .i64 k)).setCell ⟨D, 1, none⟩ (.slice V1 ds.length e1)).setCell ⟨D, 2, none⟩ (.slice none 0 0)) w.heap.size (fun _ => True) (.slice V1 ds.length e1) ds) := Lib.hid (s3_R HO.out hX (by decide))
 replace hX : (((w15.setCell ⟨D, 0, none⟩ (.int .i64 k)).setCell ⟨D, 1, none⟩ (.slice V1 ds.length e1)).setCell ⟨D, 2, none⟩ (.slice none 0 0)).heap[D]? = some (.cells #[.int .i64 k, .slice V1 ds.length e1, .slice none 0 0] 25) := s3_put hX
 replace hB : Below w.heap.size w (((w15.setCell ⟨D, 0, none⟩ (.int .i64 k)).setCell ⟨D, 1, none⟩ (.slice V1 ds.length e1)).setCell ⟨D, 2, none⟩ (.slice none 0 0)) := below_set3 hB hDw.out
 clear q0 q1 q2 ql qf0 qf1 qf2
 replace hA := Lib.hid hA
 replace hZ := Lib.hid hZ
 replace hX := Lib.hid hX
 replace hB := Lib.hid hB
 generalize (((w15.setCell ⟨D, 0, none⟩ (.int .i64 k)).setCell ⟨D, 1, none⟩ (.slice V1 ds.length e1)).setCell ⟨D, 2, none⟩ (.slice none 0 0)) = w16 at *
 have HG0 : Hid (cvGo k (es.drop (0 : Int).toNat) [] = (r, v)) := HQ
 clear HQ
 go_loopw [7] (fun vv wr => ∃ (i : Int) (acc : List S38) (u : Value), vv = .int .i64 i ∧ 0 ≤ i ∧ i ≤ (es.length : Int) ∧ Hid (cvGo k (es.drop i.toNat) acc = (r, v)) ∧ Hid ((acc.length : Int) = i) ∧ Hid (Kd.R k38 38 wr w.heap.size (fun _ => True) u acc) ∧ Hid (Kd.R k54 54 wr w.heap.size (fun _ => True) (.slice V1 ds.length e1) ds) ∧ Hid (wr.heap[w.heap.size]? = some (.cells #[.int .i64 t, .slice A1 ds.length c1, .slice A2 es.length c2] 25)) ∧ Hid (wr.heap[w.heap.size + 1]? = some (.cells #[.int .i64 0, .slice none 0 0, .slice none 0 0] 25)) ∧ Hid (wr.heap[D]? = some (.cells #[.int .i64 k, .slice V1 ds.length e1, u] 25)) ∧ Hid (Below w.heap.size w wr)) (fun vv _ => ((es.length : Int) - intOf vv).toNat)
 case atStart => exact ⟨0, [], .slice none 0 0, rfl, by decide, by omega, HG0, Lib.hid rfl, Lib.hid (Kd.R_nil _ _ _ _ _), HO, hA, hZ, hX, hB⟩
 case round =>
  clear hX hB hA hZ HO HG0
  obtain ⟨i, acc, u, rfl, h0, h1, HG, HN, HU, HO, HA, HZ, HX, HB⟩ := hrel
  have hA := HA.out
  have hZ := HZ.out
  have hX := HX.out
  have hB := HB.out
  clear HA HZ HX HB
  obtain ⟨⟨x0, x1, x2⟩, xl, _, _, _⟩ := c3_of hA
  by_cases hp : i < (es.length : Int)
  ·obtain ⟨ad, rfl, hx0, hx1, hx2, hx3, hx4⟩ := at_T38 R2.out i h0 hp
   have hm := rd_mem h0 hp
   have hc := Lib.hid (HC.out _ hm)
   replace HG := HG.out
   rw [drop_rd h0 hp] at HG
   unfold cvGo at HG
   clear hm
   replace hx0 := (hB.cell (World.block_lt_of_cell? w _ hx0)).trans hx0
   replace hx1 := (hB.cell (World.block_lt_of_cell? w _ hx1)).trans hx1
   replace hx2 := (hB.cell (World.block_lt_of_cell? w _ hx2)).trans hx2
   replace hx3 := (hB.cell (World.block_lt_of_cell? w _ hx3)).trans hx3
   replace hx4 := (hB.cell (World.block_lt_of_cell? w _ hx4)).trans hx4
   generalize rd_T38 es i = x at hx0 hx1 hx2 hx3 hx4 hc HG
   generalize cvF k x = yv at hc HG
   obtain ⟨y, ev⟩ := yv
   replace HG := Lib.hid HG
   have p0 := eq_true h0
   have p1 := eq_true hp
   by_cases he : ev = 0
   ·subst he
    have HG2 := HG.out
    rw [if_pos rfl] at HG2
    replace HG2 := Lib.hid HG2
    clear HG
    go_upto_region 8 with (first
     | (go_at_call 43; refine (hc.out _).mono ?_; rintro e w17 ⟨rfl, hb⟩; clear x0 x1 x2 xl hx0 hx1 hx2 hx3 hx4 hc; (replace hA := kB hA hb); (replace hZ := kB hZ hb); (replace hX := kB hX hb); (replace HO := Lib.hid (Kd.R_below HO.out hb)); (replace HU := Lib.hid (Kd.R_below HU.out hb)); (replace hB := bS hB hb); clear hb))
    have hY := heap_alloc_new w17 (.cells #[.int .i64 y.f0, .int .i64 y.f1, .int .i64 y.f2.f0, .int .i64 y.f2.f1, .bool y.f3] 38)
    replace hA := kA hA (.cells #[.int .i64 y.f0, .int .i64 y.f1, .int .i64 y.f2.f0, .int .i64 y.f2.f1, .bool y.f3] 38)
    replace hZ := kA hZ (.cells #[.int .i64 y.f0, .int .i64 y.f1, .int .i64 y.f2.f0, .int .i64 y.f2.f1, .bool y.f3] 38)
    replace hX := kA hX (.cells #[.int .i64 y.f0, .int .i64 y.f1, .int .i64 y.f2.f0, .int .i64 y.f2.f1, .bool y.f3] 38)
    replace HO := Lib.hid (Kd.R_alloc HO.out (.cells #[.int .i64 y.f0, .int .i64 y.f1, .int .i64 y.f2.f0, .int .i64 y.f2.f1, .bool y.f3] 38))
    replace HU := Lib.hid (Kd.R_alloc HU.out (.cells #[.int .i64 y.f0, .int .i64 y.f1, .int .i64 y.f2.f0, .int .i64 y.f2.f1, .bool y.f3] 38))
    replace hB := bA hB (.cells #[.int .i64 y.f0, .int .i64 y.f1, .int .i64 y.f2.f0, .int .i64 y.f2.f1, .bool y.f3] 38)
    obtain ⟨⟨q0, q1, q2⟩, ql, qf0, qf1, qf2⟩ := c3_of hX
    obtain ⟨⟨y0, y1, y2, y3, y4⟩, yl, yf0, yf1, yf2, yf3, yf4⟩ := rc5 hY
    generalize w17.alloc (.cells #[.int .i64 y.f0, .int .i64 y.f1, .int .i64 y.f2.f0, .int .i64 y.f2.f1, .bool y.f3] 38) = w18 at *
    generalize w17.heap.size = E at *
    clear hY
    have HLN := HN.out
    go_wp2_with (first
     | ((with_reducible refine gB (b := .append) (xs := #[.tmp 47, .tmp 49]) rfl ?_); at_builtin; refine Kd.R_append k38 (w0 := w) w.heap.size rfl (.tmp 47) (.tmp 49) 23 38 (.agg #[(.int .i64 0), (.int .i64 0), (.int .i64 0), (.int .i64 0), (.bool false)]) 40 rfl Tryz.underlying23 info38 rfl (by decide) (by omega) u acc y [.int .i64 y.f0, .int .i64 y.f1, .int .i64 y.f2.f0, .int .i64 y.f2.f1, .bool y.f3] (fun _ => True) (fun _ => False) rfl rfl ?aP (fun _ hk => hk.elim) ?aF ?aO ?aB ?aS ?aL ?_; (case aP => exact k38_mkM _ _ _ y); (case aF => exact (fun _ _ => trivial)); (case aO => exact HU.out); (case aB => exact hB); (case aS => exact bZ hB); (case aL => omega); intro v1 w19 ho hb hg hat; (replace hA := blk_grown hA hg (Kd.R_ne HU.out hA (by decide))); (replace hZ := blk_grown hZ hg (Kd.R_ne HU.out hZ (by decide))); (replace hX := blk_grown hX hg (Kd.R_ne HU.out hX (by decide))); (replace HO := Lib.hid (Kd.R_over' HO.out (Kd.R_typed HU.out) (by decide) hg)); (obtain ⟨V2, e2, hv2⟩ := Kd.R_slice ho); rw [show (acc ++ [y]).length = acc.length + 1 by simp] at hv2; subst hv2; (have HU2 := Lib.hid ho); clear HU; (replace hB := hb); clear q0 q1 q2 ql qf0 qf1 qf2 y0 y1 y2 y3 y4 yl yf0 yf1 yf2 yf3 yf4 ho hb hg hat; (obtain ⟨⟨q0, q1, q2⟩, ql, qf0, qf1, qf2⟩ := c3_of hX)))
    go_roundw
    case rel => exact ⟨i + 1, acc ++ [y], .slice V2 (acc.length + 1) e2, rfl, by omega, by omega, HG2, Lib.hid (by simp; omega), Lib.hid (Kd.R_set HU2.out hX (by decide) 2 _), Lib.hid (Kd.R_set HO.out hX (by decide) 2 _), Lib.hid (blk_far (p := ⟨D, 2, none⟩) hA hDA.out.symm _), Lib.hid (blk_far (p := ⟨D, 2, none⟩) hZ hDZ.out.symm _), Lib.hid (kP hX 2 _ rfl), Lib.hid (bT hB hDw.out)⟩
    case measure => simp [intOf]; omega
   ·have HG2 := HG.out
    rw [if_neg he] at HG2
    obtain ⟨rfl, rfl⟩ := Prod.mk.inj HG2
    have eb : (ev != 0) = true := by simpa using he
    have HE := Lib.hid he
    clear HG HG2 he
    go_upto_region 8 with (first
     | (go_at_call 43; refine (hc.out _).mono ?_; rintro e w17 ⟨rfl, hb⟩; clear x0 x1 x2 xl hx0 hx1 hx2 hx3 hx4 hc; (replace hA := kB hA hb); (replace hZ := kB hZ hb); (replace hX := kB hX hb); (replace HO := Lib.hid (Kd.R_below HO.out hb)); (replace HU := Lib.hid (Kd.R_below HU.out hb)); (replace hB := bS hB hb); clear hb))
    replace hZ := kA hZ (.cells #[.int .i64 y.f0, .int .i64 y.f1, .int .i64 y.f2.f0, .int .i64 y.f2.f1, .bool y.f3] 38)
    replace hB := bA hB (.cells #[.int .i64 y.f0, .int .i64 y.f1, .int .i64 y.f2.f0, .int .i64 y.f2.f1, .bool y.f3] 38)
    obtain ⟨⟨z0, z1, z2⟩, zl, zf0, zf1, zf2⟩ := c3_of hZ
    generalize w17.alloc (.cells #[.int .i64 y.f0, .int .i64 y.f1, .int .i64 y.f2.f0, .int .i64 y.f2.f1, .bool y.f3] 38) = w18 at *
    clear hA hX
    go_wp2
    refine bodyPost_ret (v := .tuple #[.agg #[.int .i64 0, .slice none 0 0, .slice none 0 0], .int .i64 ev]) (by clear hZ; simp [results, Tryz.results10, go_sem, z0, z1, z2, zl]) rfl ⟨fun h => absurd h HE.out, fun _ => ⟨rfl, below_set3 hB hz⟩⟩
  ·obtain rfl : i = (es.length : Int) := by omega
   have HG2 := HG.out
   rw [Int.toNat_natCast, List.drop_length] at HG2
   obtain ⟨rfl, rfl⟩ := Prod.mk.inj HG2
   clear HG HG2
   obtain ⟨V2, e2, hv2⟩ := Kd.R_slice HU.out
   subst hv2
   obtain ⟨⟨q0, q1, q2⟩, ql, qf0, qf1, qf2⟩ := c3_of hX
   obtain ⟨⟨z0, z1, z2⟩, zl, zf0, zf1, zf2⟩ := c3_of hZ
   have hl : ¬ ((es.length : Int) < (es.length : Int)) := by omega
   clear hX hA
   go_wp2
   refine bodyPost_ret (v := .tuple #[.agg #[.int .i64 k, .slice V1 ds.length e1, .slice V2 acc.length e2], .int .i64 0]) (by clear hZ; simp [results, Tryz.results10, go_sem, z0, z1, z2, zl]) rfl ⟨fun _ => ⟨_, _, rfl, s3_R HO.out hZ (by decide), s3_R HU.out hZ (by decide), below_set3 hB hz⟩, fun h => absurd rfl h⟩
end Go.Proofs.Q
end
section
namespace Go.Proofs.Q
open RowKit Shelf Rf Pw Pl Pm
theorem errN_zero {n : Nat} {l1 : List S54} (h : errN n l1 = 0) : errOf l1 = 0 ∧ l1.length = n := by
 unfold errN at h
 split at h
 ·split at h
  ·exact ⟨by assumption, by assumption⟩
  ·cases h
 ·contradiction
/-- Resize, on both sides -/
theorem rz_both (t : Int) (ds l1 : List S54) (es : List S38) (h6 : ∀ x ∈ es, I6 x.f2.f0) (hl : es.length ≤ 1010) : ∃ p : Int × Int × List S54 × List S38, (p.2.2.1.length ≤ 1000 ∧ p.2.2.2.length ≤ 1000000) ∧ ∀ (A1 A2 A3 : Option Addr) (c1 c2 c3 n m n3 : Nat) (w : World), Arr w A1 n c1 ds A2 m c2 es → Kd.C k54 w A3 n3 l1 → n3 ≤ c3 → Calls Tryz.prog 7 #[.agg #[.int .i64 t, .slice A1 n c1, .slice A2 m c2], .slice A3 n3 c3] w (UP p w) ∧ Calls Tryz.prog 9 #[.agg #[.int .i64 t, .slice A1 n c1, .slice A2 m c2], .slice A3 n3 c3] w (UP p w) := by
 by_cases F : Fine t ds es
 ·have HK : ∀ {A1 A2 : Option Addr} {c1 c2 n m : Nat} {w : World}, Arr w A1 n c1 ds A2 m c2 es → Hid (∀ W, Below w.heap.size w W → Calls Tryz.prog 16 #[.agg #[.int .i64 t, .slice A1 n c1, .slice A2 m c2]] W (Bq true W)) := fun hr => Lib.hid fun W hb => rck_yes F h6 _ _ _ _ _ _ W (hr.below hb) (by omega)
  by_cases hx : errN ds.length l1 = 0
  ·obtain ⟨h1, hn⟩ := errN_zero hx
   have h4 := (errOf_zero h1).2.2.2.2
   refine ⟨(0, t, l1, resL t ds es l1), ⟨by show l1.length ≤ _; omega, Nat.le_trans (res_len (t := t) (ds := ds) (es := es) h1) (by decide)⟩, fun A1 A2 A3 c1 c2 c3 n m n3 w hr h3 hc3 => ?_⟩
   obtain ⟨rfl, rfl⟩ := hr.len
   obtain rfl : n3 = ds.length := by rw [← hn]; exact h3.1.symm
   refine ⟨(rz_ok F h1 hn A1 A2 A3 c1 c2 c3 _ _ w hr h3 hc3).mono ?_, ?_⟩
   ·rintro e w' ⟨B1, q1, B2, q2, k, rfl, hS, hb⟩
    exact ⟨_, _, _, _, _, _, rfl, hS, hb⟩
   ·exact rrz_ok F h1 hn A1 A2 A3 c1 c2 c3 w (HK hr) hr h3 hc3
  ·refine ⟨(errN ds.length l1, 0, [], []), ⟨Nat.zero_le _, Nat.zero_le _⟩, fun A1 A2 A3 c1 c2 c3 n m n3 w hr h3 hc3 => ?_⟩
   obtain ⟨rfl, rfl⟩ := hr.len
   obtain rfl := h3.1
   refine ⟨(rz_no F A1 A2 A3 c1 c2 c3 _ _ _ hx w hr h3 hc3).mono fun e w' h => up_no h, ?_⟩
   unfold errN at hx ⊢
   by_cases he : errOf l1 = 0
   ·rw [if_pos he] at hx ⊢
    by_cases hn : l1.length = ds.length
    ·rw [if_pos hn] at hx; exact absurd rfl hx
    ·rw [if_neg hn]
     exact (rrz_no3 t A1 A2 A3 _ _ c1 c2 _ c3 w (HK hr) (by simp; omega) (Lib.hid fun W hb => rnew_ok F.1 he A3 c3 W (Kd.C_below h3 hb) hc3)).mono fun e w' h => up_no h
   ·rw [if_neg he]
    exact (rrz_no2 t A1 A2 A3 _ _ c1 c2 _ c3 w (HK hr) _ he (Lib.hid fun W hb => rnew_no2 t F.1 l1 he A3 c3 W (Kd.C_below h3 hb) hc3)).mono fun e w' h => up_no h
 ·refine ⟨(1, 0, [], []), ⟨Nat.zero_le _, Nat.zero_le _⟩, fun A1 A2 A3 c1 c2 c3 n m n3 w hr h3 hc3 => ⟨(rz_bad (l1 := l1) F A1 A2 A3 c1 c2 c3 n m n3 w hr).mono fun e w' h => up_no h, (rrz_no1 t A1 A2 A3 n m c1 c2 n3 c3 w (Lib.hid fun W hb => rck_not F h6 _ _ _ _ _ _ W (hr.below hb) (by omega))).mono fun e w' h => up_no h⟩⟩
theorem isTy_of {k : Int} : isTy k = true ↔ k = 1 ∨ k = 2 ∨ k = 3 := by simp [isTy]; omega
theorem cvR_fine {t k : Int} {ds : List S54} {es : List S38} (F : Fine t ds es) (hk : isTy k = true) (h6 : ∀ x ∈ es, I6 x.f2.f0) : ∀ x ∈ es, cvR k x = cvF k x := by
 intro x hx
 have h1 := (okB_bad (t := t) (h6 x hx)).2 (F.2.2.2 x hx)
 unfold okB at h1
 simp only [Bool.and_eq_true] at h1
 have := isTy_of.1 hk
 unfold cvR
 rw [if_pos ⟨by omega, h1.1⟩]
/-- Convert, on both sides -/
theorem cv_both (t k : Int) (ds : List S54) (es : List S38) (h6 : ∀ x ∈ es, I6 x.f2.f0) (hl : es.length ≤ 1010) : ∃ p : Int × Int × List S54 × List S38, (p.2.2.1.length ≤ 1000 ∧ p.2.2.2.length ≤ 1000000) ∧ ∀ (A1 A2 : Option Addr) (c1 c2 n m : Nat) (w : World), Arr w A1 n c1 ds A2 m c2 es → Calls Tryz.prog 8 #[.agg #[.int .i64 t, .slice A1 n c1, .slice A2 m c2], .int .i64 k] w (UP p w) ∧ Calls Tryz.prog 10 #[.agg #[.int .i64 t, .slice A1 n c1, .slice A2 m c2], .int .i64 k] w (UP p w) := by
 by_cases F : Fine t ds es
 ·have HK : ∀ {A1 A2 : Option Addr} {c1 c2 n m : Nat} {w : World}, Arr w A1 n c1 ds A2 m c2 es → Hid (∀ W, Below w.heap.size w W → Calls Tryz.prog 16 #[.agg #[.int .i64 t, .slice A1 n c1, .slice A2 m c2]] W (Bq true W)) := fun hr => Lib.hid fun W hb => rck_yes F h6 _ _ _ _ _ _ W (hr.below hb) (by omega)
  have h4 := (errOf_zero F.2.1).2.2.2.2
  by_cases hk : isTy k = true
  ·have hk3 := isTy_of.1 hk
   have HT : Hid (∀ W, Calls Tryz.prog 42 #[.int .i64 k] W (Bq true W)) := Lib.hid fun W => hk ▸ rtype_w k W
   have HC : Hid (∀ x ∈ es, ∀ W, Calls Tryz.prog 43 #[.int .i64 k, .agg #[.int .i64 x.f0, .int .i64 x.f1, .int .i64 x.f2.f0, .int .i64 x.f2.f1, .bool x.f3]] W (VE (cvF k x).1 (cvF k x).2 W)) := Lib.hid fun x hx W => cvR_fine F hk h6 x hx ▸ rcv_w k x (h6 x hx).1 (h6 x hx).2 W
   rcases cvGo_any k es [] with hall | ⟨x, hx, hne, he⟩
   ·refine ⟨(0, k, ds, cvM k es), ⟨by show ds.length ≤ _; omega, by show (cvM k es).length ≤ _; unfold cvM; rw [List.length_map]; omega⟩, fun A1 A2 c1 c2 n m w hr => ?_⟩
    obtain ⟨rfl, rfl⟩ := hr.len
    refine ⟨(aconv_ok F hk3 hall A1 A2 c1 c2 _ _ w hr).mono ?_, (racv_go t k A1 A2 c1 c2 ds es w (HK hr) HT HC (by omega) (Lib.hid hr.1) (Lib.hid hr.2.2.1) (by omega) (cvM k es) 0 (Lib.hid (by rw [cvGo_ok k es [] hall]; rfl))).mono ?_⟩
    ·rintro e w' ⟨B1, q1, B2, q2, rfl, hS, hb⟩
     exact ⟨_, _, _, _, _, _, rfl, hS, hb⟩
    ·rintro e w' ⟨h, _⟩
     obtain ⟨v1, v2, rfl, g1, g2, hb⟩ := h rfl
     exact up_rr g1 g2 hb
   ·refine ⟨((cvF k x).2, 0, [], []), ⟨Nat.zero_le _, Nat.zero_le _⟩, fun A1 A2 c1 c2 n m w hr => ?_⟩
    obtain ⟨rfl, rfl⟩ := hr.len
    exact ⟨(aconv_no F hk3 hne he A1 A2 c1 c2 _ _ w hr).mono fun e w' h => up_no h, (racv_go t k A1 A2 c1 c2 ds es w (HK hr) HT HC (by omega) (Lib.hid hr.1) (Lib.hid hr.2.2.1) (by omega) [] _ (Lib.hid he)).mono fun e w' h => up_no (h.2 hne)⟩
  ·refine ⟨(1, 0, [], []), ⟨Nat.zero_le _, Nat.zero_le _⟩, fun A1 A2 c1 c2 n m w hr => ⟨(aconv_ty F (fun h => hk (isTy_of.2 h)) A1 A2 c1 c2 n m w hr).mono fun e w' h => up_no h, (racv_no2 t k (by simpa using hk) A1 A2 n m c1 c2 w (HK hr)).mono fun e w' h => up_no h⟩⟩
 ·refine ⟨(1, 0, [], []), ⟨Nat.zero_le _, Nat.zero_le _⟩, fun A1 A2 c1 c2 n m w hr => ⟨(aconv_bad F A1 A2 c1 c2 n m w hr).mono fun e w' h => up_no h, (racv_no1 t k A1 A2 n m c1 c2 w (Lib.hid fun W hb => rck_not F h6 _ _ _ _ _ _ W (hr.below hb) (by omega))).mono fun e w' h => up_no h⟩⟩
end Go.Proofs.Q
end
section
namespace Go.Proofs.Q
open RowKit Shelf Rf Pw Pl Pm
theorem bnd_main (a k : Int) (ds l1 : List S54) (es : List S38) (A1 A2 A3 : Option Addr) (c1 c2 c3 n m n3 : Nat) (w : World)
  (hr : Arr w A1 n c1 ds A2 m c2 es) (h3 : Kd.C k54 w A3 n3 l1) (hc3 : n3 ≤ c3) (hn : n ≤ 6) (hm : m ≤ 1010) (hn3 : n3 ≤ 6)
  (p q : Int × Int × List S54 × List S38) (LP : p.2.2.1.length ≤ 1000 ∧ p.2.2.2.length ≤ 1000000) (LQ : q.2.2.1.length ≤ 1000 ∧ q.2.2.2.length ≤ 1000000)
  (HCR : Hid (∀ (A1 A2 A3 : Option Addr) (c1 c2 c3 n m n3 : Nat) (w : World), Arr w A1 n c1 ds A2 m c2 es → Kd.C k54 w A3 n3 l1 → n3 ≤ c3 → Calls Tryz.prog 7 #[.agg #[.int .i64 a, .slice A1 n c1, .slice A2 m c2], .slice A3 n3 c3] w (UP p w) ∧ Calls Tryz.prog 9 #[.agg #[.int .i64 a, .slice A1 n c1, .slice A2 m c2], .slice A3 n3 c3] w (UP p w)))
  (HCC : Hid (∀ (A1 A2 : Option Addr) (c1 c2 n m : Nat) (w : World), Arr w A1 n c1 ds A2 m c2 es → Calls Tryz.prog 8 #[.agg #[.int .i64 a, .slice A1 n c1, .slice A2 m c2], .int .i64 k] w (UP q w) ∧ Calls Tryz.prog 10 #[.agg #[.int .i64 a, .slice A1 n c1, .slice A2 m c2], .int .i64 k] w (UP q w))) :
  Calls Tryz.prog 3 #[.agg #[.int .i64 a, .slice A1 n c1, .slice A2 m c2], .slice A3 n3 c3, .int .i64 k] w (SanPost w) := by
 have q1 : (6 : Int) < (n3 : Int) ↔ False := by simp; omega
 have q5 : decide (n ≤ 6) = true := decide_eq_true hn
 have q6 : decide (m ≤ 1010) = true := decide_eq_true hm
 have q7 : (p.1 == p.1) = true := by simp
 have q8 : (q.1 == q.1) = true := by simp
 have HR := Lib.hid hr
 have H3 := Lib.hid h3
 clear hr h3 hn hm hn3
 have hAx : (w.alloc (.cells #[.int .i64 a, .slice A1 n c1, .slice A2 m c2] 25)).heap[w.heap.size]? = some (.cells #[.int .i64 a, .slice A1 n c1, .slice A2 m c2] 25) := heap_alloc_new w _
 have hB : Below w.heap.size w (w.alloc (.cells #[.int .i64 a, .slice A1 n c1, .slice A2 m c2] 25)) := bA (Below.refl _ _) _
 go_enter Tryz.func3, Tryz.ntmps3
 go_wp2_with (first
  | (go_at_call 5; refine (small_c a _ _ _ _ _ _ ds es _ (HR.out.below hB)).mono ?_; rintro e w1 ⟨rfl, hb⟩; rw [q5, q6]; (replace hB := bS (by first | exact hB | exact bA hB _) hb); (replace hAx := kB (by first | exact hAx | exact kA hAx _) hb); (have aq0 := c3_0 hAx); (have aq1 := c3_1 hAx); (have aq2 := c3_2 hAx); (have aql := blk_lt hAx); clear hb)
  | (go_at_call 7; refine ((HCR.out _ _ _ _ _ _ _ _ _ _ (HR.out.below (by first | exact hB | exact bA hB _)) (Kd.C_below H3.out (by first | exact hB | exact bA hB _)) hc3).1).mono ?_; rintro e w2 ⟨B1, n1, k1, C1, m1, j1, rfl, hS, hb⟩; (have HP := Lib.hid hS); clear hS; (replace hB := bS (by first | exact hB | exact bA hB _) hb); (replace hAx := kB (by first | exact hAx | exact kA hAx _) hb); clear aq0 aq1 aq2 aql; (have aq0 := c3_0 hAx); (have aq1 := c3_1 hAx); (have aq2 := c3_2 hAx); (have aql := blk_lt hAx); clear hb)
  | (go_at_call 8; refine ((HCC.out _ _ _ _ _ _ _ (HR.out.below (by first | exact hB | exact bA hB _))).1).mono ?_; rintro e w3 ⟨B2, n2, k2, C2, m2, j2, rfl, hS, hb⟩; (have HQ := Lib.hid hS); clear hS; (replace hB := bS (by first | exact hB | exact bA hB _) hb); (replace hAx := kB (by first | exact hAx | exact kA hAx _) hb); (have hPx := kB (heap_alloc_new _ _) hb); (replace HP := Lib.hid (HP.out.below (bS (by first | exact Below.refl _ _ | exact bA (Below.refl _ _) _) hb))); clear aq0 aq1 aq2 aql; (have aq0 := c3_0 hAx); (have aq1 := c3_1 hAx); (have aq2 := c3_2 hAx); (have aql := blk_lt hAx); clear hb)
  | (go_at_call 9; refine ((HCR.out _ _ _ _ _ _ _ _ _ _ (HR.out.below (by first | exact hB | exact bA hB _)) (Kd.C_below H3.out (by first | exact hB | exact bA hB _)) hc3).2).mono ?_; rintro e w4 ⟨B3, n3, k3, C3, m3, j3, rfl, hS, hb⟩; (have HX := Lib.hid hS); clear hS; (replace hB := bS (by first | exact hB | exact bA hB _) hb); (replace hAx := kB (by first | exact hAx | exact kA hAx _) hb); (replace hPx := kB (by first | exact hPx | exact kA hPx _) hb); (have hQx := kB (heap_alloc_new _ _) hb); (replace HP := Lib.hid (HP.out.below (bS (by first | exact Below.refl _ _ | exact bA (Below.refl _ _) _) hb))); (replace HQ := Lib.hid (HQ.out.below (bS (by first | exact Below.refl _ _ | exact bA (Below.refl _ _) _) hb))); clear aq0 aq1 aq2 aql; (have aq0 := c3_0 hAx); (have aq1 := c3_1 hAx); (have aq2 := c3_2 hAx); (have aql := blk_lt hAx); clear hb)
  | (go_at_call 10; refine ((HCC.out _ _ _ _ _ _ _ (HR.out.below (by first | exact hB | exact bA hB _))).2).mono ?_; rintro e w5 ⟨B4, n4, k4, C4, m4, j4, rfl, hS, hb⟩; (have HY := Lib.hid hS); clear hS; (replace hB := bS (by first | exact hB | exact bA hB _) hb); (replace hAx := kB (by first | exact hAx | exact kA hAx _) hb); (replace hPx := kB (by first | exact hPx | exact kA hPx _) hb); (replace hQx := kB (by first | exact hQx | exact kA hQx _) hb); (have hXx := kB (heap_alloc_new _ _) hb); (replace HP := Lib.hid (HP.out.below (bS (by first | exact Below.refl _ _ | exact bA (Below.refl _ _) _) hb))); (replace HQ := Lib.hid (HQ.out.below (bS (by first | exact Below.refl _ _ | exact bA (Below.refl _ _) _) hb))); (replace HX := Lib.hid (HX.out.below (bS (by first | exact Below.refl _ _ | exact bA (Below.refl _ _) _) hb))); clear aq0 aq1 aq2 aql; (have aq0 := c3_0 hAx); (have aq1 := c3_1 hAx); (have aq2 := c3_2 hAx); (have aql := blk_lt hAx); clear hb)
  | (go_at_call 6; refine (manorboylaw08_sanity.calls true _ rfl).mono ?_; rintro e w7 ⟨rfl, hb⟩; (replace hB := bS (by first | exact hB | exact bA hB _) hb); clear hAx; (replace hPx := kB (by first | exact hPx | exact kA hPx _) hb); (replace hQx := kB (by first | exact hQx | exact kA hQx _) hb); (replace hXx := kB (by first | exact hXx | exact kA hXx _) hb); (have hYx := kB (heap_alloc_new _ _) hb); (replace HP := Lib.hid (HP.out.below (bS (by first | exact Below.refl _ _ | exact bA (Below.refl _ _) _) hb))); (replace HQ := Lib.hid (HQ.out.below (bS (by first | exact Below.refl _ _ | exact bA (Below.refl _ _) _) hb))); (replace HX := Lib.hid (HX.out.below (bS (by first | exact Below.refl _ _ | exact bA (Below.refl _ _) _) hb))); (replace HY := Lib.hid (HY.out.below (bS (by first | exact Below.refl _ _ | exact bA (Below.refl _ _) _) hb))); clear aq0 aq1 aq2 aql; (have bp0 := c3_0 hPx); (have bp1 := c3_1 hPx); (have bp2 := c3_2 hPx); (have bpl := blk_lt hPx); (have bx0 := c3_0 hXx); (have bx1 := c3_1 hXx); (have bx2 := c3_2 hXx); (have bxl := blk_lt hXx); clear hb; (have M1 := Lib.hid trivial))
  | (go_at_call 11; (have M := M1); clear M M1; refine (requal_w _ _ _ LP.1 LP.2 _ _ _ _ _ _ _ _ _ _ _ _ _ HP.out HX.out).mono ?_; rintro e w8 ⟨rfl, hb⟩; (replace hB := bS (by first | exact hB | exact bA hB _) hb); (replace hQx := kB (by first | exact hQx | exact kA hQx _) hb); (replace hYx := kB (by first | exact hYx | exact kA hYx _) hb); (replace HQ := Lib.hid (HQ.out.below (bS (by first | exact Below.refl _ _ | exact bA (Below.refl _ _) _) hb))); (replace HY := Lib.hid (HY.out.below (bS (by first | exact Below.refl _ _ | exact bA (Below.refl _ _) _) hb))); clear bp0 bp1 bp2 bpl bx0 bx1 bx2 bxl; (have bq0 := c3_0 hQx); (have bq1 := c3_1 hQx); (have bq2 := c3_2 hQx); (have bql := blk_lt hQx); (have by_0 := c3_0 hYx); (have by_1 := c3_1 hYx); (have by_2 := c3_2 hYx); (have by_l := blk_lt hYx); clear hb; (have M2 := Lib.hid trivial))
  | (go_at_call 11; (have M := M2); clear M M2; refine (requal_w _ _ _ LQ.1 LQ.2 _ _ _ _ _ _ _ _ _ _ _ _ _ HQ.out HY.out).mono ?_; rintro e w9 ⟨rfl, hb⟩; (replace hB := bS (by first | exact hB | exact bA hB _) hb); clear bq0 bq1 bq2 bql by_0 by_1 by_2 by_l; clear hb))
 go_ret
 exact ⟨rfl, hB⟩
theorem bnd_bad (a k : Int) (ds l1 : List S54) (es : List S38) (A1 A2 A3 : Option Addr) (c1 c2 c3 n m n3 : Nat) (w : World)
  (hr : Arr w A1 n c1 ds A2 m c2 es) (hbad : ¬ (n ≤ 6 ∧ m ≤ 1010 ∧ n3 ≤ 6)) :
  Calls Tryz.prog 3 #[.agg #[.int .i64 a, .slice A1 n c1, .slice A2 m c2], .slice A3 n3 c3, .int .i64 k] w (SanPost w) := by
 have HR := Lib.hid hr
 clear hr
 have hAx : (w.alloc (.cells #[.int .i64 a, .slice A1 n c1, .slice A2 m c2] 25)).heap[w.heap.size]? = some (.cells #[.int .i64 a, .slice A1 n c1, .slice A2 m c2] 25) := heap_alloc_new w _
 have hB : Below w.heap.size w (w.alloc (.cells #[.int .i64 a, .slice A1 n c1, .slice A2 m c2] 25)) := bA (Below.refl _ _) _
 obtain ⟨sm, hsm⟩ : ∃ b, b = (decide (n ≤ 6) && decide (m ≤ 1010)) := ⟨_, rfl⟩
 have HSM := Lib.hid hsm
 cases sm with
 | false =>
  clear hsm hbad
  go_enter Tryz.func3, Tryz.ntmps3
  go_wp2_with (first
   | (go_at_call 5; refine (small_c a _ _ _ _ _ _ ds es _ (HR.out.below hB)).mono ?_; rintro e w1 ⟨rfl, hb⟩; rw [← HSM.out]; (replace hB := bS (by first | exact hB | exact bA hB _) hb); (replace hAx := kB (by first | exact hAx | exact kA hAx _) hb); (have aq0 := c3_0 hAx); (have aq1 := c3_1 hAx); (have aq2 := c3_2 hAx); (have aql := blk_lt hAx); clear hb)
   | (go_at_call 6; refine (manorboylaw08_sanity.calls true _ rfl).mono ?_; rintro e w20 ⟨rfl, hb⟩; (replace hB := bS (by first | exact hB | exact bA hB _) hb); clear hb))
  go_ret
  exact ⟨rfl, hB⟩
 | true =>
  have hs2 : n ≤ 6 ∧ m ≤ 1010 := by simpa using hsm.symm
  clear hsm
  have q1 : (6 : Int) < (n3 : Int) ↔ True := by simp; omega
  clear hbad hs2
  go_enter Tryz.func3, Tryz.ntmps3
  go_wp2_with (first
   | (go_at_call 5; refine (small_c a _ _ _ _ _ _ ds es _ (HR.out.below hB)).mono ?_; rintro e w1 ⟨rfl, hb⟩; rw [← HSM.out]; (replace hB := bS (by first | exact hB | exact bA hB _) hb); (replace hAx := kB (by first | exact hAx | exact kA hAx _) hb); (have aq0 := c3_0 hAx); (have aq1 := c3_1 hAx); (have aq2 := c3_2 hAx); (have aql := blk_lt hAx); clear hb)
   | (go_at_call 6; refine (manorboylaw08_sanity.calls true _ rfl).mono ?_; rintro e w20 ⟨rfl, hb⟩; (replace hB := bS (by first | exact hB | exact bA hB _) hb); clear hb))
  go_ret
  exact ⟨rfl, hB⟩
/-- The law, for every input. -/
theorem bnd_calls (a k : Int) (ds l1 : List S54) (es : List S38) (A1 A2 A3 : Option Addr) (c1 c2 c3 : Nat) (w : World)
  (hr1 : Kd.C k54 w A1 ds.length ds) (hc1 : ds.length ≤ c1) (hr2 : Kd.C k38 w A2 es.length es) (hc2 : es.length ≤ c2) (h6 : ∀ x ∈ es, I6 x.f2.f0) (h3 : Kd.C k54 w A3 l1.length l1) (hc3 : l1.length ≤ c3) :
  Calls Tryz.prog 3 #[.agg #[.int .i64 a, .slice A1 ds.length c1, .slice A2 es.length c2], .slice A3 l1.length c3, .int .i64 k] w (SanPost w) := by
 have hr : Arr w A1 ds.length c1 ds A2 es.length c2 es := ⟨hr1, hc1, hr2, hc2⟩
 by_cases hg : ds.length ≤ 6 ∧ es.length ≤ 1010 ∧ l1.length ≤ 6
 ·obtain ⟨p, LP, hp⟩ := rz_both a ds l1 es h6 hg.2.1
  obtain ⟨q, LQ, hq⟩ := cv_both a k ds es h6 hg.2.1
  exact bnd_main a k ds l1 es A1 A2 A3 c1 c2 c3 _ _ _ w hr h3 hc3 hg.1 hg.2.1 hg.2.2 p q LP LQ (Lib.hid hp) (Lib.hid hq)
 ·exact bnd_bad a k ds l1 es A1 A2 A3 c1 c2 c3 _ _ _ w hr hg
end Go.Proofs.Q
end
