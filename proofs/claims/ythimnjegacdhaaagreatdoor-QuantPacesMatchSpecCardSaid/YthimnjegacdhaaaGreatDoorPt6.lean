/- Several texts of this claim in one. -/
import Derived.Test.YthimnjegacdhaaaGreatDoorPt4
import Derived.Test.YthimnjegacdhaaaGreatDoorPt5
/- The program's forms of paces; its ReadPace. -/
namespace Go.Proofs.YthimnjegacdhaaaGreatDoor
open Go.RowKit Go.BigFrame

def lastFn (B : Nat) : Value := .func (.func 89) #[] #[.pointer (some ⟨B + 3, 0, none⟩), .pointer (some ⟨B, 0, none⟩), .pointer (some ⟨B + 2, 0, none⟩)]
def begFn (B : Nat) : Value := .func (.func 91) #[] #[.pointer (some ⟨B + 3, 0, none⟩), .pointer (some ⟨B, 0, none⟩), .pointer (some ⟨B + 2, 0, none⟩)]
def rowFn' (B : Nat) : Value := .func (.func 84) #[] #[.pointer (some ⟨B + 4, 0, none⟩), .pointer (some ⟨B + 5, 0, none⟩), .pointer (some ⟨B + 3, 0, none⟩)]
/-- the other functions of a variable of type reader -/
structure IsBox2 (w : World) (C B : Nat) : Prop where
  row : w.cell? ⟨C, 1, none⟩ = some (rowFn' B)
  last : w.cell? ⟨C, 5, none⟩ = some (lastFn B)
  begins : w.cell? ⟨C, 6, none⟩ = some (begFn B)
theorem isBox2_new (w : World) (B : Nat) (T : TypeId) : IsBox2 (w.alloc (.cells (rdVals B) T)) w.heap.size B := ⟨cell_box 1 _ rfl, cell_box 5 _ rfl, cell_box 6 _ rfl⟩
theorem IsBox2.kp {w w' : World} {C B : Nat} (h : IsBox2 w C B) (hk : Kp B w w') (hC : B + 4 ≤ C) : IsBox2 w' C B :=
  ⟨IsRd.of_kp hk h.row (by omega) (by omega), IsRd.of_kp hk h.last (by omega) (by omega), IsRd.of_kp hk h.begins (by omega) (by omega)⟩
set_option maxHeartbeats 4000000 in
set_option maxRecDepth 100000 in
theorem timed_form : FormOk 33 Rd.timedF := by
  intro B s w h hs
  have hsz := h.size
  have hR0 := h.boxed (.cells (rdVals B) 49)
  have hK0 := (Kp.refl B w).alloc (.cells (rdVals B) 49)
  have HX := Lib.hid (isBox_new w B 49)
  have HY := Lib.hid (isBox2_new w B 49)
  have k0 := HX.out.num
  unfold numF at k0
  have hnum := Lib.hid (fun w (h : IsRd w B s 0 true) => number_any 3 0 999 w h (by omega) (by omega))
  have q0 : (Rd.numAt s 3 0 999 true 0).2.2 ≤ s.size := Rd.numLoop_pos _ _ _ _ _ _ _ _ _ (Nat.zero_le _)
  have hv := Rd.numAt_val s 3 0 999 true 0 (by omega)
  generalize hm : Rd.numAt s 3 0 999 true 0 = m at hnum q0 hv
  have hex := Lib.hid (fun w (h : IsRd w B s m.2.2 (Rd.numOk 0 true m)) => exact_any Rd.colon w h (by omega) (by decide))
  have q1 := Rd.exactAt_le (s := s) (t := Rd.colon) (ok := Rd.numOk 0 true m) q0
  generalize hc : Rd.exactAt s Rd.colon m.2.2 (Rd.numOk 0 true m) = c at hex q1
  have hpr := Lib.hid (fun w (h : IsRd w B s c.1 c.2) => pair_any 59 w h (by omega))
  have hx := Rd.pairAt_val s (most := 59) c.1 c.2 (by omega)
  have q2 : (Rd.pairAt s 59 c.1 c.2).2.1 ≤ s.size := Rd.pairStep_le (n := (Rd.pairStep s 59 10 (0, c.1, c.2)).1) (b := (Rd.pairStep s 59 10 (0, c.1, c.2)).2.2) (Rd.pairStep_le q1)
  generalize hxx : Rd.pairAt s 59 c.1 c.2 = x at hpr hx q2
  have hsl := Lib.hid (fun w (h : IsRd w B s x.2.1 x.2.2) => exact_any Rd.slashB w h (by omega) (by decide))
  have q3 := Rd.exactAt_le (s := s) (t := Rd.slashB) (ok := x.2.2) q2
  generalize hd : Rd.exactAt s Rd.slashB x.2.1 x.2.2 = d at hsl q3
  have hla := Lib.hid (fun w (h : IsRd w B s d.1 d.2) (b : Nat) (hw : ∀ j, j < 3 → w.cell? ⟨b, 0 + j, none⟩ = some (.string ([Rd.kmB, Rd.miB, Rd.hmB].getD j ByteArray.empty))) => last_any [Rd.kmB, Rd.miB, Rd.hmB] b 0 3 w h (by omega) q3 hw (by decide) (by decide))
  generalize hk : Rd.lastAt s [Rd.kmB, Rd.miB, Rd.hmB] d.1 d.2 = kk at hla
  have hF : Rd.timedF s = (if kk.1 = 1 then (Sc.sc (60 * m.1 + x.1) 1000000 1609344 4).1 else if kk.1 = 2 then 10 * (60 * m.1 + x.1) else 60 * m.1 + x.1, kk.2.1, kk.2.2) := by unfold Rd.timedF; simp only [hm, hc, hxx, hd, hk]
  rw [hF]
  have v0 := hv.1
  have v1 := hv.2
  have x0 := hx.1
  have x1 := hx.2
  clear hF hm hc hxx hv hx hd hk q0 q1 q2 q3
  obtain ⟨mv, mk, mp⟩ := m
  obtain ⟨xv, xp, xo⟩ := x
  obtain ⟨ki, kp, ko⟩ := kk
  obtain ⟨dp, dok⟩ := d
  simp only at hnum hex hpr hsl hla v0 v1 x0 x1 ⊢
  have DS := Lib.hid (fun W => scale_any (60 * mv + xv) 1000000 1609344 4 W (by omega) (by omega) (by omega) (by omega))
  unfold scRet at DS
  obtain ⟨sv, hsv⟩ : ∃ sv, Sc.sc (60 * mv + xv) 1000000 1609344 4 = sv := ⟨_, rfl⟩
  rw [hsv] at DS ⊢
  have HVAL : Hid ((ki = 1 → (if ki = 1 then sv.1 else if ki = 2 then 10 * (60 * mv + xv) else 60 * mv + xv) = sv.1) ∧ (ki ≠ 1 → ki = 2 → (if ki = 1 then sv.1 else if ki = 2 then 10 * (60 * mv + xv) else 60 * mv + xv) = 10 * (60 * mv + xv)) ∧ (ki ≠ 1 → ki ≠ 2 → (if ki = 1 then sv.1 else if ki = 2 then 10 * (60 * mv + xv) else 60 * mv + xv) = 60 * mv + xv)) := Lib.hid ⟨fun h => if_pos h, fun h h2 => by rw [if_neg h, if_pos h2], fun h h2 => by rw [if_neg h, if_neg h2]⟩
  generalize (if ki = 1 then sv.1 else if ki = 2 then 10 * (60 * mv + xv) else 60 * mv + xv) = RV at HVAL ⊢
  have hK0' := Lib.hid hK0
  have hR0' := Lib.hid hR0
  clear hK0 hR0 h hsv
  go_enter Tryz.func33, Tryz.ntmps33
  go_wp2_with fail
  refine (hnum.out _ hR0'.out).mono ?_
  rintro e w1 ⟨rfl, hR1, hK1⟩
  have HX1 := Lib.hid (HX.out.kp hK1 (by omega))
  have HY1 := Lib.hid (HY.out.kp hK1 (by omega))
  have k3 := HX1.out.exact_
  unfold exactF at k3
  have HR1 := Lib.hid hR1
  have HK1 := Lib.hid (hK0'.out.trans hK1)
  clear hR1 hK1 k0 HX HY
  go_wp2_with fail
  refine (hex.out _ HR1.out).mono ?_
  rintro e w2 ⟨rfl, hR2, hK2⟩
  have HX2 := Lib.hid (HX1.out.kp hK2 (by omega))
  have HY2 := Lib.hid (HY1.out.kp hK2 (by omega))
  have k2 := HX2.out.pair
  unfold pairF at k2
  have HR2 := Lib.hid hR2
  have HK2 := Lib.hid (HK1.out.trans hK2)
  clear hR2 hK2 k3 HX1 HY1
  go_wp2_with fail
  refine (hpr.out _ HR2.out).mono ?_
  rintro e w3 ⟨rfl, hR3, hK3⟩
  have HX3 := Lib.hid (HX2.out.kp hK3 (by omega))
  have HY3 := Lib.hid (HY2.out.kp hK3 (by omega))
  have k3 := HX3.out.exact_
  unfold exactF at k3
  have HR3 := Lib.hid hR3
  have HK3 := Lib.hid (HK2.out.trans hK3)
  clear hR3 hK3 k2 HX2 HY2
  go_wp2_with fail
  refine (hsl.out _ HR3.out).mono ?_
  rintro e w4 ⟨rfl, hR4, hK4⟩
  have HY4 := Lib.hid (HY3.out.kp hK4 (by omega))
  have k5 := HY4.out.last
  unfold lastFn at k5
  have HR4 := Lib.hid (hR4.boxed (.cells #[.string ⟨#[107, 109]⟩, .string ⟨#[109, 105]⟩, .string ⟨#[49, 48, 48, 109]⟩] 9))
  have HK4 := Lib.hid ((HK3.out.trans hK4).alloc (.cells #[.string ⟨#[107, 109]⟩, .string ⟨#[109, 105]⟩, .string ⟨#[49, 48, 48, 109]⟩] 9))
  clear hR4 hK4 k3 HX3 HY3
  have HLA := Lib.hid (hla.out _ HR4.out w4.heap.size (fun j hj => by
    rw [World.cell?_alloc_at _ _ _ _ rfl, Nat.zero_add]
    match j, hj with
    | 0, _ | 1, _ | 2, _ => rfl))
  clear hla
  go_wp2_with fail
  refine HLA.out.mono ?_
  rintro e w5 ⟨rfl, hR5, hK5⟩
  have HR5 := Lib.hid hR5
  have HK5 := Lib.hid (HK4.out.trans hK5)
  clear hR5 hK5 HR4 HK4 k5
  by_cases h1 : ki = 1
  · have b1 : (ki == 1) = true := by simpa using h1
    have HE := Lib.hid (HVAL.out.1 h1)
    clear h1
    go_wp2_with (go_at_call 25; refine (DS.out _).mono ?_; rintro e w6 ⟨rfl, hb6⟩)
    go_ret
    exact ⟨by rw [HE.out]; rfl, HR5.out.kept hb6, HK5.out.trans (Kp.of_below hb6)⟩
  · have b1 : (ki == 1) = false := by simpa using h1
    by_cases h2 : ki = 2
    · have b2 : (ki == 2) = true := by simpa using h2
      have HE := Lib.hid (HVAL.out.2.1 h1 h2)
      clear h1 h2
      go_wp2_with fail
      go_ret
      exact ⟨by rw [HE.out]; rfl, HR5.out, HK5.out⟩
    · have b2 : (ki == 2) = false := by simpa using h2
      have HE := Lib.hid (HVAL.out.2.2 h1 h2)
      clear h1 h2
      go_wp2_with fail
      go_ret
      exact ⟨by rw [HE.out]; rfl, HR5.out, HK5.out⟩
end Go.Proofs.YthimnjegacdhaaaGreatDoor

/- The program's form of speeds; its ReadPace. -/
namespace Go.Proofs.YthimnjegacdhaaaGreatDoor
open Go.RowKit Go.BigFrame

theorem row_val1 (s : ByteArray) (p : Nat) (ok : Bool) : 0 ≤ (Rd.rowAt s 1 ok p).1 ∧ (Rd.rowAt s 1 ok p).1 ≤ 9 := by
  unfold Rd.rowAt
  by_cases h : Rd.digAt s p ok = true
  · obtain ⟨_, _, h48, h57⟩ := Rd.digAt_true h
    rw [Rd.rowLoop, if_pos ⟨by omega, h⟩]
    show 0 ≤ 10 * 0 + ((Rd.byte s p : Int) - 48) ∧ 10 * 0 + ((Rd.byte s p : Int) - 48) ≤ 9
    omega
  · rw [Rd.rowLoop, if_neg (fun x => h x.2)]
    exact ⟨Int.le_refl _, by show (0 : Int) ≤ 9; omega⟩
set_option maxHeartbeats 4000000 in
set_option maxRecDepth 100000 in
theorem speed_form : FormOk 34 Rd.speedF := by
  intro B s w h hs
  have hsz := h.size
  have hR0 := h.boxed (.cells (rdVals B) 49)
  have hK0 := (Kp.refl B w).alloc (.cells (rdVals B) 49)
  have HX := Lib.hid (isBox_new w B 49)
  have HY := Lib.hid (isBox2_new w B 49)
  have k0 := HX.out.num
  unfold numF at k0
  have hnum := Lib.hid (fun w (h : IsRd w B s 0 true) => number_any 3 0 999 w h (by omega) (by omega))
  have q0 : (Rd.numAt s 3 0 999 true 0).2.2 ≤ s.size := Rd.numLoop_pos _ _ _ _ _ _ _ _ _ (Nat.zero_le _)
  have hv := Rd.numAt_val s 3 0 999 true 0 (by omega)
  have HF := Lib.hid (show Rd.speedF s = if Rd.begAt s 46 (Rd.numAt s 3 0 999 true 0).2.2 (Rd.numOk 0 true (Rd.numAt s 3 0 999 true 0)) = true then _ else _ from rfl)
  generalize hm : Rd.numAt s 3 0 999 true 0 = m at hnum q0 hv HF
  have hbg : Hid (∀ w, IsRd w B s m.2.2 (Rd.numOk 0 true m) → Calls Tryz.prog 91 #[.string ⟨#[46]⟩, pt (B + 3), pt B, pt (B + 2)] w fun e w' => e = .returned (.bool (Rd.begAt s 46 m.2.2 (Rd.numOk 0 true m))) ∧ w = w') := Lib.hid (fun w h => begins_rd 46 (by omega) w h q0)
  unfold pt at hbg
  have hK0' := Lib.hid hK0
  have hR0' := Lib.hid hR0
  clear hK0 hR0 h
  obtain ⟨bg, hbb⟩ : ∃ x, Rd.begAt s 46 m.2.2 (Rd.numOk 0 true m) = x := ⟨_, rfl⟩
  rw [hbb] at hbg HF
  have v0 := hv.1
  have v1 := hv.2
  cases bg
  case true =>
    have hf := HF.out
    rw [if_pos rfl] at hf
    have hex := Lib.hid (fun w (h : IsRd w B s m.2.2 (Rd.numOk 0 true m)) => exact_any Rd.dotB w h (by omega) (by decide))
    generalize he : Rd.exactAt s Rd.dotB m.2.2 (Rd.numOk 0 true m) = ee at hex hf
    have hrow := Lib.hid (fun w (h : IsRd w B s ee.1 ee.2) => row_any 1 1 w h (by omega) (by omega))
    have hdv := row_val1 s ee.1 ee.2
    generalize hd : Rd.rowAt s 1 ee.2 ee.1 = d at hrow hf hdv
    have hkm := Lib.hid (fun w (h : IsRd w B s d.2.2 (ee.2 && decide (1 ≤ d.2.1))) => exact_any Rd.kmhB w h (by omega) (by decide))
    generalize hg : Rd.exactAt s Rd.kmhB d.2.2 (ee.2 && decide (1 ≤ d.2.1)) = g at hkm hf
    rw [hf]
    have d0 := hdv.1
    have d1 := hdv.2
    clear HF hf hm hbb hv he hd hg hdv q0
    obtain ⟨mv, mk, mp⟩ := m
    obtain ⟨dv, dk, dp⟩ := d
    simp only at hnum hbg hex hrow hkm v0 v1 d0 d1 ⊢
    have DS := Lib.hid (fun W => scale_any 36000 1 (10 * mv + dv) 4 W (by omega) (by omega) (by omega) (by omega))
    unfold scRet at DS
    generalize Sc.sc 36000 1 (10 * mv + dv) 4 = sv at DS ⊢
    go_enter Tryz.func34, Tryz.ntmps34
    go_wp2_with fail
    refine (hnum.out _ hR0'.out).mono ?_
    rintro e w1 ⟨rfl, hR1, hK1⟩
    have HX1 := Lib.hid (HX.out.kp hK1 (by omega))
    have HY1 := Lib.hid (HY.out.kp hK1 (by omega))
    have k6 := HY1.out.begins
    unfold begFn at k6
    have HR1 := Lib.hid hR1
    have HK1 := Lib.hid (hK0'.out.trans hK1)
    clear hR1 hK1 k0 HX HY
    have HB1 := Lib.hid (hbg.out _ HR1.out)
    clear hbg
    go_wp2_with fail
    refine HB1.out.mono ?_
    rintro e w1b ⟨rfl, rfl⟩
    have k3 := HX1.out.exact_
    unfold exactF at k3
    clear k6
    go_wp2_with fail
    refine (hex.out _ HR1.out).mono ?_
    rintro e w2 ⟨rfl, hR2, hK2⟩
    have HX2 := Lib.hid (HX1.out.kp hK2 (by omega))
    have HY2 := Lib.hid (HY1.out.kp hK2 (by omega))
    have k1 := HY2.out.row
    unfold rowFn' at k1
    have HR2 := Lib.hid hR2
    have HK2 := Lib.hid (HK1.out.trans hK2)
    clear hR2 hK2 k3 HX1 HY1
    go_wp2_with fail
    refine (hrow.out _ HR2.out).mono ?_
    rintro e w3 ⟨rfl, hR3, hK3⟩
    have HX3 := Lib.hid (HX2.out.kp hK3 (by omega))
    have k3 := HX3.out.exact_
    unfold exactF at k3
    have HR3 := Lib.hid hR3
    have HK3 := Lib.hid (HK2.out.trans hK3)
    clear hR3 hK3 k1 HX2 HY2
    go_wp2_with fail
    refine (hkm.out _ HR3.out).mono ?_
    rintro e w4 ⟨rfl, hR4, hK4⟩
    have HR4 := Lib.hid hR4
    have HK4 := Lib.hid (HK3.out.trans hK4)
    clear hR4 hK4 k3 HX3
    go_wp2_with (go_at_call 25; refine (DS.out _).mono ?_; rintro e w6 ⟨rfl, hb6⟩)
    go_ret
    exact ⟨rfl, HR4.out.kept hb6, HK4.out.trans (Kp.of_below hb6)⟩
  case false =>
    have hf := HF.out
    rw [if_neg (by simp)] at hf
    have hkm := Lib.hid (fun w (h : IsRd w B s m.2.2 (Rd.numOk 0 true m)) => exact_any Rd.kmhB w h (by omega) (by decide))
    generalize hg : Rd.exactAt s Rd.kmhB m.2.2 (Rd.numOk 0 true m) = g at hkm hf
    rw [hf]
    clear HF hf hm hbb hv hg q0
    obtain ⟨mv, mk, mp⟩ := m
    simp only at hnum hbg hkm v0 v1 ⊢
    have DS := Lib.hid (fun W => scale_any 36000 1 (10 * mv) 4 W (by omega) (by omega) (by omega) (by omega))
    unfold scRet at DS
    generalize Sc.sc 36000 1 (10 * mv) 4 = sv at DS ⊢
    go_enter Tryz.func34, Tryz.ntmps34
    go_wp2_with fail
    refine (hnum.out _ hR0'.out).mono ?_
    rintro e w1 ⟨rfl, hR1, hK1⟩
    have HX1 := Lib.hid (HX.out.kp hK1 (by omega))
    have HY1 := Lib.hid (HY.out.kp hK1 (by omega))
    have k6 := HY1.out.begins
    unfold begFn at k6
    have HR1 := Lib.hid hR1
    have HK1 := Lib.hid (hK0'.out.trans hK1)
    clear hR1 hK1 k0 HX HY
    have HB1 := Lib.hid (hbg.out _ HR1.out)
    clear hbg
    go_wp2_with fail
    refine HB1.out.mono ?_
    rintro e w1b ⟨rfl, rfl⟩
    have k3 := HX1.out.exact_
    unfold exactF at k3
    clear k6
    go_wp2_with fail
    refine (hkm.out _ HR1.out).mono ?_
    rintro e w4 ⟨rfl, hR4, hK4⟩
    have HR4 := Lib.hid hR4
    have HK4 := Lib.hid (HK1.out.trans hK4)
    clear hR4 hK4 k3 HX1 HY1
    go_wp2_with (go_at_call 25; refine (DS.out _).mono ?_; rintro e w6 ⟨rfl, hb6⟩)
    go_ret
    exact ⟨rfl, HR4.out.kept hb6, HK4.out.trans (Kp.of_below hb6)⟩
def paceFns : Nat → FuncId | 0 => 33 | _ => 34
def paceFs : Nat → ByteArray → Int × Nat × Bool | 0 => Rd.timedF | _ => Rd.speedF
theorem pace_isForm (j : Nat) (hj : j < 2) : IsForm (paceFns j) (paceFs j) := by
  rcases (show j = 0 ∨ j = 1 by omega) with rfl | rfl
  · exact ⟨fun _ _ => by kernel_rfl, timed_form⟩
  · exact ⟨fun _ _ => by kernel_rfl, speed_form⟩
def readPaceP (s : ByteArray) : Int × Nat × Int := Rd.ranged (Rd.readForms s [Rd.timedF, Rd.speedF]) 1 36000
theorem readPace_any (s : ByteArray) (w : World) (hs : s.size ≤ 9223372036854775807) :
    Calls Tryz.prog 13 #[.string s] w fun r w' => r = .returned (.tuple #[.int .i64 (readPaceP s).1, .int .i64 (readPaceP s).2.1, .int .i64 (readPaceP s).2.2]) ∧ Below w.heap.size w w' := by
  obtain ⟨z, hz⟩ : ∃ z, Rd.readForms s ((List.range 2).map paceFs) = z := ⟨_, rfl⟩
  have hrf := fun (w : World) (R : Nat) (hR : R < w.heap.size) hf => readForms_any s w R 2 paceFns paceFs (by omega) hR hf pace_isForm hs z hz
  have Hrf := Lib.hid hrf
  have hd : readPaceP s = Rd.ranged z 1 36000 := by rw [← hz]; rfl
  rw [hd]
  obtain ⟨n, a, e⟩ := z
  have hra := Lib.hid (ranged_any n e 1 36000 a)
  generalize Rd.ranged (n, a, e) 1 36000 = y at hra ⊢
  clear hz hd hrf
  go_enter Tryz.func13, Tryz.ntmps13
  go_wp2_with fail
  refine (Hrf.out _ w.heap.size (by simp) ?hf).mono ?_
  case hf =>
    intro j hj
    rw [World.cell?_alloc_at _ _ _ _ rfl]
    rcases (show j = 0 ∨ j = 1 by omega) with rfl | rfl <;> rfl
  rintro r w1 ⟨rfl, hb1⟩
  have HB := Lib.hid (((Below.refl w.heap.size w).alloc (Nat.le_refl _) _).trans (hb1.mono (by simp)))
  clear hb1
  go_wp2_with fail
  refine (hra.out _).mono ?_
  rintro r w2 ⟨rfl, rfl⟩
  go_wp2
  go_ret3
  exact ⟨rfl, HB.out⟩
end Go.Proofs.YthimnjegacdhaaaGreatDoor

/- The walk of the law of paces. -/
namespace Go.Proofs.YthimnjegacdhaaaGreatDoor
open Go.RowKit Go.BigFrame

set_option maxHeartbeats 4000000 in
set_option maxRecDepth 100000 in
theorem paces_law (a b : Int) (s : ByteArray) (w : World) (hs : s.size ≤ 9223372036854775807) (hg : Glo w) :
    Calls Tryz.prog 3 #[.int .i64 a, .int .i64 b, .string s] w fun e w' => e = .returned (.bool true) ∧ Below w.heap.size w w' := by
  have D1 := Lib.hid (fun W => paceOf_any a b W)
  have D2 := Lib.hid (fun W => rpaceOf_any a b W)
  have D3 := Lib.hid (fun W => speedOf_any a b W)
  have D4 := Lib.hid (fun W => rspeedOf_any a b W)
  have D5 := Lib.hid (fun W => timeFor_any a b W)
  have D6 := Lib.hid (fun W => rtimeFor_any a b W)
  have D7 := Lib.hid (fun W (h : Below w.heap.size w W) => paceText_any a W (hg.below h))
  have D8 := Lib.hid (fun W (h : Below w.heap.size w W) => rpaceText_any a W (hg.below h))
  have D9 := Lib.hid (fun W => readPace_any s W hs)
  have D10 := Lib.hid (fun W (h : Below w.heap.size w W) => rReadPace_any s W (hg.below h) hs)
  have he : Rd.refPace s = readPaceP s := Rd.pace_eq s
  rw [he] at D10
  have D11 := Lib.hid (fun W => told_any W)
  unfold scRet at D1 D2 D3 D4 D5 D6
  obtain ⟨r1, h1⟩ : ∃ r, paceOfF a b = r := ⟨_, rfl⟩
  obtain ⟨r2, h2⟩ : ∃ r, speedOfF a b = r := ⟨_, rfl⟩
  obtain ⟨r3, h3⟩ : ∃ r, timeForF a b = r := ⟨_, rfl⟩
  obtain ⟨r4, h4⟩ : ∃ r, paceTextR a = r := ⟨_, rfl⟩
  obtain ⟨r5, h5⟩ : ∃ r, readPaceP s = r := ⟨_, rfl⟩
  rw [h1] at D1 D2
  rw [h2] at D3 D4
  rw [h3] at D5 D6
  rw [h4] at D7 D8
  rw [h5] at D9 D10
  obtain ⟨a1, a2⟩ := r1
  obtain ⟨b1, b2⟩ := r2
  obtain ⟨c1, c2⟩ := r3
  obtain ⟨t, t2⟩ := r4
  obtain ⟨d1, d2, d3⟩ := r5
  simp only at D1 D2 D3 D4 D5 D6 D7 D8 D9 D10
  have ht : (t.toList == t.toList) = true := by simp
  clear he h1 h2 h3 h4 h5 hg
  go_enter Tryz.func3, Tryz.ntmps3
  go_upto_region 2 with (go_at_call 5; refine (D1.out _).mono ?_; rintro e w1 ⟨rfl, hb1⟩)
  go_upto_region 3 with (go_at_call 6; refine (D2.out _).mono ?_; rintro e w2 ⟨rfl, hb2⟩)
  have HB2 := Lib.hid (below_step hb1 hb2)
  clear hb1 hb2
  go_upto_region 4 with (go_at_call 7; refine (D3.out _).mono ?_; rintro e w3 ⟨rfl, hb3⟩)
  have HB3 := Lib.hid (below_step HB2.out hb3)
  clear hb3
  go_upto_region 5 with (go_at_call 8; refine (D4.out _).mono ?_; rintro e w4 ⟨rfl, hb4⟩)
  have HB4 := Lib.hid (below_step HB3.out hb4)
  clear hb4
  go_upto_region 6 with (go_at_call 9; refine (D5.out _).mono ?_; rintro e w5 ⟨rfl, hb5⟩)
  have HB5 := Lib.hid (below_step HB4.out hb5)
  clear hb5
  go_upto_region 7 with (go_at_call 10; refine (D6.out _).mono ?_; rintro e w6 ⟨rfl, hb6⟩)
  have HB6 := Lib.hid (below_step HB5.out hb6)
  clear hb6
  go_upto_region 8 with (go_at_call 11; refine (D7.out _ HB6.out).mono ?_; rintro e w7 ⟨rfl, hb7⟩)
  have HB7 := Lib.hid (below_step HB6.out hb7)
  clear hb7
  go_upto_region 9 with (go_at_call 12; refine (D8.out _ HB7.out).mono ?_; rintro e w8 ⟨rfl, hb8⟩)
  have HB8 := Lib.hid (below_step HB7.out hb8)
  clear hb8
  go_upto_region 10 with (go_at_call 13; refine (D9.out _).mono ?_; rintro e w9 ⟨rfl, hb9⟩)
  have HB9 := Lib.hid (below_step HB8.out hb9)
  clear hb9
  go_upto_region 11 with (go_at_call 14; refine (D10.out _ HB9.out).mono ?_; rintro e w10 ⟨rfl, hb10⟩)
  have HB10 := Lib.hid (below_step HB9.out hb10)
  clear hb10
  go_wp2_with (go_at_call 15; refine (D11.out _).mono ?_; rintro e w11 ⟨rfl, hb11⟩)
  go_ret
  exact ⟨rfl, below_step HB10.out hb11⟩
end Go.Proofs.YthimnjegacdhaaaGreatDoor
