/- Several texts of this claim in one. -/
import Derived.Test.YtcdilamkkodjjaaGreatDoorDt2
import Derived.Test.YtcdilamkkodjjaaGreatDoorDt3
import Derived.Lib.TrimByte
import Derived.Laws.AppendOwn
import Derived.Deep.Onto
import Derived.Lib.OwnKind
import Derived.Deep.AppendLies
/- The program's forms of paces; its ReadPace. -/
namespace Go.Proofs.YtcdilamkkodjjaaGreatDoor
open Go.RowKit Go.BigFrame

def lastFn (B : Nat) : Value := .func (.func 105) #[] #[.pointer (some ⟨B + 3, 0, none⟩), .pointer (some ⟨B, 0, none⟩), .pointer (some ⟨B + 2, 0, none⟩)]
def begFn (B : Nat) : Value := .func (.func 107) #[] #[.pointer (some ⟨B + 3, 0, none⟩), .pointer (some ⟨B, 0, none⟩), .pointer (some ⟨B + 2, 0, none⟩)]
def rowFn' (B : Nat) : Value := .func (.func 100) #[] #[.pointer (some ⟨B + 4, 0, none⟩), .pointer (some ⟨B + 5, 0, none⟩), .pointer (some ⟨B + 3, 0, none⟩)]
/-- the other functions of a variable of type reader -/
structure IsBox2 (w : World) (C B : Nat) : Prop where
  row : w.cell? ⟨C, 1, none⟩ = some (rowFn' B)
  last : w.cell? ⟨C, 5, none⟩ = some (lastFn B)
  begins : w.cell? ⟨C, 6, none⟩ = some (begFn B)
theorem isBox2_new (w : World) (B : Nat) (T : TypeId) : IsBox2 (w.alloc (.cells (rdVals B) T)) w.heap.size B := ⟨cell_box 1 _ rfl, cell_box 5 _ rfl, cell_box 6 _ rfl⟩
theorem IsBox2.kp {w w' : World} {C B : Nat} (h : IsBox2 w C B) (hk : Kp B w w') (hC : B + 4 ≤ C) : IsBox2 w' C B :=
  ⟨IsRd.of_kp hk h.row (by omega) (by omega), IsRd.of_kp hk h.last (by omega) (by omega), IsRd.of_kp hk h.begins (by omega) (by omega)⟩
set_option maxHeartbeats 4000000 in
set_option maxRecDepth 100000 in
theorem timed_form : FormOk 55 Rd.timedF := by
  intro B s w h hs
  have hsz := h.size
  have hR0 := h.boxed (.cells (rdVals B) 50)
  have hK0 := (Kp.refl B w).alloc (.cells (rdVals B) 50)
  have HX := Lib.hid (isBox_new w B 50)
  have HY := Lib.hid (isBox2_new w B 50)
  have k0 := HX.out.num
  unfold numF at k0
  have hnum := Lib.hid (fun w (h : IsRd w B s 0 true) => number_any 3 0 999 w h (by omega) (by omega))
  have q0 : (Rd.numAt s 3 0 999 true 0).2.2 ≤ s.size := Rd.numLoop_pos _ _ _ _ _ _ _ _ _ (Nat.zero_le _)
  have hv := Rd.numAt_val s 3 0 999 true 0 (by omega)
  generalize hm : Rd.numAt s 3 0 999 true 0 = m at hnum q0 hv
  have hex := Lib.hid (fun w (h : IsRd w B s m.2.2 (Rd.numOk 0 true m)) => exact_any Rd.colon w h (by omega) (by decide))
  have q1 := Rd.exactAt_le (s := s) (t := Rd.colon) (ok := Rd.numOk 0 true m) q0
  generalize hc : Rd.exactAt s Rd.colon m.2.2 (Rd.numOk 0 true m) = c at hex q1
  have hpr := Lib.hid (fun w (h : IsRd w B s c.1 c.2) => pair_any 59 w h (by omega))
  have hx := Rd.pairAt_val s (most := 59) c.1 c.2 (by omega)
  have q2 : (Rd.pairAt s 59 c.1 c.2).2.1 ≤ s.size := Rd.pairStep_le (n := (Rd.pairStep s 59 10 (0, c.1, c.2)).1) (b := (Rd.pairStep s 59 10 (0, c.1, c.2)).2.2) (Rd.pairStep_le q1)
  generalize hxx : Rd.pairAt s 59 c.1 c.2 = x at hpr hx q2
  have hsl := Lib.hid (fun w (h : IsRd w B s x.2.1 x.2.2) => exact_any Rd.slashB w h (by omega) (by decide))
  have q3 := Rd.exactAt_le (s := s) (t := Rd.slashB) (ok := x.2.2) q2
  generalize hd : Rd.exactAt s Rd.slashB x.2.1 x.2.2 = d at hsl q3
  have hla := Lib.hid (fun w (h : IsRd w B s d.1 d.2) (b : Nat) (hw : ∀ j, j < 3 → w.cell? ⟨b, 0 + j, none⟩ = some (.string ([Rd.kmB, Rd.miB, Rd.hmB].getD j ByteArray.empty))) => last_any [Rd.kmB, Rd.miB, Rd.hmB] b 0 3 w h (by omega) q3 hw (by decide) (by decide))
  generalize hk : Rd.lastAt s [Rd.kmB, Rd.miB, Rd.hmB] d.1 d.2 = kk at hla
  have hF : Rd.timedF s = (if kk.1 = 1 then (Sc.sc (60 * m.1 + x.1) 1000000 1609344 4).1 else if kk.1 = 2 then 10 * (60 * m.1 + x.1) else 60 * m.1 + x.1, kk.2.1, kk.2.2) := by unfold Rd.timedF; simp only [hm, hc, hxx, hd, hk]
  rw [hF]
  have v0 := hv.1
  have v1 := hv.2
  have x0 := hx.1
  have x1 := hx.2
  clear hF hm hc hxx hv hx hd hk q0 q1 q2 q3
  obtain ⟨mv, mk, mp⟩ := m
  obtain ⟨xv, xp, xo⟩ := x
  obtain ⟨ki, kp, ko⟩ := kk
  obtain ⟨dp, dok⟩ := d
  simp only at hnum hex hpr hsl hla v0 v1 x0 x1 ⊢
  have DS := Lib.hid (fun W => scale_any (60 * mv + xv) 1000000 1609344 4 W (by omega) (by omega) (by omega) (by omega))
  unfold scRet at DS
  obtain ⟨sv, hsv⟩ : ∃ sv, Sc.sc (60 * mv + xv) 1000000 1609344 4 = sv := ⟨_, rfl⟩
  rw [hsv] at DS ⊢
  have HVAL : Hid ((ki = 1 → (if ki = 1 then sv.1 else if ki = 2 then 10 * (60 * mv + xv) else 60 * mv + xv) = sv.1) ∧ (ki ≠ 1 → ki = 2 → (if ki = 1 then sv.1 else if ki = 2 then 10 * (60 * mv + xv) else 60 * mv + xv) = 10 * (60 * mv + xv)) ∧ (ki ≠ 1 → ki ≠ 2 → (if ki = 1 then sv.1 else if ki = 2 then 10 * (60 * mv + xv) else 60 * mv + xv) = 60 * mv + xv)) := Lib.hid ⟨fun h => if_pos h, fun h h2 => by rw [if_neg h, if_pos h2], fun h h2 => by rw [if_neg h, if_neg h2]⟩
  generalize (if ki = 1 then sv.1 else if ki = 2 then 10 * (60 * mv + xv) else 60 * mv + xv) = RV at HVAL ⊢
  have hK0' := Lib.hid hK0
  have hR0' := Lib.hid hR0
  clear hK0 hR0 h hsv
  go_enter Tryz.func55, Tryz.ntmps55
  go_wp2_with fail
  refine (hnum.out _ hR0'.out).mono ?_
  rintro e w1 ⟨rfl, hR1, hK1⟩
  have HX1 := Lib.hid (HX.out.kp hK1 (by omega))
  have HY1 := Lib.hid (HY.out.kp hK1 (by omega))
  have k3 := HX1.out.exact_
  unfold exactF at k3
  have HR1 := Lib.hid hR1
  have HK1 := Lib.hid (hK0'.out.trans hK1)
  clear hR1 hK1 k0 HX HY
  go_wp2_with fail
  refine (hex.out _ HR1.out).mono ?_
  rintro e w2 ⟨rfl, hR2, hK2⟩
  have HX2 := Lib.hid (HX1.out.kp hK2 (by omega))
  have HY2 := Lib.hid (HY1.out.kp hK2 (by omega))
  have k2 := HX2.out.pair
  unfold pairF at k2
  have HR2 := Lib.hid hR2
  have HK2 := Lib.hid (HK1.out.trans hK2)
  clear hR2 hK2 k3 HX1 HY1
  go_wp2_with fail
  refine (hpr.out _ HR2.out).mono ?_
  rintro e w3 ⟨rfl, hR3, hK3⟩
  have HX3 := Lib.hid (HX2.out.kp hK3 (by omega))
  have HY3 := Lib.hid (HY2.out.kp hK3 (by omega))
  have k3 := HX3.out.exact_
  unfold exactF at k3
  have HR3 := Lib.hid hR3
  have HK3 := Lib.hid (HK2.out.trans hK3)
  clear hR3 hK3 k2 HX2 HY2
  go_wp2_with fail
  refine (hsl.out _ HR3.out).mono ?_
  rintro e w4 ⟨rfl, hR4, hK4⟩
  have HY4 := Lib.hid (HY3.out.kp hK4 (by omega))
  have k5 := HY4.out.last
  unfold lastFn at k5
  have HR4 := Lib.hid (hR4.boxed (.cells #[.string ⟨#[107, 109]⟩, .string ⟨#[109, 105]⟩, .string ⟨#[49, 48, 48, 109]⟩] 9))
  have HK4 := Lib.hid ((HK3.out.trans hK4).alloc (.cells #[.string ⟨#[107, 109]⟩, .string ⟨#[109, 105]⟩, .string ⟨#[49, 48, 48, 109]⟩] 9))
  clear hR4 hK4 k3 HX3 HY3
  have HLA := Lib.hid (hla.out _ HR4.out w4.heap.size (fun j hj => by
    rw [World.cell?_alloc_at _ _ _ _ rfl, Nat.zero_add]
    match j, hj with
    | 0, _ | 1, _ | 2, _ => rfl))
  clear hla
  go_wp2_with fail
  refine HLA.out.mono ?_
  rintro e w5 ⟨rfl, hR5, hK5⟩
  have HR5 := Lib.hid hR5
  have HK5 := Lib.hid (HK4.out.trans hK5)
  clear hR5 hK5 HR4 HK4 k5
  by_cases h1 : ki = 1
  · have b1 : (ki == 1) = true := by simpa using h1
    have HE := Lib.hid (HVAL.out.1 h1)
    clear h1
    go_wp2_with (go_at_call 27; refine (DS.out _).mono ?_; rintro e w6 ⟨rfl, hb6⟩)
    go_ret
    exact ⟨by rw [HE.out]; rfl, HR5.out.kept hb6, HK5.out.trans (Kp.of_below hb6)⟩
  · have b1 : (ki == 1) = false := by simpa using h1
    by_cases h2 : ki = 2
    · have b2 : (ki == 2) = true := by simpa using h2
      have HE := Lib.hid (HVAL.out.2.1 h1 h2)
      clear h1 h2
      go_wp2_with fail
      go_ret
      exact ⟨by rw [HE.out]; rfl, HR5.out, HK5.out⟩
    · have b2 : (ki == 2) = false := by simpa using h2
      have HE := Lib.hid (HVAL.out.2.2 h1 h2)
      clear h1 h2
      go_wp2_with fail
      go_ret
      exact ⟨by rw [HE.out]; rfl, HR5.out, HK5.out⟩
end Go.Proofs.YtcdilamkkodjjaaGreatDoor

/- The program's form of speeds; its ReadPace. -/
namespace Go.Proofs.YtcdilamkkodjjaaGreatDoor
open Go.RowKit Go.BigFrame

theorem row_val1 (s : ByteArray) (p : Nat) (ok : Bool) : 0 ≤ (Rd.rowAt s 1 ok p).1 ∧ (Rd.rowAt s 1 ok p).1 ≤ 9 := by
  unfold Rd.rowAt
  by_cases h : Rd.digAt s p ok = true
  · obtain ⟨_, _, h48, h57⟩ := Rd.digAt_true h
    rw [Rd.rowLoop, if_pos ⟨by omega, h⟩]
    show 0 ≤ 10 * 0 + ((Rd.byte s p : Int) - 48) ∧ 10 * 0 + ((Rd.byte s p : Int) - 48) ≤ 9
    omega
  · rw [Rd.rowLoop, if_neg (fun x => h x.2)]
    exact ⟨Int.le_refl _, by show (0 : Int) ≤ 9; omega⟩
set_option maxHeartbeats 4000000 in
set_option maxRecDepth 100000 in
theorem speed_form : FormOk 56 Rd.speedF := by
  intro B s w h hs
  have hsz := h.size
  have hR0 := h.boxed (.cells (rdVals B) 50)
  have hK0 := (Kp.refl B w).alloc (.cells (rdVals B) 50)
  have HX := Lib.hid (isBox_new w B 50)
  have HY := Lib.hid (isBox2_new w B 50)
  have k0 := HX.out.num
  unfold numF at k0
  have hnum := Lib.hid (fun w (h : IsRd w B s 0 true) => number_any 3 0 999 w h (by omega) (by omega))
  have q0 : (Rd.numAt s 3 0 999 true 0).2.2 ≤ s.size := Rd.numLoop_pos _ _ _ _ _ _ _ _ _ (Nat.zero_le _)
  have hv := Rd.numAt_val s 3 0 999 true 0 (by omega)
  have HF := Lib.hid (show Rd.speedF s = if Rd.begAt s 46 (Rd.numAt s 3 0 999 true 0).2.2 (Rd.numOk 0 true (Rd.numAt s 3 0 999 true 0)) = true then _ else _ from rfl)
  generalize hm : Rd.numAt s 3 0 999 true 0 = m at hnum q0 hv HF
  have hbg : Hid (∀ w, IsRd w B s m.2.2 (Rd.numOk 0 true m) → Calls Tryz.prog 107 #[.string ⟨#[46]⟩, pt (B + 3), pt B, pt (B + 2)] w fun e w' => e = .returned (.bool (Rd.begAt s 46 m.2.2 (Rd.numOk 0 true m))) ∧ w = w') := Lib.hid (fun w h => begins_rd 46 (by omega) w h q0)
  unfold pt at hbg
  have hK0' := Lib.hid hK0
  have hR0' := Lib.hid hR0
  clear hK0 hR0 h
  obtain ⟨bg, hbb⟩ : ∃ x, Rd.begAt s 46 m.2.2 (Rd.numOk 0 true m) = x := ⟨_, rfl⟩
  rw [hbb] at hbg HF
  have v0 := hv.1
  have v1 := hv.2
  cases bg
  case true =>
    have hf := HF.out
    rw [if_pos rfl] at hf
    have hex := Lib.hid (fun w (h : IsRd w B s m.2.2 (Rd.numOk 0 true m)) => exact_any Rd.dotB w h (by omega) (by decide))
    generalize he : Rd.exactAt s Rd.dotB m.2.2 (Rd.numOk 0 true m) = ee at hex hf
    have hrow := Lib.hid (fun w (h : IsRd w B s ee.1 ee.2) => row_any 1 1 w h (by omega) (by omega))
    have hdv := row_val1 s ee.1 ee.2
    generalize hd : Rd.rowAt s 1 ee.2 ee.1 = d at hrow hf hdv
    have hkm := Lib.hid (fun w (h : IsRd w B s d.2.2 (ee.2 && decide (1 ≤ d.2.1))) => exact_any Rd.kmhB w h (by omega) (by decide))
    generalize hg : Rd.exactAt s Rd.kmhB d.2.2 (ee.2 && decide (1 ≤ d.2.1)) = g at hkm hf
    rw [hf]
    have d0 := hdv.1
    have d1 := hdv.2
    clear HF hf hm hbb hv he hd hg hdv q0
    obtain ⟨mv, mk, mp⟩ := m
    obtain ⟨dv, dk, dp⟩ := d
    simp only at hnum hbg hex hrow hkm v0 v1 d0 d1 ⊢
    have DS := Lib.hid (fun W => scale_any 36000 1 (10 * mv + dv) 4 W (by omega) (by omega) (by omega) (by omega))
    unfold scRet at DS
    generalize Sc.sc 36000 1 (10 * mv + dv) 4 = sv at DS ⊢
    go_enter Tryz.func56, Tryz.ntmps56
    go_wp2_with fail
    refine (hnum.out _ hR0'.out).mono ?_
    rintro e w1 ⟨rfl, hR1, hK1⟩
    have HX1 := Lib.hid (HX.out.kp hK1 (by omega))
    have HY1 := Lib.hid (HY.out.kp hK1 (by omega))
    have k6 := HY1.out.begins
    unfold begFn at k6
    have HR1 := Lib.hid hR1
    have HK1 := Lib.hid (hK0'.out.trans hK1)
    clear hR1 hK1 k0 HX HY
    have HB1 := Lib.hid (hbg.out _ HR1.out)
    clear hbg
    go_wp2_with fail
    refine HB1.out.mono ?_
    rintro e w1b ⟨rfl, rfl⟩
    have k3 := HX1.out.exact_
    unfold exactF at k3
    clear k6
    go_wp2_with fail
    refine (hex.out _ HR1.out).mono ?_
    rintro e w2 ⟨rfl, hR2, hK2⟩
    have HX2 := Lib.hid (HX1.out.kp hK2 (by omega))
    have HY2 := Lib.hid (HY1.out.kp hK2 (by omega))
    have k1 := HY2.out.row
    unfold rowFn' at k1
    have HR2 := Lib.hid hR2
    have HK2 := Lib.hid (HK1.out.trans hK2)
    clear hR2 hK2 k3 HX1 HY1
    go_wp2_with fail
    refine (hrow.out _ HR2.out).mono ?_
    rintro e w3 ⟨rfl, hR3, hK3⟩
    have HX3 := Lib.hid (HX2.out.kp hK3 (by omega))
    have k3 := HX3.out.exact_
    unfold exactF at k3
    have HR3 := Lib.hid hR3
    have HK3 := Lib.hid (HK2.out.trans hK3)
    clear hR3 hK3 k1 HX2 HY2
    go_wp2_with fail
    refine (hkm.out _ HR3.out).mono ?_
    rintro e w4 ⟨rfl, hR4, hK4⟩
    have HR4 := Lib.hid hR4
    have HK4 := Lib.hid (HK3.out.trans hK4)
    clear hR4 hK4 k3 HX3
    go_wp2_with (go_at_call 27; refine (DS.out _).mono ?_; rintro e w6 ⟨rfl, hb6⟩)
    go_ret
    exact ⟨rfl, HR4.out.kept hb6, HK4.out.trans (Kp.of_below hb6)⟩
  case false =>
    have hf := HF.out
    rw [if_neg (by simp)] at hf
    have hkm := Lib.hid (fun w (h : IsRd w B s m.2.2 (Rd.numOk 0 true m)) => exact_any Rd.kmhB w h (by omega) (by decide))
    generalize hg : Rd.exactAt s Rd.kmhB m.2.2 (Rd.numOk 0 true m) = g at hkm hf
    rw [hf]
    clear HF hf hm hbb hv hg q0
    obtain ⟨mv, mk, mp⟩ := m
    simp only at hnum hbg hkm v0 v1 ⊢
    have DS := Lib.hid (fun W => scale_any 36000 1 (10 * mv) 4 W (by omega) (by omega) (by omega) (by omega))
    unfold scRet at DS
    generalize Sc.sc 36000 1 (10 * mv) 4 = sv at DS ⊢
    go_enter Tryz.func56, Tryz.ntmps56
    go_wp2_with fail
    refine (hnum.out _ hR0'.out).mono ?_
    rintro e w1 ⟨rfl, hR1, hK1⟩
    have HX1 := Lib.hid (HX.out.kp hK1 (by omega))
    have HY1 := Lib.hid (HY.out.kp hK1 (by omega))
    have k6 := HY1.out.begins
    unfold begFn at k6
    have HR1 := Lib.hid hR1
    have HK1 := Lib.hid (hK0'.out.trans hK1)
    clear hR1 hK1 k0 HX HY
    have HB1 := Lib.hid (hbg.out _ HR1.out)
    clear hbg
    go_wp2_with fail
    refine HB1.out.mono ?_
    rintro e w1b ⟨rfl, rfl⟩
    have k3 := HX1.out.exact_
    unfold exactF at k3
    clear k6
    go_wp2_with fail
    refine (hkm.out _ HR1.out).mono ?_
    rintro e w4 ⟨rfl, hR4, hK4⟩
    have HR4 := Lib.hid hR4
    have HK4 := Lib.hid (HK1.out.trans hK4)
    clear hR4 hK4 k3 HX1 HY1
    go_wp2_with (go_at_call 27; refine (DS.out _).mono ?_; rintro e w6 ⟨rfl, hb6⟩)
    go_ret
    exact ⟨rfl, HR4.out.kept hb6, HK4.out.trans (Kp.of_below hb6)⟩
def paceFns : Nat → FuncId | 0 => 55 | _ => 56
def paceFs : Nat → ByteArray → Int × Nat × Bool | 0 => Rd.timedF | _ => Rd.speedF
theorem pace_isForm (j : Nat) (hj : j < 2) : IsForm (paceFns j) (paceFs j) := by
  rcases (show j = 0 ∨ j = 1 by omega) with rfl | rfl
  · exact ⟨fun _ _ => by kernel_rfl, timed_form⟩
  · exact ⟨fun _ _ => by kernel_rfl, speed_form⟩
def readPaceP (s : ByteArray) : Int × Nat × Int := Rd.ranged (Rd.readForms s [Rd.timedF, Rd.speedF]) 1 36000
theorem readPace_any (s : ByteArray) (w : World) (hs : s.size ≤ 9223372036854775807) :
    Calls Tryz.prog 18 #[.string s] w fun r w' => r = .returned (.tuple #[.int .i64 (readPaceP s).1, .int .i64 (readPaceP s).2.1, .int .i64 (readPaceP s).2.2]) ∧ Below w.heap.size w w' := by
  obtain ⟨z, hz⟩ : ∃ z, Rd.readForms s ((List.range 2).map paceFs) = z := ⟨_, rfl⟩
  have hrf := fun (w : World) (R : Nat) (hR : R < w.heap.size) hf => readForms_any s w R 2 paceFns paceFs (by omega) hR hf pace_isForm hs z hz
  have Hrf := Lib.hid hrf
  have hd : readPaceP s = Rd.ranged z 1 36000 := by rw [← hz]; rfl
  rw [hd]
  obtain ⟨n, a, e⟩ := z
  have hra := Lib.hid (ranged_any n e 1 36000 a)
  generalize Rd.ranged (n, a, e) 1 36000 = y at hra ⊢
  clear hz hd hrf
  go_enter Tryz.func18, Tryz.ntmps18
  go_wp2_with fail
  refine (Hrf.out _ w.heap.size (by simp) ?hf).mono ?_
  case hf =>
    intro j hj
    rw [World.cell?_alloc_at _ _ _ _ rfl]
    rcases (show j = 0 ∨ j = 1 by omega) with rfl | rfl <;> rfl
  rintro r w1 ⟨rfl, hb1⟩
  have HB := Lib.hid (((Below.refl w.heap.size w).alloc (Nat.le_refl _) _).trans (hb1.mono (by simp)))
  clear hb1
  go_wp2_with fail
  refine (hra.out _).mono ?_
  rintro r w2 ⟨rfl, rfl⟩
  go_wp2
  go_ret3
  exact ⟨rfl, HB.out⟩
end Go.Proofs.YtcdilamkkodjjaaGreatDoor

/- Distances of both, read, in plain words. -/
namespace Sc
/-- fractions that are the same number are rounded the same -/
theorem sc_eq {a num den a' num' den' how : Int} (hh1 : 1 ≤ how) (hh5 : how ≤ 5) (ha : 0 ≤ a) (ha' : 0 ≤ a') (hn : 0 ≤ num) (hn' : 0 ≤ num') (hd : 1 ≤ den) (hd' : 1 ≤ den')
    (hs : a * num < 4611686018427387904) (hs' : a' * num' < 4611686018427387904) (h : a * num * den' = a' * num' * den) : sc a num den how = sc a' num' den' how := by
  obtain ⟨a, rfl⟩ := Int.eq_ofNat_of_zero_le ha
  obtain ⟨a', rfl⟩ := Int.eq_ofNat_of_zero_le ha'
  obtain ⟨num, rfl⟩ := Int.eq_ofNat_of_zero_le hn
  obtain ⟨num', rfl⟩ := Int.eq_ofNat_of_zero_le hn'
  obtain ⟨den, rfl⟩ := Int.eq_ofNat_of_zero_le (show 0 ≤ den by omega)
  obtain ⟨den', rfl⟩ := Int.eq_ofNat_of_zero_le (show 0 ≤ den' by omega)
  have hs1 : a * num < 4611686018427387904 := Int.ofNat_lt.1 (show ((a * num : Nat) : Int) < ((4611686018427387904 : Nat) : Int) by rw [Int.natCast_mul]; exact hs)
  have hs2 : a' * num' < 4611686018427387904 := Int.ofNat_lt.1 (show ((a' * num' : Nat) : Int) < ((4611686018427387904 : Nat) : Int) by rw [Int.natCast_mul]; exact hs')
  have h1 : a * num * den' = a' * num' * den := by exact_mod_cast h
  have k1 : 0 < den := by omega
  have k2 : 0 < den' := by omega
  rw [sc_small _ _ _ _ hh1 hh5 hd (by omega) (by simpa using hs1), sc_small _ _ _ _ hh1 hh5 hd' (by omega) (by simpa using hs2)]
  have n1 : decide ((a : Int) < 0) = false := by simp
  have n2 : decide ((a' : Int) < 0) = false := by simp
  rw [n1, n2]
  simp only [Int.natAbs_natCast, Int.toNat_natCast]
  have e1 : quo how false (a * num / den) (a * num % den) den = quo how false (den' * (a * num) / (den' * den)) (den' * (a * num) % (den' * den)) (den' * den) := by
    rw [Nat.mul_div_mul_left _ _ k2, Nat.mul_mod_mul_left, quo_mul k2]
  have e2 : quo how false (a' * num' / den') (a' * num' % den') den' = quo how false (den * (a' * num') / (den * den')) (den * (a' * num') % (den * den')) (den * den') := by
    rw [Nat.mul_div_mul_left _ _ k1, Nat.mul_mod_mul_left, quo_mul k1]
  rw [e1, e2, show den' * (a * num) = den * (a' * num') by rw [Nat.mul_comm den', h1, Nat.mul_comm], Nat.mul_comm den' den]
end Sc
namespace Rd
def mB : ByteArray := ⟨#[109]⟩
def ydB : ByteArray := ⟨#[121, 100]⟩
def blB : ByteArray := ⟨#[32]⟩
/-- the program's form of a distance: its parts -/
structure DistP where
  n : Int
  many : Nat
  p : Nat
  ok : Bool
/-- the number, with what stands behind a point -/
def distNum (s : ByteArray) : DistP :=
  let m := numAt s 7 0 9999999 true 0
  if begAt s 46 m.2.2 (numOk 0 true m) = true then
    let e := exactAt s dotB m.2.2 (numOk 0 true m)
    let d := rowAt s 6 e.2 e.1
    ⟨m.1 * 10 ^ d.2.1 + d.1, d.2.1, d.2.2, e.2 && decide (1 ≤ d.2.1)⟩
  else ⟨m.1, 0, m.2.2, numOk 0 true m⟩
def distEnd (s : ByteArray) (x : DistP) : Nat × Bool := if begAt s 32 x.p x.ok = true then exactAt s blB x.p x.ok else (x.p, x.ok)
def distNumS (k : Int) : Int := if k = 0 then 10 else if k = 1 then 10000 else if k = 2 then 9144 else 1609344
def distDenS (k : Int) : Int := if k = 0 then 1 else if k = 1 then 1 else if k = 2 then 1000 else 100
def distF (s : ByteArray) : Int × Nat × Bool :=
  let x := distNum s
  let e := distEnd s x
  let k := lastAt s [mB, kmB, ydB, miB] e.1 e.2
  (if k.1 < 0 then 0 else (Sc.sc x.n (distNumS k.1) (10 ^ x.many * distDenS k.1) 4).1, k.2.1, k.2.2)
/-- a form of the reference -/
def distT (b1 b2 : Bool) (w : ByteArray) : List Tok := numT 0 9999999 7 :: ((if b1 = true then [litT dotB, partT 6] else []) ++ ((if b2 = true then [litT blB] else []) ++ [litT w]))
def distForms (w : ByteArray) : List (List Tok) := [distT false false w, distT true false w, distT false true w, distT true true w]
def distAll : List (List Tok) := distForms mB ++ (distForms kmB ++ (distForms ydB ++ distForms miB))
theorem matchT_part6 {s : ByteArray} {r : List Tok} {p : Nat} : matchT s (partT 6 :: r) p = if 0 < (rowAt s 6 true p).2.1 then ((matchT s r (rowAt s 6 true p).2.2).1, (rowAt s 6 true p).1 * 10 ^ (6 - (rowAt s 6 true p).2.1) :: (matchT s r (rowAt s 6 true p).2.2).2.1, (matchT s r (rowAt s 6 true p).2.2).2.2) else ((rowAt s 6 true p).2.2, [], false) := by
  rw [matchT]
  by_cases h : 0 < (rowAt s 6 true p).2.1 <;> simp [runT, partT, h]
theorem blank_at (s : ByteArray) (p : Nat) : exactAt s blB p true = if p < s.size ∧ byte s p = 32 then (p + 1, true) else (p, false) := exact_one s 32 p (by omega)
theorem begAt_iff {s : ByteArray} {c p : Nat} : begAt s c p true = decide (p < s.size ∧ byte s p = c) := by
  unfold begAt
  rw [Bool.true_and]
  by_cases h1 : p < s.size
  · by_cases h2 : byte s p = c
    · simp [h1, h2]
    · simp [h2]
  · simp [h1]
/-- what a form comes to: the words' ends, where the text goes that way -/
structure DistW (s : ByteArray) (b1 b2 : Bool) (e : Nat × Bool) (L : List Int) : Prop where
  le : e.1 ≤ s.size
  off : ∀ c1 c2 w, (c1 ≠ b1 ∨ c2 ≠ b2 ∨ e.2 = false) → 0 < w.size → byte w 0 ≠ 46 → byte w 0 ≠ 32 → (matchT s (distT c1 c2 w) 0).2.2 = false ∧ (matchT s (distT c1 c2 w) 0).1 ≤ e.1
  on_ : e.2 = true → ∀ w, (matchT s (distT b1 b2 w) 0).1 = (exactAt s w e.1 true).1 ∧ (matchT s (distT b1 b2 w) 0).2.2 = ((exactAt s w e.1 true).2 && decide ((exactAt s w e.1 true).1 = s.size)) ∧ (matchT s (distT b1 b2 w) 0).2.1 = L
  dead : e.2 = false → ∃ c1 c2, ∀ w, 0 < w.size → byte w 0 ≠ 46 → byte w 0 ≠ 32 → (matchT s (distT c1 c2 w) 0).1 = e.1
theorem word_off {s w : ByteArray} {p : Nat} (hw : 0 < w.size) (h : ¬ (p < s.size ∧ byte s p = byte w 0)) : matchT s [litT w] p = (p, [], false) := by
  rw [matchT_lit, exact_not hw h]
  rfl
/-- behind the number (and what stands behind a point): blank or not -/
theorem tail_off {s w : ByteArray} {p : Nat} (c b : Bool) (hb : begAt s 32 p true = b) (hc : c ≠ b) (hw : 0 < w.size) (h32 : byte w 0 ≠ 32) : matchT s ((if c = true then [litT blB] else []) ++ [litT w]) p = (p, [], false) := by
  rw [begAt_iff] at hb
  cases b
  · have hb : ¬ (p < s.size ∧ byte s p = 32) := by simpa using hb
    have hc : c = true := by cases c <;> simp_all
    subst hc
    show matchT s (litT blB :: [litT w]) p = _
    rw [matchT_lit, blank_at, if_neg hb]
    rfl
  · have hb : p < s.size ∧ byte s p = 32 := by simpa using hb
    have hc : c = false := by cases c <;> simp_all
    subst hc
    show matchT s [litT w] p = _
    exact word_off hw (fun h => h32 (by rw [← h.2]; exact hb.2))
theorem tail_on {s w : ByteArray} {p : Nat} (b : Bool) (hb : begAt s 32 p true = b) : matchT s ((if b = true then [litT blB] else []) ++ [litT w]) p = matchT s [litT w] (if b = true then p + 1 else p) := by
  rw [begAt_iff] at hb
  cases b
  · rfl
  · have hb : p < s.size ∧ byte s p = 32 := by simpa using hb
    show matchT s (litT blB :: [litT w]) p = _
    rw [matchT_lit, blank_at, if_pos hb]
    rfl
end Rd

/- Distances of both, read: the law in plain words. -/
namespace Rd
theorem dist_num {s w : ByteArray} {c1 c2 : Bool} {m : Int × Nat × Nat} (hm : numAt s 7 0 9999999 true 0 = m) : matchT s (distT c1 c2 w) 0 = if numOk 0 true m = true then ((matchT s ((if c1 = true then [litT dotB, partT 6] else []) ++ ((if c2 = true then [litT blB] else []) ++ [litT w])) m.2.2).1, m.1 :: (matchT s ((if c1 = true then [litT dotB, partT 6] else []) ++ ((if c2 = true then [litT blB] else []) ++ [litT w])) m.2.2).2.1, (matchT s ((if c1 = true then [litT dotB, partT 6] else []) ++ ((if c2 = true then [litT blB] else []) ++ [litT w])) m.2.2).2.2) else (m.2.2, [], false) := by
  unfold distT
  rw [matchT_num, hm]
theorem lit_end {s w : ByteArray} {p : Nat} : (matchT s [litT w] p).1 = (exactAt s w p true).1 ∧ (matchT s [litT w] p).2.2 = ((exactAt s w p true).2 && decide ((exactAt s w p true).1 = s.size)) ∧ (matchT s [litT w] p).2.1 = [] := by
  rw [matchT_lit]
  cases h : (exactAt s w p true).2
  · simp
  · simp [matchT]
theorem dist_w (s : ByteArray) (m : Int × Nat × Nat) (hm : numAt s 7 0 9999999 true 0 = m) :
    DistW s (begAt s 46 m.2.2 (numOk 0 true m)) (begAt s 32 (distNum s).p (distNum s).ok) (distEnd s (distNum s))
      (if begAt s 46 m.2.2 (numOk 0 true m) = true then [m.1, (rowAt s 6 true (m.2.2 + 1)).1 * 10 ^ (6 - (rowAt s 6 true (m.2.2 + 1)).2.1)] else [m.1]) := by
  have hq : m.2.2 ≤ s.size := by rw [← hm]; exact numLoop_pos _ _ _ _ _ _ _ _ _ (Nat.zero_le _)
  have key : ∀ c1 c2 w, matchT s (distT c1 c2 w) 0 = _ := fun c1 c2 w => dist_num (c1 := c1) (c2 := c2) (w := w) hm
  have hdn : distNum s = if begAt s 46 m.2.2 (numOk 0 true m) = true then ⟨m.1 * 10 ^ (rowAt s 6 (exactAt s dotB m.2.2 (numOk 0 true m)).2 (exactAt s dotB m.2.2 (numOk 0 true m)).1).2.1 + (rowAt s 6 (exactAt s dotB m.2.2 (numOk 0 true m)).2 (exactAt s dotB m.2.2 (numOk 0 true m)).1).1, (rowAt s 6 (exactAt s dotB m.2.2 (numOk 0 true m)).2 (exactAt s dotB m.2.2 (numOk 0 true m)).1).2.1, (rowAt s 6 (exactAt s dotB m.2.2 (numOk 0 true m)).2 (exactAt s dotB m.2.2 (numOk 0 true m)).1).2.2, (exactAt s dotB m.2.2 (numOk 0 true m)).2 && decide (1 ≤ (rowAt s 6 (exactAt s dotB m.2.2 (numOk 0 true m)).2 (exactAt s dotB m.2.2 (numOk 0 true m)).1).2.1)⟩ else ⟨m.1, 0, m.2.2, numOk 0 true m⟩ := by
    unfold distNum
    rw [hm]
  obtain ⟨q, hqe⟩ : ∃ q, m.2.2 = q := ⟨_, rfl⟩
  obtain ⟨ok, hok⟩ : ∃ ok, numOk 0 true m = ok := ⟨_, rfl⟩
  rw [hqe] at hq hdn ⊢
  rw [hok] at hdn ⊢
  simp only [hqe, hok] at key
  cases ok
  case false =>
    have hb : begAt s 46 q false = false := rfl
    rw [hb, if_neg (by simp)] at hdn ⊢
    rw [hdn]
    have he : distEnd s ⟨m.1, 0, q, false⟩ = (q, false) := rfl
    rw [he]
    have hk : ∀ c1 c2 w, matchT s (distT c1 c2 w) 0 = (q, [], false) := fun c1 c2 w => by rw [key]; rfl
    exact ⟨hq, fun c1 c2 w _ _ _ _ => by rw [hk]; exact ⟨rfl, Nat.le_refl _⟩, fun h => (by cases h), fun _ => ⟨false, false, fun w _ _ _ => by rw [hk]⟩⟩
  case true =>
  simp only [if_true] at key
  by_cases hdot : q < s.size ∧ byte s q = 46
  · have hb : begAt s 46 q true = true := by rw [begAt_iff]; simpa using hdot
    have hex : exactAt s dotB q true = (q + 1, true) := by rw [dot_at, if_pos hdot]
    rw [hb, if_pos rfl, hex] at hdn
    rw [hb, if_pos rfl]
    simp only [Bool.true_and] at hdn
    have hge : q + 1 ≤ (rowAt s 6 true (q + 1)).2.2 := rowLoop_ge s 6 true 6 0 0 (q + 1)
    have hle : (rowAt s 6 true (q + 1)).2.2 ≤ s.size := rowLoop_le s 6 true 6 0 0 (q + 1) (by omega)
    obtain ⟨d, hd⟩ : ∃ d, rowAt s 6 true (q + 1) = d := ⟨_, rfl⟩
    rw [hd] at hdn hge hle ⊢
    -- without a point
    have noP : ∀ c2 w, 0 < w.size → byte w 0 ≠ 46 → matchT s ((if c2 = true then [litT blB] else []) ++ [litT w]) q = (q, [], false) := fun c2 w hw h46 => by
      cases c2
      · exact word_off hw (fun h => h46 (by rw [← h.2]; exact hdot.2))
      · show matchT s (litT blB :: [litT w]) q = _
        have hne : ¬ (q < s.size ∧ byte s q = 32) := fun h => by have := h.2; omega
        rw [matchT_lit, blank_at, if_neg hne]
        rfl
    have keyF : ∀ c2 w, 0 < w.size → byte w 0 ≠ 46 → matchT s (distT false c2 w) 0 = (q, [m.1], false) := fun c2 w hw h46 => by
      rw [key]
      show (_, _, _) = _
      have := noP c2 w hw h46
      simp only [Bool.false_eq_true, if_false, List.nil_append]
      rw [this]
    have keyT : ∀ c2 w, matchT s (distT true c2 w) 0 = if 0 < d.2.1 then ((matchT s ((if c2 = true then [litT blB] else []) ++ [litT w]) d.2.2).1, m.1 :: (d.1 * 10 ^ (6 - d.2.1)) :: (matchT s ((if c2 = true then [litT blB] else []) ++ [litT w]) d.2.2).2.1, (matchT s ((if c2 = true then [litT blB] else []) ++ [litT w]) d.2.2).2.2) else (d.2.2, [m.1], false) := fun c2 w => by
      rw [key]
      have e : matchT s ((if true = true then [litT dotB, partT 6] else []) ++ ((if c2 = true then [litT blB] else []) ++ [litT w])) q = matchT s (partT 6 :: ((if c2 = true then [litT blB] else []) ++ [litT w])) (q + 1) := by
        show matchT s (litT dotB :: (partT 6 :: ((if c2 = true then [litT blB] else []) ++ [litT w]))) q = _
        rw [matchT_lit, hex]
        rfl
      rw [e, matchT_part6, hd]
      split <;> rfl
    by_cases hmany : 0 < d.2.1
    · rw [decide_eq_true (show 1 ≤ d.2.1 from hmany)] at hdn
      rw [hdn]
      obtain ⟨b2, hb2⟩ : ∃ b, begAt s 32 d.2.2 true = b := ⟨_, rfl⟩
      show DistW s true (begAt s 32 d.2.2 true) (distEnd s ⟨_, d.2.1, d.2.2, true⟩) _
      have he : distEnd s ⟨m.1 * 10 ^ d.2.1 + d.1, d.2.1, d.2.2, true⟩ = (if b2 = true then d.2.2 + 1 else d.2.2, true) := by
        unfold distEnd
        simp only
        rw [hb2]
        cases b2
        · rfl
        · rw [begAt_iff] at hb2
          have hb2 : d.2.2 < s.size ∧ byte s d.2.2 = 32 := by simpa using hb2
          rw [if_pos rfl, if_pos rfl, blank_at, if_pos hb2]
      rw [he, hb2]
      have h32 : b2 = true → d.2.2 < s.size := fun h => by
        subst h
        rw [begAt_iff] at hb2
        exact (show d.2.2 < s.size ∧ byte s d.2.2 = 32 by simpa using hb2).1
      have hle2 : (if b2 = true then d.2.2 + 1 else d.2.2) ≤ s.size := by
        cases b2
        · exact hle
        · exact h32 rfl
      refine ⟨hle2, fun c1 c2 w hc hw h46 hw32 => ?_, fun _ w => ?_, fun h => (by cases h)⟩
      · have hp : d.2.2 ≤ (if b2 = true then d.2.2 + 1 else d.2.2) := by split <;> omega
        cases c1
        · rw [keyF c2 w hw h46]
          exact ⟨rfl, by show q ≤ _; omega⟩
        · have hc2 : c2 ≠ b2 := by
            rcases hc with h | h | h
            · exact absurd rfl h
            · exact h
            · cases h
          rw [keyT, if_pos hmany, tail_off c2 b2 hb2 hc2 hw hw32]
          exact ⟨rfl, hp⟩
      · rw [keyT, if_pos hmany, tail_on b2 hb2]
        obtain ⟨l1, l2, l3⟩ := lit_end (s := s) (w := w) (p := if b2 = true then d.2.2 + 1 else d.2.2)
        exact ⟨l1, l2, by simp only [l3]⟩
    · rw [decide_eq_false (show ¬ 1 ≤ d.2.1 from hmany)] at hdn
      rw [hdn]
      have hb2 : begAt s 32 d.2.2 false = false := rfl
      show DistW s true (begAt s 32 d.2.2 false) (distEnd s ⟨_, d.2.1, d.2.2, false⟩) _
      have he : distEnd s ⟨m.1 * 10 ^ d.2.1 + d.1, d.2.1, d.2.2, false⟩ = (d.2.2, false) := rfl
      rw [he, hb2]
      have kT : ∀ c2 w, matchT s (distT true c2 w) 0 = (d.2.2, [m.1], false) := fun c2 w => by rw [keyT, if_neg hmany]
      refine ⟨hle, fun c1 c2 w _ hw h46 _ => ?_, fun h => (by cases h), fun _ => ⟨true, false, fun w _ _ _ => by rw [kT]⟩⟩
      cases c1
      · rw [keyF c2 w hw h46]
        exact ⟨rfl, by show q ≤ d.2.2; omega⟩
      · rw [kT]
        exact ⟨rfl, Nat.le_refl _⟩
  · have hb : begAt s 46 q true = false := by rw [begAt_iff]; simpa using hdot
    rw [hb, if_neg (by simp)] at hdn
    rw [hb, if_neg (by simp), hdn]
    have keyT : ∀ c2 w, matchT s (distT true c2 w) 0 = (q, [m.1], false) := fun c2 w => by
      rw [key]
      have e : matchT s ((if true = true then [litT dotB, partT 6] else []) ++ ((if c2 = true then [litT blB] else []) ++ [litT w])) q = (q, [], false) := by
        show matchT s (litT dotB :: (partT 6 :: ((if c2 = true then [litT blB] else []) ++ [litT w]))) q = _
        rw [matchT_lit, dot_at, if_neg hdot]
        rfl
      rw [e]
    have keyF : ∀ c2 w, matchT s (distT false c2 w) 0 = ((matchT s ((if c2 = true then [litT blB] else []) ++ [litT w]) q).1, m.1 :: (matchT s ((if c2 = true then [litT blB] else []) ++ [litT w]) q).2.1, (matchT s ((if c2 = true then [litT blB] else []) ++ [litT w]) q).2.2) := fun c2 w => key false c2 w
    obtain ⟨b2, hb2⟩ : ∃ b, begAt s 32 q true = b := ⟨_, rfl⟩
    show DistW s false (begAt s 32 q true) (distEnd s ⟨m.1, 0, q, true⟩) _
    have he : distEnd s ⟨m.1, 0, q, true⟩ = (if b2 = true then q + 1 else q, true) := by
      unfold distEnd
      simp only
      rw [hb2]
      cases b2
      · rfl
      · rw [begAt_iff] at hb2
        have hb2 : q < s.size ∧ byte s q = 32 := by simpa using hb2
        rw [if_pos rfl, if_pos rfl, blank_at, if_pos hb2]
    rw [he, hb2]
    have h32 : b2 = true → q < s.size := fun h => by
      subst h
      rw [begAt_iff] at hb2
      exact (show q < s.size ∧ byte s q = 32 by simpa using hb2).1
    have hp : q ≤ (if b2 = true then q + 1 else q) := by split <;> omega
    have hle2 : (if b2 = true then q + 1 else q) ≤ s.size := by
      cases b2
      · exact hq
      · exact h32 rfl
    refine ⟨hle2, fun c1 c2 w hc hw h46 hw32 => ?_, fun _ w => ?_, fun h => (by cases h)⟩
    · cases c1
      · have hc2 : c2 ≠ b2 := by
          rcases hc with h | h | h
          · exact absurd rfl h
          · exact h
          · cases h
        rw [keyF, tail_off c2 b2 hb2 hc2 hw hw32]
        exact ⟨rfl, hp⟩
      · rw [keyT]
        exact ⟨rfl, hp⟩
    · rw [keyF, tail_on b2 hb2]
      obtain ⟨l1, l2, l3⟩ := lit_end (s := s) (w := w) (p := if b2 = true then q + 1 else q)
      exact ⟨l1, l2, by simp only [l3]⟩
end Rd

/- Distances of both are the same number: the law in plain words. -/
namespace Sc
theorem sc_val (a num den how : Int) (h1 : 1 ≤ how) (h5 : how ≤ 5) (hd : 1 ≤ den) (hn : 0 ≤ num) (hs : a.natAbs * num.toNat < den.toNat * 4611686018427387904) :
    sc a num den how = (sgn (decide (a < 0)) (quo how (decide (a < 0)) (a.natAbs * num.toNat / den.toNat) (a.natAbs * num.toNat % den.toNat) den.toNat), 0) := by
  unfold sc
  rw [if_neg (by omega), if_neg (by omega)]
  have hdp : 0 < den.toNat := by omega
  generalize hn0 : a.natAbs * num.toNat = n at *
  have e1 : ¬ den.toNat ≤ n / 18446744073709551616 := by omega
  have e2 : n / den.toNat < 4611686018427387904 := (Nat.div_lt_iff_lt_mul hdp).2 (by rw [Nat.mul_comm]; exact hs)
  simp only
  rw [if_neg e1, if_neg]
  unfold quo
  split <;> omega
theorem sc_same {a num den a' num' den' how : Int} (hh1 : 1 ≤ how) (hh5 : how ≤ 5) (ha : 0 ≤ a) (ha' : 0 ≤ a') (hn : 0 ≤ num) (hn' : 0 ≤ num') (hd : 1 ≤ den) (hd' : 1 ≤ den')
    (hs : a * num < den * 4611686018427387904) (hs' : a' * num' < den' * 4611686018427387904) (h : a * num * den' = a' * num' * den) : sc a num den how = sc a' num' den' how ∧ (sc a num den how).2 = 0 ∧ 0 ≤ (sc a num den how).1 := by
  obtain ⟨a, rfl⟩ := Int.eq_ofNat_of_zero_le ha
  obtain ⟨a', rfl⟩ := Int.eq_ofNat_of_zero_le ha'
  obtain ⟨num, rfl⟩ := Int.eq_ofNat_of_zero_le hn
  obtain ⟨num', rfl⟩ := Int.eq_ofNat_of_zero_le hn'
  obtain ⟨den, rfl⟩ := Int.eq_ofNat_of_zero_le (show 0 ≤ den by omega)
  obtain ⟨den', rfl⟩ := Int.eq_ofNat_of_zero_le (show 0 ≤ den' by omega)
  have hs1 : a * num < den * 4611686018427387904 := Int.ofNat_lt.1 (show ((a * num : Nat) : Int) < ((den * 4611686018427387904 : Nat) : Int) by rw [Int.natCast_mul, Int.natCast_mul]; exact hs)
  have hs2 : a' * num' < den' * 4611686018427387904 := Int.ofNat_lt.1 (show ((a' * num' : Nat) : Int) < ((den' * 4611686018427387904 : Nat) : Int) by rw [Int.natCast_mul, Int.natCast_mul]; exact hs')
  have h1 : a * num * den' = a' * num' * den := by exact_mod_cast h
  have k1 : 0 < den := by omega
  have k2 : 0 < den' := by omega
  rw [sc_val _ _ _ _ hh1 hh5 hd (by omega) (by simpa using hs1), sc_val _ _ _ _ hh1 hh5 hd' (by omega) (by simpa using hs2)]
  have n1 : decide ((a : Int) < 0) = false := by simp
  have n2 : decide ((a' : Int) < 0) = false := by simp
  rw [n1, n2]
  simp only [Int.natAbs_natCast, Int.toNat_natCast]
  have e1 : quo how false (a * num / den) (a * num % den) den = quo how false (den' * (a * num) / (den' * den)) (den' * (a * num) % (den' * den)) (den' * den) := by
    rw [Nat.mul_div_mul_left _ _ k2, Nat.mul_mod_mul_left, quo_mul k2]
  have e2 : quo how false (a' * num' / den') (a' * num' % den') den' = quo how false (den * (a' * num') / (den * den')) (den * (a' * num') % (den * den')) (den * den') := by
    rw [Nat.mul_div_mul_left _ _ k1, Nat.mul_mod_mul_left, quo_mul k1]
  refine ⟨by rw [e1, e2, show den' * (a * num) = den * (a' * num') by rw [Nat.mul_comm den', h1, Nat.mul_comm], Nat.mul_comm den' den], by trivial, ?_⟩
  show 0 ≤ sgn false _
  unfold sgn
  rw [if_neg (by simp)]
  omega
end Sc
namespace Rd
def distScale (i : Int) : Int := if i = 0 then 10000 else if i = 1 then 10000000 else if i = 2 then 9144 else 16093440
def refDistVal (n : Int) (L : List Int) : Int × Int := Sc.sc (L.getD 0 0 * 1000000 + (if L.length = 2 then L.getD 1 0 else 0)) (distScale (n / 4)) 1000000000 4
def refDist (s : ByteArray) : Int × Nat × Int :=
  if 1000 < s.size then (0, 0, 3)
  else if (firstT s distAll 0 0).1 < 0 then (0, (firstT s distAll 0 0).2.2, 6)
  else if (refDistVal (firstT s distAll 0 0).1 (firstT s distAll 0 0).2.1).2 = 0 ∧ (refDistVal (firstT s distAll 0 0).1 (firstT s distAll 0 0).2.1).1 ≤ 1000000000 then ((refDistVal (firstT s distAll 0 0).1 (firstT s distAll 0 0).2.1).1, 0, 0) else (0, 0, 9)
theorem fold_max {α : Type} (g : α → Nat) : ∀ (l : List α) (P far : Nat), (∀ f, f ∈ l → g f ≤ P) → (far = P ∨ (far ≤ P ∧ ∃ f, f ∈ l ∧ g f = P)) → l.foldl (fun a f => max a (g f)) far = P
  | [], P, far, _, h => by
    rcases h with h | ⟨_, f, hf, _⟩
    · exact h
    · cases hf
  | f :: l, P, far, hle, h => by
    have h1 := hle f (List.mem_cons_self ..)
    rw [List.foldl_cons]
    refine fold_max g l P _ (fun x hx => hle x (List.mem_cons_of_mem _ hx)) ?_
    rcases h with h | ⟨h2, x, hx, he⟩
    · exact Or.inl (by omega)
    · rcases List.mem_cons.1 hx with rfl | hx
      · exact Or.inl (by omega)
      · exact Or.inr ⟨by omega, x, hx, he⟩
/-- the number of a form's two marks -/
def bits2 (b1 b2 : Bool) : Nat := (if b1 = true then 1 else 0) + (if b2 = true then 2 else 0)
theorem all_at (b1 b2 : Bool) {i : Nat} (hi : i < 4) : distAll[4 * i + bits2 b1 b2]? = some (distT b1 b2 ([mB, kmB, ydB, miB].getD i mB)) := by
  rcases (show i = 0 ∨ i = 1 ∨ i = 2 ∨ i = 3 by omega) with rfl | rfl | rfl | rfl <;> cases b1 <;> cases b2 <;> rfl
theorem all_mem {f : List Tok} (hf : f ∈ distAll) : ∃ (c1 c2 : Bool) (i : Nat), i < 4 ∧ f = distT c1 c2 ([mB, kmB, ydB, miB].getD i mB) := by
  simp only [distAll, distForms, List.mem_append, List.mem_cons, List.not_mem_nil, or_false] at hf
  rcases hf with (rfl | rfl | rfl | rfl) | (rfl | rfl | rfl | rfl) | (rfl | rfl | rfl | rfl) | (rfl | rfl | rfl | rfl)
  · exact ⟨false, false, 0, by omega, rfl⟩
  · exact ⟨true, false, 0, by omega, rfl⟩
  · exact ⟨false, true, 0, by omega, rfl⟩
  · exact ⟨true, true, 0, by omega, rfl⟩
  · exact ⟨false, false, 1, by omega, rfl⟩
  · exact ⟨true, false, 1, by omega, rfl⟩
  · exact ⟨false, true, 1, by omega, rfl⟩
  · exact ⟨true, true, 1, by omega, rfl⟩
  · exact ⟨false, false, 2, by omega, rfl⟩
  · exact ⟨true, false, 2, by omega, rfl⟩
  · exact ⟨false, true, 2, by omega, rfl⟩
  · exact ⟨true, true, 2, by omega, rfl⟩
  · exact ⟨false, false, 3, by omega, rfl⟩
  · exact ⟨true, false, 3, by omega, rfl⟩
  · exact ⟨false, true, 3, by omega, rfl⟩
  · exact ⟨true, true, 3, by omega, rfl⟩
theorem all_get {j : Nat} {f : List Tok} (h : distAll[j]? = some f) : ∃ (c1 c2 : Bool) (i : Nat), i < 4 ∧ j = 4 * i + bits2 c1 c2 ∧ f = distT c1 c2 ([mB, kmB, ydB, miB].getD i mB) := by
  have hj : j < 16 := (List.getElem?_eq_some_iff.1 h).1
  have key : ∀ j < 16, ∃ (c1 c2 : Bool) (i : Nat), i < 4 ∧ j = 4 * i + bits2 c1 c2 := fun j hj => by
    refine ⟨decide (j % 2 = 1), decide (j / 2 % 2 = 1), j / 4, by omega, ?_⟩
    unfold bits2
    simp only [decide_eq_true_eq]
    split <;> split <;> omega
  obtain ⟨c1, c2, i, hi, e⟩ := key j hj
  refine ⟨c1, c2, i, hi, e, ?_⟩
  rw [e, all_at c1 c2 hi] at h
  exact (Option.some.inj h).symm
theorem bits2_lt (b1 b2 : Bool) : bits2 b1 b2 < 4 := by cases b1 <;> cases b2 <;> decide
theorem word_ok {i : Nat} (hi : i < 4) : 0 < ([mB, kmB, ydB, miB].getD i mB).size ∧ byte ([mB, kmB, ydB, miB].getD i mB) 0 ≠ 46 ∧ byte ([mB, kmB, ydB, miB].getD i mB) 0 ≠ 32 := by
  rcases (show i = 0 ∨ i = 1 ∨ i = 2 ∨ i = 3 by omega) with rfl | rfl | rfl | rfl <;> decide
theorem word_inj {i j : Nat} (hi : i < 4) (hj : j < 4) (h : [mB, kmB, ydB, miB].getD i mB = [mB, kmB, ydB, miB].getD j mB) : i = j := by
  rcases (show i = 0 ∨ i = 1 ∨ i = 2 ∨ i = 3 by omega) with rfl | rfl | rfl | rfl <;> rcases (show j = 0 ∨ j = 1 ∨ j = 2 ∨ j = 3 by omega) with rfl | rfl | rfl | rfl <;> first | rfl | (exfalso; revert h; decide)
theorem idx_four (a b c d r : ByteArray) : Go.Lib.idxOfS [a, b, c, d] r = if a = r then 0 else if b = r then 1 else if c = r then 2 else if d = r then 3 else -1 := by
  unfold Go.Lib.idxOfS
  simp only [Go.Lib.idxFromS]
  by_cases h1 : a = r
  · simp [h1]
  · by_cases h2 : b = r
    · simp [h1, h2]
    · by_cases h3 : c = r
      · simp [h1, h2, h3]
      · by_cases h4 : d = r
        · simp [h1, h2, h3, h4]
        · simp [h1, h2, h3, h4]
theorem all_in (c1 c2 : Bool) {i : Nat} (hi : i < 4) : distT c1 c2 ([mB, kmB, ydB, miB].getD i mB) ∈ distAll := List.mem_of_getElem? (all_at c1 c2 hi)
/-- the furthest of four words -/
def far4 (s : ByteArray) (p : Nat) : Nat := max (max (max (exactAt s mB p true).1 (exactAt s kmB p true).1) (exactAt s ydB p true).1) (exactAt s miB p true).1
theorem last_four (s : ByteArray) (p : Nat) : lastAt s [mB, kmB, ydB, miB] p true = (Go.Lib.idxOfS [mB, kmB, ydB, miB] (s.extract p s.size), far4 s p, decide (0 ≤ Go.Lib.idxOfS [mB, kmB, ydB, miB] (s.extract p s.size))) := by
  have e : lastAt s [mB, kmB, ydB, miB] p true = (Go.Lib.idxOfS [mB, kmB, ydB, miB] (s.extract p s.size), max (max (max (max p (exactAt s mB p true).1) (exactAt s kmB p true).1) (exactAt s ydB p true).1) (exactAt s miB p true).1, decide (0 ≤ Go.Lib.idxOfS [mB, kmB, ydB, miB] (s.extract p s.size))) := rfl
  have g := exactAt_ge s mB p true
  rw [e, Nat.max_eq_right g]
  rfl
theorem far4_le (s : ByteArray) (p : Nat) {i : Nat} (hi : i < 4) : (exactAt s ([mB, kmB, ydB, miB].getD i mB) p true).1 ≤ far4 s p := by
  unfold far4
  rcases (show i = 0 ∨ i = 1 ∨ i = 2 ∨ i = 3 by omega) with rfl | rfl | rfl | rfl
  · show (exactAt s mB p true).1 ≤ _; omega
  · show (exactAt s kmB p true).1 ≤ _; omega
  · show (exactAt s ydB p true).1 ≤ _; omega
  · show (exactAt s miB p true).1 ≤ _; omega
theorem far4_at (s : ByteArray) (p : Nat) : ∃ i, i < 4 ∧ (exactAt s ([mB, kmB, ydB, miB].getD i mB) p true).1 = far4 s p := by
  have h : far4 s p = (exactAt s mB p true).1 ∨ far4 s p = (exactAt s kmB p true).1 ∨ far4 s p = (exactAt s ydB p true).1 ∨ far4 s p = (exactAt s miB p true).1 := by unfold far4; omega
  rcases h with h | h | h | h
  · exact ⟨0, by omega, h.symm⟩
  · exact ⟨1, by omega, h.symm⟩
  · exact ⟨2, by omega, h.symm⟩
  · exact ⟨3, by omega, h.symm⟩
/-- which form a text has, or how far forms go -/
theorem dist_first {s : ByteArray} {b1 b2 : Bool} {e : Nat × Bool} {L : List Int} (h : DistW s b1 b2 e L) :
    (∀ i : Nat, i < 4 → e.2 = true → [mB, kmB, ydB, miB].getD i mB = s.extract e.1 s.size → firstT s distAll 0 0 = (((4 * i + bits2 b1 b2 : Nat) : Int), L, 0)) ∧
    ((∀ i, i < 4 → ¬ (e.2 = true ∧ [mB, kmB, ydB, miB].getD i mB = s.extract e.1 s.size)) → firstT s distAll 0 0 = (-1, [], (lastAt s [mB, kmB, ydB, miB] e.1 e.2).2.1)) := by
  have no : ∀ c1 c2 i, i < 4 → ¬ ((c1 = b1 ∧ c2 = b2 ∧ e.2 = true) ∧ [mB, kmB, ydB, miB].getD i mB = s.extract e.1 s.size) → (matchT s (distT c1 c2 ([mB, kmB, ydB, miB].getD i mB)) 0).2.2 = false := fun c1 c2 i hi hn => by
    obtain ⟨w1, w2, w3⟩ := word_ok hi
    by_cases hc : c1 = b1 ∧ c2 = b2 ∧ e.2 = true
    · obtain ⟨rfl, rfl, he⟩ := hc
      rw [(h.on_ he _).2.1, exact_whole h.le]
      exact decide_eq_false (fun hx => hn ⟨⟨rfl, rfl, he⟩, hx⟩)
    · refine (h.off c1 c2 _ ?_ w1 w2 w3).1
      by_cases x1 : c1 = b1
      · by_cases x2 : c2 = b2
        · right; right
          cases hx : e.2 with
          | false => rfl
          | true => exact absurd ⟨x1, x2, hx⟩ hc
        · exact Or.inr (Or.inl x2)
      · exact Or.inl x1
  refine ⟨fun i hi he hw => ?_, fun hno => ?_⟩
  · have hat := all_at b1 b2 hi
    have hok : (matchT s (distT b1 b2 ([mB, kmB, ydB, miB].getD i mB)) 0).2.2 = true := by
      rw [(h.on_ he _).2.1, exact_whole h.le]
      exact decide_eq_true hw
    have := firstT_at (s := s) distAll 0 0 (4 * i + bits2 b1 b2) _ hat hok (fun j g hj hg => by
      obtain ⟨c1, c2, k, hk, hjk, rfl⟩ := all_get hg
      refine no c1 c2 k hk (fun ⟨⟨x1, x2, _⟩, x3⟩ => ?_)
      have hik : k = i := word_inj hk hi (x3.trans hw.symm)
      rw [x1, x2, hik] at hjk
      omega)
    rw [this, (h.on_ he _).2.2, Nat.zero_add]
  · have hf := firstT_none (s := s) distAll 0 0 (fun f hf => by
      obtain ⟨c1, c2, k, hk, rfl⟩ := all_mem hf
      exact no c1 c2 k hk (fun ⟨⟨_, _, x⟩, y⟩ => hno k hk ⟨x, y⟩))
    rw [hf]
    obtain ⟨P, hP⟩ : ∃ P, (lastAt s [mB, kmB, ydB, miB] e.1 e.2).2.1 = P := ⟨_, rfl⟩
    rw [hP]
    cases he : e.2 with
    | false =>
      rw [he] at hP
      have hP : e.1 = P := hP
      obtain ⟨d1, d2, hd⟩ := h.dead he
      have hmax := fold_max (fun f => (matchT s f 0).1) distAll P 0 (fun f hf => by
        obtain ⟨c1, c2, k, hk, rfl⟩ := all_mem hf
        obtain ⟨w1, w2, w3⟩ := word_ok hk
        rw [← hP]
        exact (h.off c1 c2 _ (Or.inr (Or.inr he)) w1 w2 w3).2) (Or.inr ⟨Nat.zero_le _, _, all_in d1 d2 (show 0 < 4 by omega), by
          obtain ⟨w1, w2, w3⟩ := word_ok (show 0 < 4 by omega)
          rw [← hP]
          exact hd _ w1 w2 w3⟩)
      rw [hmax]
    | true =>
      rw [he, last_four] at hP
      have hP : far4 s e.1 = P := hP
      have hge := fun w => exactAt_ge s w e.1 true
      have h1 : e.1 ≤ P := by
        have a := far4_le s e.1 (show 0 < 4 by omega)
        have b := hge ([mB, kmB, ydB, miB].getD 0 mB)
        omega
      obtain ⟨k0, hk0, hat0⟩ := far4_at s e.1
      have hmax := fold_max (fun f => (matchT s f 0).1) distAll P 0 (fun f hf => by
        obtain ⟨c1, c2, k, hk, rfl⟩ := all_mem hf
        obtain ⟨w1, w2, w3⟩ := word_ok hk
        by_cases hc : c1 = b1 ∧ c2 = b2
        · obtain ⟨rfl, rfl⟩ := hc
          show (matchT s _ 0).1 ≤ P
          rw [(h.on_ he _).1, ← hP]
          exact far4_le s e.1 hk
        · have hc : c1 ≠ b1 ∨ c2 ≠ b2 ∨ e.2 = false := by
            by_cases x1 : c1 = b1
            · exact Or.inr (Or.inl fun x2 => hc ⟨x1, x2⟩)
            · exact Or.inl x1
          exact Nat.le_trans (h.off c1 c2 _ hc w1 w2 w3).2 h1) (Or.inr ⟨Nat.zero_le _, _, all_in b1 b2 hk0, by
          show (matchT s _ 0).1 = P
          rw [(h.on_ he _).1, hat0]
          exact hP⟩)
      rw [hmax]
end Rd

/- The reference's reading of distances is the program's, in plain words. -/
namespace Rd
theorem rowLoop_val (s : ByteArray) (k : Nat) (ok : Bool) : ∀ (f : Nat) (n : Int) (m p : Nat), 0 ≤ n → n < 10 ^ m → m ≤ k → 0 ≤ (rowLoop s k ok f n m p).1 ∧ (rowLoop s k ok f n m p).1 < 10 ^ (rowLoop s k ok f n m p).2.1 ∧ (rowLoop s k ok f n m p).2.1 ≤ k
  | 0, n, m, p, h0, h1, h2 => ⟨h0, h1, h2⟩
  | f + 1, n, m, p, h0, h1, h2 => by
    unfold rowLoop
    split
    · rename_i hd
      obtain ⟨_, _, d1, d2⟩ := digAt_true hd.2
      refine rowLoop_val s k ok f _ _ _ (by omega) ?_ (by omega)
      rw [Int.pow_succ]
      omega
    · exact ⟨h0, h1, h2⟩
theorem rowAt_val (s : ByteArray) (k : Nat) (ok : Bool) (p : Nat) : 0 ≤ (rowAt s k ok p).1 ∧ (rowAt s k ok p).1 < 10 ^ (rowAt s k ok p).2.1 ∧ (rowAt s k ok p).2.1 ≤ k := rowLoop_val s k ok k 0 0 p (by omega) (by omega) (by omega)
/-- one unit's number in millionths, either way -/
theorem dist_val {n : Int} {many : Nat} {i : Nat} (h0 : 0 ≤ n) (hn : n < 10000000 * 10 ^ many) (hm : many ≤ 6) (hi : i < 4) :
    Sc.sc (n * 10 ^ (6 - many)) (distScale i) 1000000000 4 = Sc.sc n (distNumS i) (10 ^ many * distDenS i) 4 ∧ (Sc.sc (n * 10 ^ (6 - many)) (distScale i) 1000000000 4).2 = 0 ∧ 0 ≤ (Sc.sc (n * 10 ^ (6 - many)) (distScale i) 1000000000 4).1 := by
  have key : ∀ (p q sc ns ds : Int), 1 ≤ p → 1 ≤ q → p * q = 1000000 → 0 ≤ ns → ns ≤ 1609344 → 1 ≤ ds → sc * ds = 1000 * ns → 0 ≤ sc → sc ≤ 16093440 → n < 10000000 * p →
      Sc.sc (n * q) sc 1000000000 4 = Sc.sc n ns (p * ds) 4 ∧ (Sc.sc (n * q) sc 1000000000 4).2 = 0 ∧ 0 ≤ (Sc.sc (n * q) sc 1000000000 4).1 := fun p q sc ns ds hp hq hpq hns hns2 hds hsc hsc0 hsc1 hnp => by
    have hnq : 0 ≤ n * q := Int.mul_nonneg h0 (by omega)
    have hnq2 : n * q ≤ 10000000000000 := by
      have := Int.mul_le_mul_of_nonneg_right (Int.le_of_lt hnp) (show 0 ≤ q by omega)
      rw [Int.mul_assoc, hpq] at this
      omega
    have a1 : n * q * sc ≤ 10000000000000 * 16093440 := Int.mul_le_mul hnq2 hsc1 hsc0 (by omega)
    have hpd : 1 ≤ p * ds := by
      have := Int.mul_le_mul hp hds (by omega) (by omega)
      omega
    have a2 : n * ns ≤ 10000000 * p * 1609344 := Int.mul_le_mul (by omega) hns2 hns (by omega)
    have a3 : p ≤ p * ds := by
      have := Int.mul_le_mul_of_nonneg_left hds (show 0 ≤ p by omega)
      omega
    refine Sc.sc_same (by omega) (by omega) hnq h0 hsc0 hns (by omega) hpd (by omega) (by omega) ?_
    rw [show n * q * sc * (p * ds) = n * (p * q) * (sc * ds) by ac_rfl, hpq, hsc]
    rw [show n * 1000000 * (1000 * ns) = n * ns * 1000000000 by rw [show (1000000000 : Int) = 1000000 * 1000 from rfl]; ac_rfl]
  have hp : (1 : Int) ≤ 10 ^ many := by
    have : (0 : Int) < 10 ^ many := Int.pow_pos (by omega)
    omega
  have hq : (1 : Int) ≤ 10 ^ (6 - many) := by
    have : (0 : Int) < 10 ^ (6 - many) := Int.pow_pos (by omega)
    omega
  have hpq : (10 : Int) ^ many * 10 ^ (6 - many) = 1000000 := by
    rw [← Int.pow_add, show many + (6 - many) = 6 by omega]
    rfl
  rcases (show i = 0 ∨ i = 1 ∨ i = 2 ∨ i = 3 by omega) with rfl | rfl | rfl | rfl
  · exact key _ _ 10000 10 1 hp hq hpq (by omega) (by omega) (by omega) (by omega) (by omega) (by omega) hn
  · exact key _ _ 10000000 10000 1 hp hq hpq (by omega) (by omega) (by omega) (by omega) (by omega) (by omega) hn
  · exact key _ _ 9144 9144 1000 hp hq hpq (by omega) (by omega) (by omega) (by omega) (by omega) (by omega) hn
  · exact key _ _ 16093440 1609344 100 hp hq hpq (by omega) (by omega) (by omega) (by omega) (by omega) (by omega) hn
theorem idx_word {s : ByteArray} {p : Nat} : (∃ i, i < 4 ∧ [mB, kmB, ydB, miB].getD i mB = s.extract p s.size ∧ Go.Lib.idxOfS [mB, kmB, ydB, miB] (s.extract p s.size) = (i : Int)) ∨ ((∀ i, i < 4 → [mB, kmB, ydB, miB].getD i mB ≠ s.extract p s.size) ∧ Go.Lib.idxOfS [mB, kmB, ydB, miB] (s.extract p s.size) = -1) := by
  rw [idx_four]
  generalize s.extract p s.size = r
  by_cases h0 : mB = r
  · rw [if_pos h0]; exact Or.inl ⟨0, by omega, h0, rfl⟩
  rw [if_neg h0]
  by_cases h1 : kmB = r
  · rw [if_pos h1]; exact Or.inl ⟨1, by omega, h1, rfl⟩
  rw [if_neg h1]
  by_cases h2 : ydB = r
  · rw [if_pos h2]; exact Or.inl ⟨2, by omega, h2, rfl⟩
  rw [if_neg h2]
  by_cases h3 : miB = r
  · rw [if_pos h3]; exact Or.inl ⟨3, by omega, h3, rfl⟩
  rw [if_neg h3]
  refine Or.inr ⟨fun i hi => ?_, rfl⟩
  rcases (show i = 0 ∨ i = 1 ∨ i = 2 ∨ i = 3 by omega) with rfl | rfl | rfl | rfl
  · exact h0
  · exact h1
  · exact h2
  · exact h3
theorem ranged_dist (v : Int) (h : 0 ≤ v) : ranged (v, 0, 0) 0 1000000000 = if v ≤ 1000000000 then (v, 0, 0) else (0, 0, 9) := by
  unfold ranged
  by_cases h2 : v ≤ 1000000000
  · rw [if_pos h2, if_neg]
    rintro ⟨_, h3⟩
    have h3 : v < 0 ∨ 1000000000 < v := h3
    omega
  · rw [if_neg h2, if_pos ⟨rfl, by show v < 0 ∨ 1000000000 < v; omega⟩]
/-- the number that was read, and its millionths -/
theorem dist_nums (s : ByteArray) (m : Int × Nat × Nat) (hm : numAt s 7 0 9999999 true 0 = m) (L : List Int) (hL : (if begAt s 46 m.2.2 (numOk 0 true m) = true then [m.1, (rowAt s 6 true (m.2.2 + 1)).1 * 10 ^ (6 - (rowAt s 6 true (m.2.2 + 1)).2.1)] else [m.1]) = L) :
    0 ≤ (distNum s).n ∧ (distNum s).n < 10000000 * 10 ^ (distNum s).many ∧ (distNum s).many ≤ 6 ∧ L.getD 0 0 * 1000000 + (if L.length = 2 then L.getD 1 0 else 0) = (distNum s).n * 10 ^ (6 - (distNum s).many) := by
  obtain ⟨v0, v1⟩ := numAt_val s 7 0 9999999 true 0 (by omega)
  rw [hm] at v0 v1
  have hdn : distNum s = if begAt s 46 m.2.2 (numOk 0 true m) = true then ⟨m.1 * 10 ^ (rowAt s 6 (exactAt s dotB m.2.2 (numOk 0 true m)).2 (exactAt s dotB m.2.2 (numOk 0 true m)).1).2.1 + (rowAt s 6 (exactAt s dotB m.2.2 (numOk 0 true m)).2 (exactAt s dotB m.2.2 (numOk 0 true m)).1).1, (rowAt s 6 (exactAt s dotB m.2.2 (numOk 0 true m)).2 (exactAt s dotB m.2.2 (numOk 0 true m)).1).2.1, (rowAt s 6 (exactAt s dotB m.2.2 (numOk 0 true m)).2 (exactAt s dotB m.2.2 (numOk 0 true m)).1).2.2, (exactAt s dotB m.2.2 (numOk 0 true m)).2 && decide (1 ≤ (rowAt s 6 (exactAt s dotB m.2.2 (numOk 0 true m)).2 (exactAt s dotB m.2.2 (numOk 0 true m)).1).2.1)⟩ else ⟨m.1, 0, m.2.2, numOk 0 true m⟩ := by
    unfold distNum
    rw [hm]
  by_cases hb : begAt s 46 m.2.2 (numOk 0 true m) = true
  · rw [if_pos hb] at hdn hL
    have hok : numOk 0 true m = true := by
      unfold begAt at hb
      rw [Bool.and_eq_true] at hb; exact hb.1
    rw [hok, begAt_iff, decide_eq_true_eq] at hb
    have hex : exactAt s dotB m.2.2 true = (m.2.2 + 1, true) := by rw [dot_at, if_pos hb]
    rw [hok, hex] at hdn
    obtain ⟨r0, r1, r2⟩ := rowAt_val s 6 true (m.2.2 + 1)
    obtain ⟨d, hd⟩ : ∃ d, rowAt s 6 true (m.2.2 + 1) = d := ⟨_, rfl⟩
    simp only at hdn
    rw [hd] at hdn r0 r1 r2 hL
    rw [hdn, ← hL]
    have hp : (0 : Int) < 10 ^ d.2.1 := Int.pow_pos (by omega)
    refine ⟨?_, ?_, r2, ?_⟩
    · show 0 ≤ m.1 * 10 ^ d.2.1 + d.1
      have := Int.mul_nonneg v0 (Int.le_of_lt hp)
      omega
    · show m.1 * 10 ^ d.2.1 + d.1 < 10000000 * 10 ^ d.2.1
      have := Int.mul_le_mul_of_nonneg_right v1 (Int.le_of_lt hp)
      omega
    · show m.1 * 1000000 + d.1 * 10 ^ (6 - d.2.1) = (m.1 * 10 ^ d.2.1 + d.1) * 10 ^ (6 - d.2.1)
      rw [Int.add_mul, Int.mul_assoc, ← Int.pow_add, show d.2.1 + (6 - d.2.1) = 6 by omega]
      rfl
  · rw [if_neg hb] at hdn hL
    rw [hdn, ← hL]
    refine ⟨v0, ?_, Nat.zero_le _, ?_⟩
    · show m.1 < 10000000 * 10 ^ 0
      omega
    · show m.1 * 1000000 + 0 = m.1 * 10 ^ (6 - 0)
      omega
theorem dist_eq (s : ByteArray) : refDist s = ranged (readForms s [distF]) 0 1000000000 := by
  unfold refDist readForms
  by_cases hz : 1000 < s.size
  · rw [if_pos hz, if_pos hz]; rfl
  rw [if_neg hz, if_neg hz]
  obtain ⟨m, hm⟩ : ∃ m, numAt s 7 0 9999999 true 0 = m := ⟨_, rfl⟩
  have hw := dist_w s m hm
  obtain ⟨L, hL⟩ : ∃ L, (if begAt s 46 m.2.2 (numOk 0 true m) = true then [m.1, (rowAt s 6 true (m.2.2 + 1)).1 * 10 ^ (6 - (rowAt s 6 true (m.2.2 + 1)).2.1)] else [m.1]) = L := ⟨_, rfl⟩
  rw [hL] at hw
  obtain ⟨x0, x1, x2, x3⟩ := dist_nums s m hm L hL
  generalize begAt s 46 m.2.2 (numOk 0 true m) = b1 at hw
  generalize begAt s 32 (distNum s).p (distNum s).ok = b2 at hw
  obtain ⟨f1, f2⟩ := dist_first hw
  have hF : distF s = ((if (lastAt s [mB, kmB, ydB, miB] (distEnd s (distNum s)).1 (distEnd s (distNum s)).2).1 < 0 then 0 else (Sc.sc (distNum s).n (distNumS (lastAt s [mB, kmB, ydB, miB] (distEnd s (distNum s)).1 (distEnd s (distNum s)).2).1) (10 ^ (distNum s).many * distDenS (lastAt s [mB, kmB, ydB, miB] (distEnd s (distNum s)).1 (distEnd s (distNum s)).2).1) 4).1), (lastAt s [mB, kmB, ydB, miB] (distEnd s (distNum s)).1 (distEnd s (distNum s)).2).2.1, (lastAt s [mB, kmB, ydB, miB] (distEnd s (distNum s)).1 (distEnd s (distNum s)).2).2.2) := rfl
  obtain ⟨e, he⟩ : ∃ e, distEnd s (distNum s) = e := ⟨_, rfl⟩
  rw [he] at f1 f2 hF hw
  obtain ⟨x, hx⟩ : ∃ x, distNum s = x := ⟨_, rfl⟩
  rw [hx] at hF x0 x1 x2 x3
  unfold formsLoop formsLoop
  rw [hF]
  have bad : firstT s distAll 0 0 = (-1, [], (lastAt s [mB, kmB, ydB, miB] e.1 e.2).2.1) → (lastAt s [mB, kmB, ydB, miB] e.1 e.2).2.2 = false → (if (firstT s distAll 0 0).1 < 0 then (0, (firstT s distAll 0 0).2.2, 6)
  else if (refDistVal (firstT s distAll 0 0).1 (firstT s distAll 0 0).2.1).2 = 0 ∧ (refDistVal (firstT s distAll 0 0).1 (firstT s distAll 0 0).2.1).1 ≤ 1000000000 then ((refDistVal (firstT s distAll 0 0).1 (firstT s distAll 0 0).2.1).1, 0, 0) else (0, 0, 9)) = ranged (if ((lastAt s [mB, kmB, ydB, miB] e.1 e.2).2.2 && decide ((lastAt s [mB, kmB, ydB, miB] e.1 e.2).2.1 = s.size)) = true then ((if (lastAt s [mB, kmB, ydB, miB] e.1 e.2).1 < 0 then 0 else (Sc.sc x.n (distNumS (lastAt s [mB, kmB, ydB, miB] e.1 e.2).1) (10 ^ x.many * distDenS (lastAt s [mB, kmB, ydB, miB] e.1 e.2).1) 4).1), 0, 0) else (0, max 0 (lastAt s [mB, kmB, ydB, miB] e.1 e.2).2.1, 6)) 0 1000000000 := fun h1 h2 => by
    rw [h1, h2, if_pos (show (-1 : Int) < 0 by omega), Bool.false_and, if_neg (show ¬ (false = true) by simp), Nat.max_eq_right (Nat.zero_le _)]
    rfl
  cases hb : e.2 with
  | false =>
    have := bad (f2 fun i _ h => by rw [hb] at h; cases h.1) (by rw [hb]; rfl)
    rw [hb] at this
    exact this
  | true =>
    rcases idx_word (s := s) (p := e.1) with ⟨i, hi, hwd, hix⟩ | ⟨hno, hix⟩
    · have hf := f1 i hi hb hwd
      have hex := exact_whole (w := [mB, kmB, ydB, miB].getD i mB) hw.le
      rw [decide_eq_true hwd, Bool.and_eq_true, decide_eq_true_eq] at hex
      have hfar : far4 s e.1 = s.size := by
        have a := far4_le s e.1 hi
        obtain ⟨k, hk, hat⟩ := far4_at s e.1
        have b := exactAt_le (s := s) (t := [mB, kmB, ydB, miB].getD k mB) (p := e.1) (ok := true) hw.le
        omega
      rw [hf, last_four, hix]
      simp only
      rw [if_neg (show ¬ (((4 * i + bits2 b1 b2 : Nat) : Int) < 0) by omega), if_neg (show ¬ ((i : Int) < 0) by omega), hfar]
      rw [show (decide ((0 : Int) ≤ (i : Int)) && decide (s.size = s.size)) = true by simp, if_pos rfl]
      have hrv : refDistVal ((4 * i + bits2 b1 b2 : Nat) : Int) L = Sc.sc (x.n * 10 ^ (6 - x.many)) (distScale i) 1000000000 4 := by
        unfold refDistVal
        rw [x3, show (((4 * i + bits2 b1 b2 : Nat) : Int) / 4) = i by have := bits2_lt b1 b2; omega]
      obtain ⟨y1, y2, y3⟩ := dist_val x0 x1 x2 hi
      rw [hrv, ← y1, ranged_dist _ y3, y2]
      by_cases hv : (Sc.sc (x.n * 10 ^ (6 - x.many)) (distScale i) 1000000000 4).1 ≤ 1000000000
      · rw [if_pos ⟨rfl, hv⟩, if_pos hv]
      · rw [if_neg (fun h => hv h.2), if_neg hv]
    · have := bad (f2 fun i hi h => hno i hi h.2) (by rw [hb, last_four, hix]; rfl)
      rw [hb] at this
      exact this
end Rd

/- The program's form of distances; its ReadDistance. -/
namespace Go.Proofs.YtcdilamkkodjjaaGreatDoor
open Go.RowKit Go.BigFrame

theorem begAt_no {s : ByteArray} {c p : Nat} : Rd.begAt s c p false = false := rfl
theorem last_range (s : ByteArray) (p : Nat) (ok : Bool) : (Rd.lastAt s [Rd.mB, Rd.kmB, Rd.ydB, Rd.miB] p ok).1 < 0 ∨ ∃ i : Nat, i < 4 ∧ (Rd.lastAt s [Rd.mB, Rd.kmB, Rd.ydB, Rd.miB] p ok).1 = i := by
  cases ok
  · exact Or.inl (show (-1 : Int) < 0 by omega)
  · rw [Rd.last_four]
    rcases Rd.idx_word (s := s) (p := p) with ⟨i, hi, _, h⟩ | ⟨_, h⟩
    · exact Or.inr ⟨i, hi, h⟩
    · exact Or.inl (by show Lib.idxOfS _ _ < 0; rw [h]; omega)
/-- what the last lines do: by the word -/
theorem dist_vals {xn dv : Int} {K : Int} (h : K < 0 ∨ ∃ i : Nat, i < 4 ∧ K = i) (x0 : 0 ≤ xn) (x1 : xn ≤ 10000000000000) (d0 : 1 ≤ dv) (d1 : dv ≤ 1000000) :
    (K < 0 → (if K < 0 then 0 else (Sc.sc xn (Rd.distNumS K) (dv * Rd.distDenS K) 4).1) = 0) ∧
    (¬ K < 0 → (if K < 0 then 0 else (Sc.sc xn (Rd.distNumS K) (dv * Rd.distDenS K) 4).1) = (Sc.sc xn (Rd.distNumS K) (dv * Rd.distDenS K) 4).1 ∧
      (∀ W : World, (Instr.index 54 (.agg #[.int .i64 10, .int .i64 10000, .int .i64 9144, .int .i64 1609344]) (.int .i64 K)).run Tryz.prog W = .ok (.int .i64 (Rd.distNumS K)) W) ∧
      (∀ W : World, (Instr.index 54 (.agg #[.int .i64 1, .int .i64 1, .int .i64 1000, .int .i64 100]) (.int .i64 K)).run Tryz.prog W = .ok (.int .i64 (Rd.distDenS K)) W) ∧
      1 ≤ dv * Rd.distDenS K ∧ dv * Rd.distDenS K ≤ 1000000000 ∧ (1 ≤ Rd.distDenS K ∧ Rd.distDenS K ≤ 1000) ∧
      Hid (∀ W : World, Calls Tryz.prog 27 #[.int .i64 xn, .int .i64 (Rd.distNumS K), .int .i64 (dv * Rd.distDenS K), .int .i64 4] W fun e w' => e = .returned (.tuple #[.int .i64 (Sc.sc xn (Rd.distNumS K) (dv * Rd.distDenS K) 4).1, .int .i64 (Sc.sc xn (Rd.distNumS K) (dv * Rd.distDenS K) 4).2]) ∧ Below W.heap.size W w')) := by
  refine ⟨fun hK => if_pos hK, fun hK => ?_⟩
  rcases h with h | ⟨i, hi, rfl⟩
  · exact absurd h hK
  · rw [if_neg hK]
    rcases (show i = 0 ∨ i = 1 ∨ i = 2 ∨ i = 3 by omega) with rfl | rfl | rfl | rfl
    · refine ⟨rfl, fun W => by kernel_rfl, fun W => by kernel_rfl, ?_, ?_, ⟨by decide, by decide⟩, Lib.hid fun W => ?_⟩
      · show 1 ≤ dv * 1; omega
      · show dv * 1 ≤ _; omega
      · exact scale_any xn 10 (dv * 1) 4 W (by omega) (by omega) (by omega) (by omega)
    · refine ⟨rfl, fun W => by kernel_rfl, fun W => by kernel_rfl, ?_, ?_, ⟨by decide, by decide⟩, Lib.hid fun W => ?_⟩
      · show 1 ≤ dv * 1; omega
      · show dv * 1 ≤ _; omega
      · exact scale_any xn 10000 (dv * 1) 4 W (by omega) (by omega) (by omega) (by omega)
    · refine ⟨rfl, fun W => by kernel_rfl, fun W => by kernel_rfl, ?_, ?_, ⟨by decide, by decide⟩, Lib.hid fun W => ?_⟩
      · show 1 ≤ dv * 1000; omega
      · show dv * 1000 ≤ _; omega
      · exact scale_any xn 9144 (dv * 1000) 4 W (by omega) (by omega) (by omega) (by omega)
    · refine ⟨rfl, fun W => by kernel_rfl, fun W => by kernel_rfl, ?_, ?_, ⟨by decide, by decide⟩, Lib.hid fun W => ?_⟩
      · show 1 ≤ dv * 100; omega
      · show dv * 100 ≤ _; omega
      · exact scale_any xn 1609344 (dv * 100) 4 W (by omega) (by omega) (by omega) (by omega)
set_option maxHeartbeats 8000000 in
set_option maxRecDepth 100000 in
theorem dist_form : FormOk 26 Rd.distF := by
  intro B s w h hs
  have hsz := h.size
  have hR0 := h.boxed (.cells (rdVals B) 50)
  have hK0 := (Kp.refl B w).alloc (.cells (rdVals B) 50)
  have HX := Lib.hid (isBox_new w B 50)
  have HY := Lib.hid (isBox2_new w B 50)
  have k0 := HX.out.num
  unfold numF at k0
  have hnum := Lib.hid (fun w (h : IsRd w B s 0 true) => number_any 7 0 9999999 w h (by omega) (by omega))
  have q0 : (Rd.numAt s 7 0 9999999 true 0).2.2 ≤ s.size := Rd.numLoop_pos _ _ _ _ _ _ _ _ _ (Nat.zero_le _)
  have HF := Lib.hid (show Rd.distF s = ((if (Rd.lastAt s [Rd.mB, Rd.kmB, Rd.ydB, Rd.miB] (Rd.distEnd s (Rd.distNum s)).1 (Rd.distEnd s (Rd.distNum s)).2).1 < 0 then 0 else (Sc.sc (Rd.distNum s).n (Rd.distNumS (Rd.lastAt s [Rd.mB, Rd.kmB, Rd.ydB, Rd.miB] (Rd.distEnd s (Rd.distNum s)).1 (Rd.distEnd s (Rd.distNum s)).2).1) (10 ^ (Rd.distNum s).many * Rd.distDenS (Rd.lastAt s [Rd.mB, Rd.kmB, Rd.ydB, Rd.miB] (Rd.distEnd s (Rd.distNum s)).1 (Rd.distEnd s (Rd.distNum s)).2).1) 4).1), (Rd.lastAt s [Rd.mB, Rd.kmB, Rd.ydB, Rd.miB] (Rd.distEnd s (Rd.distNum s)).1 (Rd.distEnd s (Rd.distNum s)).2).2.1, (Rd.lastAt s [Rd.mB, Rd.kmB, Rd.ydB, Rd.miB] (Rd.distEnd s (Rd.distNum s)).1 (Rd.distEnd s (Rd.distNum s)).2).2.2) from rfl)
  have HN := Lib.hid (show Rd.distNum s = if Rd.begAt s 46 (Rd.numAt s 7 0 9999999 true 0).2.2 (Rd.numOk 0 true (Rd.numAt s 7 0 9999999 true 0)) = true then _ else _ from rfl)
  have hv := Rd.numAt_val s 7 0 9999999 true 0 (by omega)
  generalize hm : Rd.numAt s 7 0 9999999 true 0 = m at hnum q0 HN hv
  have hbg : Hid (∀ w, IsRd w B s m.2.2 (Rd.numOk 0 true m) → Calls Tryz.prog 107 #[.string ⟨#[46]⟩, pt (B + 3), pt B, pt (B + 2)] w fun e w' => e = .returned (.bool (Rd.begAt s 46 m.2.2 (Rd.numOk 0 true m))) ∧ w = w') := Lib.hid (fun w h => begins_rd 46 (by omega) w h q0)
  unfold pt at hbg
  have hK0' := Lib.hid hK0
  have hR0' := Lib.hid hR0
  have v0 := hv.1
  have v1 := hv.2
  clear hK0 hR0 h hv hm
  obtain ⟨bg, hbb⟩ : ∃ x, Rd.begAt s 46 m.2.2 (Rd.numOk 0 true m) = x := ⟨_, rfl⟩
  rw [hbb] at hbg HN
  clear hbb
  cases bg
  case true =>
    have hn := HN.out
    rw [if_pos rfl] at hn
    have hex := Lib.hid (fun w (h : IsRd w B s m.2.2 (Rd.numOk 0 true m)) => exact_any Rd.dotB w h (by omega) (by decide))
    have q1 := Rd.exactAt_le (s := s) (t := Rd.dotB) (ok := Rd.numOk 0 true m) q0
    generalize he : Rd.exactAt s Rd.dotB m.2.2 (Rd.numOk 0 true m) = ee at hex hn q1
    have hrow := Lib.hid (fun w (h : IsRd w B s ee.1 ee.2) => row_any 1 6 w h (by omega) (by omega))
    have hdv := Rd.rowAt_val s 6 ee.2 ee.1
    have q2 : (Rd.rowAt s 6 ee.2 ee.1).2.2 ≤ s.size := Rd.rowLoop_le s 6 ee.2 6 0 0 ee.1 q1
    generalize hd : Rd.rowAt s 6 ee.2 ee.1 = d at hrow hn hdv q2
    have hf := HF.out
    obtain ⟨X, hX⟩ : ∃ X, Rd.distNum s = X := ⟨_, rfl⟩
    rw [hX] at hf hn
    subst hn
    simp only at hf
    obtain ⟨d1, d2, d3⟩ := hdv
    obtain ⟨mv, mk, mp⟩ := m
    obtain ⟨dr, dk, dp⟩ := d
    simp only at hnum hbg hex hrow v0 v1 hf d1 d2 d3 q2
    obtain ⟨xo, hxo⟩ : ∃ x, (ee.2 && decide (1 ≤ dk)) = x := ⟨_, rfl⟩
    rw [hxo] at hrow hf
    obtain ⟨P, hP⟩ : ∃ P, (10 : Int) ^ dk = P := ⟨_, rfl⟩
    have p0 : 1 ≤ P ∧ P ≤ 1000000 := by
      rw [← hP]
      rcases (show dk = 0 ∨ dk = 1 ∨ dk = 2 ∨ dk = 3 ∨ dk = 4 ∨ dk = 5 ∨ dk = 6 by omega) with rfl | rfl | rfl | rfl | rfl | rfl | rfl <;> decide
    have x0 : 0 ≤ mv * P := Int.mul_nonneg v0 (by omega)
    have x1 : mv * P ≤ 9999999 * P := Int.mul_le_mul_of_nonneg_right v1 (by omega)
    have pw : ∀ j : Nat, j ≤ dk → (10 : Int) ^ j ≤ 1000000 ∧ 1 ≤ (10 : Int) ^ j := fun j hj => by
      rcases (show j = 0 ∨ j = 1 ∨ j = 2 ∨ j = 3 ∨ j = 4 ∨ j = 5 ∨ j = 6 by omega) with rfl | rfl | rfl | rfl | rfl | rfl | rfl <;> decide
    have HPW : Hid (∀ j : Nat, j < dk → ((10 : Int) ^ (j + 1) = 10 * (10 : Int) ^ j ∧ mv * (10 : Int) ^ (j + 1) = 10 * (mv * (10 : Int) ^ j)) ∧ (10 : Int) ^ j ≤ 1000000 ∧ 1 ≤ (10 : Int) ^ j ∧ 0 ≤ mv * (10 : Int) ^ j ∧ mv * (10 : Int) ^ j ≤ 9999999 * 1000000) := Lib.hid (fun j hj => by
      obtain ⟨a, b⟩ := pw j (by omega)
      refine ⟨⟨by rw [Int.pow_succ, Int.mul_comm], by rw [Int.pow_succ, Int.mul_comm ((10 : Int) ^ j), ← Int.mul_assoc, Int.mul_comm mv 10, Int.mul_assoc]⟩, a, b, Int.mul_nonneg v0 (by omega), Int.mul_le_mul v1 a (by omega) (by omega)⟩)
    rw [hP] at hf d2
    have xx0 : 0 ≤ mv * P + dr := by omega
    have xx1 : mv * P + dr ≤ 10000000000000 := by omega
    obtain ⟨e, HE⟩ : ∃ e, Hid ((if Rd.begAt s 32 dp xo = true then Rd.exactAt s Rd.blB dp xo else (dp, xo)) = e) := ⟨_, Lib.hid rfl⟩
    have hee : Rd.distEnd s ⟨mv * P + dr, dk, dp, xo⟩ = e := HE.out
    rw [hee] at hf
    have qe : e.1 ≤ s.size := by
      rw [← HE.out]
      split
      · exact Rd.exactAt_le q2
      · exact q2
    have hla := Lib.hid (fun w (h : IsRd w B s e.1 e.2) (b : Nat) (hw : ∀ j, j < 4 → w.cell? ⟨b, 0 + j, none⟩ = some (.string ([Rd.mB, Rd.kmB, Rd.ydB, Rd.miB].getD j ByteArray.empty))) => last_any [Rd.mB, Rd.kmB, Rd.ydB, Rd.miB] b 0 4 w h (by omega) qe hw (by decide) (by decide))
    have hlr := last_range s e.1 e.2
    generalize hk : Rd.lastAt s [Rd.mB, Rd.kmB, Rd.ydB, Rd.miB] e.1 e.2 = kk at hla hlr hf
    rw [hf]
    have hva := dist_vals (xn := mv * P + dr) (dv := P) hlr xx0 xx1 p0.1 p0.2
    generalize (if kk.1 < 0 then 0 else (Sc.sc (mv * P + dr) (Rd.distNumS kk.1) (P * Rd.distDenS kk.1) 4).1) = RV at hva ⊢
    generalize Sc.sc (mv * P + dr) (Rd.distNumS kk.1) (P * Rd.distDenS kk.1) 4 = sv at hva
    generalize Rd.distNumS kk.1 = nS at hva
    generalize Rd.distDenS kk.1 = dS at hva
    have HVAL := Lib.hid hva
    have hbl : Hid (∀ w, IsRd w B s dp xo → Calls Tryz.prog 107 #[.string ⟨#[32]⟩, pt (B + 3), pt B, pt (B + 2)] w fun e w' => e = .returned (.bool (Rd.begAt s 32 dp xo)) ∧ w = w') := Lib.hid (fun w h => begins_rd 32 (by omega) w h q2)
    unfold pt at hbl
    obtain ⟨bl, hbb⟩ : ∃ x, Rd.begAt s 32 dp xo = x := ⟨_, rfl⟩
    rw [hbb] at hbl HE
    have HP := Lib.hid hP
    have PZ := p0.1
    have PZ1 := p0.2
    clear HF hf hX HN he hd hva hlr hee hbb hk hxo pw q0 q1 hP p0 d2 qe
    obtain ⟨xp, hxp⟩ : ∃ x, dp = x := ⟨_, rfl⟩
    rw [hxp] at hrow hbl HE q2
    clear hxp
    go_enter Tryz.func26, Tryz.ntmps26
    go_wp2_with fail
    refine (hnum.out _ hR0'.out).mono ?_
    rintro e w1 ⟨rfl, hR1, hK1⟩
    have HX1 := Lib.hid (HX.out.kp hK1 (by omega))
    have HY1 := Lib.hid (HY.out.kp hK1 (by omega))
    have k6 := HY1.out.begins
    unfold begFn at k6
    have HR1 := Lib.hid hR1
    have HK1 := Lib.hid (hK0'.out.trans hK1)
    clear hR1 hK1 k0 HX HY
    have HB1 := Lib.hid (hbg.out _ HR1.out)
    clear hbg
    go_wp2_with fail
    refine HB1.out.mono ?_
    rintro e w1b ⟨rfl, rfl⟩
    have k3 := HX1.out.exact_
    unfold exactF at k3
    clear k6 HB1
    go_wp2_with fail
    refine (hex.out _ HR1.out).mono ?_
    rintro e w2 ⟨rfl, hR2, hK2⟩
    have HX2 := Lib.hid (HX1.out.kp hK2 (by omega))
    have HY2 := Lib.hid (HY1.out.kp hK2 (by omega))
    have k1 := HY2.out.row
    unfold rowFn' at k1
    have HR2 := Lib.hid hR2
    have HK2 := Lib.hid (HK1.out.trans hK2)
    clear hR2 hK2 k3 HX1 HY1
    go_wp2_with fail
    refine (hrow.out _ HR2.out).mono ?_
    rintro e w3 ⟨rfl, hR3, hK3⟩
    have HX3 := Lib.hid (HX2.out.kp hK3 (by omega))
    have HY3 := Lib.hid (HY2.out.kp hK3 (by omega))
    have HR3 := Lib.hid hR3
    have HK3 := Lib.hid (HK2.out.trans hK3)
    clear hR3 hK3 k1 HX2 HY2
    go_wp2_with fail
    go_loopw [3, 4, 26] (fun nv dv iv wr => ∃ (i : Nat), nv = .int .i64 (mv * 10 ^ i) ∧ dv = .int .i64 (10 ^ i) ∧ iv = .int .i64 i ∧ i ≤ dk ∧ wr = w3) (fun _ _ iv _ => dk - (intOf iv).toNat)
    case atStart => exact ⟨0, by simp, by simp, rfl, by omega, by trivial⟩
    case round =>
      obtain ⟨i, rfl, rfl, rfl, hi, rfl⟩ := hrel
      by_cases hlt : i < dk
      case pos =>
        have t1 : decide ((i : Int) < (dk : Int)) = true := by rw [lt_b]; simpa using hlt
        have t1' : decide (i < dk) = true := by simpa using hlt
        obtain ⟨⟨e1, e2⟩, a1, a2, a3, a4⟩ := HPW.out i hlt
        have E1 := Lib.hid e1
        have E2 := Lib.hid e2
        clear e1 e2
        generalize (10 : Int) ^ i = T at *
        generalize mv * T = M at *
        go_wp2_with fail
        go_roundw
        case rel => exact ⟨i + 1, by rw [E2.out], by rw [E1.out], by go_num, by omega, by trivial⟩
        case measure => simp [intOf]; omega
      case neg =>
        obtain rfl : i = dk := by omega
        have t1 : decide ((i : Int) < (i : Int)) = false := by simp
        have t1' : decide (i < i) = false := by simp
        rw [HP.out]
        generalize mv * P = M at *
        have k6 := HY3.out.begins
        unfold begFn at k6
        have HB1 := Lib.hid (hbl.out _ HR3.out)
        clear hbl
        go_wp2_with fail
        refine HB1.out.mono ?_
        rintro e wb ⟨rfl, rfl⟩
        clear k6 HB1
        cases bl
        case false =>
          have he := HE.out
          rw [if_neg (by simp)] at he
          have HR8 : Hid (IsRd wr B s e.1 e.2) := Lib.hid (by rw [← he]; exact HR3.out)
          clear he
          have k5 := HY3.out.last
          unfold lastFn at k5
          have HR9 := Lib.hid (HR8.out.boxed (.cells #[.string ⟨#[109]⟩, .string ⟨#[107, 109]⟩, .string ⟨#[121, 100]⟩, .string ⟨#[109, 105]⟩] 9))
          have HK9 := Lib.hid (HK3.out.alloc (.cells #[.string ⟨#[109]⟩, .string ⟨#[107, 109]⟩, .string ⟨#[121, 100]⟩, .string ⟨#[109, 105]⟩] 9))
          have HLA := Lib.hid (hla.out _ HR9.out wr.heap.size (fun j hj => by
            rw [World.cell?_alloc_at _ _ _ _ rfl, Nat.zero_add]
            match j, hj with
            | 0, _ | 1, _ | 2, _ | 3, _ => rfl))
          clear hla
          go_wp2_with fail
          refine HLA.out.mono ?_
          rintro e w9 ⟨rfl, hR9, hK9⟩
          have HRz := Lib.hid hR9
          have HKz := Lib.hid (HK9.out.trans hK9)
          clear hR9 hK9 HR9 HK9 k5
          by_cases h1 : kk.1 < 0
          · have b1 : decide (kk.1 < 0) = true := by simpa using h1
            have HE1 := Lib.hid (HVAL.out.1 h1)
            clear h1
            go_wp2_with fail
            go_ret
            exact ⟨by rw [HE1.out]; rfl, HRz.out, HKz.out⟩
          · have b1 : decide (kk.1 < 0) = false := by simpa using h1
            obtain ⟨hv, i1, i2, z1, z2, z3, DS⟩ := HVAL.out.2 (by omega)
            have HE1 := Lib.hid hv
            clear h1 hv
            go_upto_region 16 with fail
            refine wp_region_ext (W := w9) ⟨w9, Below.refl _ _⟩ (by kernel_rfl) (by kernel_rfl) ?_
            repeat (go_big_quiet_step ((go_at_call 27; exact Ext.calls _ (DS.out _))))
            refine wpQuiet_nil ?_
            intro _ hw'
            obtain ⟨Z, rfl⟩ := hw'
            go_wp2_with fail
            go_ret
            exact ⟨by rw [HE1.out]; rfl, HRz.out.kept Z.2, HKz.out.trans (Kp.of_below Z.2)⟩
        case true =>
          have he := HE.out
          rw [if_pos rfl] at he
          have hex2 := Lib.hid (fun w (h : IsRd w B s xp xo) => exact_any Rd.blB w h (by omega) (by decide))
          rw [he] at hex2
          have k3 := HX3.out.exact_
          unfold exactF at k3
          clear he
          go_wp2_with fail
          refine (hex2.out _ HR3.out).mono ?_
          rintro e w8 ⟨rfl, hR8, hK8⟩
          have HY8 := Lib.hid (HY3.out.kp hK8 (by omega))
          have HR8 := Lib.hid hR8
          have HK8 := Lib.hid (HK3.out.trans hK8)
          clear hR8 hK8 k3 HX3 HY3
          have k5 := HY8.out.last
          unfold lastFn at k5
          have HR9 := Lib.hid (HR8.out.boxed (.cells #[.string ⟨#[109]⟩, .string ⟨#[107, 109]⟩, .string ⟨#[121, 100]⟩, .string ⟨#[109, 105]⟩] 9))
          have HK9 := Lib.hid (HK8.out.alloc (.cells #[.string ⟨#[109]⟩, .string ⟨#[107, 109]⟩, .string ⟨#[121, 100]⟩, .string ⟨#[109, 105]⟩] 9))
          have HLA := Lib.hid (hla.out _ HR9.out w8.heap.size (fun j hj => by
            rw [World.cell?_alloc_at _ _ _ _ rfl, Nat.zero_add]
            match j, hj with
            | 0, _ | 1, _ | 2, _ | 3, _ => rfl))
          clear hla
          go_wp2_with fail
          refine HLA.out.mono ?_
          rintro e w9 ⟨rfl, hR9, hK9⟩
          have HRz := Lib.hid hR9
          have HKz := Lib.hid (HK9.out.trans hK9)
          clear hR9 hK9 HR9 HK9 k5
          by_cases h1 : kk.1 < 0
          · have b1 : decide (kk.1 < 0) = true := by simpa using h1
            have HE1 := Lib.hid (HVAL.out.1 h1)
            clear h1
            go_wp2_with fail
            go_ret
            exact ⟨by rw [HE1.out]; rfl, HRz.out, HKz.out⟩
          · have b1 : decide (kk.1 < 0) = false := by simpa using h1
            obtain ⟨hv, i1, i2, z1, z2, z3, DS⟩ := HVAL.out.2 (by omega)
            have HE1 := Lib.hid hv
            clear h1 hv
            go_upto_region 16 with fail
            refine wp_region_ext (W := w9) ⟨w9, Below.refl _ _⟩ (by kernel_rfl) (by kernel_rfl) ?_
            repeat (go_big_quiet_step ((go_at_call 27; exact Ext.calls _ (DS.out _))))
            refine wpQuiet_nil ?_
            intro _ hw'
            obtain ⟨Z, rfl⟩ := hw'
            go_wp2_with fail
            go_ret
            exact ⟨by rw [HE1.out]; rfl, HRz.out.kept Z.2, HKz.out.trans (Kp.of_below Z.2)⟩
  case false =>
    have hn := HN.out
    rw [if_neg (by simp)] at hn
    have hf := HF.out
    obtain ⟨X, hX⟩ : ∃ X, Rd.distNum s = X := ⟨_, rfl⟩
    rw [hX] at hf hn
    subst hn
    simp only at hf
    obtain ⟨mv, mk, mp⟩ := m
    simp only at hnum hbg v0 v1 hf q0
    obtain ⟨xo, hxo⟩ : ∃ x, Rd.numOk 0 true (mv, mk, mp) = x := ⟨_, rfl⟩
    rw [hxo] at hnum hf hbg
    obtain ⟨e, HE⟩ : ∃ e, Hid ((if Rd.begAt s 32 mp xo = true then Rd.exactAt s Rd.blB mp xo else (mp, xo)) = e) := ⟨_, Lib.hid rfl⟩
    have hee : Rd.distEnd s ⟨mv, 0, mp, xo⟩ = e := HE.out
    rw [hee] at hf
    have qe : e.1 ≤ s.size := by
      rw [← HE.out]
      split
      · exact Rd.exactAt_le q0
      · exact q0
    have hla := Lib.hid (fun w (h : IsRd w B s e.1 e.2) (b : Nat) (hw : ∀ j, j < 4 → w.cell? ⟨b, 0 + j, none⟩ = some (.string ([Rd.mB, Rd.kmB, Rd.ydB, Rd.miB].getD j ByteArray.empty))) => last_any [Rd.mB, Rd.kmB, Rd.ydB, Rd.miB] b 0 4 w h (by omega) qe hw (by decide) (by decide))
    have hlr := last_range s e.1 e.2
    generalize hk : Rd.lastAt s [Rd.mB, Rd.kmB, Rd.ydB, Rd.miB] e.1 e.2 = kk at hla hlr hf
    rw [hf]
    have hva := dist_vals (xn := mv) (dv := 1) hlr v0 (by omega) (by omega) (by omega)
    rw [show (10 : Int) ^ 0 = 1 from rfl]
    simp only [Int.one_mul] at hva ⊢
    generalize (if kk.1 < 0 then 0 else (Sc.sc mv (Rd.distNumS kk.1) (Rd.distDenS kk.1) 4).1) = RV at hva ⊢
    generalize Sc.sc mv (Rd.distNumS kk.1) (Rd.distDenS kk.1) 4 = sv at hva
    generalize Rd.distNumS kk.1 = nS at hva
    generalize Rd.distDenS kk.1 = dS at hva
    have HVAL := Lib.hid hva
    have hbl : Hid (∀ w, IsRd w B s mp xo → Calls Tryz.prog 107 #[.string ⟨#[32]⟩, pt (B + 3), pt B, pt (B + 2)] w fun e w' => e = .returned (.bool (Rd.begAt s 32 mp xo)) ∧ w = w') := Lib.hid (fun w h => begins_rd 32 (by omega) w h q0)
    unfold pt at hbl
    obtain ⟨bl, hbb⟩ : ∃ x, Rd.begAt s 32 mp xo = x := ⟨_, rfl⟩
    rw [hbb] at hbl HE
    clear HF hf hX HN hva hlr hee hbb hk hxo qe
    obtain ⟨xp, hxp⟩ : ∃ x, mp = x := ⟨_, rfl⟩
    rw [hxp] at hnum hbg hbl HE q0
    clear hxp
    go_enter Tryz.func26, Tryz.ntmps26
    go_wp2_with fail
    refine (hnum.out _ hR0'.out).mono ?_
    rintro e w1 ⟨rfl, hR1, hK1⟩
    have HX1 := Lib.hid (HX.out.kp hK1 (by omega))
    have HY1 := Lib.hid (HY.out.kp hK1 (by omega))
    have k6 := HY1.out.begins
    unfold begFn at k6
    have HR1 := Lib.hid hR1
    have HK1 := Lib.hid (hK0'.out.trans hK1)
    clear hR1 hK1 k0 HX HY
    have HB0 := Lib.hid (hbg.out _ HR1.out)
    clear hbg
    go_wp2_with fail
    refine HB0.out.mono ?_
    rintro e w1b ⟨rfl, rfl⟩
    clear k6 HB0
    have k6 := HY1.out.begins
    unfold begFn at k6
    have HB1 := Lib.hid (hbl.out _ HR1.out)
    clear hbl
    go_wp2_with fail
    refine HB1.out.mono ?_
    rintro e wb ⟨rfl, rfl⟩
    clear k6 HB1
    cases bl
    case false =>
      have he := HE.out
      rw [if_neg (by simp)] at he
      have HR8 : Hid (IsRd w1 B s e.1 e.2) := Lib.hid (by rw [← he]; exact HR1.out)
      clear he
      have k5 := HY1.out.last
      unfold lastFn at k5
      have HR9 := Lib.hid (HR8.out.boxed (.cells #[.string ⟨#[109]⟩, .string ⟨#[107, 109]⟩, .string ⟨#[121, 100]⟩, .string ⟨#[109, 105]⟩] 9))
      have HK9 := Lib.hid (HK1.out.alloc (.cells #[.string ⟨#[109]⟩, .string ⟨#[107, 109]⟩, .string ⟨#[121, 100]⟩, .string ⟨#[109, 105]⟩] 9))
      have HLA := Lib.hid (hla.out _ HR9.out w1.heap.size (fun j hj => by
        rw [World.cell?_alloc_at _ _ _ _ rfl, Nat.zero_add]
        match j, hj with
        | 0, _ | 1, _ | 2, _ | 3, _ => rfl))
      clear hla
      go_wp2_with fail
      refine HLA.out.mono ?_
      rintro e w9 ⟨rfl, hR9, hK9⟩
      have HRz := Lib.hid hR9
      have HKz := Lib.hid (HK9.out.trans hK9)
      clear hR9 hK9 HR9 HK9 k5
      by_cases h1 : kk.1 < 0
      · have b1 : decide (kk.1 < 0) = true := by simpa using h1
        have HE1 := Lib.hid (HVAL.out.1 h1)
        clear h1
        go_wp2_with fail
        go_ret
        exact ⟨by rw [HE1.out]; rfl, HRz.out, HKz.out⟩
      · have b1 : decide (kk.1 < 0) = false := by simpa using h1
        obtain ⟨hv, i1, i2, z1, z2, z3, DS⟩ := HVAL.out.2 (by omega)
        have HE1 := Lib.hid hv
        clear h1 hv
        go_upto_region 16 with fail
        refine wp_region_ext (W := w9) ⟨w9, Below.refl _ _⟩ (by kernel_rfl) (by kernel_rfl) ?_
        repeat (go_big_quiet_step ((go_at_call 27; exact Ext.calls _ (DS.out _))))
        refine wpQuiet_nil ?_
        intro _ hw'
        obtain ⟨Z, rfl⟩ := hw'
        go_wp2_with fail
        go_ret
        exact ⟨by rw [HE1.out]; rfl, HRz.out.kept Z.2, HKz.out.trans (Kp.of_below Z.2)⟩
    case true =>
      have he := HE.out
      rw [if_pos rfl] at he
      have hex2 := Lib.hid (fun w (h : IsRd w B s xp xo) => exact_any Rd.blB w h (by omega) (by decide))
      rw [he] at hex2
      have k3 := HX1.out.exact_
      unfold exactF at k3
      clear he
      go_wp2_with fail
      refine (hex2.out _ HR1.out).mono ?_
      rintro e w8 ⟨rfl, hR8, hK8⟩
      have HY8 := Lib.hid (HY1.out.kp hK8 (by omega))
      have HR8 := Lib.hid hR8
      have HK8 := Lib.hid (HK1.out.trans hK8)
      clear hR8 hK8 k3 HX1 HY1
      have k5 := HY8.out.last
      unfold lastFn at k5
      have HR9 := Lib.hid (HR8.out.boxed (.cells #[.string ⟨#[109]⟩, .string ⟨#[107, 109]⟩, .string ⟨#[121, 100]⟩, .string ⟨#[109, 105]⟩] 9))
      have HK9 := Lib.hid (HK8.out.alloc (.cells #[.string ⟨#[109]⟩, .string ⟨#[107, 109]⟩, .string ⟨#[121, 100]⟩, .string ⟨#[109, 105]⟩] 9))
      have HLA := Lib.hid (hla.out _ HR9.out w8.heap.size (fun j hj => by
        rw [World.cell?_alloc_at _ _ _ _ rfl, Nat.zero_add]
        match j, hj with
        | 0, _ | 1, _ | 2, _ | 3, _ => rfl))
      clear hla
      go_wp2_with fail
      refine HLA.out.mono ?_
      rintro e w9 ⟨rfl, hR9, hK9⟩
      have HRz := Lib.hid hR9
      have HKz := Lib.hid (HK9.out.trans hK9)
      clear hR9 hK9 HR9 HK9 k5
      by_cases h1 : kk.1 < 0
      · have b1 : decide (kk.1 < 0) = true := by simpa using h1
        have HE1 := Lib.hid (HVAL.out.1 h1)
        clear h1
        go_wp2_with fail
        go_ret
        exact ⟨by rw [HE1.out]; rfl, HRz.out, HKz.out⟩
      · have b1 : decide (kk.1 < 0) = false := by simpa using h1
        obtain ⟨hv, i1, i2, z1, z2, z3, DS⟩ := HVAL.out.2 (by omega)
        have HE1 := Lib.hid hv
        clear h1 hv
        go_upto_region 16 with fail
        refine wp_region_ext (W := w9) ⟨w9, Below.refl _ _⟩ (by kernel_rfl) (by kernel_rfl) ?_
        repeat (go_big_quiet_step ((go_at_call 27; exact Ext.calls _ (DS.out _))))
        refine wpQuiet_nil ?_
        intro _ hw'
        obtain ⟨Z, rfl⟩ := hw'
        go_wp2_with fail
        go_ret
        exact ⟨by rw [HE1.out]; rfl, HRz.out.kept Z.2, HKz.out.trans (Kp.of_below Z.2)⟩
theorem dist_isForm (j : Nat) (_ : j < 1) : IsForm 26 Rd.distF := ⟨fun _ _ => by kernel_rfl, dist_form⟩
def readDistP (s : ByteArray) : Int × Nat × Int := Rd.ranged (Rd.readForms s [Rd.distF]) 0 1000000000
theorem readDistance_any (s : ByteArray) (w : World) (hs : s.size ≤ 9223372036854775807) :
    Calls Tryz.prog 8 #[.string s] w fun r w' => r = .returned (.tuple #[.int .i64 (readDistP s).1, .int .i64 (readDistP s).2.1, .int .i64 (readDistP s).2.2]) ∧ Below w.heap.size w w' := by
  obtain ⟨z, hz⟩ : ∃ z, Rd.readForms s ((List.range 1).map fun _ => Rd.distF) = z := ⟨_, rfl⟩
  have hrf := fun (w : World) (R : Nat) (hR : R < w.heap.size) hf => readForms_any s w R 1 (fun _ => 26) (fun _ => Rd.distF) (by omega) hR hf dist_isForm hs z hz
  have Hrf := Lib.hid hrf
  have hd : readDistP s = Rd.ranged z 0 1000000000 := by rw [← hz]; rfl
  rw [hd]
  obtain ⟨n, a, e⟩ := z
  have hra := Lib.hid (ranged_any n e 0 1000000000 a)
  generalize Rd.ranged (n, a, e) 0 1000000000 = y at hra ⊢
  clear hz hd hrf
  go_enter Tryz.func8, Tryz.ntmps8
  go_wp2_with fail
  refine (Hrf.out _ w.heap.size (by simp) ?hf).mono ?_
  case hf =>
    intro j hj
    rw [World.cell?_alloc_at _ _ _ _ rfl]
    obtain rfl : j = 0 := by omega
    rfl
  rintro r w1 ⟨rfl, hb1⟩
  have HB := Lib.hid (((Below.refl w.heap.size w).alloc (Nat.le_refl _) _).trans (hb1.mono (by simp)))
  clear hb1
  go_wp2_with fail
  refine (hra.out _).mono ?_
  rintro r w2 ⟨rfl, rfl⟩
  go_wp2
  go_ret3
  exact ⟨rfl, HB.out⟩
end Go.Proofs.YtcdilamkkodjjaaGreatDoor

/- What distances are written as, in plain words. -/
namespace Rd
open Go.Lib (decDigits itoa trimRightB)
def dgt (d : Nat) : UInt8 := UInt8.ofNat (48 + d)
/-- a number with k digits -/
def padN : Nat → Nat → List UInt8
  | 0, _ => []
  | k + 1, n => dgt (n / 10 ^ k) :: padN k (n % 10 ^ k)
/-- what stands behind a point: digits, as long as something is left -/
def fracB : Nat → Nat → List UInt8
  | 0, _ => []
  | k + 1, n => if n = 0 then [] else dgt (n / 10 ^ k) :: fracB k (n % 10 ^ k)
theorem fracB_zero (k : Nat) : fracB k 0 = [] := by
  cases k
  · rfl
  · rw [fracB, if_pos rfl]
theorem fracB_ne {k n : Nat} (h : 0 < n) (hk : n < 10 ^ k) : fracB k n ≠ [] := by
  cases k
  · have : n < 1 := hk
    omega
  · rw [fracB, if_neg (by omega)]
    exact List.cons_ne_nil _ _
theorem trim_cons (x c : UInt8) (l : List UInt8) : trimRightB (x :: l) c = if trimRightB l c = [] then (if x = c then [] else [x]) else x :: trimRightB l c := by
  unfold trimRightB
  rw [List.reverse_cons, List.dropWhile_append]
  by_cases h : (List.dropWhile (fun x => x == c) l.reverse).isEmpty = true
  · rw [if_pos h]
    have h2 : List.dropWhile (fun x => x == c) l.reverse = [] := List.isEmpty_iff.1 h
    rw [h2, List.reverse_nil, if_pos rfl, List.dropWhile_cons]
    by_cases e : x = c
    · rw [if_pos (by simpa using e), if_pos e]; rfl
    · rw [if_neg (by simpa using e), if_neg e]; rfl
  · rw [if_neg h, if_neg, List.reverse_append]
    · rfl
    · rw [List.reverse_eq_nil_iff]
      intro e
      rw [e] at h
      exact h rfl
theorem dgt_ne {d : Nat} (h : 0 < d) (h9 : d < 10) : dgt d ≠ 48 := by
  have key : ∀ d : Fin 10, 0 < d.1 → dgt d.1 ≠ 48 := by decide
  exact key ⟨d, h9⟩ h
theorem trim_pad : ∀ (k n : Nat), n < 10 ^ k → trimRightB (padN k n) 48 = fracB k n
  | 0, n, _ => rfl
  | k + 1, n, h => by
    have hp : 0 < 10 ^ k := Nat.pow_pos (by omega)
    have hd : n / 10 ^ k < 10 := (Nat.div_lt_iff_lt_mul hp).2 (by rw [Nat.mul_comm, ← Nat.pow_succ]; exact h)
    have hm : n % 10 ^ k < 10 ^ k := Nat.mod_lt _ hp
    have hdm := Nat.div_add_mod n (10 ^ k)
    rw [padN, fracB, trim_cons, trim_pad k _ hm]
    by_cases h0 : n = 0
    · subst h0
      rw [Nat.zero_mod, Nat.zero_div, fracB_zero, if_pos rfl, if_pos rfl]
      rfl
    · rw [if_neg h0]
      by_cases hr : n % 10 ^ k = 0
      · rw [hr, fracB_zero, if_pos rfl, if_neg (dgt_ne (Nat.pos_of_ne_zero fun e => h0 (by rw [← hdm, hr, e, Nat.mul_zero])) hd)]
      · rw [if_neg (fracB_ne (by omega) hm)]
theorem dig_next (n : Nat) (h : 10 ≤ n) : decDigits n = decDigits (n / 10) ++ [dgt (n % 10)] := by
  rw [decDigits, dif_neg (by omega)]
  rfl
theorem dig_one (n : Nat) (h : n < 10) : decDigits n = [dgt n] := by
  rw [decDigits, dif_pos h]
  rfl
theorem pad_one {n : Nat} (h : n < 10) : (itoa (n : Int)).length = 1 ∧ padN 1 n = itoa (n : Int) := by
  have e : itoa (n : Int) = [dgt n] := by
    unfold itoa
    rw [if_neg (by omega), Int.toNat_natCast, dig_one n h]
  rw [e]
  refine ⟨rfl, ?_⟩
  show [dgt (n / 10 ^ 0)] = _
  rw [Nat.pow_zero, Nat.div_one]
/-- how many noughts stand ahead, and what is written -/
theorem pad_four {n : Nat} (h : n < 10000) : ∃ z : Nat, (itoa (n : Int)).length + z = 4 ∧ z ≤ 3 ∧ padN 4 n = List.replicate z 48 ++ itoa (n : Int) := by
  have e : itoa (n : Int) = decDigits n := by
    unfold itoa
    rw [if_neg (by omega), Int.toNat_natCast]
  have p : padN 4 n = [dgt (n / 1000), dgt (n % 1000 / 100), dgt (n % 1000 % 100 / 10), dgt (n % 1000 % 100 % 10 / 1)] := rfl
  have z0 : dgt 0 = 48 := rfl
  rw [e, p]
  by_cases h1 : n < 10
  · refine ⟨3, ?_, by omega, ?_⟩
    · rw [dig_one n h1]; rfl
    · rw [dig_one n h1, show n / 1000 = 0 by omega, show n % 1000 / 100 = 0 by omega, show n % 1000 % 100 / 10 = 0 by omega, show n % 1000 % 100 % 10 / 1 = n by omega, z0]; rfl
  rw [dig_next n (by omega)]
  by_cases h2 : n < 100
  · refine ⟨2, ?_, by omega, ?_⟩
    · rw [dig_one (n / 10) (by omega)]; rfl
    · rw [dig_one (n / 10) (by omega), show n / 1000 = 0 by omega, show n % 1000 / 100 = 0 by omega, show n % 1000 % 100 / 10 = n / 10 by omega, show n % 1000 % 100 % 10 / 1 = n % 10 by omega, z0]; rfl
  rw [dig_next (n / 10) (by omega)]
  by_cases h3 : n < 1000
  · refine ⟨1, ?_, by omega, ?_⟩
    · rw [dig_one (n / 10 / 10) (by omega)]; rfl
    · rw [dig_one (n / 10 / 10) (by omega), show n / 1000 = 0 by omega, show n % 1000 / 100 = n / 10 / 10 by omega, show n % 1000 % 100 / 10 = n / 10 % 10 by omega, show n % 1000 % 100 % 10 / 1 = n % 10 by omega, z0]; rfl
  rw [dig_next (n / 10 / 10) (by omega)]
  refine ⟨0, ?_, by omega, ?_⟩
  · rw [dig_one (n / 10 / 10 / 10) (by omega)]; rfl
  · rw [dig_one (n / 10 / 10 / 10) (by omega), show n / 1000 = n / 10 / 10 / 10 by omega, show n % 1000 / 100 = n / 10 / 10 % 10 by omega, show n % 1000 % 100 / 10 = n / 10 % 10 by omega, show n % 1000 % 100 % 10 / 1 = n % 10 by omega]; rfl
def ptB : ByteArray := ⟨#[46]⟩
def restB (k : Nat) (left : Int) : ByteArray := if left = 0 then ⟨#[]⟩ else ptB ++ bt (fracB k left.toNat)
def mNm : ByteArray := ⟨#[32, 109]⟩
def kmNm : ByteArray := ⟨#[32, 107, 109]⟩
/-- a distance, written -/
def distText (n : Int) : ByteArray := if 10000 ≤ n then itoaB (n / 10000) ++ restB 4 (n % 10000) ++ kmNm else itoaB (n / 10) ++ restB 1 (n % 10) ++ mNm
end Rd

/- DurationText of both. -/
namespace Go.Proofs.YtcdilamkkodjjaaGreatDoor
open Go.RowKit Go.BigFrame
open Rd (sB bt itoaB padB zeroB durText colon)

set_option maxRecDepth 1000000 in
theorem repeat_zero (s : ByteArray) (w : World) : Calls Tryz.prog 63 #[.string s, .int .i64 0] w fun e w' => e = .returned (.string ⟨#[]⟩) ∧ w = w' := by
  go_enter Tryz.func63, Tryz.ntmps63
  go_wp2
  go_ret
  exact ⟨rfl, rfl⟩
set_option maxRecDepth 1000000 in
theorem repeat_one (s : ByteArray) (w : World) : Calls Tryz.prog 63 #[.string s, .int .i64 1] w fun e w' => e = .returned (.string s) ∧ w = w' := by
  go_enter Tryz.func63, Tryz.ntmps63
  go_wp2
  go_ret
  exact ⟨rfl, rfl⟩
theorem two_any (n : Int) (h0 : 0 ≤ n) (h1 : n < 100) (w : World) (hg : Glo w) : Calls Tryz.prog 38 #[.int .i64 n] w fun e w' => e = .returned (.string (padB n)) ∧ Below w.heap.size w w' := by
  have DI := Lib.hid (itoa_any n (by omega) (by omega) w hg)
  have hl := Rd.itoa_len h0 h1
  have HP : Hid (padB n = if n < 10 then zeroB ++ itoaB n else itoaB n) := Lib.hid rfl
  have D : Calls Tryz.prog 23 #[.int .i64 n, .int .i64 2] w fun e w' => e = .returned (.string (padB n)) ∧ Below w.heap.size w w' := by
    generalize padB n = r at HP ⊢
    obtain ⟨t, ht⟩ : ∃ t, itoaB n = t := ⟨_, rfl⟩
    rw [ht] at DI hl HP
    clear ht
    by_cases hn : n < 10
    · rw [if_pos hn] at hl
      have hr := HP.out
      rw [if_pos hn] at hr
      have HR := Lib.hid hr
      have hl' : ((t.size : Nat) : Int) = 1 := by omega
      clear hn HP hr
      go_enter Tryz.func23, Tryz.ntmps23
      go_upto_region 2 with (go_at_call 21; refine DI.out.mono ?_; rintro e w2 ⟨rfl, hb2⟩)
      go_wp2_with (go_at_call 63; refine (repeat_one _ _).mono ?_; rintro e _ ⟨rfl, rfl⟩)
      go_ret
      exact ⟨by rw [HR.out]; rfl, hb2⟩
    · rw [if_neg hn] at hl
      have hr := HP.out
      rw [if_neg hn] at hr
      have HR := Lib.hid hr
      have hl' : ((t.size : Nat) : Int) = 2 := by omega
      clear hn HP hr
      go_enter Tryz.func23, Tryz.ntmps23
      go_upto_region 2 with (go_at_call 21; refine DI.out.mono ?_; rintro e w2 ⟨rfl, hb2⟩)
      go_wp2_with (go_at_call 63; refine (repeat_zero _ _).mono ?_; rintro e _ ⟨rfl, rfl⟩)
      go_ret
      exact ⟨by rw [HR.out]; exact congrArg (fun x => Ending.returned (.string x)) (Rd.nil_app t), hb2⟩
  have HD := Lib.hid D
  generalize padB n = r at HD ⊢
  go_enter Tryz.func38, Tryz.ntmps38
  go_wp2_with (go_at_call 23; refine HD.out.mono ?_; rintro e w2 ⟨rfl, hb2⟩)
  go_ret
  exact ⟨rfl, hb2⟩
theorem padded_any (n : Int) (h0 : 0 ≤ n) (h1 : n < 100) (w : World) (hg : Glo w) : Calls Tryz.prog 41 #[.int .i64 n] w fun e w' => e = .returned (.string (padB n)) ∧ Below w.heap.size w w' := by
  have DI := Lib.hid (itoa_any n (by omega) (by omega) w hg)
  have HP : Hid (padB n = if n < 10 then zeroB ++ itoaB n else itoaB n) := Lib.hid rfl
  have hl := Rd.itoaB_size (n := n) (by omega) (by omega)
  generalize padB n = r at HP ⊢
  generalize itoaB n = t at DI HP hl
  by_cases hn : n < 10
  · have t1 : decide (n < 10) = true := by simpa using hn
    have hr := HP.out
    rw [if_pos hn] at hr
    have HR := Lib.hid hr
    clear HP hr hn
    go_enter Tryz.func41, Tryz.ntmps41
    go_wp2_with (go_at_call 21; refine DI.out.mono ?_; rintro e w2 ⟨rfl, hb2⟩)
    go_ret
    exact ⟨by rw [HR.out]; rfl, hb2⟩
  · have t1 : decide (n < 10) = false := by simpa using hn
    have hr := HP.out
    rw [if_neg hn] at hr
    have HR := Lib.hid hr
    clear HP hr hn
    go_enter Tryz.func41, Tryz.ntmps41
    go_wp2_with (go_at_call 21; refine DI.out.mono ?_; rintro e w2 ⟨rfl, hb2⟩)
    go_ret
    exact ⟨by rw [HR.out]; rfl, hb2⟩
/-- what DurationText hands back -/
def durTextR (n : Int) : ByteArray × Int := if n < 0 ∨ 3599999 < n then (⟨#[]⟩, 9) else (durText n, 0)
set_option maxHeartbeats 2000000 in
theorem durationText_any (n : Int) (h0 : -9223372036854775808 ≤ n) (h1 : n ≤ 9223372036854775807) (w : World) (hg : Glo w) :
    Calls Tryz.prog 15 #[.int .i64 n] w fun e w' => e = .returned (.tuple #[.string (durTextR n).1, .int .i64 (durTextR n).2]) ∧ Below w.heap.size w w' := by
  by_cases hn : n < 0
  · have t1 : decide (n < 0) = true := by simpa using hn
    have HX := Lib.hid (show durTextR n = (⟨#[]⟩, 9) from if_pos (Or.inl hn))
    clear hn
    go_enter Tryz.func15, Tryz.ntmps15
    go_wp2
    go_ret2
    exact ⟨by rw [HX.out]; rfl, Below.refl _ _⟩
  by_cases hb : 3599999 < n
  · have t1 : decide (n < 0) = false := by simpa using hn
    have t2 : decide (3599999 < n) = true := by simpa using hb
    have HX := Lib.hid (show durTextR n = (⟨#[]⟩, 9) from if_pos (Or.inr hb))
    go_enter Tryz.func15, Tryz.ntmps15
    go_wp2
    go_ret2
    exact ⟨by rw [HX.out]; rfl, Below.refl _ _⟩
  have t1 : decide (n < 0) = false := by simpa using hn
  have t2 : decide (3599999 < n) = false := by simpa using hb
  have HX := Lib.hid (show durTextR n = (durText n, 0) from if_neg (by omega))
  have HG := Lib.hid (fun (W : World) (h : Below w.heap.size w W) => hg.below h)
  by_cases hs : n < 3600
  · have t3 : decide (n < 3600) = true := by simpa using hs
    have HT := Lib.hid (show durText n = itoaB (n / 60) ++ colon ++ padB (n % 60) from if_pos hs)
    have D1 := Lib.hid (fun W h => itoa_any (n / 60) (by omega) (by omega) W (HG.out W h))
    have D2 := Lib.hid (fun W h => two_any (n % 60) (by omega) (by omega) W (HG.out W h))
    have z1 := Rd.itoaB_size (n := n / 60) (by omega) (by omega)
    generalize itoaB (n / 60) = r1 at HT D1 z1
    have z2 := Rd.padB_size (n := n % 60) (by omega) (by omega)
    generalize padB (n % 60) = r2 at HT D2 z2
    go_enter Tryz.func15, Tryz.ntmps15
    go_wp2_with fail
    refine (D1.out w (Below.refl _ _)).mono ?_
    rintro e w1 ⟨rfl, hb1⟩
    go_wp2_with fail
    refine (D2.out w1 hb1).mono ?_
    rintro e w2 ⟨rfl, hb2⟩
    go_wp2_with fail
    go_ret2
    exact ⟨by rw [HX.out, HT.out]; rfl, below_step hb1 hb2⟩
  · have t3 : decide (n < 3600) = false := by simpa using hs
    have HT := Lib.hid (show durText n = itoaB (n / 3600) ++ colon ++ padB (n / 60 % 60) ++ colon ++ padB (n % 60) from if_neg hs)
    have D1 := Lib.hid (fun W h => itoa_any (n / 3600) (by omega) (by omega) W (HG.out W h))
    have D2 := Lib.hid (fun W h => two_any (n / 60 % 60) (by omega) (by omega) W (HG.out W h))
    have D3 := Lib.hid (fun W h => two_any (n % 60) (by omega) (by omega) W (HG.out W h))
    have z1 := Rd.itoaB_size (n := n / 3600) (by omega) (by omega)
    generalize itoaB (n / 3600) = r1 at HT D1 z1
    have z2 := Rd.padB_size (n := n / 60 % 60) (by omega) (by omega)
    generalize padB (n / 60 % 60) = r2 at HT D2 z2
    have z3 := Rd.padB_size (n := n % 60) (by omega) (by omega)
    generalize padB (n % 60) = r3 at HT D3 z3
    go_enter Tryz.func15, Tryz.ntmps15
    go_wp2_with fail
    refine (D1.out w (Below.refl _ _)).mono ?_
    rintro e w1 ⟨rfl, hb1⟩
    go_wp2_with fail
    refine (D2.out w1 hb1).mono ?_
    rintro e w2 ⟨rfl, hb2⟩
    go_wp2_with fail
    refine (D3.out w2 (below_step hb1 hb2)).mono ?_
    rintro e w3 ⟨rfl, hb3⟩
    go_wp2_with fail
    go_ret2
    exact ⟨by rw [HX.out, HT.out]; rfl, below_step (below_step hb1 hb2) hb3⟩
end Go.Proofs.YtcdilamkkodjjaaGreatDoor

/- Numbers with noughts ahead; DistanceText of both. -/
namespace Go.Proofs.YtcdilamkkodjjaaGreatDoor
open Go.RowKit Go.BigFrame
open Rd (sB bt itoaB padN fracB)

set_option maxHeartbeats 4000000 in
set_option maxRecDepth 1000000 in
theorem repeat_many (c : Nat) (hc : c = 2 ∨ c = 3) (w : World) : Calls Tryz.prog 63 #[.string ⟨#[48]⟩, .int .i64 c] w fun e w' => e = .returned (.string (bt (List.replicate c 48))) ∧ w = w' := by
  have DM := Lib.hid (fun W => Tryz.bits_Mul 1 c (by omega) (by omega) W)
  have DH : Hid (∀ (t p : ByteArray) W, Calls Tryz.prog 91 #[.string t, .string p] W fun e w' => e = .returned (.bool (Lib.hasPrefix t.data.toList p.data.toList)) ∧ w' = W) := Lib.hid (fun t p W => Tryz.strings_HasPrefix t p W)
  rcases hc with rfl | rfl
  all_goals
    go_enter Tryz.func63, Tryz.ntmps63
    go_wp2_with (first
      | (go_at_call 90; refine (DM.out _).mono ?_; rintro e _ ⟨rfl, rfl⟩)
      | (go_at_call 91; refine (DH.out _ _ _).mono ?_; rintro e _ ⟨rfl, rfl⟩))
    go_ret
    exact ⟨rfl, rfl⟩
theorem digits1_any (n : Nat) (h : n < 10) (w : World) (hg : Glo w) : Calls Tryz.prog 23 #[.int .i64 n, .int .i64 1] w fun e w' => e = .returned (.string (bt (padN 1 n))) ∧ Below w.heap.size w w' := by
  have DI := Lib.hid (itoa_any n (by omega) (by omega) w hg)
  obtain ⟨h1, h2⟩ := Rd.pad_one h
  have hl : (itoaB (n : Int)).size = 1 := h1
  have hp : bt (padN 1 n) = itoaB (n : Int) := by rw [h2]; rfl
  rw [hp]
  generalize itoaB (n : Int) = t at DI hl ⊢
  have hl' : ((t.size : Nat) : Int) = 1 := by omega
  go_enter Tryz.func23, Tryz.ntmps23
  go_upto_region 2 with (go_at_call 21; refine DI.out.mono ?_; rintro e w2 ⟨rfl, hb2⟩)
  go_wp2_with (go_at_call 63; refine (repeat_zero _ _).mono ?_; rintro e _ ⟨rfl, rfl⟩)
  go_ret
  exact ⟨congrArg (fun x => Ending.returned (.string x)) (Rd.nil_app t), hb2⟩
theorem digits4z_any (n : Nat) (h : n < 10000) (w : World) (hg : Glo w) : Calls Tryz.prog 23 #[.int .i64 n, .int .i64 4] w fun e w' => e = .returned (.string (bt (padN 4 n))) ∧ Below w.heap.size w w' := by
  have DI := Lib.hid (itoa_any n (by omega) (by omega) w hg)
  obtain ⟨z, h1, h2, h3⟩ := Rd.pad_four h
  have hl : (itoaB (n : Int)).size + z = 4 := h1
  have DR : Hid (∀ W, Calls Tryz.prog 63 #[.string ⟨#[48]⟩, .int .i64 z] W fun e w' => e = .returned (.string (bt (List.replicate z 48))) ∧ W = w') := Lib.hid (by
    intro W
    rcases (show z = 0 ∨ z = 1 ∨ z = 2 ∨ z = 3 by omega) with rfl | rfl | rfl | rfl
    · exact repeat_zero _ W
    · exact repeat_one _ W
    · exact repeat_many 2 (Or.inl rfl) W
    · exact repeat_many 3 (Or.inr rfl) W)
  have HP : Hid (bt (padN 4 n) = bt (List.replicate z 48) ++ itoaB (n : Int)) := Lib.hid (by
    rw [h3]
    apply Rd.sB_inj
    show (List.replicate z 48 ++ Lib.itoa (n : Int)) = _
    unfold sB
    rw [ByteArray.data_append, Array.toList_append]
    rfl)
  have hzl : (bt (List.replicate z 48)).size = z := by show (List.replicate z (48 : UInt8)).length = z; rw [List.length_replicate]
  generalize bt (padN 4 n) = r at HP ⊢
  generalize bt (List.replicate z 48) = zz at DR HP hzl
  generalize itoaB (n : Int) = t at DI hl HP
  rcases (show z = 0 ∨ z = 1 ∨ z = 2 ∨ z = 3 by omega) with rfl | rfl | rfl | rfl
  · have hl' : ((t.size : Nat) : Int) = 4 := by omega
    go_enter Tryz.func23, Tryz.ntmps23
    go_upto_region 2 with (go_at_call 21; refine DI.out.mono ?_; rintro e w2 ⟨rfl, hb2⟩)
    go_wp2_with (go_at_call 63; refine (DR.out _).mono ?_; rintro e _ ⟨rfl, rfl⟩)
    go_ret
    exact ⟨by rw [HP.out]; rfl, hb2⟩
  · have hl' : ((t.size : Nat) : Int) = 3 := by omega
    go_enter Tryz.func23, Tryz.ntmps23
    go_upto_region 2 with (go_at_call 21; refine DI.out.mono ?_; rintro e w2 ⟨rfl, hb2⟩)
    go_wp2_with (go_at_call 63; refine (DR.out _).mono ?_; rintro e _ ⟨rfl, rfl⟩)
    go_ret
    exact ⟨by rw [HP.out]; rfl, hb2⟩
  · have hl' : ((t.size : Nat) : Int) = 2 := by omega
    go_enter Tryz.func23, Tryz.ntmps23
    go_upto_region 2 with (go_at_call 21; refine DI.out.mono ?_; rintro e w2 ⟨rfl, hb2⟩)
    go_wp2_with (go_at_call 63; refine (DR.out _).mono ?_; rintro e _ ⟨rfl, rfl⟩)
    go_ret
    exact ⟨by rw [HP.out]; rfl, hb2⟩
  · have hl' : ((t.size : Nat) : Int) = 1 := by omega
    go_enter Tryz.func23, Tryz.ntmps23
    go_upto_region 2 with (go_at_call 21; refine DI.out.mono ?_; rintro e w2 ⟨rfl, hb2⟩)
    go_wp2_with (go_at_call 63; refine (DR.out _).mono ?_; rintro e _ ⟨rfl, rfl⟩)
    go_ret
    exact ⟨by rw [HP.out]; rfl, hb2⟩
end Go.Proofs.YtcdilamkkodjjaaGreatDoor

/- DistanceText of both. -/
namespace Go.Proofs.YtcdilamkkodjjaaGreatDoor
open Go.RowKit Go.BigFrame
open Rd (sB bt itoaB padN fracB restB distText kmNm mNm ptB)

def distTextR (n : Int) : ByteArray × Int := if n < 0 ∨ 1000000000 < n then (⟨#[]⟩, 9) else (distText n, 0)
theorem trim_any (k m : Nat) (h : m < 10 ^ k) (hk : k ≤ 4) (W : World) : Calls Tryz.prog 22 #[.string (bt (padN k m)), .string ⟨#[48]⟩] W fun e w' => e = .returned (.string (bt (fracB k m))) ∧ W = w' := by
  have hl : (bt (padN k m)).size ≤ 9223372036854775807 := by
    have : ∀ k m, (padN k m).length = k := fun k => by
      induction k with
      | zero => intro m; rfl
      | succ k ih => intro m; rw [padN, List.length_cons, ih]
    show (padN k m).length ≤ _
    rw [this]
    omega
  refine (Tryz.strings_TrimRight_one (bt (padN k m)) 48 (by decide) W hl).mono ?_
  rintro e w' ⟨rfl, rfl⟩
  refine ⟨?_, rfl⟩
  have : (bt (padN k m)).data.toList = padN k m := rfl
  rw [this, Rd.trim_pad k m h]
  rfl
theorem app_nil (a : ByteArray) : a ++ (⟨#[]⟩ : ByteArray) = a := by
  apply Rd.sB_inj
  unfold sB
  rw [ByteArray.data_append, Array.toList_append]
  exact List.append_nil _
theorem frac_len : ∀ (k m : Nat), (fracB k m).length ≤ k
  | 0, _ => Nat.le_refl _
  | k + 1, m => by
    rw [fracB]
    split
    · exact Nat.zero_le _
    · rw [List.length_cons]
      have := frac_len k (m % 10 ^ k)
      omega
set_option maxHeartbeats 2000000 in
set_option maxRecDepth 100000 in
theorem distanceText_any (n : Int) (h0 : -9223372036854775808 ≤ n) (h1 : n ≤ 9223372036854775807) (w : World) (hg : Glo w) :
    Calls Tryz.prog 6 #[.int .i64 n] w fun e w' => e = .returned (.tuple #[.string (distTextR n).1, .int .i64 (distTextR n).2]) ∧ Below w.heap.size w w' := by
  by_cases hn : n < 0
  · have t1 : decide (n < 0) = true := by simpa using hn
    have HX := Lib.hid (show distTextR n = (⟨#[]⟩, 9) from if_pos (Or.inl hn))
    clear hn
    go_enter Tryz.func6, Tryz.ntmps6
    go_wp2
    go_ret2
    exact ⟨by rw [HX.out]; rfl, Below.refl _ _⟩
  by_cases hb : 1000000000 < n
  · have t1 : decide (n < 0) = false := by simpa using hn
    have t2 : decide (1000000000 < n) = true := by simpa using hb
    have HX := Lib.hid (show distTextR n = (⟨#[]⟩, 9) from if_pos (Or.inr hb))
    go_enter Tryz.func6, Tryz.ntmps6
    go_wp2
    go_ret2
    exact ⟨by rw [HX.out]; rfl, Below.refl _ _⟩
  have t1 : decide (n < 0) = false := by simpa using hn
  have t2 : decide (1000000000 < n) = false := by simpa using hb
  have HX := Lib.hid (show distTextR n = (distText n, 0) from if_neg (by omega))
  have HG := Lib.hid (fun (W : World) (h : Below w.heap.size w W) => hg.below h)
  by_cases hs : 10000 ≤ n
  ·
    have t3 : decide (10000 ≤ n) = true := by simpa using hs
    obtain ⟨m, hm⟩ : ∃ m : Nat, n % 10000 = m := ⟨(n % 10000).toNat, by omega⟩
    have hml : m < 10 ^ 4 := by show m < 10000; omega
    have HT := Lib.hid (show distText n = itoaB (n / 10000) ++ restB 4 (n % 10000) ++ kmNm from if_pos hs)
    rw [hm] at HT
    have D1 := Lib.hid (fun W h => itoa_any (n / 10000) (by omega) (by omega) W (HG.out W h))
    have D2 := Lib.hid (fun W h => digits4z_any m hml W (HG.out W h))
    have D3 := Lib.hid (fun W => trim_any 4 m hml (by omega) W)
    have z1 := Rd.itoaB_size (n := n / 10000) (by omega) (by omega)
    generalize itoaB (n / 10000) = r1 at HT D1 z1
    have z2 : (bt (fracB 4 m)).size ≤ 4 := Nat.le_trans (frac_len 4 m) (by omega)
    have HR : Hid (restB 4 (m : Int) = if m = 0 then ⟨#[]⟩ else ptB ++ bt (fracB 4 m)) := Lib.hid (by
      unfold restB
      rw [Int.toNat_natCast]
      by_cases h : m = 0
      · rw [if_pos (by omega), if_pos h]
      · rw [if_neg (by omega), if_neg h])
    have HE : Hid (((bt (fracB 4 m)).toList == []) = decide (m = 0) ∧ ((bt (fracB 4 m)).toList != []) = !decide (m = 0)) := Lib.hid (by
      have e : (bt (fracB 4 m)).toList = fracB 4 m := by rw [ByteArray.toList_eq]; rfl
      rw [e]
      by_cases h : m = 0
      · subst h; rw [Rd.fracB_zero]; exact ⟨rfl, rfl⟩
      · have := Rd.fracB_ne (k := 4) (show 0 < m by omega) hml
        rw [decide_eq_false h]
        exact ⟨by simpa using this, by simpa using this⟩)
    generalize bt (fracB 4 m) = r2 at HR HE D3 z2
    generalize bt (padN 4 m) = r3 at D2 D3
    generalize restB 4 (m : Int) = r4 at HT HR
    by_cases hz : m = 0
    ·
      have he := HE.out
      rw [decide_eq_true hz] at he
      obtain ⟨he1, he2⟩ := he
      have hr := HR.out
      rw [if_pos hz] at hr
      have HR2 := Lib.hid hr
      clear HE HR hr hz
      go_enter Tryz.func6, Tryz.ntmps6
      go_upto_region 6 with fail
      go_wp2_with fail
      refine (D1.out w (Below.refl _ _)).mono ?_
      rintro e w1 ⟨rfl, hb1⟩
      go_wp2_with fail
      refine (D2.out w1 hb1).mono ?_
      rintro e w2 ⟨rfl, hb2⟩
      go_wp2_with fail
      refine (D3.out w2).mono ?_
      rintro e _ ⟨rfl, rfl⟩
      go_wp2_with fail
      go_ret2
      exact ⟨by rw [HX.out, HT.out, HR2.out, app_nil]; rfl, below_step hb1 hb2⟩
    ·
      have he := HE.out
      rw [decide_eq_false hz] at he
      obtain ⟨he1, he2⟩ := he
      have hr := HR.out
      rw [if_neg hz] at hr
      have HR2 := Lib.hid hr
      clear HE HR hr hz
      go_enter Tryz.func6, Tryz.ntmps6
      go_upto_region 6 with fail
      go_wp2_with fail
      refine (D1.out w (Below.refl _ _)).mono ?_
      rintro e w1 ⟨rfl, hb1⟩
      go_wp2_with fail
      refine (D2.out w1 hb1).mono ?_
      rintro e w2 ⟨rfl, hb2⟩
      go_wp2_with fail
      refine (D3.out w2).mono ?_
      rintro e _ ⟨rfl, rfl⟩
      go_wp2_with fail
      go_ret2
      exact ⟨by rw [HX.out, HT.out, HR2.out]; rfl, below_step hb1 hb2⟩
  ·
    have t3 : decide (10000 ≤ n) = false := by simpa using hs
    obtain ⟨m, hm⟩ : ∃ m : Nat, n % 10 = m := ⟨(n % 10).toNat, by omega⟩
    have hml : m < 10 ^ 1 := by show m < 10; omega
    have HT := Lib.hid (show distText n = itoaB (n / 10) ++ restB 1 (n % 10) ++ mNm from if_neg hs)
    rw [hm] at HT
    have D1 := Lib.hid (fun W h => itoa_any (n / 10) (by omega) (by omega) W (HG.out W h))
    have D2 := Lib.hid (fun W h => digits1_any m hml W (HG.out W h))
    have D3 := Lib.hid (fun W => trim_any 1 m hml (by omega) W)
    have z1 := Rd.itoaB_size (n := n / 10) (by omega) (by omega)
    generalize itoaB (n / 10) = r1 at HT D1 z1
    have z2 : (bt (fracB 1 m)).size ≤ 4 := Nat.le_trans (frac_len 1 m) (by omega)
    have HR : Hid (restB 1 (m : Int) = if m = 0 then ⟨#[]⟩ else ptB ++ bt (fracB 1 m)) := Lib.hid (by
      unfold restB
      rw [Int.toNat_natCast]
      by_cases h : m = 0
      · rw [if_pos (by omega), if_pos h]
      · rw [if_neg (by omega), if_neg h])
    have HE : Hid (((bt (fracB 1 m)).toList == []) = decide (m = 0) ∧ ((bt (fracB 1 m)).toList != []) = !decide (m = 0)) := Lib.hid (by
      have e : (bt (fracB 1 m)).toList = fracB 1 m := by rw [ByteArray.toList_eq]; rfl
      rw [e]
      by_cases h : m = 0
      · subst h; rw [Rd.fracB_zero]; exact ⟨rfl, rfl⟩
      · have := Rd.fracB_ne (k := 1) (show 0 < m by omega) hml
        rw [decide_eq_false h]
        exact ⟨by simpa using this, by simpa using this⟩)
    generalize bt (fracB 1 m) = r2 at HR HE D3 z2
    generalize bt (padN 1 m) = r3 at D2 D3
    generalize restB 1 (m : Int) = r4 at HT HR
    by_cases hz : m = 0
    ·
      have he := HE.out
      rw [decide_eq_true hz] at he
      obtain ⟨he1, he2⟩ := he
      have hr := HR.out
      rw [if_pos hz] at hr
      have HR2 := Lib.hid hr
      clear HE HR hr hz
      go_enter Tryz.func6, Tryz.ntmps6
      go_upto_region 6 with fail
      go_wp2_with fail
      refine (D1.out w (Below.refl _ _)).mono ?_
      rintro e w1 ⟨rfl, hb1⟩
      go_wp2_with fail
      refine (D2.out w1 hb1).mono ?_
      rintro e w2 ⟨rfl, hb2⟩
      go_wp2_with fail
      refine (D3.out w2).mono ?_
      rintro e _ ⟨rfl, rfl⟩
      go_wp2_with fail
      go_ret2
      exact ⟨by rw [HX.out, HT.out, HR2.out, app_nil]; rfl, below_step hb1 hb2⟩
    ·
      have he := HE.out
      rw [decide_eq_false hz] at he
      obtain ⟨he1, he2⟩ := he
      have hr := HR.out
      rw [if_neg hz] at hr
      have HR2 := Lib.hid hr
      clear HE HR hr hz
      go_enter Tryz.func6, Tryz.ntmps6
      go_upto_region 6 with fail
      go_wp2_with fail
      refine (D1.out w (Below.refl _ _)).mono ?_
      rintro e w1 ⟨rfl, hb1⟩
      go_wp2_with fail
      refine (D2.out w1 hb1).mono ?_
      rintro e w2 ⟨rfl, hb2⟩
      go_wp2_with fail
      refine (D3.out w2).mono ?_
      rintro e _ ⟨rfl, rfl⟩
      go_wp2_with fail
      go_ret2
      exact ⟨by rw [HX.out, HT.out, HR2.out]; rfl, below_step hb1 hb2⟩
end Go.Proofs.YtcdilamkkodjjaaGreatDoor

/- DistanceText of the reference. -/
namespace Go.Proofs.YtcdilamkkodjjaaGreatDoor
open Go.RowKit Go.BigFrame
open Rd (sB bt itoaB padN fracB restB distText kmNm mNm ptB dgt)

theorem itoa_dig {d : Nat} (h : d < 10) : itoaB (d : Int) = bt [dgt d] := by
  apply Rd.sB_inj
  have e : sB (itoaB (d : Int)) = Go.Lib.itoa (d : Int) := rfl
  rw [e]
  unfold Go.Lib.itoa
  rw [if_neg (by omega), Int.toNat_natCast, Rd.dig_one d h]
  rfl
/-- one digit more -/
theorem frac_step {t T : ByteArray} {k m : Nat} (h0 : 0 < m) (hk : m < 10 ^ (k + 1)) (h : t ++ bt (fracB (k + 1) m) = T) : (t ++ itoaB ((m / 10 ^ k : Nat) : Int)) ++ bt (fracB k (m % 10 ^ k)) = T := by
  have hd : m / 10 ^ k < 10 := (Nat.div_lt_iff_lt_mul (Nat.pow_pos (by omega))).2 (by rw [Nat.mul_comm, ← Nat.pow_succ]; exact hk)
  rw [fracB, if_neg (by omega)] at h
  rw [itoa_dig hd, ← h]
  apply Rd.sB_inj
  unfold sB
  rw [ByteArray.data_append, ByteArray.data_append, ByteArray.data_append, Array.toList_append, Array.toList_append, Array.toList_append, List.append_assoc]
  rfl
theorem dig_size {d : Nat} (h : d < 10) : (itoaB (d : Int)).size = 1 := by
  rw [itoa_dig h]
  rfl
set_option maxHeartbeats 4000000 in
set_option maxRecDepth 100000 in
theorem rdistanceText_any (n : Int) (h0 : -9223372036854775808 ≤ n) (h1 : n ≤ 9223372036854775807) (w : World) (hg : Glo w) :
    Calls Tryz.prog 7 #[.int .i64 n] w fun e w' => e = .returned (.tuple #[.string (distTextR n).1, .int .i64 (distTextR n).2]) ∧ Below w.heap.size w w' := by
  have DO := Lib.hid (outside_any n 0 1000000000)
  by_cases hn : n < 0 ∨ 1000000000 < n
  · have HX := Lib.hid (show distTextR n = (⟨#[]⟩, 9) from if_pos hn)
    have HB := Lib.hid (show (decide (n < 0) || decide (1000000000 < n)) = true by simpa using hn)
    generalize (decide (n < 0) || decide (1000000000 < n)) = bo at HB DO
    obtain rfl := HB.out
    clear hn
    go_enter Tryz.func7, Tryz.ntmps7
    go_wp2_with fail
    refine (DO.out w).mono ?_
    rintro e _ ⟨rfl, rfl⟩
    go_wp2_with fail
    go_ret2
    exact ⟨by rw [HX.out]; rfl, Below.refl _ _⟩
  have HX := Lib.hid (show distTextR n = (distText n, 0) from if_neg hn)
  have HB := Lib.hid (show (decide (n < 0) || decide (1000000000 < n)) = false by simpa using hn)
  generalize (decide (n < 0) || decide (1000000000 < n)) = bo at HB DO
  obtain rfl := HB.out
  have HG := Lib.hid (fun (W : World) (h : Below w.heap.size w W) => hg.below h)
  have DI := Lib.hid (fun (W : World) (x : Int) (hx : 0 ≤ x ∧ x ≤ 1000000000) (h : Below w.heap.size w W) => itoa_any x (by omega) (by omega) W (hg.below h))
  by_cases hs : 10000 ≤ n
  ·
    have t3 : decide (10000 ≤ n) = true := by simpa using hs
    obtain ⟨q, hq⟩ : ∃ q : Nat, n = q := ⟨n.toNat, by omega⟩
    subst hq
    have HT := Lib.hid (show distText (q : Int) = itoaB ((q : Int) / 10000) ++ restB 4 ((q : Int) % 10000) ++ kmNm from if_pos hs)
    obtain ⟨m, hm⟩ : ∃ m : Nat, q % 10000 = m := ⟨_, rfl⟩
    have hmi : (q : Int) % 10000 = (m : Int) := by omega
    have hml : m < 10000 := by omega
    have hq1 : 0 ≤ (q : Int) / 10000 ∧ (q : Int) / 10000 ≤ 1000000000 := by omega
    rw [hmi] at HT
    have HM := Lib.hid hmi
    have D1 := Lib.hid (fun W h => DI.out W ((q : Int) / 10000) hq1 h)
    have z1 := Rd.itoaB_size (n := (q : Int) / 10000) (by omega) (by omega)
    have hn1 : 0 ≤ (q : Int) ∧ (q : Int) ≤ 1000000000 := by omega
    clear hn hm hmi hq1 h0 h1
    generalize itoaB ((q : Int) / 10000) = r1 at HT D1 z1
    go_enter Tryz.func7, Tryz.ntmps7
    go_wp2_with fail
    refine (DO.out w).mono ?_
    rintro e _ ⟨rfl, rfl⟩
    go_wp2_with fail
    refine (D1.out w (Below.refl _ _)).mono ?_
    rintro e w1 ⟨rfl, hb1⟩
    go_upto_region 8 with fail
    rw [HM.out]
    have HB1 := Lib.hid hb1
    clear hb1 DO D1 HM
    by_cases hz : m = 0
    · have t4 : decide (0 < (m : Int)) = false := by simpa using hz
      have t4' : decide (0 < m) = false := by simpa using hz
      have HR := Lib.hid (show restB 4 (m : Int) = ⟨#[]⟩ from if_pos (by omega))
      clear hz
      go_upto_region 10 with fail
      go_loopw [4, 6, 7] (fun uv tv lv wr => uv = .int .i64 10000 ∧ tv = .string r1 ∧ lv = .int .i64 (m : Int) ∧ wr = w1) (fun _ _ _ _ => 0)
      case atStart => exact ⟨rfl, rfl, rfl, rfl⟩
      case round =>
        obtain ⟨rfl, rfl, rfl, rfl⟩ := hrel
        go_wp2_with fail
        go_ret2
        exact ⟨by rw [HX.out, HT.out, HR.out, app_nil]; rfl, HB1.out⟩
    · have t4 : decide (0 < (m : Int)) = true := by rw [decide_eq_true_eq]; omega
      have t4' : decide (0 < m) = true := by rw [decide_eq_true_eq]; omega
      have HR := Lib.hid (show restB 4 (m : Int) = ptB ++ bt (fracB 4 m) by unfold restB; rw [if_neg (by omega), Int.toNat_natCast])
      clear hz
      obtain ⟨TT, hTT⟩ : ∃ TT, r1 ++ (ptB ++ bt (fracB 4 m)) = TT := ⟨_, rfl⟩
      have HTT := Lib.hid (show distText (q : Int) = TT ++ kmNm by rw [HT.out, HR.out, hTT])
      have hst : r1 ++ ⟨#[46]⟩ ++ bt (fracB 4 m) = TT := by rw [← hTT]; apply Rd.sB_inj; unfold sB; rw [ByteArray.data_append, ByteArray.data_append, ByteArray.data_append, ByteArray.data_append, Array.toList_append, Array.toList_append, Array.toList_append, Array.toList_append, List.append_assoc]; rfl
      have HST := Lib.hid hst
      have hsz : (r1 ++ (⟨#[46]⟩ : ByteArray)).size ≤ 30 := by rw [ByteArray.size_append]; show r1.size + 1 ≤ 30; omega
      have HSZ := Lib.hid hsz
      clear hTT hst hsz HT HR
      go_upto_region 10 with fail
      go_loopw [4, 6, 7] (fun uv tv lv wr => ∃ (k l : Nat) (t : ByteArray), uv = .int .i64 ((10 ^ k : Nat) : Int) ∧ tv = .string t ∧ lv = .int .i64 (l : Int) ∧ k ≤ 4 ∧ l < 10 ^ k ∧ t.size + k ≤ 40 ∧ Hid (t ++ bt (fracB k l) = TT) ∧ Hid (Below w.heap.size w wr)) (fun uv _ _ _ => (intOf uv).toNat)
      case atStart => exact ⟨4, m, _, rfl, rfl, rfl, by omega, by simpa using hml, by have := HSZ.out; omega, HST, HB1⟩
      case round =>
        obtain ⟨k, l, t, rfl, rfl, rfl, hk, hl, hts, HL, HBr⟩ := hrel
        by_cases hl0 : l = 0
        · subst hl0
          have HE := Lib.hid (show t = TT by rw [← HL.out, Rd.fracB_zero]; exact (app_nil t).symm)
          have t5 : decide (0 < ((0 : Nat) : Int)) = false := rfl
          go_wp2_with fail
          go_ret2
          exact ⟨by rw [HX.out, HTT.out, HE.out]; rfl, HBr.out⟩
        · have t5 : decide (0 < (l : Int)) = true := by rw [decide_eq_true_eq]; omega
          have t5' : decide (0 < l) = true := by rw [decide_eq_true_eq]; omega
          have hl1 : 0 < l := by omega
          clear hl0
          rcases (show k = 0 ∨ k = 1 ∨ k = 2 ∨ k = 3 ∨ k = 4 by omega) with rfl | rfl | rfl | rfl | rfl
          · exact absurd hl (by simp; omega)
          · have hlj : l < 10 := hl
            have hq2 : 0 ≤ (l : Int) ∧ (l : Int) ≤ 1000000000 := by omega
            have D2 := Lib.hid (fun W h => DI.out W (l : Int) hq2 h)
            have HS := Lib.hid (frac_step (k := 0) hl1 hl HL.out)
            have zs := dig_size (d := l) (by omega)
            have ec : ((l / 10 ^ 0 : Nat) : Int) = (l : Int) := by rw [Nat.pow_zero, Nat.div_one]
            rw [ec] at HS
            generalize itoaB (l : Int) = r2 at HS D2 zs
            clear ec hq2
            go_upto_region 12 with fail
            go_upto_region 13 with (go_at_call 21; refine (D2.out _ HBr.out).mono ?_; rintro e w2 ⟨rfl, hb2⟩)
            go_wp2_with fail
            go_roundw
            case rel => exact ⟨0, 0, t ++ r2, rfl, rfl, by go_num, by omega, Nat.one_pos, by rw [ByteArray.size_append]; omega, HS, Lib.hid (below_step HBr.out hb2)⟩
            case measure => simp [intOf]
          · have hlj : l < 100 := hl
            have hq2 : 0 ≤ (l : Int) / 10 ∧ (l : Int) / 10 ≤ 1000000000 := by omega
            have D2 := Lib.hid (fun W h => DI.out W ((l : Int) / 10) hq2 h)
            have HS := Lib.hid (frac_step (k := 1) hl1 hl HL.out)
            have zs := dig_size (d := l / 10) (by omega)
            have ec : ((l / 10 ^ 1 : Nat) : Int) = (l : Int) / 10 := by rw [show (10 : Nat) ^ 1 = 10 from rfl]; omega
            have ec2 : ((l / 10 : Nat) : Int) = (l : Int) / 10 := by omega
            rw [ec] at HS
            rw [ec2] at zs
            generalize itoaB ((l : Int) / 10) = r2 at HS D2 zs
            clear ec ec2 hq2
            go_upto_region 12 with fail
            go_upto_region 13 with (go_at_call 21; refine (D2.out _ HBr.out).mono ?_; rintro e w2 ⟨rfl, hb2⟩)
            go_wp2_with fail
            go_roundw
            case rel => exact ⟨1, l % 10, t ++ r2, rfl, rfl, by go_num, by omega, Nat.mod_lt _ (by decide), by rw [ByteArray.size_append]; omega, HS, Lib.hid (below_step HBr.out hb2)⟩
            case measure => simp [intOf]
          · have hlj : l < 1000 := hl
            have hq2 : 0 ≤ (l : Int) / 100 ∧ (l : Int) / 100 ≤ 1000000000 := by omega
            have D2 := Lib.hid (fun W h => DI.out W ((l : Int) / 100) hq2 h)
            have HS := Lib.hid (frac_step (k := 2) hl1 hl HL.out)
            have zs := dig_size (d := l / 100) (by omega)
            have ec : ((l / 10 ^ 2 : Nat) : Int) = (l : Int) / 100 := by rw [show (10 : Nat) ^ 2 = 100 from rfl]; omega
            have ec2 : ((l / 100 : Nat) : Int) = (l : Int) / 100 := by omega
            rw [ec] at HS
            rw [ec2] at zs
            generalize itoaB ((l : Int) / 100) = r2 at HS D2 zs
            clear ec ec2 hq2
            go_upto_region 12 with fail
            go_upto_region 13 with (go_at_call 21; refine (D2.out _ HBr.out).mono ?_; rintro e w2 ⟨rfl, hb2⟩)
            go_wp2_with fail
            go_roundw
            case rel => exact ⟨2, l % 100, t ++ r2, rfl, rfl, by go_num, by omega, Nat.mod_lt _ (by decide), by rw [ByteArray.size_append]; omega, HS, Lib.hid (below_step HBr.out hb2)⟩
            case measure => simp [intOf]
          · have hlj : l < 10000 := hl
            have hq2 : 0 ≤ (l : Int) / 1000 ∧ (l : Int) / 1000 ≤ 1000000000 := by omega
            have D2 := Lib.hid (fun W h => DI.out W ((l : Int) / 1000) hq2 h)
            have HS := Lib.hid (frac_step (k := 3) hl1 hl HL.out)
            have zs := dig_size (d := l / 1000) (by omega)
            have ec : ((l / 10 ^ 3 : Nat) : Int) = (l : Int) / 1000 := by rw [show (10 : Nat) ^ 3 = 1000 from rfl]; omega
            have ec2 : ((l / 1000 : Nat) : Int) = (l : Int) / 1000 := by omega
            rw [ec] at HS
            rw [ec2] at zs
            generalize itoaB ((l : Int) / 1000) = r2 at HS D2 zs
            clear ec ec2 hq2
            go_upto_region 12 with fail
            go_upto_region 13 with (go_at_call 21; refine (D2.out _ HBr.out).mono ?_; rintro e w2 ⟨rfl, hb2⟩)
            go_wp2_with fail
            go_roundw
            case rel => exact ⟨3, l % 1000, t ++ r2, rfl, rfl, by go_num, by omega, Nat.mod_lt _ (by decide), by rw [ByteArray.size_append]; omega, HS, Lib.hid (below_step HBr.out hb2)⟩
            case measure => simp [intOf]
  ·
    have t3 : decide (10000 ≤ n) = false := by simpa using hs
    obtain ⟨q, hq⟩ : ∃ q : Nat, n = q := ⟨n.toNat, by omega⟩
    subst hq
    have HT := Lib.hid (show distText (q : Int) = itoaB ((q : Int) / 10) ++ restB 1 ((q : Int) % 10) ++ mNm from if_neg hs)
    obtain ⟨m, hm⟩ : ∃ m : Nat, q % 10 = m := ⟨_, rfl⟩
    have hmi : (q : Int) % 10 = (m : Int) := by omega
    have hml : m < 10 := by omega
    have hq1 : 0 ≤ (q : Int) / 10 ∧ (q : Int) / 10 ≤ 1000000000 := by omega
    rw [hmi] at HT
    have HM := Lib.hid hmi
    have D1 := Lib.hid (fun W h => DI.out W ((q : Int) / 10) hq1 h)
    have z1 := Rd.itoaB_size (n := (q : Int) / 10) (by omega) (by omega)
    have hn1 : 0 ≤ (q : Int) ∧ (q : Int) ≤ 1000000000 := by omega
    clear hn hm hmi hq1 h0 h1
    generalize itoaB ((q : Int) / 10) = r1 at HT D1 z1
    go_enter Tryz.func7, Tryz.ntmps7
    go_wp2_with fail
    refine (DO.out w).mono ?_
    rintro e _ ⟨rfl, rfl⟩
    go_wp2_with fail
    refine (D1.out w (Below.refl _ _)).mono ?_
    rintro e w1 ⟨rfl, hb1⟩
    go_upto_region 8 with fail
    rw [HM.out]
    have HB1 := Lib.hid hb1
    clear hb1 DO D1 HM
    by_cases hz : m = 0
    · have t4 : decide (0 < (m : Int)) = false := by simpa using hz
      have t4' : decide (0 < m) = false := by simpa using hz
      have HR := Lib.hid (show restB 1 (m : Int) = ⟨#[]⟩ from if_pos (by omega))
      clear hz
      go_upto_region 10 with fail
      go_loopw [4, 6, 7] (fun uv tv lv wr => uv = .int .i64 10 ∧ tv = .string r1 ∧ lv = .int .i64 (m : Int) ∧ wr = w1) (fun _ _ _ _ => 0)
      case atStart => exact ⟨rfl, rfl, rfl, rfl⟩
      case round =>
        obtain ⟨rfl, rfl, rfl, rfl⟩ := hrel
        go_wp2_with fail
        go_ret2
        exact ⟨by rw [HX.out, HT.out, HR.out, app_nil]; rfl, HB1.out⟩
    · have t4 : decide (0 < (m : Int)) = true := by rw [decide_eq_true_eq]; omega
      have t4' : decide (0 < m) = true := by rw [decide_eq_true_eq]; omega
      have HR := Lib.hid (show restB 1 (m : Int) = ptB ++ bt (fracB 1 m) by unfold restB; rw [if_neg (by omega), Int.toNat_natCast])
      clear hz
      obtain ⟨TT, hTT⟩ : ∃ TT, r1 ++ (ptB ++ bt (fracB 1 m)) = TT := ⟨_, rfl⟩
      have HTT := Lib.hid (show distText (q : Int) = TT ++ mNm by rw [HT.out, HR.out, hTT])
      have hst : r1 ++ ⟨#[46]⟩ ++ bt (fracB 1 m) = TT := by rw [← hTT]; apply Rd.sB_inj; unfold sB; rw [ByteArray.data_append, ByteArray.data_append, ByteArray.data_append, ByteArray.data_append, Array.toList_append, Array.toList_append, Array.toList_append, Array.toList_append, List.append_assoc]; rfl
      have HST := Lib.hid hst
      have hsz : (r1 ++ (⟨#[46]⟩ : ByteArray)).size ≤ 30 := by rw [ByteArray.size_append]; show r1.size + 1 ≤ 30; omega
      have HSZ := Lib.hid hsz
      clear hTT hst hsz HT HR
      go_upto_region 10 with fail
      go_loopw [4, 6, 7] (fun uv tv lv wr => ∃ (k l : Nat) (t : ByteArray), uv = .int .i64 ((10 ^ k : Nat) : Int) ∧ tv = .string t ∧ lv = .int .i64 (l : Int) ∧ k ≤ 1 ∧ l < 10 ^ k ∧ t.size + k ≤ 40 ∧ Hid (t ++ bt (fracB k l) = TT) ∧ Hid (Below w.heap.size w wr)) (fun uv _ _ _ => (intOf uv).toNat)
      case atStart => exact ⟨1, m, _, rfl, rfl, rfl, by omega, by simpa using hml, by have := HSZ.out; omega, HST, HB1⟩
      case round =>
        obtain ⟨k, l, t, rfl, rfl, rfl, hk, hl, hts, HL, HBr⟩ := hrel
        by_cases hl0 : l = 0
        · subst hl0
          have HE := Lib.hid (show t = TT by rw [← HL.out, Rd.fracB_zero]; exact (app_nil t).symm)
          have t5 : decide (0 < ((0 : Nat) : Int)) = false := rfl
          go_wp2_with fail
          go_ret2
          exact ⟨by rw [HX.out, HTT.out, HE.out]; rfl, HBr.out⟩
        · have t5 : decide (0 < (l : Int)) = true := by rw [decide_eq_true_eq]; omega
          have t5' : decide (0 < l) = true := by rw [decide_eq_true_eq]; omega
          have hl1 : 0 < l := by omega
          clear hl0
          rcases (show k = 0 ∨ k = 1 by omega) with rfl | rfl
          · exact absurd hl (by simp; omega)
          · have hlj : l < 10 := hl
            have hq2 : 0 ≤ (l : Int) ∧ (l : Int) ≤ 1000000000 := by omega
            have D2 := Lib.hid (fun W h => DI.out W (l : Int) hq2 h)
            have HS := Lib.hid (frac_step (k := 0) hl1 hl HL.out)
            have zs := dig_size (d := l) (by omega)
            have ec : ((l / 10 ^ 0 : Nat) : Int) = (l : Int) := by rw [Nat.pow_zero, Nat.div_one]
            rw [ec] at HS
            generalize itoaB (l : Int) = r2 at HS D2 zs
            clear ec hq2
            go_upto_region 12 with fail
            go_upto_region 13 with (go_at_call 21; refine (D2.out _ HBr.out).mono ?_; rintro e w2 ⟨rfl, hb2⟩)
            go_wp2_with fail
            go_roundw
            case rel => exact ⟨0, 0, t ++ r2, rfl, rfl, by go_num, by omega, Nat.one_pos, by rw [ByteArray.size_append]; omega, HS, Lib.hid (below_step HBr.out hb2)⟩
            case measure => simp [intOf]
end Go.Proofs.YtcdilamkkodjjaaGreatDoor

/- Going along a form; the first form that a text has (reference). -/
namespace Go.Proofs.YtcdilamkkodjjaaGreatDoor
open Go.RowKit Go.BigFrame
open Rd (sB bt itoaB Tok TokOk matchT firstT tok0 MatchAt FirstAt)

/-- a form as it lies in memory -/
def FormIn (w : World) (a : Option Addr) (f : List Tok) : Prop := RowK w a f.length 5 (fun i => tokCells (f.getD i tok0))
/-- what match hands back -/
def MatchRet (s : ByteArray) (f : List Tok) (w : World) (e : Ending) (w' : World) : Prop :=
  ∃ lv, e = .returned (.tuple #[.int .i64 (matchT s f 0).1, lv, .bool (matchT s f 0).2.2]) ∧ Below w.heap.size w w' ∧ ((matchT s f 0).2.2 = true → w'.ownsRow w.heap.size 3 1 lv (matchT s f 0).2.1.length ((matchT s f 0).2.1.map (.int .i64)))
theorem MatchRet.mk {s : ByteArray} {f : List Tok} {w w' : World} {e : Ending} {q : Nat} {L : List Int} {b : Bool} (lv : Value) (he : e = .returned (.tuple #[.int .i64 q, lv, .bool b])) (h : matchT s f 0 = (q, L, b)) (hb : Below w.heap.size w w') (ho : b = true → w'.ownsRow w.heap.size 3 1 lv L.length (L.map (.int .i64))) : MatchRet s f w e w' := by
  refine ⟨lv, ?_, hb, ?_⟩
  · rw [h]; exact he
  · rw [h]; exact ho
set_option maxHeartbeats 4000000 in
set_option maxRecDepth 100000 in
theorem match_any (s : ByteArray) (f : List Tok) (a : Option Addr) (c : Nat) (w : World) (hs : s.size ≤ 1000000) (hr : FormIn w a f) (hok : ∀ t, t ∈ f → TokOk t) (hfl : f.length ≤ 1000) (hg : Glo w) :
    Calls Tryz.prog 71 #[.string s, .slice a f.length c] w fun e w' => MatchRet s f w e w' := by
  have HR := Lib.hid hr
  have HG := Lib.hid hg
  have D := Lib.hid (fun (t : Tok) (ht : TokOk t) (q : Nat) (hq : q ≤ s.size) (W : World) (hW : Below w.heap.size w W) => run_any t ht s q hs hq W (hg.below hW))
  have HOK := Lib.hid (fun (k : Nat) (hk : k < f.length) => hok (f.getD k tok0) (by rw [List.getD_eq_getElem?_getD, List.getElem?_eq_getElem hk]; exact List.getElem_mem hk))
  have HGT := Lib.hid (fun (k : Nat) (hk : k < f.length) => (show f[k]? = some (f.getD k tok0) by rw [List.getD_eq_getElem?_getD, List.getElem?_eq_getElem hk]; rfl))
  clear hg hok hr
  obtain ⟨i0, hi0, hz0, hz1, hz2⟩ := info_parts (show (Tryz.prog.info? 3).map (fun i => (i.zero, i.size, i.bytes)) = some (some (.int .i64 0), 1, 8) by kernel_rfl)
  go_enter Tryz.func71, Tryz.ntmps71
  go_wp2_with fail
  go_loopw [7, 8, 16] (fun av lv iv wr => ∃ (q k : Nat) (L : List Int), av = .int .i64 q ∧ iv = .int .i64 k ∧ k ≤ f.length ∧ q ≤ s.size ∧ L.length ≤ k ∧ Hid (Below w.heap.size w wr) ∧ Hid (wr.ownsRow w.heap.size 3 1 lv L.length (L.map (.int .i64))) ∧ Hid (MatchAt s f k q L)) (fun _ _ iv _ => f.length - (intOf iv).toNat)
  case atStart => exact ⟨0, 0, [], rfl, rfl, by omega, by omega, by simp, Lib.hid (Below.refl _ _), Lib.hid (World.ownsRow_nil _ _ _ _), Lib.hid (MatchAt.start s f)⟩
  case round =>
    obtain ⟨q, k, L, rfl, rfl, hk, hq, hL, HB, HO, HM⟩ := hrel
    have hq1 : q ≤ 1000000 := by omega
    by_cases hlt : k < f.length
    case neg =>
      have t1 : decide ((k : Int) < (f.length : Int)) = false := by rw [lt_b]; simpa using hlt
      have t1' : decide (k < f.length) = false := by simpa using hlt
      have HX := Lib.hid (HM.out.done (by omega))
      obtain ⟨be, hbe⟩ : ∃ x, decide (q = s.size) = x := ⟨_, rfl⟩
      have hbe' : ((q : Int) == (s.size : Int)) = be := by rw [eq_b, hbe]
      rw [hbe] at HX
      clear HM hbe
      go_wp2_with fail
      go_ret3
      exact MatchRet.mk u8 rfl HX.out HB.out (fun _ => HO.out)
    case pos =>
      have t1 : decide ((k : Int) < (f.length : Int)) = true := by rw [lt_b]; simpa using hlt
      have t1' : decide (k < f.length) = true := by simpa using hlt
      have hsz := HB.out.size
      obtain ⟨b, off, rfl, hbl, hcc⟩ := (HR.out.below HB.out (Nat.le_refl _)).here (by omega)
      have ht := HGT.out k hlt
      have hto := HOK.out k hlt
      have e0 := hcc k hlt 0 (by omega)
      have e1 := hcc k hlt 1 (by omega)
      have e2 := hcc k hlt 2 (by omega)
      have e3 := hcc k hlt 3 (by omega)
      have e4 := hcc k hlt 4 (by omega)
      clear hcc
      obtain ⟨t, htt⟩ : ∃ t, f.getD k tok0 = t := ⟨_, rfl⟩
      rw [htt] at ht hto e0 e1 e2 e3 e4
      have HT := Lib.hid ht
      have HTO := Lib.hid hto
      clear ht hto htt
      replace e0 : wr.cell? ⟨b, off + k * 5, none⟩ = some (.int .i64 t.kind) := e0
      replace e1 : wr.cell? ⟨b, off + k * 5 + 1, none⟩ = some (.string t.text) := e1
      replace e2 : wr.cell? ⟨b, off + k * 5 + 2, none⟩ = some (.int .i64 t.low) := e2
      replace e3 : wr.cell? ⟨b, off + k * 5 + 3, none⟩ = some (.int .i64 t.high) := e3
      replace e4 : wr.cell? ⟨b, off + k * 5 + 4, none⟩ = some (.int .i64 t.digits) := e4
      obtain ⟨V, hV, hvb, hvs, hvl⟩ := alloc_cells wr #[.int .i64 t.kind, .string t.text, .int .i64 t.low, .int .i64 t.high, .int .i64 t.digits] 63
      have M0 := Ext.ex (hvl 0 _ rfl)
      have M1 := Ext.ex (hvl 1 _ rfl)
      have M2 := Ext.ex (hvl 2 _ rfl)
      have M3 := Ext.ex (hvl 3 _ rfl)
      have M4 := Ext.ex (hvl 4 _ rfl)
      have HV := Lib.hid hV
      have HBV := Lib.hid (HB.out.trans (hvb.mono hsz))
      have HOV := Lib.hid (ownsRow_below HO.out hvb)
      have HSV := Lib.hid (show w.heap.size ≤ V.heap.size by omega)
      have DR := Lib.hid (fun (X : Ext V) => D.out t HTO.out q hq X.1 (X.down HBV.out HSV.out))
      have HNX := Lib.hid (fun h => HM.out.next HT.out h)
      have HFA := Lib.hid (fun h => HM.out.fail HT.out h)
      have hrl := Rd.runT_le (t := t) hq
      unfold tokV at DR
      clear hvl hV hvb hvs HO HM
      obtain ⟨p6, hp6⟩ : ∃ p6, wr.heap.size = p6 := ⟨_, rfl⟩
      rw [hp6] at M0 M1 M2 M3 M4
      have HP6 := Lib.hid hp6
      clear hp6
      go_upto_region 6 with fail
      rw [HV.out, HP6.out]
      refine ext_wp fun X => ?_
      have m0 := M0 X
      have m1 := M1 X
      have m2 := M2 X
      have m3 := M3 X
      have m4 := M4 X
      clear e0 e1 e2 e3 e4
      go_upto_region 7 with (go_at_call 116; refine (DR.out X).mono ?_; rintro e w2 ⟨v, rfl, hv, hb2⟩)
      obtain ⟨Y, rfl⟩ : ∃ Y : Ext V, w2 = Y.1 := ⟨⟨w2, below_step X.2 hb2⟩, rfl⟩
      have n0 := M0 Y
      have HV2 := Lib.hid hv
      clear hb2 m0 m1 m2 m3 m4 M0 M1 M2 M3 M4 hv HV
      obtain ⟨ret, hret⟩ : ∃ x, Rd.runT s t q = x := ⟨_, rfl⟩
      rw [hret] at HNX HFA hrl HV2 ⊢
      obtain ⟨q2, u, ok⟩ := ret
      simp only at HNX HFA hrl HV2 ⊢
      clear hret
      cases ok
      case false =>
        have HX := Lib.hid (HFA.out rfl)
        clear HNX HFA
        go_wp2_with fail
        go_ret3
        exact MatchRet.mk (.slice none 0 0) rfl HX.out (Y.down HBV.out HSV.out) (fun h => by cases h)
      case true =>
      obtain rfl := HV2.out rfl
      have HN := Lib.hid (HNX.out rfl)
      clear HNX HFA HV2
      have HBY := Lib.hid (Y.down HBV.out HSV.out)
      have HOY := Lib.hid (ownsRow_below HOV.out Y.2)
      have hys := HBY.out.size
      by_cases hkd : t.kind = 1
      case pos =>
        have k1 : ((t.kind : Int) != 1) = false := by simp; omega
        have k2 : ((t.kind : Int) == 1) = true := by simp; omega
        rw [if_pos hkd] at HN
        go_wp2_with fail
        go_roundw
        case rel => exact ⟨q2, k + 1, L, rfl, by go_num, by omega, hrl, by omega, HBY, HOY, HN⟩
        case measure => simp [intOf]; omega
      case neg =>
        have k1 : ((t.kind : Int) != 1) = true := by simp; omega
        have k2 : ((t.kind : Int) == 1) = false := by simp; omega
        rw [if_neg hkd] at HN
        have O2 := HOY.out
        go_wp2_with (first
          | (at_builtin; go_loud (
             refine wpList_append_own _ rfl _ _ 58 rfl w.heap.size 3 i0 (.int .i64 0) 1 8 Tryz.underlying58 hi0 hz0 hz1 hz2 rfl (by decide) u8 L.length (L.map (.int .i64)) rfl (O2.alloc _) ⟨Y.1.heap.size, 0, none⟩ 1 1 [.int .i64 v] rfl rfl (fun j u hj => by match j, hj with | 0, hj => (simp at hj; subst hj; simp [Addr.add])) (fun u hu => by simp at hu; subst hu; rfl) (by unfold maxLen; omega) (by omega) (by simp; omega) ?_
             intro v' w3 hown' hgrow _
             have HW3 := Lib.hid hown'
             have HG3 := Lib.hid hgrow
             clear hown' hgrow))
          | fail)
        go_roundw
        case rel => exact ⟨q2, k + 1, L ++ [v], rfl, by go_num, by omega, hrl, by simp; omega, Lib.hid ((HBY.out.alloc (by omega) _).grown HG3.out (by simp; omega) (fun b hb => by have := O2.lt b hb; omega)), Lib.hid (by simpa using HW3.out), HN⟩
        case measure => simp [intOf]; omega
/-- forms as they lie in memory -/
def FormsIn (w : World) (a : Option Addr) (l : List (List Tok)) : Prop :=
  ∀ j f, l[j]? = some f → ∃ b off aj cj, a = some ⟨b, off, none⟩ ∧ b < w.heap.size ∧ w.cell? ⟨b, off + j, none⟩ = some (.slice aj f.length cj) ∧ FormIn w aj f ∧ (∀ t, t ∈ f → TokOk t) ∧ f.length ≤ 1000
theorem FormsIn.below {w w' : World} {a : Option Addr} {l : List (List Tok)} (h : FormsIn w a l) (hb : Below w.heap.size w w') : FormsIn w' a l := by
  intro j f hf
  obtain ⟨b, off, aj, cj, h1, h2, h3, h4, h5, h6⟩ := h j f hf
  exact ⟨b, off, aj, cj, h1, Nat.lt_of_lt_of_le h2 hb.size, below_cell hb h3, RowK.below h4 hb (Nat.le_refl _), h5, h6⟩
/-- what first hands back -/
def FirstRet (s : ByteArray) (l : List (List Tok)) (w : World) (e : Ending) (w' : World) : Prop :=
  ∃ lv, e = .returned (.tuple #[.int .i64 (firstT s l 0 0).1, lv, .int .i64 ((firstT s l 0 0).2.2 : Nat)]) ∧ Below w.heap.size w w' ∧ (0 ≤ (firstT s l 0 0).1 → w'.ownsRow w.heap.size 3 1 lv (firstT s l 0 0).2.1.length ((firstT s l 0 0).2.1.map (.int .i64)))
theorem FirstRet.mk {s : ByteArray} {l : List (List Tok)} {w w' : World} {e : Ending} {n : Int} {far : Nat} {L : List Int} (lv : Value) (he : e = .returned (.tuple #[.int .i64 n, lv, .int .i64 (far : Nat)])) (h : firstT s l 0 0 = (n, L, far)) (hb : Below w.heap.size w w') (ho : 0 ≤ n → w'.ownsRow w.heap.size 3 1 lv L.length (L.map (.int .i64))) : FirstRet s l w e w' := by
  refine ⟨lv, ?_, hb, ?_⟩
  · rw [h]; exact he
  · rw [h]; exact ho
set_option maxHeartbeats 4000000 in
set_option maxRecDepth 100000 in
theorem first_any (s : ByteArray) (l : List (List Tok)) (a : Option Addr) (c : Nat) (w : World) (hs : s.size ≤ 1000000) (hr : FormsIn w a l) (hl : l.length ≤ 1000) (hg : Glo w) :
    Calls Tryz.prog 34 #[.string s, .slice a l.length c] w fun e w' => FirstRet s l w e w' := by
  have HR := Lib.hid hr
  have D := Lib.hid (fun (f : List Tok) (hfo : ∀ t, t ∈ f → TokOk t) (hfl : f.length ≤ 1000) (a : Option Addr) (c : Nat) (W : World) (hW : Below w.heap.size w W) (hf : FormIn W a f) => match_any s f a c W hs hf hfo hfl (hg.below hW))
  have HGT := Lib.hid (fun (k : Nat) (hk : k < l.length) => (show l[k]? = some (l[k]) from List.getElem?_eq_getElem hk))
  clear hg hr
  go_enter Tryz.func34, Tryz.ntmps34
  go_wp2_with fail
  go_loopw [7, 15] (fun fv iv wr => ∃ (far k : Nat), fv = .int .i64 far ∧ iv = .int .i64 k ∧ k ≤ l.length ∧ far ≤ s.size ∧ Hid (Below w.heap.size w wr) ∧ Hid (FirstAt s l k far)) (fun _ iv _ => l.length - (intOf iv).toNat)
  case atStart => exact ⟨0, 0, rfl, rfl, by omega, by omega, Lib.hid (Below.refl _ _), Lib.hid (FirstAt.start s l)⟩
  case round =>
    obtain ⟨far, k, rfl, rfl, hk, hfar, HB, HF⟩ := hrel
    by_cases hlt : k < l.length
    case neg =>
      have t1 : decide ((k : Int) < (l.length : Int)) = false := by rw [lt_b]; simpa using hlt
      have t1' : decide (k < l.length) = false := by simpa using hlt
      have HX := Lib.hid (HF.out.done (by omega))
      clear HF
      go_wp2_with fail
      go_ret3
      exact FirstRet.mk (.slice none 0 0) rfl HX.out HB.out (fun h => absurd h (by omega))
    case pos =>
      have t1 : decide ((k : Int) < (l.length : Int)) = true := by rw [lt_b]; simpa using hlt
      have t1' : decide (k < l.length) = true := by simpa using hlt
      have hsz := HB.out.size
      have ht := HGT.out k hlt
      obtain ⟨f, hff⟩ : ∃ f, l[k] = f := ⟨_, rfl⟩
      rw [hff] at ht
      obtain ⟨b, off, aj, cj, rfl, hbl, hc, hin, hto, hfl⟩ := (HR.out.below HB.out) k f ht
      have HT := Lib.hid ht
      have DM := Lib.hid (D.out f hto hfl aj cj wr HB.out hin)
      have hml := Rd.matchT_le (s := s) f 0 (Nat.zero_le _)
      clear ht hto hin hff
      obtain ⟨m, hm⟩ : ∃ x, matchT s f 0 = x := ⟨_, rfl⟩
      have HNX := Lib.hid (fun h => HF.out.next HT.out h)
      have HHI := Lib.hid (fun h => HF.out.hit HT.out h)
      unfold MatchRet at DM
      rw [hm] at DM HNX HHI hml
      obtain ⟨q2, L, ok⟩ := m
      simp only at DM HNX HHI hml
      clear hm HF
      go_upto_region 6 with (go_at_call 71; refine DM.out.mono ?_; rintro e w2 ⟨lv, rfl, hb2, hown⟩)
      have HB2 := Lib.hid (HB.out.trans (hb2.mono hsz))
      cases ok
      case true =>
        have HX := Lib.hid (HHI.out rfl)
        have HO := Lib.hid ((hown rfl).mono hsz)
        clear HNX HHI hown hb2
        go_wp2_with fail
        go_ret3
        exact FirstRet.mk lv rfl HX.out HB2.out (fun _ => HO.out)
      case false =>
        have HN := Lib.hid (HNX.out rfl)
        clear HNX HHI hown hb2
        go_wp2_with fail
        go_roundw
        case rel => exact ⟨max far q2, k + 1, by go_num, by go_num, by omega, by omega, HB2, HN⟩
        case measure => simp [intOf]; omega
end Go.Proofs.YtcdilamkkodjjaaGreatDoor

/- ReadDuration of the reference. -/
namespace Go.Proofs.YtcdilamkkodjjaaGreatDoor
open Go.RowKit Go.BigFrame
open Rd (sB bt itoaB Tok TokOk matchT firstT tok0 durT durU refDur dotU shortT longT lform litT numT pairT byteT unitL sel letL bitOn)

theorem lt_of_block {w : World} {b : Nat} {o : Obj} (h : w.heap[b]? = some o) : b < w.heap.size := (Array.getElem?_eq_some_iff.1 h).1
theorem block_cell {w : World} {b i : Nat} {cs : Array Value} {T : TypeId} {v : Value} (h : w.heap[b]? = some (.cells cs T (0, 0))) (hv : cs[i]? = some v) : w.cell? ⟨b, i, none⟩ = some v := by simp [World.cell?, h, hv]
theorem alloc_block (w : World) (cs : Array Value) (T : TypeId) : ∃ W, w.alloc (.cells cs T) = W ∧ Below w.heap.size w W ∧ W.heap.size = w.heap.size + 1 ∧ W.heap[w.heap.size]? = some (.cells cs T (0, 0)) :=
  ⟨_, rfl, below_al _ _, by simp, heap_alloc_new w _⟩
theorem below_block {w w' : World} {b : Nat} {o : Obj} (hb : Below w.heap.size w w') (h : w.heap[b]? = some o) : w'.heap[b]? = some o := (hb.block b (lt_of_block h)).trans h
theorem addr_add0 (b j : Nat) : (⟨b, 0, none⟩ : Addr).add j = ⟨b, j, none⟩ := by
  unfold Addr.add
  split <;> simp_all
theorem flatN {β : Type} {f : β → List Value} {m : Nat} (d : β) (hf : ∀ q, (f q).length = m) : ∀ (l : List β) (k j : Nat), k < l.length → j < m → (l.flatMap f)[k * m + j]? = (f (l.getD k d))[j]?
  | [], k, j, h, _ => by simp at h
  | q :: l, 0, j, _, hj => by
    rw [List.flatMap_cons, Nat.zero_mul, Nat.zero_add, List.getElem?_append_left (by rw [hf]; exact hj)]
    rfl
  | q :: l, k + 1, j, h, hj => by
    rw [List.flatMap_cons, List.getElem?_append_right (by rw [hf, Nat.succ_mul]; omega), hf, show (k + 1) * m + j - m = k * m + j by rw [Nat.succ_mul]; omega]
    exact flatN d hf l k j (by simpa using h) hj
/-- a form in a block of its own -/
def FormBlk (w : World) (v : Value) (f : List Tok) : Prop := ∃ (b c : Nat) (cs : Array Value), v = .slice (some ⟨b, 0, none⟩) f.length c ∧ w.heap[b]? = some (.cells cs 63 (0, 0)) ∧ ∀ i j, i < f.length → j < 5 → cs[i * 5 + j]? = (tokCells (f.getD i tok0))[j]?
def UnitBlk (w : World) (v : Value) (us : List Int) : Prop := ∃ (b c : Nat) (cs : Array Value), v = .slice (some ⟨b, 0, none⟩) us.length c ∧ w.heap[b]? = some (.cells cs 3 (0, 0)) ∧ ∀ i, i < us.length → cs[i]? = some (.int .i64 (us.getD i 0))
/-- what lies in blocks of other types than e is as it was -/
def Still (e : TypeId) (w w' : World) : Prop := ∀ (b : Nat) (cs : Array Value) (T : TypeId) (fr : Nat × Nat), T ≠ e → w.heap[b]? = some (Obj.cells cs T fr) → w'.heap[b]? = some (Obj.cells cs T fr)
theorem Still.of_below {e : TypeId} {w w' : World} (h : Below w.heap.size w w') : Still e w w' := fun _ _ _ _ _ hb => below_block h hb
theorem Still.of_grown {e : TypeId} {w w' : World} {base size n : Nat} {v : Value} {xs : List Value} (ho : w.ownsRow base e size v n xs) (hg : w.grownBy w' v.ownBlock) : Still e w w' := fun b cs T fr hT hb => by
  have hk : Kept (fun k => v.ownBlock = some k) w w' := Kept.of_grown hg (fun g hg _ => hg)
  refine (hk.block b (lt_of_block hb) (fun hv => ?_)).trans hb
  obtain ⟨c, fz, hc⟩ := Lib.ownsRow_kind ho b hv
  rw [hb] at hc
  injection hc with hc
  injection hc with _ h2 _
  exact hT h2
theorem Still.trans {e : TypeId} {a b c : World} (h : Still e a b) (k : Still e b c) : Still e a c := fun x cs T fr hT hb => k x cs T fr hT (h x cs T fr hT hb)
theorem FormBlk.still {e : TypeId} {w w' : World} {v : Value} {f : List Tok} (h : FormBlk w v f) (hs : Still e w w') (he : 63 ≠ e) : FormBlk w' v f := by
  obtain ⟨b, c, cs, h1, h2, h3⟩ := h
  exact ⟨b, c, cs, h1, hs _ _ _ _ he h2, h3⟩
theorem UnitBlk.still {e : TypeId} {w w' : World} {v : Value} {us : List Int} (h : UnitBlk w v us) (hs : Still e w w') (he : 3 ≠ e) : UnitBlk w' v us := by
  obtain ⟨b, c, cs, h1, h2, h3⟩ := h
  exact ⟨b, c, cs, h1, hs _ _ _ _ he h2, h3⟩
theorem FormBlk.below {w w' : World} {v : Value} {f : List Tok} (h : FormBlk w v f) (hb : Below w.heap.size w w') : FormBlk w' v f := by
  obtain ⟨b, c, cs, h1, h2, h3⟩ := h
  exact ⟨b, c, cs, h1, below_block hb h2, h3⟩
theorem UnitBlk.below {w w' : World} {v : Value} {us : List Int} (h : UnitBlk w v us) (hb : Below w.heap.size w w') : UnitBlk w' v us := by
  obtain ⟨b, c, cs, h1, h2, h3⟩ := h
  exact ⟨b, c, cs, h1, below_block hb h2, h3⟩
theorem FormBlk.form {w : World} {v : Value} {f : List Tok} (h : FormBlk w v f) : ∃ a c, v = .slice a f.length c ∧ FormIn w a f := by
  obtain ⟨b, c, cs, h1, h2, h3⟩ := h
  refine ⟨_, c, h1, ⟨fun hl => ⟨b, 0, rfl, lt_of_block h2, fun i hi j hj => ?_⟩⟩⟩
  rw [Nat.zero_add]
  have hv : ∃ v, (tokCells (f.getD i tok0))[j]? = some v := ⟨_, List.getElem?_eq_getElem (by show j < 5; omega)⟩
  obtain ⟨v, hv⟩ := hv
  show w.cell? _ = (tokCells (f.getD i tok0))[j]?
  rw [hv]
  exact block_cell h2 (by rw [h3 i j hi hj, hv])
/-- the forms and the units, as they lie in memory -/
structure Durs (base : Nat) (w : World) (k : Nat) (v6 v7 : Value) : Prop where
  f : ∃ vf : List Value, w.ownsRow base 60 1 v6 k vf ∧ ∀ j, j < k → ∃ v f, vf[j]? = some v ∧ durT[j]? = some f ∧ FormBlk w v f
  u : ∃ vu : List Value, w.ownsRow base 58 1 v7 k vu ∧ ∀ j, j < k → ∃ v us, vu[j]? = some v ∧ durU[j]? = some us ∧ UnitBlk w v us
theorem Durs.below {base k : Nat} {w w' : World} {v6 v7 : Value} (h : Durs base w k v6 v7) (hb : Below w.heap.size w w') : Durs base w' k v6 v7 := by
  obtain ⟨⟨vf, h1, h2⟩, ⟨vu, h3, h4⟩⟩ := h
  refine ⟨⟨vf, ownsRow_below h1 hb, fun j hj => ?_⟩, ⟨vu, ownsRow_below h3 hb, fun j hj => ?_⟩⟩
  · obtain ⟨v, f, a, b, c⟩ := h2 j hj
    exact ⟨v, f, a, b, c.below hb⟩
  · obtain ⟨v, f, a, b, c⟩ := h4 j hj
    exact ⟨v, f, a, b, c.below hb⟩
theorem own_open {w : World} {b e k n : Nat} {v : Value} {xs : List Value} (h : w.ownsRow b e k v n xs) (hn : 0 < n) : ∃ g c, v = .slice (some ⟨g, 0, none⟩) n c := by
  rcases h.2 with ⟨_, h0⟩ | ⟨g, cap, cur, e, _⟩
  · omega
  · exact ⟨g, cap, e⟩
theorem own_cur {w : World} {b e k n : Nat} {v : Value} {xs : List Value} (h : w.ownsRow b e k v n xs) (hn : 0 < n) : ∃ (g c : Nat) (cs : Array Value), v = .slice (some ⟨g, 0, none⟩) n c ∧ w.heap[g]? = some (.cells cs e (0, 0)) ∧ ∀ j, j < n * k → cs[j]? = xs[j]? := by
  rcases h.2 with ⟨_, h0⟩ | ⟨g, cap, cur, e, _, h3, _, _, _, h7⟩
  · omega
  · refine ⟨g, cap, cur, e, h3, fun j hj => ?_⟩
    rw [← h7, List.getElem?_take_of_lt hj]
    simp
theorem form_of_own {w : World} {b : Nat} {v : Value} {f : List Tok} (h : w.ownsRow b 63 5 v f.length (f.flatMap tokCells)) (hn : 0 < f.length) : FormBlk w v f := by
  obtain ⟨g, c, cs, h1, h2, h3⟩ := own_cur h hn
  refine ⟨g, c, cs, h1, h2, fun i j hi hj => ?_⟩
  rw [h3 (i * 5 + j) (by omega)]
  exact flatN (f := tokCells) (m := 5) tok0 (fun _ => rfl) f i j hi hj
theorem unit_of_own {w : World} {b : Nat} {v : Value} {us : List Int} (h : w.ownsRow b 3 1 v us.length (us.map (.int .i64))) (hn : 0 < us.length) : UnitBlk w v us := by
  obtain ⟨g, c, cs, h1, h2, h3⟩ := own_cur h hn
  refine ⟨g, c, cs, h1, h2, fun i hi => ?_⟩
  rw [h3 i (by omega)]
  simp [List.getD_eq_getElem?_getD, List.getElem?_eq_getElem hi]
theorem own_ne {w : World} {b b' e e' k k' n n' : Nat} {v v' : Value} {xs xs' : List Value} (h : w.ownsRow b e k v n xs) (h' : w.ownsRow b' e' k' v' n' xs') (hne : e ≠ e') : v'.ownBlock = none ∨ v'.ownBlock ≠ v.ownBlock := by
  cases hv : v'.ownBlock with
  | none => exact Or.inl rfl
  | some g =>
    refine Or.inr fun hx => ?_
    obtain ⟨c, fz, h1⟩ := Lib.ownsRow_kind h g hx.symm
    obtain ⟨c', fz', h2⟩ := Lib.ownsRow_kind h' g hv
    rw [h1] at h2
    injection h2 with h2
    injection h2 with _ h2 _
    exact hne h2
end Go.Proofs.YtcdilamkkodjjaaGreatDoor

/- A form with more tokens behind it (reference). -/
namespace Go.Proofs.YtcdilamkkodjjaaGreatDoor
open Go.RowKit Go.BigFrame
open Rd (Tok tok0)

theorem part_any (dg : Nat) (w : World) : Calls Tryz.prog 33 #[.int .i64 dg] w fun e w' => e = .returned (tokV (Rd.partT dg)) ∧ Below w.heap.size w w' := by
  obtain ⟨V, hV, hbV, hsV, hcV⟩ := alloc_cells w #[.int .i64 4, .string ⟨#[]⟩, .int .i64 0, .int .i64 0, .int .i64 dg] 63
  have g0 := hcV 0 _ rfl
  have g1 := hcV 1 _ rfl
  have g2 := hcV 2 _ rfl
  have g3 := hcV 3 _ rfl
  have g4 := hcV 4 _ rfl
  have HV := Lib.hid hV
  have HB := Lib.hid hbV
  clear hcV hV hbV hsV
  go_enter Tryz.func33, Tryz.ntmps33
  go_wp2_with fail
  rw [HV.out]
  exact bodyPost_ret (v := .agg #[.int .i64 4, .string ⟨#[]⟩, .int .i64 0, .int .i64 0, .int .i64 dg]) (by simp [results, Tryz.results33, go_sem, g0, g1, g2, g3, g4]) rfl ⟨rfl, HB.out⟩
/-- the cells of a form in a block, one behind the other -/
theorem FormBlk.cells {w : World} {v : Value} {f : List Tok} (h : FormBlk w v f) : ∃ b c, v = .slice (some ⟨b, 0, none⟩) f.length c ∧ b < w.heap.size ∧ (∃ cs, w.heap[b]? = some (.cells cs 63 (0, 0))) ∧ ∀ j u, (f.flatMap tokCells)[j]? = some u → w.cell? ⟨b, j, none⟩ = some u := by
  obtain ⟨b, c, cs, h1, h2, h3⟩ := h
  refine ⟨b, c, h1, lt_of_block h2, ⟨cs, h2⟩, fun j u hu => ?_⟩
  have hlen : (f.flatMap tokCells).length = f.length * 5 := by
    clear h1 h2 h3 hu
    induction f with
    | nil => rfl
    | cons t f ih =>
      rw [List.flatMap_cons, List.length_append, ih]
      show 5 + f.length * 5 = (f.length + 1) * 5
      omega
  have hj : j < f.length * 5 := by rw [← hlen]; exact (List.getElem?_eq_some_iff.1 hu).1
  have hx := h3 (j / 5) (j % 5) (by omega) (by omega)
  have hy := flatN (f := tokCells) (m := 5) tok0 (fun _ => rfl) f (j / 5) (j % 5) (by omega) (by omega)
  rw [show j / 5 * 5 + j % 5 = j by omega] at hx hy
  rw [hy] at hu
  exact block_cell h2 (hx.trans hu)
theorem tokCells_one (f : List Tok) : ∀ u, u ∈ f.flatMap tokCells → u.oneCell' = true := by
  intro u hu
  obtain ⟨t, _, ht⟩ := List.mem_flatMap.1 hu
  simp only [tokCells, List.mem_cons, List.not_mem_nil, or_false] at ht
  rcases ht with rfl | rfl | rfl | rfl | rfl <;> rfl
theorem flat_len (f : List Tok) : (f.flatMap tokCells).length = f.length * 5 := by
  induction f with
  | nil => rfl
  | cons t f ih =>
    rw [List.flatMap_cons, List.length_append, ih]
    show 5 + f.length * 5 = (f.length + 1) * 5
    omega
set_option maxHeartbeats 2000000 in
set_option maxRecDepth 100000 in
theorem with_any (f t : List Tok) (vf vt : Value) (w : World) (hf : FormBlk w vf f) (ht : FormBlk w vt t) (hfl : f.length ≤ 100) (htl : t.length ≤ 100) (hf0 : 0 < f.length) (ht0 : 0 < t.length) :
    Calls Tryz.prog 31 #[vf, vt] w fun e w' => ∃ v, e = .returned v ∧ FormBlk w' v (f ++ t) ∧ Below w.heap.size w w' := by
  obtain ⟨b1, c1, rfl, hl1, _, hc1⟩ := hf.cells
  obtain ⟨b2, c2, rfl, hl2, _, hc2⟩ := ht.cells
  obtain ⟨j0, hj0, hy0, hy1, hy2⟩ := info_parts (show (Tryz.prog.info? 63).map (fun i => (i.zero, i.size, i.bytes)) = some (some (.agg #[.int .i64 0, .string ⟨#[]⟩, .int .i64 0, .int .i64 0, .int .i64 0]), 5, 48) by kernel_rfl)
  have o1 := tokCells_one f
  have o2 := tokCells_one t
  have L1 := flat_len f
  have L2 := flat_len t
  have hfa : f.flatMap tokCells ++ t.flatMap tokCells = (f ++ t).flatMap tokCells := by rw [List.flatMap_append]
  have hla : f.length + t.length = (f ++ t).length := by rw [List.length_append]
  obtain ⟨cf, hcf⟩ : ∃ x, f.flatMap tokCells = x := ⟨_, rfl⟩
  obtain ⟨ct, hct⟩ : ∃ x, t.flatMap tokCells = x := ⟨_, rfl⟩
  rw [hcf] at hc1 o1 L1 hfa
  rw [hct] at hc2 o2 L2 hfa
  obtain ⟨n1, hn1⟩ : ∃ n, f.length = n := ⟨_, rfl⟩
  obtain ⟨n2, hn2⟩ : ∃ n, t.length = n := ⟨_, rfl⟩
  rw [hn1] at hfl hf0 L1 hla ⊢
  rw [hn2] at htl ht0 L2 hla ⊢
  have hO : (w.alloc (.cells #[] 63)).ownsRow w.heap.size 63 5 (.slice (some ⟨w.heap.size, 0, none⟩) 0 0) 0 [] := World.ownsRow_made w #[] 0 (Nat.le_refl _) (by unfold maxLen; omega) rfl
  have hbA := below_al w (.cells #[] 63)
  have HC1 : Hid (∀ j u, cf[j]? = some u → (w.alloc (.cells #[] 63)).cell? ((⟨b1, 0, none⟩ : Addr).add j) = some u) := Lib.hid (fun j u hu => by
    rw [addr_add0]
    exact below_cell hbA (hc1 j u hu))
  have HC2 := Lib.hid hc2
  have HFA := Lib.hid hfa
  have HLA := Lib.hid hla
  have HO := Lib.hid hO
  have HBA := Lib.hid hbA
  clear hc1 hc2 hfa hla hcf hct hn1 hn2 hO hbA hf ht
  go_enter Tryz.func31, Tryz.ntmps31
  go_wp2_with (first
    | (at_builtin; go_loud (
       refine wpList_append_own _ rfl _ _ 60 rfl w.heap.size 63 j0 (.agg #[.int .i64 0, .string ⟨#[]⟩, .int .i64 0, .int .i64 0, .int .i64 0]) 5 48 Tryz.underlying60 hj0 hy0 hy1 hy2 rfl (by decide) (.slice (some ⟨w.heap.size, 0, none⟩) 0 0) 0 [] rfl HO.out ⟨b1, 0, none⟩ n1 c1 cf rfl (by omega) HC1.out o1 (by unfold maxLen; omega) (by omega) (by simp) ?_
       intro v' w3 hown' hgrow _
       have HW3 := Lib.hid hown'
       have HG3 := Lib.hid hgrow
       have HC3 : Hid (∀ j u, ct[j]? = some u → w3.cell? ((⟨b2, 0, none⟩ : Addr).add j) = some u) := Lib.hid (fun j u hu => by
         rw [addr_add0]
         exact hgrow.cell (below_cell HBA.out (HC2.out j u hu)) (by show some b2 ≠ some w.heap.size; intro e; injection e with e; omega))
       have hs3 := hgrow.size
       clear hown' hgrow))
    | (at_builtin; go_loud (
       refine wpList_append_own _ rfl _ _ 60 rfl w.heap.size 63 j0 (.agg #[.int .i64 0, .string ⟨#[]⟩, .int .i64 0, .int .i64 0, .int .i64 0]) 5 48 Tryz.underlying60 hj0 hy0 hy1 hy2 rfl (by decide) v' (0 + n1) ([] ++ cf) rfl HW3.out ⟨b2, 0, none⟩ n2 c2 ct rfl (by omega) HC3.out o2 (by unfold maxLen; omega) (by omega) (by simp at hs3; omega) ?_
       intro v'' w4 hown' hgrow _
       have HW4 := Lib.hid hown'
       have HG4 := Lib.hid hgrow
       clear hown' hgrow))
    | fail)
  go_ret
  have h := HW4.out
  rw [List.nil_append, HFA.out, Nat.zero_add, HLA.out] at h
  refine ⟨v'', rfl, form_of_own (f := f ++ t) h (by rw [← HLA.out]; omega), ?_⟩
  · have hb3 := HBA.out.grown HG3.out (by simp) (fun b hb => by have := HO.out.lt b hb; omega)
    exact hb3.grown HG4.out (by simp at hs3; omega) (fun b hb => by have := HW3.out.lt b hb; omega)
end Go.Proofs.YtcdilamkkodjjaaGreatDoor
