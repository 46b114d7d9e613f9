/- Several texts of this claim in one. -/
import Derived.Test.YtcdilamkkodjjaaGreatDoorDt3
import Derived.Test.YtcdilamkkodjjaaGreatDoorSt1
import Derived.Deep.QuietTactic
import Derived.BigQuiet
import Derived.Test.YtcdilamkkodjjaaGreatDoorDt4
/- The law QuantRoundsAreNear: its walk. -/
namespace Go.Proofs.YtcdilamkkodjjaaGreatDoor
open Go.RowKit Go.BigFrame

def Whole (w : World) (e : Ending) (w' : World) : Prop := e = .returned (.bool true) ∧ Below w.heap.size w w'
end Go.Proofs.YtcdilamkkodjjaaGreatDoor

/- Days and weeks: the program. -/
namespace Go.Proofs.YtcdilamkkodjjaaGreatDoor
open Go.RowKit Go.BigFrame

def dayB (n : Int) : Bool := decide (0 ≤ n) && decide (n ≤ 999999)
theorem isDay_any (n : Int) (w : World) : Calls Tryz.prog 57 #[.int .i64 n] w fun e w' => e = .returned (.bool (dayB n)) ∧ w = w' := by
  cases h : decide (0 ≤ n)
  all_goals
    go_enter Tryz.func57, Tryz.ntmps57
    go_wp2
    go_ret
    exact ⟨ret_bool (by simp [dayB, h]), rfl⟩

set_option maxHeartbeats 1000000 in
set_option maxRecDepth 100000 in
theorem dateOf_walk (day era n o k m : Int) (w : World) (h1 : -700000 ≤ day) (h2 : day ≤ 100000000) (e1 : (day + 730427) / 146097 = era) (e2 : (day + 730427) % 146097 = n) (e3 : (n - n / 1460 + n / 36524 - n / 146096) / 365 = o)
    (e4 : n - (365 * o + o / 4 - o / 100) = k) (e5 : (5 * k + 2) / 153 = m) (_n0 : 0 ≤ n) (_n1 : n ≤ 146096) (o0 : 0 ≤ o) (o1 : o ≤ 399) (k0 : 0 ≤ k) (k1 : k ≤ 365) (m0 : 0 ≤ m) (m1 : m ≤ 11) (r0 : 0 ≤ era) (r1 : era ≤ 1000) :
    Calls Tryz.prog 76 #[.int .i64 day] w fun e w' =>
      e = .returned (.tuple #[.int .i64 (if 12 < m + 3 then era * 400 + o + 1 else era * 400 + o), .int .i64 (if 12 < m + 3 then m + 3 - 12 else m + 3), .int .i64 (k - (153 * m + 2) / 5 + 1)]) ∧ w = w' := by
  by_cases h : 12 < m + 3
  · have c : decide (12 < m + 3) = true := by simpa using h
    rw [if_pos h, if_pos h]
    clear h
    go_enter Tryz.func76, Tryz.ntmps76
    go_wp2
    go_ret3
    exact ⟨rfl, rfl⟩
  · have c : decide (12 < m + 3) = false := by simpa using h
    rw [if_neg h, if_neg h]
    clear h
    go_enter Tryz.func76, Tryz.ntmps76
    go_wp2
    go_ret3
    exact ⟨rfl, rfl⟩
theorem dateOf_any (day : Int) (w : World) (h1 : -700000 ≤ day) (h2 : day ≤ 100000000) :
    Calls Tryz.prog 76 #[.int .i64 day] w fun e w' => e = .returned (.tuple #[.int .i64 (Cal.yearOf day), .int .i64 (Cal.monthOf day), .int .i64 (Cal.dateOf day)]) ∧ w = w' := by
  obtain ⟨b1, b2, b3, b4, b5, b6, b7, b8⟩ := Cal.bounds day
  exact dateOf_walk day (Cal.eraOf day) (Cal.inEra day) (Cal.yoeOf day) (Cal.doyOf day) (Cal.mpOf day) w h1 h2 rfl rfl rfl rfl rfl b1 (by omega) b3 (by omega) b5 b6 b7 b8 (by unfold Cal.eraOf; omega) (by unfold Cal.eraOf; omega)

set_option maxHeartbeats 1000000 in
set_option maxRecDepth 100000 in
theorem dayNumber_walk (y m d y' e f g : Int) (w : World) (h0 : 1 ≤ y) (h1 : y ≤ 100000) (m0 : 1 ≤ m) (m1 : m ≤ 12) (d0 : 1 ≤ d) (d1 : d ≤ 31) (hy : Hid (y' = if m < 3 then y - 1 else y)) (y0 : 0 ≤ y') (y1 : y' ≤ 100000)
    (e1 : y' / 400 = e) (e2 : y' % 400 = f) (e3 : (153 * ((m + 9) % 12) + 2) / 5 = g) (e0 : 0 ≤ e) (e10 : e ≤ 1000) (_f0 : 0 ≤ f) (_f1 : f ≤ 399) (g0 : 0 ≤ g) (g1 : g ≤ 400) :
    Calls Tryz.prog 119 #[.int .i64 y, .int .i64 m, .int .i64 d] w fun r w' =>
      r = .returned (.int .i64 (e * 146097 + f * 365 + f / 4 - f / 100 + g + d - 1 - 730427)) ∧ w = w' := by
  by_cases h : m < 3
  · have hy' := hy.out
    rw [if_pos h] at hy'
    have ey : y - 1 = y' := hy'.symm
    have c : decide (m < 3) = true := by simpa using h
    clear h hy hy'
    go_enter Tryz.func119, Tryz.ntmps119
    go_wp2
    go_ret
    exact ⟨rfl, rfl⟩
  · have hy' := hy.out
    rw [if_neg h] at hy'
    subst hy'
    have c : decide (m < 3) = false := by simpa using h
    clear h hy
    go_enter Tryz.func119, Tryz.ntmps119
    go_wp2
    go_ret
    exact ⟨rfl, rfl⟩
theorem dayNumber_any (y m d : Int) (w : World) (h0 : 1 ≤ y) (h1 : y ≤ 100000) (m0 : 1 ≤ m) (m1 : m ≤ 12) (d0 : 1 ≤ d) (d1 : d ≤ 31) :
    Calls Tryz.prog 119 #[.int .i64 y, .int .i64 m, .int .i64 d] w fun r w' => r = .returned (.int .i64 (Cal.dayNum y m d)) ∧ w = w' := by
  have hy : 0 ≤ (if m < 3 then y - 1 else y) ∧ (if m < 3 then y - 1 else y) ≤ 100000 := by split <;> omega
  obtain ⟨y', hy'⟩ : ∃ z, z = if m < 3 then y - 1 else y := ⟨_, rfl⟩
  rw [← hy'] at hy
  have := dayNumber_walk y m d y' (y' / 400) (y' % 400) ((153 * ((m + 9) % 12) + 2) / 5) w h0 h1 m0 m1 d0 d1 (Lib.hid hy') hy.1 hy.2 rfl rfl rfl (by omega) (by omega) (by omega) (by omega) (by omega) (by omega)
  unfold Cal.dayNum
  simp only [← hy']
  exact this

def okDay (n : Int) (e : Int) : Ending := .returned (.tuple #[.int .i64 n, .int .i64 e])
def weekdayF (day : Int) : Int × Int := if dayB day = true then (day % 7, 0) else (0, 9)
theorem dayB_true {n : Int} (h : dayB n = true) : 0 ≤ n ∧ n ≤ 999999 := by unfold dayB at h; simpa using h
def tri (p : Int × Int × Int) : Ending := .returned (.tuple #[.int .i64 p.1, .int .i64 p.2.1, .int .i64 p.2.2])
def thu (day : Int) : Int := day - day % 7 + 3
def weekF (day : Int) : Int × Int × Int := if dayB day = true then (Cal.yearOf (thu day), (thu day - Cal.dn (Cal.yearOf (thu day))) / 7 + 1, 0) else (0, 0, 9)
theorem dn_two : Cal.dn 2000 = -2 ∧ Cal.dn 4740 = 1000762 := by decide
theorem year_range {t : Int} (h0 : 0 ≤ t) (h1 : t ≤ 1000010) : 2000 ≤ Cal.yearOf t ∧ Cal.yearOf t ≤ 4740 := by
  have ⟨a, b⟩ := Cal.yr_spec t
  rw [Cal.yearOf_yr]
  have ⟨d1, d2⟩ := dn_two
  have c1 : 2000 ≤ Cal.yr t := Cal.dn_lt (by omega)
  have c2 : Cal.yr t ≤ 4740 := Cal.dn_lt (by have := Cal.dn_mono1 4740; omega)
  exact ⟨c1, c2⟩
end Go.Proofs.YtcdilamkkodjjaaGreatDoor

/- Zones: how they lie in memory; the program's offset. -/
namespace Go.Proofs.YtcdilamkkodjjaaGreatDoor
open Go.RowKit Go.BigFrame

/-- a slice of structs of two integers, as it lies in memory -/
structure Rows2 (w : World) (a : Option Addr) (len : Nat) (F O : Nat → Int) : Prop where
  here : 0 < len → ∃ b off, a = some ⟨b, off, none⟩ ∧ b < w.heap.size ∧ ∀ i, i < len → w.cell? ⟨b, off + i * 2, none⟩ = some (.int .i64 (F i)) ∧ w.cell? ⟨b, off + i * 2 + 1, none⟩ = some (.int .i64 (O i))
theorem Rows2.below {w w' : World} {a : Option Addr} {len B : Nat} {F O : Nat → Int} (h : Rows2 w a len F O) (hb : Below B w w') (hB : w.heap.size ≤ B) : Rows2 w' a len F O := by
  refine ⟨fun hl => ?_⟩
  obtain ⟨b, off, rfl, hlt, hc⟩ := h.here hl
  refine ⟨b, off, rfl, Nat.lt_of_lt_of_le hlt hb.size, fun i hi => ?_⟩
  obtain ⟨c0, c1⟩ := hc i hi
  exact ⟨(hb.cell (p := ⟨b, off + i * 2, none⟩) (Nat.lt_of_lt_of_le hlt hB)).trans c0, (hb.cell (p := ⟨b, off + i * 2 + 1, none⟩) (Nat.lt_of_lt_of_le hlt hB)).trans c1⟩

def offF (first moment : Int) (F O : Nat → Int) : Nat → Int
  | 0 => first
  | k + 1 => if F k ≤ moment then O k else offF first moment F O k

set_option maxHeartbeats 1000000 in
set_option maxRecDepth 100000 in
theorem offset_any (first moment : Int) (a : Option Addr) (len cap : Nat) (F O : Nat → Int) (w : World) (hl : (len : Int) ≤ 1000000) (hr : Rows2 w a len F O) :
    Calls Tryz.prog 82 #[.agg #[.int .i64 first, .slice a len cap], .int .i64 moment] w fun e w' => e = .returned (.int .i64 (offF first moment F O len)) ∧ Below w.heap.size w w' := by
  have HR := Lib.hid hr
  clear hr
  go_enter Tryz.func82, Tryz.ntmps82
  go_wp2
  go_loopw [5, 13] (fun ov iv wr => ∃ (k : Nat), ov = .int .i64 (offF first moment F O k) ∧ iv = .int .i64 k ∧ k ≤ len ∧ Below w.heap.size w wr ∧ w.heap.size < wr.heap.size) (fun _ iv _ => len - (intOf iv).toNat)
  case atStart => exact ⟨0, rfl, rfl, by omega, (Below.refl _ _).alloc (Nat.le_refl _) _, by simp⟩
  case round =>
    obtain ⟨k, rfl, rfl, hk, hb, hs⟩ := hrel
    have HB := Lib.hid hb
    by_cases hlt : k < len
    · have t1 : decide ((k : Int) < (len : Int)) = true := by rw [decide_eq_true_eq]; omega
      have HR2 := HR.out.below hb (Nat.le_refl _)
      obtain ⟨b, off, rfl, hbl, hc⟩ := HR2.here (by omega)
      obtain ⟨c0, c1⟩ := hc k hlt
      clear hb hc
      have HR3 := Lib.hid HR2
      clear HR2
      go_wp2
      · go_roundw
        case rel => exact ⟨k + 1, congrArg (Value.int .i64) (by rw [offF, if_pos (by assumption)]), by go_num, by omega, HB.out.alloc (by omega) _, by simp; omega⟩
        case measure => simp [intOf]; omega
      · go_roundw
        case rel => exact ⟨k + 1, congrArg (Value.int .i64) (by rw [offF, if_neg (by omega)]), by go_num, by omega, HB.out.alloc (by omega) _, by simp; omega⟩
        case measure => simp [intOf]; omega
    · have t1 : decide ((k : Int) < (len : Int)) = false := by rw [decide_eq_false_iff_not]; omega
      have he : k = len := by omega
      clear hlt
      go_wp2
      go_ret
      exact ⟨ret_int (by rw [he]), HB.out⟩
end Go.Proofs.YtcdilamkkodjjaaGreatDoor

/- Zones: CheckZone of the program. -/
namespace Go.Proofs.YtcdilamkkodjjaaGreatDoor
open Go.RowKit Go.BigFrame

def momB (n : Int) : Bool := decide (0 ≤ n) && decide (n ≤ 86399999999)
theorem isMoment_any (n : Int) (w : World) : Calls Tryz.prog 75 #[.int .i64 n] w fun e w' => e = .returned (.bool (momB n)) ∧ w = w' := by
  cases h : decide (0 ≤ n)
  all_goals
    go_enter Tryz.func75, Tryz.ntmps75
    go_wp2
    go_ret
    exact ⟨ret_bool (by simp [momB, h]), rfl⟩
def outB (n : Int) : Bool := decide (n < -720) || decide (840 < n)
theorem zoneOut_any (n : Int) (w : World) : Calls Tryz.prog 79 #[.int .i64 n] w fun e w' => e = .returned (.bool (outB n)) ∧ w = w' := by
  cases h : decide (n < -720)
  all_goals
    go_enter Tryz.func79, Tryz.ntmps79
    go_wp2
    go_ret
    exact ⟨ret_bool (by simp [outB, h]), rfl⟩

/-- the look at the changes from the k-th on -/
def chkLoop (F O : Nat → Int) : Nat → Nat → Int
  | 0, _ => 0
  | n + 1, k => if (!momB (F k) || outB (O k)) = true then 9 else if 0 < k ∧ F k ≤ F (k - 1) then 10 else chkLoop F O n (k + 1)
def chk (first : Int) (F O : Nat → Int) (len : Nat) : Int := if 200 < len then 3 else if outB first = true then 9 else chkLoop F O len 0

set_option maxHeartbeats 1000000 in
set_option maxRecDepth 100000 in
theorem checkZone_any (first : Int) (a : Option Addr) (len cap : Nat) (F O : Nat → Int) (w : World) (hr : Rows2 w a len F O) :
    Calls Tryz.prog 42 #[.agg #[.int .i64 first, .slice a len cap]] w fun e w' => e = .returned (.int .i64 (chk first F O len)) ∧ Below w.heap.size w w' := by
  have HR := Lib.hid hr
  clear hr
  by_cases h2 : 200 < len
  · have hz : chk first F O len = 3 := by unfold chk; rw [if_pos h2]
    rw [hz]
    have t1 : decide ((200 : Int) < (len : Int)) = true := by rw [decide_eq_true_eq]; omega
    clear h2 hz
    go_enter Tryz.func42, Tryz.ntmps42
    go_wp2
    go_ret
    exact ⟨rfl, (Below.refl _ _).alloc (Nat.le_refl _) _⟩
  · have t1 : decide ((200 : Int) < (len : Int)) = false := by rw [decide_eq_false_iff_not]; omega
    have hl : (len : Int) ≤ 200 := by omega
    have ho := Lib.hid (zoneOut_any first)
    cases h3 : outB first
    · have hz : chk first F O len = chkLoop F O len 0 := by unfold chk; rw [if_neg h2, if_neg (by simp [h3])]
      rw [hz]
      rw [h3] at ho
      clear h2 hz h3
      obtain ⟨z, hz⟩ : ∃ z, chkLoop F O len 0 = z := ⟨_, rfl⟩
      rw [hz]
      have Hz := Lib.hid hz
      clear hz
      go_enter Tryz.func42, Tryz.ntmps42
      go_wp2_with fail
      refine (ho.out _).mono ?_
      rintro e w1 ⟨rfl, rfl⟩
      go_wp2_with fail
      go_loopw [19] (fun iv wr => ∃ (k : Nat), iv = .int .i64 k ∧ k ≤ len ∧ Below w.heap.size w wr ∧ w.heap.size < wr.heap.size ∧ wr.cell? ⟨w.heap.size, 1, none⟩ = some (.slice a len cap) ∧ chkLoop F O (len - k) k = z) (fun iv _ => len - (intOf iv).toNat)
      case atStart => exact ⟨0, rfl, by omega, (Below.refl _ _).alloc (Nat.le_refl _) _, by simp, by rw [World.cell?_alloc_at _ _ _ _ rfl]; rfl, Hz.out⟩
      case round =>
        obtain ⟨k, rfl, hk, hb, hs, hbox, hrest⟩ := hrel
        have HB := Lib.hid hb
        have HZ := Lib.hid hrest
        clear hrest
        by_cases hlt : k < len
        · have t2 : decide ((k : Int) < (len : Int)) = true := by rw [decide_eq_true_eq]; omega
          have HR2 := HR.out.below hb (Nat.le_refl _)
          obtain ⟨b, off, rfl, hbl, hc⟩ := HR2.here (by omega)
          obtain ⟨c0, c1⟩ := hc k hlt
          have Hc := Lib.hid hc
          clear hb hc HR2
          have hzz := HZ.out
          rw [show len - k = (len - k - 1) + 1 by omega, chkLoop] at hzz
          have HZ2 := Lib.hid hzz
          clear hzz HZ
          have d1 := Lib.hid (isMoment_any (F k))
          have d2 := Lib.hid (zoneOut_any (O k))
          cases hm : momB (F k)
          · have hzz := HZ2.out
            rw [if_pos (by simp [hm])] at hzz
            rw [hm] at d1
            subst hzz
            clear hm HZ2 d2
            go_wp2_with fail
            refine (d1.out _).mono ?_
            rintro e w1 ⟨rfl, rfl⟩
            go_wp2_with fail
            go_ret
            exact ⟨rfl, HB.out.alloc (by omega) _⟩
          · rw [hm] at d1
            cases ho2 : outB (O k)
            · rw [ho2] at d2
              rw [if_neg (by simp [hm, ho2])] at HZ2
              clear hm ho2
              by_cases hk0 : 0 < k
              · have t3 : decide ((0 : Int) < (k : Int)) = true := by rw [decide_eq_true_eq]; omega
                have t3' : decide (0 < k) = true := by simpa using hk0
                obtain ⟨c2, _⟩ := Hc.out (k - 1) (by omega)
                have hidx : ((k : Int) - 1).toNat = k - 1 := by omega
                by_cases hord : F k ≤ F (k - 1)
                · have hzz := HZ2.out
                  rw [if_pos ⟨hk0, hord⟩] at hzz
                  have t4 : decide (F k ≤ F (k - 1)) = true := by simpa using hord
                  subst hzz
                  clear HZ2 hord
                  go_wp2_with fail
                  refine (d1.out _).mono ?_
                  rintro e w1 ⟨rfl, rfl⟩
                  go_wp2_with fail
                  refine (d2.out _).mono ?_
                  rintro e w1 ⟨rfl, rfl⟩
                  go_wp2_with fail
                  go_quiet (fail)
                  go_wp2
                  go_ret
                  exact ⟨rfl, below_drewN (HB.out.alloc (by omega) _) _⟩
                · rw [if_neg (fun h => hord h.2)] at HZ2
                  have t4 : decide (F k ≤ F (k - 1)) = false := by simpa using hord
                  clear hord
                  go_wp2_with fail
                  refine (d1.out _).mono ?_
                  rintro e w1 ⟨rfl, rfl⟩
                  go_wp2_with fail
                  refine (d2.out _).mono ?_
                  rintro e w1 ⟨rfl, rfl⟩
                  go_wp2_with fail
                  go_quiet (fail)
                  go_wp2
                  go_roundw
                  case rel => exact ⟨k + 1, by go_num, by omega, below_drewN (HB.out.alloc (by omega) _) _, by simp; omega, (World.cell?_alloc_past _ _ _ hs).trans hbox, HZ2.out⟩
                  case measure => simp [intOf]; omega
              · have t3 : decide ((0 : Int) < (k : Int)) = false := by rw [decide_eq_false_iff_not]; omega
                have t3' : decide (0 < k) = false := by simpa using hk0
                rw [if_neg (fun h => hk0 h.1)] at HZ2
                clear hk0
                go_wp2_with fail
                refine (d1.out _).mono ?_
                rintro e w1 ⟨rfl, rfl⟩
                go_wp2_with fail
                refine (d2.out _).mono ?_
                rintro e w1 ⟨rfl, rfl⟩
                go_wp2_with fail
                go_quiet (fail)
                go_wp2
                go_roundw
                case rel => exact ⟨k + 1, by go_num, by omega, below_drewN (HB.out.alloc (by omega) _) _, by simp; omega, (World.cell?_alloc_past _ _ _ hs).trans hbox, HZ2.out⟩
                case measure => simp [intOf]; omega
            · have hzz := HZ2.out
              rw [if_pos (by simp [hm, ho2])] at hzz
              rw [ho2] at d2
              subst hzz
              clear hm ho2 HZ2
              go_wp2_with fail
              refine (d1.out _).mono ?_
              rintro e w1 ⟨rfl, rfl⟩
              go_wp2_with fail
              refine (d2.out _).mono ?_
              rintro e w1 ⟨rfl, rfl⟩
              go_wp2_with fail
              go_ret
              exact ⟨rfl, HB.out.alloc (by omega) _⟩
        · have t2 : decide ((k : Int) < (len : Int)) = false := by rw [decide_eq_false_iff_not]; omega
          have hzz := HZ.out
          rw [show len - k = 0 by omega, chkLoop] at hzz
          subst hzz
          have t2' : decide (k < len) = false := by simpa using hlt
          clear hlt HZ hb
          go_wp2_with fail
          go_ret
          exact ⟨rfl, HB.out⟩
    · have hz : chk first F O len = 9 := by unfold chk; rw [if_neg h2, if_pos h3]
      rw [hz]
      rw [h3] at ho
      clear h2 hz h3
      go_enter Tryz.func42, Tryz.ntmps42
      go_wp2_with fail
      refine (ho.out _).mono ?_
      rintro e w1 ⟨rfl, rfl⟩
      go_wp2_with fail
      go_ret
      exact ⟨rfl, (Below.refl _ _).alloc (Nat.le_refl _) _⟩
end Go.Proofs.YtcdilamkkodjjaaGreatDoor

/- Zones: CheckZone and Offset of the reference. -/
namespace Go.Proofs.YtcdilamkkodjjaaGreatDoor
open Go.RowKit Go.BigFrame

theorem notMom (n : Int) : (decide (n < 0) || decide (86399999999 < n)) = !momB n := by
  unfold momB
  rw [Bool.eq_iff_iff]
  simp only [Bool.or_eq_true, decide_eq_true_eq, Bool.not_eq_true', Bool.and_eq_false_iff, decide_eq_false_iff_not]
  omega

set_option maxHeartbeats 1000000 in
set_option maxRecDepth 100000 in
theorem rcheckZone_any (first : Int) (a : Option Addr) (len cap : Nat) (F O : Nat → Int) (w : World) (hr : Rows2 w a len F O) :
    Calls Tryz.prog 46 #[.agg #[.int .i64 first, .slice a len cap]] w fun e w' => e = .returned (.int .i64 (chk first F O len)) ∧ Below w.heap.size w w' := by
  have HR := Lib.hid hr
  clear hr
  by_cases h2 : 200 < len
  · have hz : chk first F O len = 3 := by unfold chk; rw [if_pos h2]
    rw [hz]
    have t1 : decide ((200 : Int) < (len : Int)) = true := by rw [decide_eq_true_eq]; omega
    clear h2 hz
    go_enter Tryz.func46, Tryz.ntmps46
    go_wp2
    go_ret
    exact ⟨rfl, (Below.refl _ _).alloc (Nat.le_refl _) _⟩
  · have t1 : decide ((200 : Int) < (len : Int)) = false := by rw [decide_eq_false_iff_not]; omega
    have hl : (len : Int) ≤ 200 := by omega
    have ho := outside_any first (-720) 840
    rw [show (decide (first < -720) || decide (840 < first)) = outB first from rfl] at ho
    replace ho := Lib.hid ho
    cases h3 : outB first
    · have hz : chk first F O len = chkLoop F O len 0 := by unfold chk; rw [if_neg h2, if_neg (by simp [h3])]
      rw [hz]
      rw [h3] at ho
      clear h2 hz h3
      obtain ⟨z, hz⟩ : ∃ z, chkLoop F O len 0 = z := ⟨_, rfl⟩
      rw [hz]
      have Hz := Lib.hid hz
      clear hz
      go_enter Tryz.func46, Tryz.ntmps46
      go_wp2_with fail
      refine (ho.out _).mono ?_
      rintro e w1 ⟨rfl, rfl⟩
      go_wp2_with fail
      go_loopw [3, 16] (fun lv iv wr => ∃ (k : Nat) (last : Int), lv = .int .i64 last ∧ iv = .int .i64 k ∧ k ≤ len ∧ Hid (last = if k = 0 then -1 else F (k - 1)) ∧ Below w.heap.size w wr ∧ w.heap.size < wr.heap.size ∧ chkLoop F O (len - k) k = z) (fun _ iv _ => len - (intOf iv).toNat)
      case atStart => exact ⟨0, -1, rfl, rfl, by omega, Lib.hid rfl, (Below.refl _ _).alloc (Nat.le_refl _) _, by simp, Hz.out⟩
      case round =>
        obtain ⟨k, last, rfl, rfl, hk, hlast, hb, hs, hrest⟩ := hrel
        have HB := Lib.hid hb
        have HZ := Lib.hid hrest
        clear hrest
        by_cases hlt : k < len
        · have t2 : decide ((k : Int) < (len : Int)) = true := by rw [decide_eq_true_eq]; omega
          have HR2 := HR.out.below hb (Nat.le_refl _)
          obtain ⟨b, off, rfl, hbl, hc⟩ := HR2.here (by omega)
          obtain ⟨c0, c1⟩ := hc k hlt
          have Hc := Lib.hid hc
          clear hb hc HR2
          have hzz := HZ.out
          rw [show len - k = (len - k - 1) + 1 by omega, chkLoop] at hzz
          have HZ2 := Lib.hid hzz
          clear hzz HZ
          have d1 := outside_any (F k) 0 86399999999
          rw [notMom] at d1
          replace d1 := Lib.hid d1
          have d2 := outside_any (O k) (-720) 840
          rw [show (decide (O k < -720) || decide (840 < O k)) = outB (O k) from rfl] at d2
          replace d2 := Lib.hid d2
          cases hm : momB (F k)
          · have hzz := HZ2.out
            rw [if_pos (by simp [hm])] at hzz
            rw [hm] at d1
            subst hzz
            clear hm HZ2 d2
            go_wp2_with fail
            refine (d1.out _).mono ?_
            rintro e w1 ⟨rfl, rfl⟩
            go_wp2_with fail
            go_ret
            exact ⟨rfl, HB.out.alloc (by omega) _⟩
          · have hF0 : 0 ≤ F k := by simp only [momB, Bool.and_eq_true, decide_eq_true_eq] at hm; exact hm.1
            rw [hm] at d1
            cases ho2 : outB (O k)
            · rw [ho2] at d2
              rw [if_neg (by simp [hm, ho2])] at HZ2
              clear hm ho2
              have hiff : F k ≤ last ↔ (0 < k ∧ F k ≤ F (k - 1)) := by
                rw [hlast.out]
                split
                · omega
                · constructor
                  · intro h; exact ⟨by omega, h⟩
                  · exact fun h => h.2
              by_cases hord : F k ≤ last
              · have hzz := HZ2.out
                rw [if_pos (hiff.1 hord)] at hzz
                have t4 : decide (F k ≤ last) = true := by simpa using hord
                subst hzz
                clear HZ2 hord hiff
                go_wp2_with fail
                refine (d1.out _).mono ?_
                rintro e w1 ⟨rfl, rfl⟩
                go_wp2_with fail
                refine (d2.out _).mono ?_
                rintro e w1 ⟨rfl, rfl⟩
                go_wp2_with fail
                go_ret
                exact ⟨rfl, HB.out.alloc (by omega) _⟩
              · rw [if_neg (fun h => hord (hiff.2 h))] at HZ2
                have t4 : decide (F k ≤ last) = false := by simpa using hord
                clear hord hiff
                go_wp2_with fail
                refine (d1.out _).mono ?_
                rintro e w1 ⟨rfl, rfl⟩
                go_wp2_with fail
                refine (d2.out _).mono ?_
                rintro e w1 ⟨rfl, rfl⟩
                go_wp2_with fail
                go_roundw
                case rel => exact ⟨k + 1, F k, rfl, by go_num, by omega, Lib.hid (by simp), HB.out.alloc (by omega) _, by simp; omega, HZ2.out⟩
                case measure => simp [intOf]; omega
            · have hzz := HZ2.out
              rw [if_pos (by simp [hm, ho2])] at hzz
              rw [ho2] at d2
              subst hzz
              clear hm ho2 HZ2
              go_wp2_with fail
              refine (d1.out _).mono ?_
              rintro e w1 ⟨rfl, rfl⟩
              go_wp2_with fail
              refine (d2.out _).mono ?_
              rintro e w1 ⟨rfl, rfl⟩
              go_wp2_with fail
              go_ret
              exact ⟨rfl, HB.out.alloc (by omega) _⟩
        · have t2 : decide ((k : Int) < (len : Int)) = false := by rw [decide_eq_false_iff_not]; omega
          have hzz := HZ.out
          rw [show len - k = 0 by omega, chkLoop] at hzz
          subst hzz
          have t2' : decide (k < len) = false := by simpa using hlt
          clear hlt HZ hb
          go_wp2_with fail
          go_ret
          exact ⟨rfl, HB.out⟩
    · have hz : chk first F O len = 9 := by unfold chk; rw [if_neg h2, if_pos h3]
      rw [hz]
      rw [h3] at ho
      clear h2 hz h3
      go_enter Tryz.func46, Tryz.ntmps46
      go_wp2_with fail
      refine (ho.out _).mono ?_
      rintro e w1 ⟨rfl, rfl⟩
      go_wp2_with fail
      go_ret
      exact ⟨rfl, (Below.refl _ _).alloc (Nat.le_refl _) _⟩
end Go.Proofs.YtcdilamkkodjjaaGreatDoor

/- Zones: Offset and Local of the program and of the reference. -/
namespace Go.Proofs.YtcdilamkkodjjaaGreatDoor
open Go.RowKit Go.BigFrame

theorem chkLoop_zero {F O : Nat → Int} : ∀ {n k : Nat}, chkLoop F O n k = 0 → ∀ j, k ≤ j → j < k + n → momB (F j) = true ∧ outB (O j) = false ∧ (0 < j → F (j - 1) < F j)
  | 0, _, _, _, _, _ => by omega
  | n + 1, k, h, j, h1, h2 => by
    rw [chkLoop] at h
    split at h
    · cases h
    · rename_i hn
      split at h
      · cases h
      · rename_i hn2
        by_cases hj : j = k
        · subst hj
          simp at hn
          exact ⟨hn.1, hn.2, fun h0 => by
            rcases Int.lt_or_le (F (j - 1)) (F j) with h3 | h3
            · exact h3
            · exact absurd ⟨h0, h3⟩ hn2⟩
        · exact chkLoop_zero h j (by omega) (by omega)
theorem chk_zero {first : Int} {F O : Nat → Int} {len : Nat} (h : chk first F O len = 0) : len ≤ 200 ∧ outB first = false ∧ ∀ j, j < len → momB (F j) = true ∧ outB (O j) = false ∧ (0 < j → F (j - 1) < F j) := by
  unfold chk at h
  split at h
  · cases h
  · split at h
    · cases h
    · rename_i h1 h2
      exact ⟨by omega, by simpa using h2, fun j hj => chkLoop_zero h j (Nat.zero_le _) (by omega)⟩
theorem outB_false {n : Int} (h : outB n = false) : -720 ≤ n ∧ n ≤ 840 := by
  simp [outB] at h; exact h
theorem momB_true {n : Int} (h : momB n = true) : 0 ≤ n ∧ n ≤ 86399999999 := by
  simp only [momB, Bool.and_eq_true, decide_eq_true_eq] at h; exact h
theorem offF_bounds {first moment : Int} {F O : Nat → Int} : ∀ {len : Nat}, outB first = false → (∀ j, j < len → outB (O j) = false) → outB (offF first moment F O len) = false
  | 0, h, _ => h
  | k + 1, h, ho => by
    rw [offF]
    split
    · exact ho k (by omega)
    · exact offF_bounds h (fun j hj => ho j (by omega))
def offsetR (first : Int) (F O : Nat → Int) (len : Nat) (moment : Int) : Int × Int :=
  if chk first F O len = 0 then (if momB moment = true then (offF first moment F O len, 0) else (0, 9)) else (0, chk first F O len)
theorem offsetR_bounds (first : Int) (F O : Nat → Int) (len : Nat) (moment : Int) (h : (offsetR first F O len moment).2 = 0) :
    momB moment = true ∧ outB (offsetR first F O len moment).1 = false ∧ chk first F O len = 0 := by
  unfold offsetR at h ⊢
  split at h
  · rename_i h0
    rw [if_pos h0]
    split at h
    · rename_i h1
      rw [if_pos h1]
      obtain ⟨_, a, b⟩ := chk_zero h0
      exact ⟨h1, offF_bounds a (fun j hj => (b j hj).2.1), h0⟩
    · cases h
  · rename_i h0
    exact absurd h h0
theorem chk_cases (first : Int) (F O : Nat → Int) (len : Nat) : 0 ≤ chk first F O len := by
  have h : ∀ n k, 0 ≤ chkLoop F O n k := by
    intro n
    induction n with
    | zero => intro k; exact Int.le_refl _
    | succ n ih => intro k; rw [chkLoop]; split; exact (by decide); split; exact (by decide); exact ih _
  unfold chk
  split
  · decide
  · split
    · decide
    · exact h _ _

set_option maxHeartbeats 1000000 in
set_option maxRecDepth 100000 in
theorem zoffset_any (first moment : Int) (a : Option Addr) (len cap : Nat) (F O : Nat → Int) (w : World) (hr : Rows2 w a len F O) :
    Calls Tryz.prog 74 #[.agg #[.int .i64 first, .slice a len cap], .int .i64 moment] w fun e w' => e = scRet (offsetR first F O len moment) ∧ Below w.heap.size w w' := by
  have HR := Lib.hid hr
  have hw1 : Below w.heap.size w (w.alloc (.cells #[.int .i64 first, .slice a len cap] 31)) := (Below.refl _ _).alloc (Nat.le_refl _) _
  have HR1 := hr.below hw1 (Nat.le_refl _)
  have hc := Lib.hid (checkZone_any first a len cap F O _ HR1)
  have hm := Lib.hid (isMoment_any moment)
  unfold offsetR
  have hn := chk_cases first F O len
  by_cases h0 : chk first F O len = 0
  · rw [if_pos h0]
    have hlen := (chk_zero h0).1
    rw [h0] at hc
    clear hn h0 hr
    cases h1 : momB moment
    · rw [if_neg (by simp)]
      rw [h1] at hm
      clear h1
      go_enter Tryz.func74, Tryz.ntmps74
      go_wp2_with fail
      refine hc.out.mono ?_
      rintro e w1 ⟨rfl, hb1⟩
      have HB1 := Lib.hid (hw1.trans (hb1.mono (by simp)))
      clear hb1
      go_wp2_with fail
      refine (hm.out _).mono ?_
      rintro e w2 ⟨rfl, rfl⟩
      go_wp2_with fail
      go_ret2
      exact ⟨rfl, HB1.out⟩
    · rw [if_pos rfl]
      rw [h1] at hm
      clear h1
      go_enter Tryz.func74, Tryz.ntmps74
      go_wp2_with fail
      refine hc.out.mono ?_
      rintro e w1 ⟨rfl, hb1⟩
      have HB1 := Lib.hid (hw1.trans (hb1.mono (by simp)))
      have c0 : w1.cell? ⟨w.heap.size, 0, none⟩ = some (.int .i64 first) := (hb1.cell (p := ⟨w.heap.size, 0, none⟩) (by simp)).trans (by rw [World.cell?_alloc_at _ _ _ _ rfl]; rfl)
      have c1 : w1.cell? ⟨w.heap.size, 1, none⟩ = some (.slice a len cap) := (hb1.cell (p := ⟨w.heap.size, 1, none⟩) (by simp)).trans (by rw [World.cell?_alloc_at _ _ _ _ rfl]; rfl)
      have ho := Lib.hid (offset_any first moment a len cap F O w1 (by omega) (HR.out.below HB1.out (Nat.le_refl _)))
      have hs := HB1.out.size
      clear hb1
      go_wp2_with fail
      refine (hm.out _).mono ?_
      rintro e w2 ⟨rfl, rfl⟩
      go_wp2_with fail
      refine ho.out.mono ?_
      rintro e w3 ⟨rfl, hb3⟩
      have HB3 := Lib.hid (HB1.out.trans (hb3.mono hs))
      clear hb3
      go_wp2_with fail
      go_ret2
      exact ⟨rfl, HB3.out⟩
  · rw [if_neg h0]
    generalize chk first F O len = z at hc h0 hn ⊢
    have hz : (z == 0) = false := by simpa using h0
    have hz' : (z != 0) = true := by simpa using h0
    clear h0 hr
    go_enter Tryz.func74, Tryz.ntmps74
    go_wp2_with fail
    refine hc.out.mono ?_
    rintro e w1 ⟨rfl, hb1⟩
    have HB1 := Lib.hid (hw1.trans (hb1.mono (by simp)))
    clear hb1
    go_wp2_with fail
    go_ret2
    exact ⟨rfl, HB1.out⟩
end Go.Proofs.YtcdilamkkodjjaaGreatDoor

/- Zones: Offset of the reference; Local of both. -/
namespace Go.Proofs.YtcdilamkkodjjaaGreatDoor
open Go.RowKit Go.BigFrame

set_option maxHeartbeats 1000000 in
set_option maxRecDepth 100000 in
theorem rzoffset_any (first moment : Int) (a : Option Addr) (len cap : Nat) (F O : Nat → Int) (w : World) (hr : Rows2 w a len F O) :
    Calls Tryz.prog 77 #[.agg #[.int .i64 first, .slice a len cap], .int .i64 moment] w fun e w' => e = scRet (offsetR first F O len moment) ∧ Below w.heap.size w w' := by
  have HR := Lib.hid hr
  have hw1 : Below w.heap.size w (w.alloc (.cells #[.int .i64 first, .slice a len cap] 31)) := (Below.refl _ _).alloc (Nat.le_refl _) _
  have HR1 := hr.below hw1 (Nat.le_refl _)
  have hc := Lib.hid (rcheckZone_any first a len cap F O _ HR1)
  have hm := outside_any moment 0 86399999999
  rw [notMom] at hm
  replace hm := Lib.hid hm
  unfold offsetR
  have hn := chk_cases first F O len
  by_cases h0 : chk first F O len = 0
  · rw [if_pos h0]
    have hlen := (chk_zero h0).1
    have hl : (len : Int) ≤ 200 := by omega
    rw [h0] at hc
    clear hn h0 hr
    cases h1 : momB moment
    · rw [if_neg (by simp)]
      rw [h1] at hm
      clear h1
      go_enter Tryz.func77, Tryz.ntmps77
      go_wp2_with fail
      refine hc.out.mono ?_
      rintro e w1 ⟨rfl, hb1⟩
      have HB1 := Lib.hid (hw1.trans (hb1.mono (by simp)))
      clear hb1
      go_wp2_with fail
      refine (hm.out _).mono ?_
      rintro e w2 ⟨rfl, rfl⟩
      go_wp2_with fail
      go_ret2
      exact ⟨rfl, HB1.out⟩
    · rw [if_pos rfl]
      rw [h1] at hm
      clear h1
      go_enter Tryz.func77, Tryz.ntmps77
      go_wp2_with fail
      refine hc.out.mono ?_
      rintro e w1 ⟨rfl, hb1⟩
      have HB1 := Lib.hid (hw1.trans (hb1.mono (by simp)))
      have c0 : w1.cell? ⟨w.heap.size, 0, none⟩ = some (.int .i64 first) := (hb1.cell (p := ⟨w.heap.size, 0, none⟩) (by simp)).trans (by rw [World.cell?_alloc_at _ _ _ _ rfl]; rfl)
      have c1 : w1.cell? ⟨w.heap.size, 1, none⟩ = some (.slice a len cap) := (hb1.cell (p := ⟨w.heap.size, 1, none⟩) (by simp)).trans (by rw [World.cell?_alloc_at _ _ _ _ rfl]; rfl)
      have hs := hb1.size
      simp only [World.size_alloc] at hs
      clear hb1
      go_wp2_with fail
      refine (hm.out _).mono ?_
      rintro e w2 ⟨rfl, rfl⟩
      go_wp2_with fail
      go_loopw [7, 22] (fun ov iv wr => ∃ (k : Nat), ov = .int .i64 (offF first moment F O k) ∧ iv = .int .i64 k ∧ k ≤ len ∧ Below w.heap.size w wr ∧ w.heap.size < wr.heap.size) (fun _ iv _ => len - (intOf iv).toNat)
      case atStart => exact ⟨0, rfl, rfl, by omega, HB1.out, by omega⟩
      case round =>
        obtain ⟨k, rfl, rfl, hk, hb, hs⟩ := hrel
        have HB := Lib.hid hb
        by_cases hlt : k < len
        · have t1 : decide ((k : Int) < (len : Int)) = true := by rw [decide_eq_true_eq]; omega
          have HR2 := HR.out.below hb (Nat.le_refl _)
          obtain ⟨b, off, rfl, hbl, hc⟩ := HR2.here (by omega)
          obtain ⟨c0, c1⟩ := hc k hlt
          clear hb hc HR2
          go_wp2
          · go_roundw
            case rel => exact ⟨k + 1, congrArg (Value.int .i64) (by rw [offF, if_pos (by assumption)]), by go_num, by omega, HB.out.alloc (by omega) _, by simp; omega⟩
            case measure => simp [intOf]; omega
          · go_roundw
            case rel => exact ⟨k + 1, congrArg (Value.int .i64) (by rw [offF, if_neg (by omega)]), by go_num, by omega, HB.out.alloc (by omega) _, by simp; omega⟩
            case measure => simp [intOf]; omega
        · have t1 : decide ((k : Int) < (len : Int)) = false := by rw [decide_eq_false_iff_not]; omega
          have he : k = len := by omega
          clear hlt
          go_wp2
          go_ret2
          exact ⟨by rw [he]; rfl, HB.out⟩
  · rw [if_neg h0]
    generalize chk first F O len = z at hc h0 hn ⊢
    have hz : (z == 0) = false := by simpa using h0
    have hz' : (z != 0) = true := by simpa using h0
    clear h0 hr
    go_enter Tryz.func77, Tryz.ntmps77
    go_wp2_with fail
    refine hc.out.mono ?_
    rintro e w1 ⟨rfl, hb1⟩
    have HB1 := Lib.hid (hw1.trans (hb1.mono (by simp)))
    clear hb1
    go_wp2_with fail
    go_ret2
    exact ⟨rfl, HB1.out⟩

def localR (first : Int) (F O : Nat → Int) (len : Nat) (moment : Int) : Int × Int × Int :=
  if (offsetR first F O len moment).2 = 0 then
    (if momB (moment + 60 * (offsetR first F O len moment).1) = true then ((moment + 60 * (offsetR first F O len moment).1) / 86400, (moment + 60 * (offsetR first F O len moment).1) % 86400, 0) else (0, 0, 9))
  else (0, 0, (offsetR first F O len moment).2)

set_option maxHeartbeats 1000000 in
set_option maxRecDepth 100000 in
theorem local_any (first moment : Int) (a : Option Addr) (len cap : Nat) (F O : Nat → Int) (w : World) (hr : Rows2 w a len F O) :
    Calls Tryz.prog 36 #[.agg #[.int .i64 first, .slice a len cap], .int .i64 moment] w fun e w' => e = tri (localR first F O len moment) ∧ Below w.heap.size w w' := by
  have hw1 : Below w.heap.size w (w.alloc (.cells #[.int .i64 first, .slice a len cap] 31)) := (Below.refl _ _).alloc (Nat.le_refl _) _
  have HR1 := hr.below hw1 (Nat.le_refl _)
  have hc := Lib.hid (zoffset_any first moment a len cap F O _ HR1)
  have hb := offsetR_bounds first F O len moment
  unfold localR
  generalize offsetR first F O len moment = p at hc hb ⊢
  obtain ⟨n, z⟩ := p
  unfold scRet at hc
  simp only at hc hb ⊢
  by_cases h0 : z = 0
  · subst h0
    obtain ⟨b1, b2, _⟩ := hb rfl
    obtain ⟨n0, n1⟩ := outB_false b2
    obtain ⟨m0, m1⟩ := momB_true b1
    rw [if_pos rfl]
    have hm := Lib.hid (isMoment_any (moment + 60 * n))
    clear hb b1 b2 hr
    cases h1 : momB (moment + 60 * n)
    · rw [if_neg (by simp)]
      rw [h1] at hm
      clear h1
      go_enter Tryz.func36, Tryz.ntmps36
      go_wp2_with fail
      refine hc.out.mono ?_
      rintro e w1 ⟨rfl, hb1⟩
      have HB1 := Lib.hid (hw1.trans (hb1.mono (by simp)))
      clear hb1
      go_wp2_with fail
      refine (hm.out _).mono ?_
      rintro e w2 ⟨rfl, rfl⟩
      go_wp2_with fail
      go_ret3
      exact ⟨rfl, HB1.out⟩
    · rw [if_pos rfl]
      rw [h1] at hm
      obtain ⟨q0, q1⟩ := momB_true h1
      clear h1
      go_enter Tryz.func36, Tryz.ntmps36
      go_wp2_with fail
      refine hc.out.mono ?_
      rintro e w1 ⟨rfl, hb1⟩
      have HB1 := Lib.hid (hw1.trans (hb1.mono (by simp)))
      clear hb1
      go_wp2_with fail
      refine (hm.out _).mono ?_
      rintro e w2 ⟨rfl, rfl⟩
      go_wp2_with fail
      go_ret3
      exact ⟨rfl, HB1.out⟩
  · rw [if_neg h0]
    have hz : (z == 0) = false := by simpa using h0
    have hz' : (z != 0) = true := by simpa using h0
    clear h0 hr hb
    go_enter Tryz.func36, Tryz.ntmps36
    go_wp2_with fail
    refine hc.out.mono ?_
    rintro e w1 ⟨rfl, hb1⟩
    have HB1 := Lib.hid (hw1.trans (hb1.mono (by simp)))
    clear hb1
    go_wp2_with fail
    go_ret3
    exact ⟨rfl, HB1.out⟩
set_option maxHeartbeats 1000000 in
set_option maxRecDepth 100000 in
theorem rlocal_any (first moment : Int) (a : Option Addr) (len cap : Nat) (F O : Nat → Int) (w : World) (hr : Rows2 w a len F O) :
    Calls Tryz.prog 39 #[.agg #[.int .i64 first, .slice a len cap], .int .i64 moment] w fun e w' => e = tri (localR first F O len moment) ∧ Below w.heap.size w w' := by
  have hw1 : Below w.heap.size w (w.alloc (.cells #[.int .i64 first, .slice a len cap] 31)) := (Below.refl _ _).alloc (Nat.le_refl _) _
  have HR1 := hr.below hw1 (Nat.le_refl _)
  have hc := Lib.hid (rzoffset_any first moment a len cap F O _ HR1)
  have hb := offsetR_bounds first F O len moment
  unfold localR
  generalize offsetR first F O len moment = p at hc hb ⊢
  obtain ⟨n, z⟩ := p
  unfold scRet at hc
  simp only at hc hb ⊢
  by_cases h0 : z = 0
  · subst h0
    obtain ⟨b1, b2, _⟩ := hb rfl
    obtain ⟨n0, n1⟩ := outB_false b2
    obtain ⟨m0, m1⟩ := momB_true b1
    rw [if_pos rfl]
    have hm := outside_any (moment + 60 * n) 0 86399999999
    rw [notMom] at hm
    replace hm := Lib.hid hm
    clear hb b1 b2 hr
    cases h1 : momB (moment + 60 * n)
    · rw [if_neg (by simp)]
      rw [h1] at hm
      clear h1
      go_enter Tryz.func39, Tryz.ntmps39
      go_wp2_with fail
      refine hc.out.mono ?_
      rintro e w1 ⟨rfl, hb1⟩
      have HB1 := Lib.hid (hw1.trans (hb1.mono (by simp)))
      clear hb1
      go_wp2_with fail
      refine (hm.out _).mono ?_
      rintro e w2 ⟨rfl, rfl⟩
      go_wp2_with fail
      go_ret3
      exact ⟨rfl, HB1.out⟩
    · rw [if_pos rfl]
      rw [h1] at hm
      obtain ⟨q0, q1⟩ := momB_true h1
      clear h1
      go_enter Tryz.func39, Tryz.ntmps39
      go_wp2_with fail
      refine hc.out.mono ?_
      rintro e w1 ⟨rfl, hb1⟩
      have HB1 := Lib.hid (hw1.trans (hb1.mono (by simp)))
      clear hb1
      go_wp2_with fail
      refine (hm.out _).mono ?_
      rintro e w2 ⟨rfl, rfl⟩
      go_wp2_with fail
      go_ret3
      exact ⟨rfl, HB1.out⟩
  · rw [if_neg h0]
    have hz : (z == 0) = false := by simpa using h0
    have hz' : (z != 0) = true := by simpa using h0
    clear h0 hr hb
    go_enter Tryz.func39, Tryz.ntmps39
    go_wp2_with fail
    refine hc.out.mono ?_
    rintro e w1 ⟨rfl, hb1⟩
    have HB1 := Lib.hid (hw1.trans (hb1.mono (by simp)))
    clear hb1
    go_wp2_with fail
    go_ret3
    exact ⟨rfl, HB1.out⟩
end Go.Proofs.YtcdilamkkodjjaaGreatDoor

/- Days and weeks: the reference. -/
namespace Go.Proofs.YtcdilamkkodjjaaGreatDoor
open Go.RowKit Go.BigFrame

theorem leap_any (y : Int) (w : World) (h0 : 0 ≤ y) : Calls Tryz.prog 139 #[.int .i64 y] w fun e w' => e = .returned (.bool (Cal.leap y)) ∧ w = w' := by
  cases h1 : (y % 4 == 0)
  · go_enter Tryz.func139, Tryz.ntmps139
    go_wp2
    go_ret
    exact ⟨ret_bool (by simp [Cal.leap, h1]), rfl⟩
  · cases h2 : (y % 100 != 0)
    · go_enter Tryz.func139, Tryz.ntmps139
      go_wp2
      go_ret
      exact ⟨ret_bool (by simp [Cal.leap, h1, h2]), rfl⟩
    · go_enter Tryz.func139, Tryz.ntmps139
      go_wp2
      go_ret
      exact ⟨ret_bool (by simp [Cal.leap, h1, h2]), rfl⟩
theorem yearLong_any (y : Int) (w : World) (h0 : 0 ≤ y) : Calls Tryz.prog 117 #[.int .i64 y] w fun e w' => e = .returned (.int .i64 (Cal.yl y)) ∧ w = w' := by
  have hl := Lib.hid (leap_any y)
  unfold Cal.yl
  cases h : Cal.leap y
  all_goals
    rw [h] at hl
    clear h
    go_enter Tryz.func117, Tryz.ntmps117
    go_wp2_with fail
    refine (hl.out _ h0).mono ?_
    rintro e w1 ⟨rfl, rfl⟩
    go_wp2
    go_ret
    exact ⟨rfl, rfl⟩
theorem monthLong_any (y m : Int) (w : World) (h0 : 0 ≤ y) : Calls Tryz.prog 118 #[.int .i64 y, .int .i64 m] w fun e w' => e = .returned (.int .i64 (Cal.ml y m)) ∧ w = w' := by
  have hy := Lib.hid (yearLong_any y)
  have hc := Cal.yl_cases y
  have c0 : 365 ≤ Cal.yl y := by omega
  have c1 : Cal.yl y ≤ 366 := by omega
  clear hc
  unfold Cal.ml
  generalize Cal.yl y = L at hy c0 c1 ⊢
  cases h2 : (m == 2)
  · have n2 : m ≠ 2 := by simpa using h2
    rw [if_neg n2]
    clear n2
    cases h4 : (m == 4)
    · cases h6 : (m == 6)
      · cases h9 : (m == 9)
        · cases h11 : (m == 11)
          · rw [if_neg (by simp only [beq_eq_false_iff_ne] at h4 h6 h9 h11; omega)]
            go_enter Tryz.func118, Tryz.ntmps118
            go_wp2
            go_ret
            exact ⟨rfl, rfl⟩
          · rw [if_pos (by simp only [beq_iff_eq] at h11; omega)]
            go_enter Tryz.func118, Tryz.ntmps118
            go_wp2
            go_ret
            exact ⟨rfl, rfl⟩
        · rw [if_pos (by simp only [beq_iff_eq] at h9; omega)]
          go_enter Tryz.func118, Tryz.ntmps118
          go_wp2
          go_ret
          exact ⟨rfl, rfl⟩
      · rw [if_pos (by simp only [beq_iff_eq] at h6; omega)]
        go_enter Tryz.func118, Tryz.ntmps118
        go_wp2
        go_ret
        exact ⟨rfl, rfl⟩
    · rw [if_pos (by simp only [beq_iff_eq] at h4; omega)]
      go_enter Tryz.func118, Tryz.ntmps118
      go_wp2
      go_ret
      exact ⟨rfl, rfl⟩
  · have n2 : m = 2 := by simpa using h2
    rw [if_pos n2]
    clear n2
    go_enter Tryz.func118, Tryz.ntmps118
    go_wp2_with fail
    refine (hy.out _ h0).mono ?_
    rintro e w1 ⟨rfl, rfl⟩
    go_wp2
    go_ret
    exact ⟨rfl, rfl⟩

set_option maxHeartbeats 1000000 in
set_option maxRecDepth 100000 in
theorem before_any (y : Int) (w : World) (h0 : 2000 ≤ y) (h1 : y ≤ 100000) : Calls Tryz.prog 122 #[.int .i64 y] w fun e w' => e = .returned (.int .i64 (Cal.dn y + 2)) ∧ w' = w := by
  obtain ⟨Q, eQ⟩ : ∃ Q, (y - 2000) / 400 = Q := ⟨_, rfl⟩
  obtain ⟨R, eR⟩ : ∃ R : Nat, (y - 2000) % 400 = R := ⟨((y - 2000) % 400).toNat, by omega⟩
  have q0 : 0 ≤ Q := by omega
  have q1 : Q ≤ 300 := by omega
  have r1 : (R : Int) ≤ 399 := by omega
  have hb := Cal.before_dn y
  rw [eQ, eR, Int.toNat_natCast] at hb
  have Hb := Lib.hid hb
  clear hb
  go_enter Tryz.func122, Tryz.ntmps122
  go_wp2_with fail
  go_loop [3, 4] (fun nv yv => ∃ (n : Int) (k : Nat), nv = .int .i64 n ∧ yv = .int .i64 (2000 + (k : Int)) ∧ k ≤ R ∧ n = Q * 146097 + Cal.suml 2000 k) (fun _ yv => (2000 + (R : Int) - intOf yv).toNat)
  case atStart => exact ⟨Q * 146097, 0, rfl, rfl, by omega, by simp [Cal.suml]⟩
  case round =>
    obtain ⟨n, k, rfl, rfl, hk, hn⟩ := hrel
    have hs := Cal.suml_dn 2000 k
    have hd1 := Cal.dn_mono 2000 k
    have hd2 : Cal.dn (2000 + k) ≤ Cal.dn 2000 + 366 * k := by
      clear hs hn hd1 hk
      induction k with
      | zero => simp
      | succ k ih => have := Cal.dn_mono1 (2000 + k); rw [show (2000 : Int) + ((k + 1 : Nat) : Int) = 2000 + k + 1 by omega]; omega
    have b0 : 0 ≤ n := by omega
    have b1 : n ≤ 100000000 := by omega
    have Hn := Lib.hid hn
    clear hs hd1 hd2 hn
    by_cases hlt : k < R
    · have c1 : decide ((2000 : Int) + k < 2000 + R) = true := by rw [decide_eq_true_eq]; omega
      have c2 : decide (k < R) = true := by simpa using hlt
      have hyl := Lib.hid (yearLong_any (2000 + (k : Int)))
      have hyc := Cal.yl_cases (2000 + (k : Int))
      have hsucc := Lib.hid (show Cal.suml 2000 (k + 1) = Cal.suml 2000 k + Cal.yl (2000 + k) from rfl)
      have yc0 : 365 ≤ Cal.yl (2000 + (k : Int)) := by omega
      have yc1 : Cal.yl (2000 + (k : Int)) ≤ 366 := by omega
      generalize Cal.yl (2000 + (k : Int)) = L at hyl hsucc yc0 yc1 hyc
      clear hyc
      go_wp2_with fail
      refine (hyl.out _ (by omega)).mono ?_
      rintro e w1 ⟨rfl, rfl⟩
      go_wp2
      go_round
      case rel =>
        refine ⟨trivial, ?_⟩
        rw [eQ]
        repeat apply Exists.intro
        exact ⟨⟨n + L, k + 1, rfl, congrArg (Value.int .i64) (by omega), by omega, by rw [hsucc.out, Hn.out]; omega⟩, rfl⟩
      case measure => simp [intOf]; omega
    · have c1 : decide ((2000 : Int) + k < 2000 + R) = false := by rw [decide_eq_false_iff_not]; omega
      have c2 : decide (k < R) = false := by simpa using hlt
      have he : k = R := by omega
      have hfin := Lib.hid (show n = Cal.dn y + 2 by rw [Hn.out, he, Hb.out])
      clear he
      go_wp2
      go_ret
      exact ⟨ret_int hfin.out, rfl⟩
set_option maxRecDepth 100000 in
theorem dayOf_jan4 (y : Int) (w : World) (h0 : 2000 ≤ y) (h1 : y ≤ 4740) : Calls Tryz.prog 85 #[.int .i64 y, .int .i64 1, .int .i64 4] w fun e w' => e = .returned (.tuple #[.int .i64 (Cal.dn y + 3), .bool true]) ∧ w = w' := by
  have ho := Lib.hid (outside_any y 1990 4740)
  rw [show (decide (y < 1990) || decide (4740 < y)) = false by simp; omega] at ho
  have ho2 := Lib.hid (outside_any 1 1 12)
  rw [show (decide ((1 : Int) < 1) || decide ((12 : Int) < 1)) = false from rfl] at ho2
  have hm := Lib.hid (monthLong_any y 1)
  rw [show Cal.ml y 1 = 31 from rfl] at hm
  have ho3 := Lib.hid (outside_any 4 1 31)
  rw [show (decide ((4 : Int) < 1) || decide ((31 : Int) < 4)) = false from rfl] at ho3
  have hb := Lib.hid (before_any y)
  have hd := Cal.dn_mono 2000 (y - 2000).toNat
  rw [show 2000 + (((y - 2000).toNat : Nat) : Int) = y by omega] at hd
  have d0 : -2 ≤ Cal.dn y := by have := dn_two.1; omega
  have d1 : Cal.dn y ≤ 10000000 := by
    have h := Cal.dn_mono y (4740 - y).toNat
    rw [show y + (((4740 - y).toNat : Nat) : Int) = 4740 by omega] at h
    have := dn_two.2; omega
  clear hd
  generalize Cal.dn y = D at hb d0 d1 ⊢
  have c1 : decide (y < 2000) = false := by rw [decide_eq_false_iff_not]; omega
  go_enter Tryz.func85, Tryz.ntmps85
  go_wp2_with fail
  refine (ho.out _).mono ?_
  rintro e w1 ⟨rfl, rfl⟩
  go_wp2_with fail
  refine (ho2.out _).mono ?_
  rintro e w1 ⟨rfl, rfl⟩
  go_wp2_with fail
  refine (hm.out _ (by omega)).mono ?_
  rintro e w1 ⟨rfl, rfl⟩
  go_wp2_with fail
  refine (ho3.out _).mono ?_
  rintro e w1 ⟨rfl, rfl⟩
  go_wp2_with fail
  refine (hb.out _ (by omega) (by omega)).mono ?_
  rintro e w1 ⟨rfl, rfl⟩
  go_wp2_with fail
  refine wp_loop_rounds 1 ?_
  rw [rounds_succ]
  go_wp2
  go_ret2
  exact ⟨congrArg (fun n => Ending.returned (.tuple #[.int .i64 n, .bool true])) (by omega), rfl⟩
end Go.Proofs.YtcdilamkkodjjaaGreatDoor

/- Days and weeks: the reference's dates and weeks, the program's WeekDay. -/
namespace Go.Proofs.YtcdilamkkodjjaaGreatDoor
open Go.RowKit Go.BigFrame

theorem results_tmp4 {fn : Func} {t u v x : Tmp} (h : fn.results = #[.tmp t, .tmp u, .tmp v, .tmp x]) (tmps : Array Value) (P : Program) (w : World) :
    (results fn tmps).run P w = .ok (.tuple #[tmps.getD t undef, tmps.getD u undef, tmps.getD v undef, tmps.getD x undef]) w := by
  simp [results, h]
/-- what the reference tells of a day's date: year, month, date. -/
structure DateIs (day : Int) (y m d : Int) : Prop where
  year : y = Cal.yr day
  ex : ∃ k : Nat, k ≤ 11 ∧ m = (k : Int) + 1 ∧ Cal.cum y k ≤ day - Cal.dn y ∧ day - Cal.dn y < Cal.cum y (k + 1) ∧ d = day - Cal.dn y - Cal.cum y k + 1
theorem DateIs.mk' {day y m d : Int} {k : Nat} (h : y = Cal.yr day) (hk : k ≤ 11) (hm : m = (k : Int) + 1) (h1 : Cal.cum y k ≤ day - Cal.dn y) (h2 : day - Cal.dn y < Cal.cum y (k + 1)) (h3 : d = day - Cal.dn y - Cal.cum y k + 1) : DateIs day y m d := ⟨h, k, hk, hm, h1, h2, h3⟩

theorem suml_ge (y : Int) (k : Nat) : 365 * (k : Int) ≤ Cal.suml y k := by
  have := Cal.dn_mono y k
  rw [Cal.suml_dn]; omega
theorem cum_nonneg (y : Int) (k : Nat) : 0 ≤ Cal.cum y k := by
  induction k with
  | zero => simp [Cal.cum]
  | succ k ih => have := Cal.ml_bounds y ((k : Int) + 1); rw [Cal.cum]; omega
theorem era_dn (q : Int) : Cal.dn (2000 + q * 400) = 146097 * q - 2 := by
  have := Cal.dn_era 2000 q
  rw [Cal.dn2000, show 2000 + 400 * q = 2000 + q * 400 by omega] at this; omega

set_option maxHeartbeats 2000000 in
set_option maxRecDepth 100000 in
theorem rdateOf_any (day : Int) (w : World) : Calls Tryz.prog 78 #[.int .i64 day] w fun e w' =>
    (if dayB day = true then ∃ y m d : Int, DateIs day y m d ∧ e = .returned (.tuple #[.int .i64 y, .int .i64 m, .int .i64 d, .int .i64 0]) else e = .returned (.tuple #[.int .i64 0, .int .i64 0, .int .i64 0, .int .i64 9])) ∧ w = w' := by
  have ho := Lib.hid (outside_any day 0 999999)
  cases h : dayB day
  · have e1 : (decide (day < 0) || decide (999999 < day)) = true := by
      unfold dayB at h; simp at h ⊢; omega
    rw [e1] at ho
    clear h e1
    go_enter Tryz.func78, Tryz.ntmps78
    go_wp2_with fail
    refine (ho.out _).mono ?_
    rintro e w1 ⟨rfl, rfl⟩
    go_wp2
    refine bodyPost_ret (results_tmp4 rfl _ _ _) rfl ?_
    exact ⟨rfl, rfl⟩
  · obtain ⟨h0, h1⟩ := dayB_true h
    have e1 : (decide (day < 0) || decide (999999 < day)) = false := by simp; omega
    rw [e1] at ho
    clear h e1
    obtain ⟨q, hq⟩ : ∃ q, (day + 2) / 146097 = q := ⟨_, rfl⟩
    obtain ⟨n0, hn0⟩ : ∃ n0, (day + 2) % 146097 = n0 := ⟨_, rfl⟩
    have q0 : 0 ≤ q := by omega
    have q1 : q ≤ 6 := by omega
    have p0 : 0 ≤ n0 := by omega
    have p1 : n0 < 146097 := by omega
    have hday := Lib.hid (show day = 146097 * q + n0 - 2 by omega)
    have hE := Lib.hid (era_dn q)
    obtain ⟨Y0, hY0⟩ : ∃ Y0, 2000 + q * 400 = Y0 := ⟨_, rfl⟩
    have y0 : 2000 ≤ Y0 := by omega
    have y1 : Y0 ≤ 4400 := by omega
    rw [hY0] at hE
    go_enter Tryz.func78, Tryz.ntmps78
    go_wp2_with fail
    refine (ho.out _).mono ?_
    rintro e w1 ⟨rfl, rfl⟩
    go_wp2_with fail
    have HN0 := Lib.hid hn0
    clear hq hn0 hY0
    go_loop [2, 6] (fun yv nv => ∃ (k : Nat) (n : Int), yv = .int .i64 (Y0 + (k : Int)) ∧ nv = .int .i64 n ∧ 0 ≤ n ∧ n = n0 - Cal.suml Y0 k) (fun _ nv => (intOf nv).toNat)
    case atStart => exact ⟨0, n0, congrArg (Value.int .i64) (by omega), congrArg (Value.int .i64) HN0.out, p0, by simp [Cal.suml]⟩
    case round =>
      obtain ⟨k, n, rfl, rfl, hn, hre⟩ := hrel
      have hge := suml_ge Y0 k
      have n1 : n < 146097 := by omega
      have k1 : (k : Int) ≤ 401 := by omega
      have hyl := Lib.hid (yearLong_any (Y0 + (k : Int)))
      have hyc := Cal.yl_cases (Y0 + (k : Int))
      have yc0 : 365 ≤ Cal.yl (Y0 + (k : Int)) := by omega
      have yc1 : Cal.yl (Y0 + (k : Int)) ≤ 366 := by omega
      have hsucc := Lib.hid (show Cal.suml Y0 (k + 1) = Cal.suml Y0 k + Cal.yl (Y0 + k) from rfl)
      have Hre := Lib.hid hre
      clear hge hyc hre
      by_cases hlt : Cal.yl (Y0 + (k : Int)) ≤ n
      · generalize Cal.yl (Y0 + (k : Int)) = L at hyl hsucc yc0 yc1 hlt
        have c1 : decide (L ≤ n) = true := by rw [decide_eq_true_eq]; omega
        go_wp2_with fail
        refine (hyl.out _ (by omega)).mono ?_
        rintro e w1 ⟨rfl, rfl⟩
        go_wp2_with fail
        refine (hyl.out _ (by omega)).mono ?_
        rintro e w1 ⟨rfl, rfl⟩
        go_wp2
        go_round
        case rel => exact ⟨k + 1, n - L, congrArg (Value.int .i64) (by omega), rfl, by omega, by rw [hsucc.out, Hre.out]; omega⟩
        case measure => simp [intOf]; omega
      · have hd := Lib.hid (Cal.yl_dn (Y0 + (k : Int)))
        have hy := Lib.hid (Cal.suml_dn Y0 k)
        have hall := Lib.hid (Cal.cum_all (Y0 + (k : Int)))
        have hyr := Lib.hid (@Cal.yr_unique day (Y0 + (k : Int)))
        have Hlt := Lib.hid hlt
        have c1 : decide (Cal.yl (Y0 + (k : Int)) ≤ n) = false := by rw [decide_eq_false_iff_not]; omega
        have z0 : Cal.dn (Y0 + (k : Int)) = day - n := by rw [hday.out]; have := hd.out; have := hy.out; have := hE.out; have := Hre.out; omega
        have z1 : Cal.yr day = Y0 + (k : Int) := hyr.out (by omega) (by have := hd.out; omega)
        clear hlt
        have Z0 := Lib.hid z0
        have Z1 := Lib.hid z1
        clear z0 z1 hd hy hyr hsucc hE hday
        have Y1 : 0 ≤ Y0 + (k : Int) := by omega
        have Y2 : Y0 + (k : Int) ≤ 5000 := by omega
        generalize Y0 + (k : Int) = Y at *
        generalize Cal.yl Y = L at *
        go_wp2_with fail
        refine (hyl.out _ (by omega)).mono ?_
        rintro e w1 ⟨rfl, rfl⟩
        go_wp2_with fail
        go_loop [3, 6] (fun mv nv => ∃ (j : Nat) (m : Int), mv = .int .i64 ((j : Int) + 1) ∧ nv = .int .i64 m ∧ 0 ≤ m ∧ j ≤ 11 ∧ m = n - Cal.cum Y j) (fun mv _ => (13 - intOf mv).toNat)
        case atStart => exact ⟨0, n, rfl, rfl, hn, by omega, by simp [Cal.cum]⟩
        case round =>
          obtain ⟨j, m, rfl, rfl, hm, hj, hre⟩ := hrel
          have hml := Lib.hid (monthLong_any Y ((j : Int) + 1))
          have hmb := Cal.ml_bounds Y ((j : Int) + 1)
          have mc0 := hmb.1
          have mc1 := hmb.2
          have hsucc := Lib.hid (show Cal.cum Y (j + 1) = Cal.cum Y j + Cal.ml Y ((j : Int) + 1) from rfl)
          have hcn := cum_nonneg Y j
          have m1 : m < 146097 := by omega
          have Hre := Lib.hid hre
          clear hmb hre hcn
          generalize Cal.ml Y ((j : Int) + 1) = M at hml mc0 mc1 hsucc
          by_cases hlt : M ≤ m
          · have c2 : decide (M ≤ m) = true := by rw [decide_eq_true_eq]; omega
            have hj2 : j + 1 ≤ 11 := by
              by_cases hj11 : j = 11
              · have a := hsucc.out; have b := Hre.out; have d := Hlt.out
                subst hj11
                have c : Cal.cum Y (11 + 1) = L := hall.out
                omega
              · omega
            go_wp2_with fail
            refine (hml.out _ Y1).mono ?_
            rintro e w1 ⟨rfl, rfl⟩
            go_wp2_with fail
            refine (hml.out _ Y1).mono ?_
            rintro e w1 ⟨rfl, rfl⟩
            go_wp2
            go_round
            case rel => exact ⟨j + 1, m - M, congrArg (Value.int .i64) (by omega), rfl, by omega, hj2, by rw [hsucc.out, Hre.out]; omega⟩
            case measure => simp [intOf]; omega
          · have c2 : decide (M ≤ m) = false := by rw [decide_eq_false_iff_not]; omega
            have Hl2 := Lib.hid (show m < M by omega)
            clear hlt
            go_wp2_with fail
            refine (hml.out _ Y1).mono ?_
            rintro e w1 ⟨rfl, rfl⟩
            go_wp2
            refine bodyPost_ret (results_tmp4 rfl _ _ _) rfl ?_
            have a := Z0.out
            have b := Hre.out
            have c := hsucc.out
            have d := Hl2.out
            exact ⟨⟨_, _, _, DateIs.mk' Z1.out.symm hj rfl (by omega) (by omega) (by omega), rfl⟩, rfl⟩
end Go.Proofs.YtcdilamkkodjjaaGreatDoor

/- DayOf and DateOf of both. -/
namespace Go.Proofs.YtcdilamkkodjjaaGreatDoor
open Go.RowKit Go.BigFrame
open Cal (dayOfF rdayOfF rdayN ml)

set_option maxHeartbeats 4000000 in
set_option maxRecDepth 100000 in
theorem dayOf_any (y m d : Int) (w : World) : Calls Tryz.prog 80 #[.int .i64 y, .int .i64 m, .int .i64 d] w fun e w' => e = scRet (dayOfF y m d) ∧ w = w' := by
  by_cases hr : 2000 ≤ y ∧ y ≤ 9999 ∧ 1 ≤ m ∧ m ≤ 12 ∧ 1 ≤ d ∧ d ≤ 31
  case neg =>
    have HX := Lib.hid (show dayOfF y m d = (0, 9) from if_neg (fun h => hr h.1))
    have END : Hid (scRet (dayOfF y m d) = .returned (.tuple #[.int .i64 0, .int .i64 9])) := Lib.hid (by rw [HX.out]; rfl)
    rw [END.out]
    by_cases a1 : y < 2000
    · have c1 : decide (y < 2000) = true := by simpa using a1
      clear hr
      go_enter Tryz.func80, Tryz.ntmps80
      go_wp2
      go_ret2
      exact ⟨rfl, rfl⟩
    have c1 : decide (y < 2000) = false := by simpa using a1
    by_cases a2 : 9999 < y
    · have c2 : decide (9999 < y) = true := by simpa using a2
      clear hr
      go_enter Tryz.func80, Tryz.ntmps80
      go_wp2
      go_ret2
      exact ⟨rfl, rfl⟩
    have c2 : decide (9999 < y) = false := by simpa using a2
    by_cases a3 : m < 1
    · have c3 : decide (m < 1) = true := by simpa using a3
      clear hr
      go_enter Tryz.func80, Tryz.ntmps80
      go_wp2
      go_ret2
      exact ⟨rfl, rfl⟩
    have c3 : decide (m < 1) = false := by simpa using a3
    by_cases a4 : 12 < m
    · have c4 : decide (12 < m) = true := by simpa using a4
      clear hr
      go_enter Tryz.func80, Tryz.ntmps80
      go_wp2
      go_ret2
      exact ⟨rfl, rfl⟩
    have c4 : decide (12 < m) = false := by simpa using a4
    by_cases a5 : d < 1
    · have c5 : decide (d < 1) = true := by simpa using a5
      clear hr
      go_enter Tryz.func80, Tryz.ntmps80
      go_wp2
      go_ret2
      exact ⟨rfl, rfl⟩
    have c5 : decide (d < 1) = false := by simpa using a5
    have a6 : 31 < d := by omega
    have c6 : decide (31 < d) = true := by simpa using a6
    clear hr
    go_enter Tryz.func80, Tryz.ntmps80
    go_wp2
    go_ret2
    exact ⟨rfl, rfl⟩
  case pos =>
    have HR := Lib.hid hr
    obtain ⟨h1, h2, h3, h4, h5, h6⟩ := hr
    have c1 : decide (y < 2000) = false := by rw [decide_eq_false_iff_not]; omega
    have c2 : decide (9999 < y) = false := by rw [decide_eq_false_iff_not]; omega
    have c3 : decide (m < 1) = false := by rw [decide_eq_false_iff_not]; omega
    have c4 : decide (12 < m) = false := by rw [decide_eq_false_iff_not]; omega
    have c5 : decide (d < 1) = false := by rw [decide_eq_false_iff_not]; omega
    have c6 : decide (31 < d) = false := by rw [decide_eq_false_iff_not]; omega
    have D1 := Lib.hid (fun W => dayNumber_any y m d W (by omega) (by omega) h3 h4 h5 h6)
    have HD := Lib.hid (show dayOfF y m d = if (2000 ≤ y ∧ y ≤ 9999 ∧ 1 ≤ m ∧ m ≤ 12 ∧ 1 ≤ d ∧ d ≤ 31) ∧ (0 ≤ Cal.dayNum y m d ∧ Cal.dayNum y m d ≤ 999999) ∧ Cal.yearOf (Cal.dayNum y m d) = y ∧ Cal.monthOf (Cal.dayNum y m d) = m ∧ Cal.dateOf (Cal.dayNum y m d) = d then (Cal.dayNum y m d, 0) else (0, 9) from rfl)
    obtain ⟨n, hn⟩ : ∃ n, Cal.dayNum y m d = n := ⟨_, rfl⟩
    rw [hn] at D1 HD
    clear hn
    have D2 := Lib.hid (fun W => isDay_any n W)
    cases hdb : dayB n
    · rw [hdb] at D2
      have HX := Lib.hid (HD.out.trans (if_neg (fun h => by
        have : dayB n = true := by unfold dayB; simpa using h.2.1
        rw [hdb] at this
        cases this)))
      clear hdb HD h1 h2 h3 h4 h5 h6
      rw [HX.out]
      go_enter Tryz.func80, Tryz.ntmps80
      go_upto_region 4 with (go_at_call 119; refine (D1.out _).mono ?_; rintro e _ ⟨rfl, rfl⟩)
      go_wp2_with (go_at_call 57; refine (D2.out _).mono ?_; rintro e _ ⟨rfl, rfl⟩)
      go_ret2
      exact ⟨rfl, rfl⟩
    · rw [hdb] at D2
      have hdt := dayB_true hdb
      have D3 := Lib.hid (fun W => dateOf_any n W (by omega) (by omega))
      have HE := Lib.hid (fun (h : Cal.yearOf n = y ∧ Cal.monthOf n = m ∧ Cal.dateOf n = d) => HD.out.trans (if_pos ⟨HR.out, hdt, h⟩))
      have HN := Lib.hid (fun (h : ¬ (Cal.yearOf n = y ∧ Cal.monthOf n = m ∧ Cal.dateOf n = d)) => HD.out.trans (if_neg (fun x => h x.2.2)))
      obtain ⟨yy, hyy⟩ : ∃ x, Cal.yearOf n = x := ⟨_, rfl⟩
      obtain ⟨mm, hmm⟩ : ∃ x, Cal.monthOf n = x := ⟨_, rfl⟩
      obtain ⟨dd, hdd⟩ : ∃ x, Cal.dateOf n = x := ⟨_, rfl⟩
      rw [hyy, hmm, hdd] at D3 HE HN
      clear hyy hmm hdd hdb HD h1 h2 h3 h4 h5 h6 HR
      by_cases e1 : yy = y
      case neg =>
        have b1 : (yy == y) = false := by simpa using e1
        have b1' : (yy != y) = true := by rw [bne, b1]; rfl
        rw [HN.out (fun h => e1 h.1)]
        clear e1 HE HN
        go_enter Tryz.func80, Tryz.ntmps80
        go_upto_region 4 with (go_at_call 119; refine (D1.out _).mono ?_; rintro e _ ⟨rfl, rfl⟩)
        go_upto_region 6 with (go_at_call 57; refine (D2.out _).mono ?_; rintro e _ ⟨rfl, rfl⟩)
        go_upto_region 7 with (go_at_call 76; refine (D3.out _).mono ?_; rintro e _ ⟨rfl, rfl⟩)
        go_wp2
        go_ret2
        exact ⟨rfl, rfl⟩
      case pos =>
      have b1 : (yy == y) = true := by simpa using e1
      have b1' : (yy != y) = false := by rw [bne, b1]; rfl
      by_cases e2 : mm = m
      case neg =>
        have b2 : (mm == m) = false := by simpa using e2
        have b2' : (mm != m) = true := by rw [bne, b2]; rfl
        rw [HN.out (fun h => e2 h.2.1)]
        clear e1 e2 HE HN
        go_enter Tryz.func80, Tryz.ntmps80
        go_upto_region 4 with (go_at_call 119; refine (D1.out _).mono ?_; rintro e _ ⟨rfl, rfl⟩)
        go_upto_region 6 with (go_at_call 57; refine (D2.out _).mono ?_; rintro e _ ⟨rfl, rfl⟩)
        go_upto_region 7 with (go_at_call 76; refine (D3.out _).mono ?_; rintro e _ ⟨rfl, rfl⟩)
        go_wp2
        go_ret2
        exact ⟨rfl, rfl⟩
      case pos =>
      have b2 : (mm == m) = true := by simpa using e2
      have b2' : (mm != m) = false := by rw [bne, b2]; rfl
      by_cases e3 : dd = d
      case neg =>
        have b3 : (dd == d) = false := by simpa using e3
        have b3' : (dd != d) = true := by rw [bne, b3]; rfl
        rw [HN.out (fun h => e3 h.2.2)]
        clear e1 e2 e3 HE HN
        go_enter Tryz.func80, Tryz.ntmps80
        go_upto_region 4 with (go_at_call 119; refine (D1.out _).mono ?_; rintro e _ ⟨rfl, rfl⟩)
        go_upto_region 6 with (go_at_call 57; refine (D2.out _).mono ?_; rintro e _ ⟨rfl, rfl⟩)
        go_upto_region 7 with (go_at_call 76; refine (D3.out _).mono ?_; rintro e _ ⟨rfl, rfl⟩)
        go_wp2
        go_ret2
        exact ⟨rfl, rfl⟩
      case pos =>
        have b3 : (dd == d) = true := by simpa using e3
        have b3' : (dd != d) = false := by rw [bne, b3]; rfl
        rw [HE.out ⟨e1, e2, e3⟩]
        clear e1 e2 e3 HE HN
        go_enter Tryz.func80, Tryz.ntmps80
        go_upto_region 4 with (go_at_call 119; refine (D1.out _).mono ?_; rintro e _ ⟨rfl, rfl⟩)
        go_upto_region 6 with (go_at_call 57; refine (D2.out _).mono ?_; rintro e _ ⟨rfl, rfl⟩)
        go_upto_region 7 with (go_at_call 76; refine (D3.out _).mono ?_; rintro e _ ⟨rfl, rfl⟩)
        go_wp2
        go_ret2
        exact ⟨rfl, rfl⟩
/-! ### of the reference -/
abbrev okDate (y m d : Int) : Prop := 1990 ≤ y ∧ y ≤ 4740 ∧ 1 ≤ m ∧ m ≤ 12 ∧ 1 ≤ d ∧ d ≤ ml y m
set_option maxHeartbeats 4000000 in
set_option maxRecDepth 100000 in
theorem rdayN_any (y m d : Int) (w : World) : Calls Tryz.prog 85 #[.int .i64 y, .int .i64 m, .int .i64 d] w fun e w' => ((¬ okDate y m d ∧ e = .returned (.tuple #[.int .i64 0, .bool false])) ∨ (okDate y m d ∧ e = .returned (.tuple #[.int .i64 (rdayN y m d), .bool true]))) ∧ w = w' := by
  have O1 := Lib.hid (fun W => outside_any y 1990 4740 W)
  have O2 := Lib.hid (fun W => outside_any m 1 12 W)
  by_cases hy : 1990 ≤ y ∧ y ≤ 4740
  case neg =>
    rw [show (decide (y < 1990) || decide (4740 < y)) = true by simp; omega] at O1
    have HX : Hid (¬ okDate y m d) := Lib.hid (fun h => hy ⟨h.1, h.2.1⟩)
    clear hy
    go_enter Tryz.func85, Tryz.ntmps85
    go_wp2_with (go_at_call 24; refine (O1.out _).mono ?_; rintro e _ ⟨rfl, rfl⟩)
    go_ret2
    exact ⟨Or.inl ⟨HX.out, rfl⟩, rfl⟩
  case pos =>
  rw [show (decide (y < 1990) || decide (4740 < y)) = false by simp; omega] at O1
  by_cases hm : 1 ≤ m ∧ m ≤ 12
  case neg =>
    rw [show (decide (m < 1) || decide (12 < m)) = true by simp; omega] at O2
    have HX : Hid (¬ okDate y m d) := Lib.hid (fun h => hm ⟨h.2.2.1, h.2.2.2.1⟩)
    clear hy hm
    go_enter Tryz.func85, Tryz.ntmps85
    go_wp2_with fail
    refine (O1.out _).mono ?_
    rintro e _ ⟨rfl, rfl⟩
    go_wp2_with fail
    refine (O2.out _).mono ?_
    rintro e _ ⟨rfl, rfl⟩
    go_wp2_with fail
    go_ret2
    exact ⟨Or.inl ⟨HX.out, rfl⟩, rfl⟩
  case pos =>
  rw [show (decide (m < 1) || decide (12 < m)) = false by simp; omega] at O2
  have M1 := Lib.hid (fun (mm : Int) W => monthLong_any y mm W (by omega))
  have hmb := Cal.ml_bounds y m
  have O3 := Lib.hid (fun W => outside_any d 1 (ml y m) W)
  have HML := Lib.hid (fun (k : Nat) => Cal.ml_bounds y ((k : Int) + 1))
  have M1m := Lib.hid (M1.out m)
  by_cases hd : 1 ≤ d ∧ d ≤ ml y m
  case neg =>
    rw [show (decide (d < 1) || decide (ml y m < d)) = true by simp; omega] at O3
    have HX : Hid (¬ okDate y m d) := Lib.hid (fun h => hd h.2.2.2.2)
    generalize ml y m = M at O3 M1m hmb
    clear hy hm hd
    go_enter Tryz.func85, Tryz.ntmps85
    go_wp2_with fail
    refine (O1.out _).mono ?_
    rintro e _ ⟨rfl, rfl⟩
    go_wp2_with fail
    refine (O2.out _).mono ?_
    rintro e _ ⟨rfl, rfl⟩
    go_wp2_with fail
    refine (M1m.out _).mono ?_
    rintro e _ ⟨rfl, rfl⟩
    go_wp2_with fail
    refine (O3.out _).mono ?_
    rintro e _ ⟨rfl, rfl⟩
    go_wp2_with fail
    go_ret2
    exact ⟨Or.inl ⟨HX.out, rfl⟩, rfl⟩
  case pos =>
  rw [show (decide (d < 1) || decide (ml y m < d)) = false by simp; omega] at O3
  have HX : Hid (okDate y m d) := Lib.hid ⟨hy.1, hy.2, hm.1, hm.2, hd.1, hd.2⟩
  have hd31 : 1 ≤ d ∧ d ≤ 31 := by omega
  generalize ml y m = M at O3 M1m hmb hd
  by_cases h2 : y < 2000
  · have c1 : decide (y < 2000) = true := by simpa using h2
    have HN := Lib.hid (show rdayN y m d = -1 from if_pos h2)
    clear hy hm hd h2
    go_enter Tryz.func85, Tryz.ntmps85
    go_wp2_with fail
    refine (O1.out _).mono ?_
    rintro e _ ⟨rfl, rfl⟩
    go_wp2_with fail
    refine (O2.out _).mono ?_
    rintro e _ ⟨rfl, rfl⟩
    go_wp2_with fail
    refine (M1m.out _).mono ?_
    rintro e _ ⟨rfl, rfl⟩
    go_wp2_with fail
    refine (O3.out _).mono ?_
    rintro e _ ⟨rfl, rfl⟩
    go_wp2_with fail
    go_ret2
    exact ⟨Or.inr ⟨HX.out, by rw [HN.out]; rfl⟩, rfl⟩
  · have c1 : decide (y < 2000) = false := by simpa using h2
    have HN := Lib.hid (show rdayN y m d = Cal.dn y + Cal.cum y (m - 1).toNat + d - 1 from if_neg h2)
    have B1 := Lib.hid (fun W => before_any y W (by omega) (by omega))
    have d0 : -2 ≤ Cal.dn y := by
      have h := Cal.dn_mono 2000 (y - 2000).toNat
      rw [show 2000 + (((y - 2000).toNat : Nat) : Int) = y by omega] at h
      have := dn_two.1; omega
    have d1 : Cal.dn y ≤ 10000000 := by
      have h := Cal.dn_mono y (4740 - y).toNat
      rw [show y + (((4740 - y).toNat : Nat) : Int) = 4740 by omega] at h
      have := dn_two.2; omega
    obtain ⟨D, hD⟩ : ∃ D, Cal.dn y = D := ⟨_, rfl⟩
    rw [hD] at B1 HN d0 d1
    clear hy hd h2 hD
    have hm1 := hm.1
    have hm2 := hm.2
    clear hm
    go_enter Tryz.func85, Tryz.ntmps85
    go_wp2_with fail
    refine (O1.out _).mono ?_
    rintro e w1 ⟨rfl, rfl⟩
    go_wp2_with fail
    refine (O2.out _).mono ?_
    rintro e w2 ⟨rfl, rfl⟩
    go_wp2_with fail
    refine (M1m.out _).mono ?_
    rintro e w3 ⟨rfl, rfl⟩
    go_wp2_with fail
    refine (O3.out _).mono ?_
    rintro e w4 ⟨rfl, rfl⟩
    go_wp2_with fail
    refine (B1.out _).mono ?_
    rintro e w5 ⟨rfl, rfl⟩
    go_wp2_with fail
    go_loopw [8, 9] (fun nv mv wr => ∃ (k : Nat), nv = .int .i64 (D + d - 1 + Cal.cum y k) ∧ mv = .int .i64 ((k : Int) + 1) ∧ (k : Int) + 1 ≤ m ∧ wr = w5 ∧ Cal.cum y k ≤ 31 * k ∧ 0 ≤ Cal.cum y k) (fun _ mv _ => (m - intOf mv).toNat)
    case atStart => exact ⟨0, by simp [Cal.cum]; omega, rfl, by omega, rfl, by simp [Cal.cum], by simp [Cal.cum]⟩
    case round =>
      obtain ⟨k, rfl, rfl, hkm, rfl, hc1, hc2⟩ := hrel
      have hml := HML.out k
      have hcs := Lib.hid (Cal.cum_succ y k)
      have MM := Lib.hid (M1.out ((k : Int) + 1))
      obtain ⟨C, hC⟩ : ∃ C, Cal.cum y k = C := ⟨_, rfl⟩
      have HC := Lib.hid hC
      rw [hC] at hc1 hc2 hcs ⊢
      obtain ⟨L, hL⟩ : ∃ L, ml y ((k : Int) + 1) = L := ⟨_, rfl⟩
      rw [hL] at hml MM hcs
      clear hC hL
      by_cases hlt : (k : Int) + 1 < m
      · have c2 : decide ((k : Int) + 1 < m) = true := by simpa using hlt
        go_wp2_with (go_at_call 118; refine (MM.out _).mono ?_; rintro e _ ⟨rfl, rfl⟩)
        go_roundw
        case rel => exact ⟨k + 1, by rw [hcs.out]; exact congrArg (Value.int .i64) (by omega), by go_num, by omega, by trivial, by rw [hcs.out]; omega, by rw [hcs.out]; omega⟩
        case measure => simp [intOf]; omega
      · have c2 : decide ((k : Int) + 1 < m) = false := by simpa using hlt
        have hk : (m - 1).toNat = k := by omega
        rw [hk, HC.out] at HN
        clear hlt hk
        go_wp2_with fail
        go_ret2
        exact ⟨Or.inr ⟨HX.out, by rw [HN.out]; exact congrArg (fun n => Ending.returned (.tuple #[.int .i64 n, .bool true])) (by omega)⟩, by trivial⟩
theorem rdayOf_any (y m d : Int) (w : World) : Calls Tryz.prog 49 #[.int .i64 y, .int .i64 m, .int .i64 d] w fun e w' => e = scRet (rdayOfF y m d) ∧ w = w' := by
  have D1 := Lib.hid (rdayN_any y m d w)
  have HF : Hid (rdayOfF y m d = if okDate y m d ∧ 0 ≤ rdayN y m d ∧ rdayN y m d ≤ 999999 then (rdayN y m d, 0) else (0, 9)) := Lib.hid rfl
  obtain ⟨n, hn⟩ : ∃ n, rdayN y m d = n := ⟨_, rfl⟩
  rw [hn] at D1 HF
  have O1 := Lib.hid (fun W => outside_any n 0 999999 W)
  clear hn
  go_enter Tryz.func49, Tryz.ntmps49
  go_wp2_with fail
  refine D1.out.mono ?_
  rintro e _ ⟨⟨hno, rfl⟩ | ⟨hok, rfl⟩, rfl⟩
  · have HX := Lib.hid (HF.out.trans (if_neg (fun h => hno h.1)))
    clear hno
    go_wp2_with fail
    go_ret2
    exact ⟨by rw [HX.out]; rfl, rfl⟩
  · by_cases h : 0 ≤ n ∧ n ≤ 999999
    · rw [show (decide (n < 0) || decide (999999 < n)) = false by simp; omega] at O1
      have HX := Lib.hid (HF.out.trans (if_pos ⟨hok, h⟩))
      clear hok h
      go_wp2_with (go_at_call 24; refine (O1.out _).mono ?_; rintro e _ ⟨rfl, rfl⟩)
      go_ret2
      exact ⟨by rw [HX.out]; rfl, rfl⟩
    · rw [show (decide (n < 0) || decide (999999 < n)) = true by simp; omega] at O1
      have HX := Lib.hid (HF.out.trans (if_neg (fun x => h x.2)))
      clear hok h
      go_wp2_with (go_at_call 24; refine (O1.out _).mono ?_; rintro e _ ⟨rfl, rfl⟩)
      go_ret2
      exact ⟨by rw [HX.out]; rfl, rfl⟩
/-! ### dates -/
def dateOfF (day : Int) : Int × Int × Int × Int := if dayB day = true then (Cal.yearOf day, Cal.monthOf day, Cal.dateOf day, 0) else (0, 0, 0, 9)
def quad (p : Int × Int × Int × Int) : Ending := .returned (.tuple #[.int .i64 p.1, .int .i64 p.2.1, .int .i64 p.2.2.1, .int .i64 p.2.2.2])
theorem rdateOfP_any (day : Int) (w : World) : Calls Tryz.prog 78 #[.int .i64 day] w fun e w' => e = quad (dateOfF day) ∧ w = w' := by
  refine (rdateOf_any day w).mono ?_
  rintro e w' ⟨h, hw⟩
  refine ⟨?_, hw⟩
  cases hb : dayB day
  · rw [hb, if_neg (by simp)] at h
    rw [h, show dateOfF day = (0, 0, 0, 9) by unfold dateOfF; rw [hb]; rfl]
    rfl
  · rw [hb, if_pos rfl] at h
    obtain ⟨y, m, d, hd, he⟩ := h
    obtain ⟨rfl, k, hk, rfl, h1, h2, rfl⟩ := hd
    have hx := Cal.date_of hk h1 h2
    rw [he, show dateOfF day = (Cal.yearOf day, Cal.monthOf day, Cal.dateOf day, 0) by unfold dateOfF; rw [hb]; rfl]
    unfold quad
    simp only
    rw [Cal.yearOf_yr, hx.1, hx.2]
end Go.Proofs.YtcdilamkkodjjaaGreatDoor

/- DateText of both. -/
namespace Go.Proofs.YtcdilamkkodjjaaGreatDoor
open Go.RowKit Go.BigFrame
open Rd (sB bt itoaB padB)

def dashB : ByteArray := ⟨#[45]⟩
def dateText (day : Int) : ByteArray := itoaB (Cal.yearOf day) ++ dashB ++ padB (Cal.monthOf day) ++ dashB ++ padB (Cal.dateOf day)
def dateTextR (day : Int) : ByteArray × Int := if dayB day = true then (dateText day, 0) else (⟨#[]⟩, 9)
theorem date_bounds {day : Int} (h : dayB day = true) : 1000 ≤ Cal.yearOf day ∧ Cal.yearOf day ≤ 9999 ∧ 0 ≤ Cal.monthOf day ∧ Cal.monthOf day < 100 ∧ 0 ≤ Cal.dateOf day ∧ Cal.dateOf day < 100 := by
  have hr := dayB_true h
  have h1 := year_range (t := day) (by omega) (by omega)
  obtain ⟨_, _, _, _, b5, b6, b7, b8⟩ := Cal.bounds day
  refine ⟨by omega, by omega, ?_, ?_, ?_, ?_⟩
  · unfold Cal.monthOf; split <;> omega
  · unfold Cal.monthOf; split <;> omega
  · unfold Cal.dateOf Cal.mpOf; omega
  · unfold Cal.dateOf Cal.mpOf; omega
theorem itoa_four {n : Int} (h0 : 1000 ≤ n) (h1 : n ≤ 9999) : (itoaB n).size = 4 := by
  have h2 := Go.Lib.nDigits_unique 3 n.toNat (by omega) (by omega)
  have : (itoaB n).size = (Go.Lib.itoa n).length := rfl
  rw [this, show Go.Lib.itoa n = Go.Lib.decDigits n.toNat by unfold Go.Lib.itoa; rw [if_neg (by omega)], Go.Lib.decDigits_length, h2]
theorem digits4_any (n : Int) (h0 : 1000 ≤ n) (h1 : n ≤ 9999) (w : World) (hg : Glo w) : Calls Tryz.prog 23 #[.int .i64 n, .int .i64 4] w fun e w' => e = .returned (.string (itoaB n)) ∧ Below w.heap.size w w' := by
  have DI := Lib.hid (itoa_any n (by omega) (by omega) w hg)
  have hl := itoa_four h0 h1
  generalize itoaB n = t at DI hl ⊢
  have hl' : ((t.size : Nat) : Int) = 4 := by omega
  go_enter Tryz.func23, Tryz.ntmps23
  go_upto_region 2 with (go_at_call 21; refine DI.out.mono ?_; rintro e w2 ⟨rfl, hb2⟩)
  go_wp2_with (go_at_call 63; refine (repeat_zero _ _).mono ?_; rintro e _ ⟨rfl, rfl⟩)
  go_ret
  exact ⟨congrArg (fun x => Ending.returned (.string x)) (Rd.nil_app t), hb2⟩
set_option maxHeartbeats 2000000 in
theorem dateText_any (day : Int) (w : World) (hg : Glo w) : Calls Tryz.prog 19 #[.int .i64 day] w fun e w' => e = .returned (.tuple #[.string (dateTextR day).1, .int .i64 (dateTextR day).2]) ∧ Below w.heap.size w w' := by
  have D1 := Lib.hid (fun W => isDay_any day W)
  cases hb : dayB day
  · have HX := Lib.hid (show dateTextR day = (⟨#[]⟩, 9) by unfold dateTextR; rw [hb]; rfl)
    rw [hb] at D1
    clear hb
    go_enter Tryz.func19, Tryz.ntmps19
    go_wp2_with (go_at_call 57; refine (D1.out _).mono ?_; rintro e _ ⟨rfl, rfl⟩)
    go_ret2
    exact ⟨by rw [HX.out]; rfl, Below.refl _ _⟩
  · have HX := Lib.hid (show dateTextR day = (dateText day, 0) by unfold dateTextR; rw [hb]; rfl)
    obtain ⟨b1, b2, b3, b4, b5, b6⟩ := date_bounds hb
    have hr := dayB_true hb
    rw [hb] at D1
    have D2 := Lib.hid (fun W => dateOf_any day W (by omega) (by omega))
    have HT : Hid (dateText day = itoaB (Cal.yearOf day) ++ dashB ++ padB (Cal.monthOf day) ++ dashB ++ padB (Cal.dateOf day)) := Lib.hid rfl
    have HG := Lib.hid (fun (W : World) (h : Below w.heap.size w W) => hg.below h)
    have D3 := Lib.hid (fun W h => digits4_any (Cal.yearOf day) b1 b2 W (HG.out W h))
    have D4 := Lib.hid (fun W h => two_any (Cal.monthOf day) b3 b4 W (HG.out W h))
    have D5 := Lib.hid (fun W h => two_any (Cal.dateOf day) b5 b6 W (HG.out W h))
    have z1 := itoa_four b1 b2
    have z2 := Rd.padB_size b3 b4
    have z3 := Rd.padB_size b5 b6
    generalize Cal.yearOf day = y at *
    generalize Cal.monthOf day = m at *
    generalize Cal.dateOf day = d at *
    generalize itoaB y = r1 at HT D3 z1
    obtain ⟨r2, h2⟩ : ∃ x, padB m = x := ⟨_, rfl⟩
    obtain ⟨r3, h3⟩ : ∃ x, padB d = x := ⟨_, rfl⟩
    rw [h2] at D4 z2 HT
    rw [h3] at D5 z3 HT
    have D : Hid (Calls Tryz.prog 37 #[.int .i64 day] w fun e w' => e = .returned (.string (dateText day)) ∧ Below w.heap.size w w') := Lib.hid (by
      generalize dateText day = r at HT ⊢
      clear HX h2 h3 D1 hb
      go_enter Tryz.func37, Tryz.ntmps37
      go_upto_region 2 with (go_at_call 76; refine (D2.out _).mono ?_; rintro e _ ⟨rfl, rfl⟩)
      go_wp2_with fail
      refine (D3.out _ (Below.refl _ _)).mono ?_
      rintro e w1 ⟨rfl, hb1⟩
      go_wp2_with fail
      refine (D4.out w1 hb1).mono ?_
      rintro e w2 ⟨rfl, hb2⟩
      go_wp2_with fail
      refine (D5.out w2 (below_step hb1 hb2)).mono ?_
      rintro e w3 ⟨rfl, hb3⟩
      go_wp2_with fail
      go_ret
      exact ⟨by rw [HT.out]; rfl, below_step (below_step hb1 hb2) hb3⟩)
    generalize dateText day = r at D HX
    clear hb HT D3 D4 D5 D2 h2 h3
    go_enter Tryz.func19, Tryz.ntmps19
    go_wp2_with (first
      | (go_at_call 57; refine (D1.out _).mono ?_; rintro e _ ⟨rfl, rfl⟩)
      | (go_at_call 37; refine D.out.mono ?_; rintro e w1 ⟨rfl, hb1⟩))
    go_ret2
    exact ⟨by rw [HX.out]; rfl, hb1⟩
set_option maxHeartbeats 2000000 in
theorem rDateText_any (day : Int) (w : World) (hg : Glo w) : Calls Tryz.prog 40 #[.int .i64 day] w fun e w' => e = .returned (.tuple #[.string (dateTextR day).1, .int .i64 (dateTextR day).2]) ∧ Below w.heap.size w w' := by
  have D1 := Lib.hid (fun W => rdateOfP_any day W)
  unfold quad at D1
  cases hb : dayB day
  · have HX := Lib.hid (show dateTextR day = (⟨#[]⟩, 9) by unfold dateTextR; rw [hb]; rfl)
    have HF := Lib.hid (show dateOfF day = (0, 0, 0, 9) by unfold dateOfF; rw [hb]; rfl)
    rw [HF.out] at D1
    simp only at D1
    clear hb
    go_enter Tryz.func40, Tryz.ntmps40
    go_wp2_with (go_at_call 78; refine (D1.out _).mono ?_; rintro e _ ⟨rfl, rfl⟩)
    go_ret2
    exact ⟨by rw [HX.out]; rfl, Below.refl _ _⟩
  · have HX := Lib.hid (show dateTextR day = (dateText day, 0) by unfold dateTextR; rw [hb]; rfl)
    have HF := Lib.hid (show dateOfF day = (Cal.yearOf day, Cal.monthOf day, Cal.dateOf day, 0) by unfold dateOfF; rw [hb]; rfl)
    rw [HF.out] at D1
    simp only at D1
    obtain ⟨b1, b2, b3, b4, b5, b6⟩ := date_bounds hb
    have HT : Hid (dateText day = itoaB (Cal.yearOf day) ++ dashB ++ padB (Cal.monthOf day) ++ dashB ++ padB (Cal.dateOf day)) := Lib.hid rfl
    have HG := Lib.hid (fun (W : World) (h : Below w.heap.size w W) => hg.below h)
    have D3 := Lib.hid (fun W h => itoa_any (Cal.yearOf day) (by omega) (by omega) W (HG.out W h))
    have D4 := Lib.hid (fun W h => padded_any (Cal.monthOf day) b3 b4 W (HG.out W h))
    have D5 := Lib.hid (fun W h => padded_any (Cal.dateOf day) b5 b6 W (HG.out W h))
    have z1 := itoa_four b1 b2
    have z2 := Rd.padB_size b3 b4
    have z3 := Rd.padB_size b5 b6
    generalize Cal.yearOf day = y at *
    generalize Cal.monthOf day = m at *
    generalize Cal.dateOf day = d at *
    generalize itoaB y = r1 at HT D3 z1
    obtain ⟨r2, h2⟩ : ∃ x, padB m = x := ⟨_, rfl⟩
    obtain ⟨r3, h3⟩ : ∃ x, padB d = x := ⟨_, rfl⟩
    rw [h2] at D4 z2 HT
    rw [h3] at D5 z3 HT
    generalize dateText day = r at HT HX
    clear hb h2 h3 HF
    go_enter Tryz.func40, Tryz.ntmps40
    go_upto_region 4 with (go_at_call 78; refine (D1.out _).mono ?_; rintro e _ ⟨rfl, rfl⟩)
    go_wp2_with fail
    refine (D3.out _ (Below.refl _ _)).mono ?_
    rintro e w1 ⟨rfl, hb1⟩
    go_wp2_with fail
    refine (D4.out w1 hb1).mono ?_
    rintro e w2 ⟨rfl, hb2⟩
    go_wp2_with fail
    refine (D5.out w2 (below_step hb1 hb2)).mono ?_
    rintro e w3 ⟨rfl, hb3⟩
    go_wp2_with fail
    go_ret2
    exact ⟨by rw [HX.out, HT.out]; rfl, below_step (below_step hb1 hb2) hb3⟩
end Go.Proofs.YtcdilamkkodjjaaGreatDoor

/- StampText of both. -/
namespace Go.Proofs.YtcdilamkkodjjaaGreatDoor
open Go.RowKit Go.BigFrame
open Rd (sB bt itoaB padB)

def colB : ByteArray := ⟨#[58]⟩
def spB : ByteArray := ⟨#[32]⟩
def stampText (day s : Int) : ByteArray := dateText day ++ spB ++ padB (s / 3600) ++ colB ++ padB (s / 60 % 60) ++ colB ++ padB (s % 60)
def stampTextR (p : Int × Int × Int) : ByteArray × Int := if p.2.2 = 0 then (stampText p.1 p.2.1, 0) else (⟨#[]⟩, p.2.2)
theorem localR_bounds (first : Int) (F O : Nat → Int) (len : Nat) (moment : Int) (h : (localR first F O len moment).2.2 = 0) :
    dayB (localR first F O len moment).1 = true ∧ 0 ≤ (localR first F O len moment).2.1 ∧ (localR first F O len moment).2.1 < 86400 := by
  unfold localR at h ⊢
  split at h
  · rename_i h0
    rw [if_pos h0]
    split at h
    · rename_i h1
      rw [if_pos h1]
      obtain ⟨q0, q1⟩ := momB_true h1
      generalize moment + 60 * (offsetR first F O len moment).1 = t at q0 q1 ⊢
      refine ⟨?_, ?_, ?_⟩
      · unfold dayB
        simp only [Bool.and_eq_true, decide_eq_true_eq]
        omega
      · show 0 ≤ t % 86400
        omega
      · show t % 86400 < 86400
        omega
    · cases h
  · exact absurd h (by assumption)
theorem dateText_size {day : Int} (hb : dayB day = true) : (dateText day).size = 10 := by
  obtain ⟨b1, b2, b3, b4, b5, b6⟩ := date_bounds hb
  have z1 := itoa_four b1 b2
  have z2 := Rd.padB_size b3 b4
  have z3 := Rd.padB_size b5 b6
  unfold dateText
  simp only [ByteArray.size_append, z1, z2, z3]
  rfl
set_option maxHeartbeats 2000000 in
theorem dateTextP_any (day : Int) (hb : dayB day = true) (w : World) (hg : Glo w) : Calls Tryz.prog 37 #[.int .i64 day] w fun e w' => e = .returned (.string (dateText day)) ∧ Below w.heap.size w w' := by
  obtain ⟨b1, b2, b3, b4, b5, b6⟩ := date_bounds hb
  have hr := dayB_true hb
  have D2 := Lib.hid (fun W => dateOf_any day W (by omega) (by omega))
  have HT : Hid (dateText day = itoaB (Cal.yearOf day) ++ dashB ++ padB (Cal.monthOf day) ++ dashB ++ padB (Cal.dateOf day)) := Lib.hid rfl
  have HG := Lib.hid (fun (W : World) (h : Below w.heap.size w W) => hg.below h)
  have D3 := Lib.hid (fun W h => digits4_any (Cal.yearOf day) b1 b2 W (HG.out W h))
  have D4 := Lib.hid (fun W h => two_any (Cal.monthOf day) b3 b4 W (HG.out W h))
  have D5 := Lib.hid (fun W h => two_any (Cal.dateOf day) b5 b6 W (HG.out W h))
  have z1 := itoa_four b1 b2
  have z2 := Rd.padB_size b3 b4
  have z3 := Rd.padB_size b5 b6
  generalize Cal.yearOf day = y at *
  generalize Cal.monthOf day = m at *
  generalize Cal.dateOf day = d at *
  generalize itoaB y = r1 at HT D3 z1
  obtain ⟨r2, h2⟩ : ∃ x, padB m = x := ⟨_, rfl⟩
  obtain ⟨r3, h3⟩ : ∃ x, padB d = x := ⟨_, rfl⟩
  rw [h2] at D4 z2 HT
  rw [h3] at D5 z3 HT
  generalize dateText day = r at HT ⊢
  clear h2 h3 hb
  go_enter Tryz.func37, Tryz.ntmps37
  go_upto_region 2 with (go_at_call 76; refine (D2.out _).mono ?_; rintro e _ ⟨rfl, rfl⟩)
  go_wp2_with fail
  refine (D3.out _ (Below.refl _ _)).mono ?_
  rintro e w1 ⟨rfl, hb1⟩
  go_wp2_with fail
  refine (D4.out w1 hb1).mono ?_
  rintro e w2 ⟨rfl, hb2⟩
  go_wp2_with fail
  refine (D5.out w2 (below_step hb1 hb2)).mono ?_
  rintro e w3 ⟨rfl, hb3⟩
  go_wp2_with fail
  go_ret
  exact ⟨by rw [HT.out]; rfl, below_step (below_step hb1 hb2) hb3⟩
set_option maxHeartbeats 2000000 in
set_option maxRecDepth 100000 in
theorem stampText_any (first moment : Int) (a : Option Addr) (len cap : Nat) (F O : Nat → Int) (w : World) (hr : Rows2 w a len F O) (hg : Glo w) :
    Calls Tryz.prog 11 #[.agg #[.int .i64 first, .slice a len cap], .int .i64 moment] w fun e w' => e = .returned (.tuple #[.string (stampTextR (localR first F O len moment)).1, .int .i64 (stampTextR (localR first F O len moment)).2]) ∧ Below w.heap.size w w' := by
  have hw1 : Below w.heap.size w (w.alloc (.cells #[.int .i64 first, .slice a len cap] 31)) := (Below.refl _ _).alloc (Nat.le_refl _) _
  have HR1 := hr.below hw1 (Nat.le_refl _)
  have hc := Lib.hid (local_any first moment a len cap F O _ HR1)
  have hb := localR_bounds first F O len moment
  generalize localR first F O len moment = p at hc hb ⊢
  obtain ⟨day, s, z⟩ := p
  unfold tri at hc
  simp only at hc hb
  clear hr HR1
  by_cases h0 : z = 0
  · subst h0
    obtain ⟨b1, s0, s1⟩ := hb rfl
    have HX := Lib.hid (show stampTextR (day, s, 0) = (stampText day s, 0) from if_pos rfl)
    have HG := Lib.hid (fun (W : World) (h : Below w.heap.size w W) => hg.below h)
    have HT : Hid (stampText day s = dateText day ++ spB ++ padB (s / 3600) ++ colB ++ padB (s / 60 % 60) ++ colB ++ padB (s % 60)) := Lib.hid rfl
    have D1 := Lib.hid (fun W h => dateTextP_any day b1 W (HG.out W h))
    have z0 := dateText_size b1
    have D2 := Lib.hid (fun W h => two_any (s / 3600) (by omega) (by omega) W (HG.out W h))
    have D3 := Lib.hid (fun W h => two_any (s / 60 % 60) (by omega) (by omega) W (HG.out W h))
    have D4 := Lib.hid (fun W h => two_any (s % 60) (by omega) (by omega) W (HG.out W h))
    have z1 := Rd.padB_size (n := s / 3600) (by omega) (by omega)
    have z2 := Rd.padB_size (n := s / 60 % 60) (by omega) (by omega)
    have z3 := Rd.padB_size (n := s % 60) (by omega) (by omega)
    generalize dateText day = r0 at HT D1 z0
    generalize padB (s / 3600) = r1 at HT D2 z1
    generalize padB (s / 60 % 60) = r2 at HT D3 z2
    generalize padB (s % 60) = r3 at HT D4 z3
    clear hb b1 hg
    go_enter Tryz.func11, Tryz.ntmps11
    go_wp2_with fail
    refine hc.out.mono ?_
    rintro e w1 ⟨rfl, hb1⟩
    have HB1 := Lib.hid (hw1.trans (hb1.mono (by simp)))
    clear hb1 hw1 hc
    go_wp2_with fail
    refine (D1.out _ HB1.out).mono ?_
    rintro e w2 ⟨rfl, hb2⟩
    have HB2 := Lib.hid (below_step HB1.out hb2)
    clear hb2 HB1
    go_wp2_with fail
    refine (D2.out _ HB2.out).mono ?_
    rintro e w3 ⟨rfl, hb3⟩
    have HB3 := Lib.hid (below_step HB2.out hb3)
    clear hb3 HB2
    go_wp2_with fail
    refine (D3.out _ HB3.out).mono ?_
    rintro e w4 ⟨rfl, hb4⟩
    have HB4 := Lib.hid (below_step HB3.out hb4)
    clear hb4 HB3
    go_wp2_with fail
    refine (D4.out _ HB4.out).mono ?_
    rintro e w5 ⟨rfl, hb5⟩
    have HB5 := Lib.hid (below_step HB4.out hb5)
    clear hb5 HB4
    go_wp2_with fail
    go_ret2
    exact ⟨by rw [HX.out, HT.out]; rfl, HB5.out⟩
  · have hz : (z == 0) = false := by simpa using h0
    have hz' : (z != 0) = true := by simpa using h0
    have HX := Lib.hid (show stampTextR (day, s, z) = (⟨#[]⟩, z) from if_neg h0)
    clear h0 hb
    go_enter Tryz.func11, Tryz.ntmps11
    go_wp2_with fail
    refine hc.out.mono ?_
    rintro e w1 ⟨rfl, hb1⟩
    have HB1 := Lib.hid (hw1.trans (hb1.mono (by simp)))
    clear hb1
    go_wp2_with fail
    go_ret2
    exact ⟨by rw [HX.out]; rfl, HB1.out⟩
set_option maxHeartbeats 2000000 in
set_option maxRecDepth 100000 in
theorem rstampText_any (first moment : Int) (a : Option Addr) (len cap : Nat) (F O : Nat → Int) (w : World) (hr : Rows2 w a len F O) (hg : Glo w) :
    Calls Tryz.prog 12 #[.agg #[.int .i64 first, .slice a len cap], .int .i64 moment] w fun e w' => e = .returned (.tuple #[.string (stampTextR (localR first F O len moment)).1, .int .i64 (stampTextR (localR first F O len moment)).2]) ∧ Below w.heap.size w w' := by
  have hw1 : Below w.heap.size w (w.alloc (.cells #[.int .i64 first, .slice a len cap] 31)) := (Below.refl _ _).alloc (Nat.le_refl _) _
  have HR1 := hr.below hw1 (Nat.le_refl _)
  have hc := Lib.hid (rlocal_any first moment a len cap F O _ HR1)
  have hb := localR_bounds first F O len moment
  generalize localR first F O len moment = p at hc hb ⊢
  obtain ⟨day, s, z⟩ := p
  unfold tri at hc
  simp only at hc hb
  clear hr HR1
  by_cases h0 : z = 0
  · subst h0
    obtain ⟨b1, s0, s1⟩ := hb rfl
    have HX := Lib.hid (show stampTextR (day, s, 0) = (stampText day s, 0) from if_pos rfl)
    have HG := Lib.hid (fun (W : World) (h : Below w.heap.size w W) => hg.below h)
    have HT : Hid (stampText day s = dateText day ++ spB ++ padB (s / 3600) ++ colB ++ padB (s / 60 % 60) ++ colB ++ padB (s % 60)) := Lib.hid rfl
    have hdt : dateTextR day = (dateText day, 0) := by unfold dateTextR; rw [if_pos b1]
    have D1 : Hid (∀ W : World, Below w.heap.size w W → Calls Tryz.prog 40 #[.int .i64 day] W fun e w' => e = .returned (.tuple #[.string (dateText day), .int .i64 0]) ∧ Below W.heap.size W w') := Lib.hid (fun W h => by
      have := rDateText_any day W (HG.out W h)
      rw [hdt] at this
      exact this)
    have z0 := dateText_size b1
    have D2 := Lib.hid (fun W h => padded_any (s / 3600) (by omega) (by omega) W (HG.out W h))
    have D3 := Lib.hid (fun W h => padded_any (s / 60 % 60) (by omega) (by omega) W (HG.out W h))
    have D4 := Lib.hid (fun W h => padded_any (s % 60) (by omega) (by omega) W (HG.out W h))
    have z1 := Rd.padB_size (n := s / 3600) (by omega) (by omega)
    have z2 := Rd.padB_size (n := s / 60 % 60) (by omega) (by omega)
    have z3 := Rd.padB_size (n := s % 60) (by omega) (by omega)
    clear hdt
    generalize dateText day = r0 at HT D1 z0
    generalize padB (s / 3600) = r1 at HT D2 z1
    generalize padB (s / 60 % 60) = r2 at HT D3 z2
    generalize padB (s % 60) = r3 at HT D4 z3
    clear hb b1 hg
    go_enter Tryz.func12, Tryz.ntmps12
    go_wp2_with fail
    refine hc.out.mono ?_
    rintro e w1 ⟨rfl, hb1⟩
    have HB1 := Lib.hid (hw1.trans (hb1.mono (by simp)))
    clear hb1 hw1 hc
    go_wp2_with fail
    refine (D1.out _ HB1.out).mono ?_
    rintro e w2 ⟨rfl, hb2⟩
    have HB2 := Lib.hid (below_step HB1.out hb2)
    clear hb2 HB1
    go_wp2_with fail
    refine (D2.out _ HB2.out).mono ?_
    rintro e w3 ⟨rfl, hb3⟩
    have HB3 := Lib.hid (below_step HB2.out hb3)
    clear hb3 HB2
    go_wp2_with fail
    refine (D3.out _ HB3.out).mono ?_
    rintro e w4 ⟨rfl, hb4⟩
    have HB4 := Lib.hid (below_step HB3.out hb4)
    clear hb4 HB3
    go_wp2_with fail
    refine (D4.out _ HB4.out).mono ?_
    rintro e w5 ⟨rfl, hb5⟩
    have HB5 := Lib.hid (below_step HB4.out hb5)
    clear hb5 HB4
    go_wp2_with fail
    go_ret2
    exact ⟨by rw [HX.out, HT.out]; rfl, HB5.out⟩
  · have hz : (z == 0) = false := by simpa using h0
    have hz' : (z != 0) = true := by simpa using h0
    have HX := Lib.hid (show stampTextR (day, s, z) = (⟨#[]⟩, z) from if_neg h0)
    clear h0 hb
    go_enter Tryz.func12, Tryz.ntmps12
    go_wp2_with fail
    refine hc.out.mono ?_
    rintro e w1 ⟨rfl, hb1⟩
    have HB1 := Lib.hid (hw1.trans (hb1.mono (by simp)))
    clear hb1
    go_wp2_with fail
    go_ret2
    exact ⟨by rw [HX.out]; rfl, HB1.out⟩
end Go.Proofs.YtcdilamkkodjjaaGreatDoor
