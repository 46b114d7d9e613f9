/- Several texts of this claim in one. -/
import Derived.Test.YtcngjbfbdonpeaaGreatDoorMt2
import Derived.Test.YtcngjbfbdonpeaaGreatDoorMt3
import Derived.Deep.DeepCutAuto
/- A text of this claim. -/
namespace Go.Proofs.YtcngjbfbdonpeaaGreatDoor
open Go.RowKit Go.BigFrame
open Txt
open Tr (Ed inR)
def digs (signed : Bool) (l : List UInt8) : List UInt8 := if signed = true then bare l else l
def refOk (signed : Bool) (l : List UInt8) : Bool := decide ((digs signed l).length ≤ 12) && canon (digs signed l) && !(decide (digs signed l = [48]) && decide (1 < l.length))
theorem canon_head {l : List UInt8} (h : canon l = true) : l.head? ≠ some 45 := fun e => by
 simp only [canon, Bool.and_eq_true] at h
 cases l with
 | nil => cases e
 | cons a r =>
  injection e with e
  subst e
  have := List.all_eq_true.1 h.1.2 45 (by simp)
  exact absurd this (by decide)
theorem refOk_is (signed : Bool) (l : List UInt8) : (numW signed l).isSome = refOk signed l := by
 unfold numW refOk digs
 by_cases hs : l.head? = some 45
 · rw [if_pos hs]
   obtain ⟨r, rfl⟩ : ∃ r, l = 45 :: r := by
    cases l with
    | nil => cases hs
    | cons a r =>
     injection hs with hs
     exact ⟨r, by rw [hs]⟩
   cases signed
   · have hc : canon (45 :: r) = false := by
      cases h : canon (45 :: r) with
      | false => rfl
      | true => exact absurd hs (canon_head h)
     simp [hc]
   · have hb : bare (45 :: r) = r := rfl
     rw [if_pos rfl, hb, List.tail_cons]
     by_cases hc : canon r = true
     · obtain ⟨m, hm, _⟩ := decNat_canon hc
       rw [hm]
       have hr : 1 < (45 :: r).length ↔ r ≠ [] := by cases r <;> simp
       have hne : r ≠ [] := fun e => by rw [e] at hc; exact absurd hc (by decide)
       by_cases hl : r.length ≤ 12
       · by_cases h0 : r = [48]
         · subst h0
           simp
         · rw [if_pos ⟨rfl, hl, hc, h0⟩]
           simp [hl, hc, h0]
       · rw [if_neg (fun e => hl e.2.1)]
         simp [hl]
     · rw [if_neg (fun e => hc e.2.2.1)]
       have hc : canon r = false := by simpa using hc
       simp [hc]
 · rw [if_neg hs]
   have hb : bare l = l := by unfold bare; rw [if_neg hs]
   rw [hb, ite_self]
   unfold numL
   by_cases hc : canon l = true
   · obtain ⟨m, hm, _⟩ := atoi_canon hc
     by_cases hl : l.length ≤ 12
     · rw [if_pos (by simp [hl, hc]), hm]
       by_cases h0 : l = [48]
       · subst h0
         simp [hc]
       · simp [hl, hc, h0]
     · rw [if_neg (by simp [hl])]
       simp [hl]
   · have hc : canon l = false := by simpa using hc
     simp [hc]
theorem all_step {d : ByteArray} {k : Nat} (hk : k < d.size) (h : ((sB d).take k).all isD = true) : ((sB d).take (k + 1)).all isD = isD d[k] := by
 unfold sB at h ⊢
 rw [List.take_succ_eq_append_getElem (by simpa using hk), List.all_append, h, Bool.true_and]
 simp [← ByteArray.getElem_eq_getElem_data]
theorem all_bad {d : ByteArray} {k : Nat} (hk : k < d.size) (h : isD d[k] = false) : canon (sB d) = false := by
 have : (sB d).all isD = false := by
  rw [List.all_eq_false]
  exact ⟨d[k], by simp [sB, ByteArray.getElem_eq_getElem_data], by simp [h]⟩
 unfold canon
 rw [this]
 simp
def badD (d : ByteArray) (n : Nat) : Bool := decide (d = ⟨#[]⟩) || decide (12 < d.size) || (decide (1 < d.size) && decide ((sB d).head? = some 48)) || (decide (d = ⟨#[48]⟩) && decide (1 < n))
theorem bad_is (d : ByteArray) (n : Nat) : (decide ((sB d).length ≤ 12) && canon (sB d) && !(decide (sB d = [48]) && decide (1 < n))) = (!badD d n && (sB d).all isD) := by
 have h1 : d = ⟨#[]⟩ ↔ sB d = [] := ⟨fun e => by rw [e]; rfl, fun e => sB_inj e⟩
 have h2 : d = ⟨#[48]⟩ ↔ sB d = [48] := ⟨fun e => by rw [e]; rfl, fun e => sB_inj e⟩
 have h3 : d.size = (sB d).length := rfl
 unfold badD canon
 simp only [h1, h2, h3]
 generalize sB d = l
 by_cases a : l = []
 · subst a; simp
 have a' : l.isEmpty = false := by cases l with | nil => exact absurd rfl a | cons _ _ => rfl
 rw [a']
 by_cases b : l.length ≤ 12
 · have b' : ¬ 12 < l.length := by omega
   simp only [a, b, b', decide_true, decide_false, Bool.true_and, Bool.false_or, Bool.not_false]
   cases decide (1 < l.length) <;> cases decide (l.head? = some 48) <;> cases decide (l = [48]) <;> cases decide (1 < n) <;> cases l.all isD <;> rfl
 · have b' : 12 < l.length := by omega
   simp [b, b']
set_option maxHeartbeats 8000000 in
set_option maxRecDepth 100000 in
theorem rnumber_any (s : ByteArray) (signed : Bool) (w : World) (hg : Glo w) (hs : s.size ≤ 1000000) :
 Calls Tryz.prog 36 #[.string s, .bool signed] w fun e w' => ∃ n : Int, e = .returned (.tuple #[.int .i64 n, .bool (numW signed (sB s)).isSome]) ∧ (∀ v, numW signed (sB s) = some v → n = v) ∧ Below w.heap.size w w' := by
 have DA := Lib.hid (atoi_every s hs w hg)
 have HNW := Lib.hid (fun v (hv : numW signed (sB s) = some v) => (numP_is signed (sB s)).trans hv)
 have HOK := Lib.hid (refOk_is signed (sB s))
 have DP := Lib.hid (fun W : World => Tryz.strings_TrimPrefix s ⟨#[45]⟩ W)
 rw [show (⟨(Lib.trimPrefix s.data.toList (ByteArray.mk #[45]).data.toList).toArray⟩ : ByteArray) = bt (bare (sB s)) from congrArg bt (trim_bare (sB s))] at DP
 obtain ⟨d, hd⟩ : ∃ d, bt (digs signed (sB s)) = d := ⟨_, rfl⟩
 have hdl : digs signed (sB s) = sB d := by rw [← hd]; rfl
 have HD1 : Hid (signed = true → bt (bare (sB s)) = d) := Lib.hid (fun h => by rw [← hd, h]; rfl)
 have HD2 : Hid (signed = false → s = d) := Lib.hid (fun h => by rw [← hd, h]; exact (bs_sB s).symm)
 unfold refOk at HOK
 rw [hdl] at HOK
 have HLS := Lib.hid (show (sB s).length = s.size from rfl)
 rw [HLS.out, bad_is] at HOK
 have hds : d.size ≤ s.size := by
  rw [← hd]
  show (digs signed (sB s)).length ≤ (sB s).length
  unfold digs bare
  split
  · split <;> simp
  · exact Nat.le_refl _
 clear hd hdl hg
 obtain ⟨ok, hok⟩ : ∃ o, (numW signed (sB s)).isSome = o := ⟨_, rfl⟩
 rw [hok] at HOK ⊢
 cases signed
 case false =>
  have hsd := HD2.out rfl
  subst hsd
  go_enter Tryz.func36, Tryz.ntmps36
  go_upto_region 4 with (fail)
  go_cut [39] (fun p wx => p = .bool (badD s s.size) ∧ wx = w)
  case first =>
   have e4 : (s.toList == [48]) = decide (s = ⟨#[48]⟩) := by rw [← str_eq, ByteArray.toList_eq ⟨#[48]⟩]
   by_cases c0 : s = ⟨#[]⟩
   · have hz : s.size = 0 := by rw [c0]; rfl
     have e0 := str_eq0 hz
     have HF : Hid (badD s s.size = true) := Lib.hid (by unfold badD; simp [c0])
     clear c0 e4
     go_wp2_with fail
     go_meet
     exact ⟨by rw [HF.out], rfl⟩
   have hz : s.size ≠ 0 := fun e => c0 (size0 e)
   have e0 := str_eq1 hz
   by_cases c1 : 12 < s.size
   · have y1 : decide ((12 : Int) < (s.size : Int)) = true := by rw [decide_eq_true_eq]; omega
     have y1' : decide (12 < s.size) = true := by simpa using c1
     have HF : Hid (badD s s.size = true) := Lib.hid (by unfold badD; simp [c1])
     clear c0 c1 e4
     go_wp2_with fail
     go_meet
     exact ⟨by rw [HF.out], rfl⟩
   have y1 : decide ((12 : Int) < (s.size : Int)) = false := by rw [decide_eq_false_iff_not]; omega
   have y1' : decide (12 < s.size) = false := by simpa using c1
   by_cases c2 : 1 < s.size
   · have y2 : decide ((1 : Int) < (s.size : Int)) = true := by rw [decide_eq_true_eq]; omega
     have y2' : decide (1 < s.size) = true := by simpa using c2
     have hpos : 0 < s.size := by omega
     have hh : (sB s).head? = some s[0] := by
      rw [List.head?_eq_getElem?, List.getElem?_eq_getElem (show 0 < (sB s).length from hpos)]
      simp [sB, ByteArray.getElem_eq_getElem_data]
     have c4 : ¬ s = ⟨#[48]⟩ := fun e => by rw [e] at c2; exact absurd c2 (by decide)
     rw [decide_eq_false c4] at e4
     have t3 : decide ((0 : Int) < (s.size : Int)) = true := by rw [decide_eq_true_eq]; omega
     have t3' : decide (0 < s.size) = true := by simpa using hpos
     by_cases c3 : s[0].toNat = 48
     · have e3 : ((s[0].toNat : Int) == 48) = true := by simpa using congrArg Int.ofNat c3
       have HF : Hid (badD s s.size = true) := Lib.hid (by
        have : s[0] = 48 := UInt8.toNat_inj.1 c3
        unfold badD
        rw [hh, this]
        simp [c2])
       clear c0 c1 c3 c4 hh
       go_wp2_with fail
       go_meet
       exact ⟨by rw [HF.out], rfl⟩
     · have e3 : ((s[0].toNat : Int) == 48) = false := by rw [beq_eq_false_iff_ne]; omega
       have HF : Hid (badD s s.size = false) := Lib.hid (by
        have : ¬ s[0] = 48 := fun e => c3 (by rw [e]; rfl)
        unfold badD
        rw [hh]
        simp [c0, c1, c4, this])
       clear c0 c1 c3 c4 hh
       go_wp2_with fail
       go_meet
       exact ⟨by rw [HF.out], rfl⟩
   have y2 : decide ((1 : Int) < (s.size : Int)) = false := by rw [decide_eq_false_iff_not]; omega
   have y2' : decide (1 < s.size) = false := by simpa using c2
   have HF : Hid (badD s s.size = false) := Lib.hid (by unfold badD; simp [c0, c1, c2])
   obtain ⟨z, hz4⟩ : ∃ z, decide (s = ⟨#[48]⟩) = z := ⟨_, rfl⟩
   rw [hz4] at e4
   clear c0 c1 c2 hz4
   cases z
   · go_wp2_with fail
     go_meet
     exact ⟨by rw [HF.out], rfl⟩
   · go_wp2_with fail
     go_meet
     exact ⟨by rw [HF.out], rfl⟩
  case rest =>
   obtain ⟨rfl, rfl⟩ := hcut
   obtain ⟨bad, hbad⟩ : ∃ b, badD s s.size = b := ⟨_, rfl⟩
   rw [hbad] at HOK
   rw [hbad]
   have HNO : Hid (ok = false → ∀ v, numW false (sB s) = some v → False) := Lib.hid (fun h v hv => by
    rw [hv] at hok
    rw [← hok] at h
    cases h)
   have HYES : Hid (ok = true → ∃ v, numW false (sB s) = some v) := Lib.hid (fun h => Option.isSome_iff_exists.1 (hok.trans h))
   clear hbad hok
   cases bad
   case true =>
    have HO : Hid (ok = false) := Lib.hid HOK.out
    have HN1 := Lib.hid (HNO.out HO.out)
    go_wp2_with fail
    go_ret2
    exact ⟨0, by rw [HO.out]; rfl, fun v hv => (HN1.out v hv).elim, Below.refl _ _⟩
   case false =>
    have HO : Hid (ok = (sB s).all isD) := Lib.hid HOK.out
    go_wp2_with fail
    go_loop [7] (fun iv => ∃ (k : Nat), iv = .int .i64 k ∧ k ≤ s.size ∧ Hid (((sB s).take k).all isD = true)) (fun iv => s.size - (intOf iv).toNat)
    case atStart => exact ⟨0, rfl, by omega, Lib.hid rfl⟩
    case round =>
     obtain ⟨k, rfl, hk, HA⟩ := hrel
     by_cases hlt : k < s.size
     · have t3 : decide ((k : Int) < (s.size : Int)) = true := by rw [decide_eq_true_eq]; omega
       have t3' : decide (k < s.size) = true := by simpa using hlt
       have hub : (s[k].toNat : Int) ≤ 255 := by have := s[k].toNat_lt; omega
       have hst := all_step hlt HA.out
       have hbd := all_bad hlt
       have hall : isD s[k] = false → (sB s).all isD = false := fun h => by
        rw [List.all_eq_false]
        exact ⟨s[k], by simp [sB, ByteArray.getElem_eq_getElem_data], by simp [h]⟩
       by_cases hb : 48 ≤ s[k].toNat ∧ s[k].toNat ≤ 57
       · have q1 : decide ((s[k].toNat : Int) < 48) = false := by rw [decide_eq_false_iff_not]; omega
         have q2 : decide ((57 : Int) < (s[k].toNat : Int)) = false := by rw [decide_eq_false_iff_not]; omega
         have HA2 : Hid (((sB s).take (k + 1)).all isD = true) := Lib.hid (by rw [hst]; unfold isD; simp [hb])
         clear hst hbd hall hb
         go_wp2_with fail
         go_round
         case rel => exact ⟨k + 1, by go_num, by omega, HA2⟩
         case measure => simp [intOf]; omega
       · have HO2 : Hid (ok = false) := Lib.hid (by rw [HO.out]; exact hall (by unfold isD; simp; omega))
         have HN1 := Lib.hid (HNO.out HO2.out)
         clear hst hbd hall
         by_cases hc : s[k].toNat < 48
         · have q1 : decide ((s[k].toNat : Int) < 48) = true := by rw [decide_eq_true_eq]; omega
           clear hb hc
           go_wp2_with fail
           go_ret2
           exact ⟨0, by rw [HO2.out]; rfl, fun v hv => (HN1.out v hv).elim, Below.refl _ _⟩
         · have q1 : decide ((s[k].toNat : Int) < 48) = false := by rw [decide_eq_false_iff_not]; omega
           have q2 : decide ((57 : Int) < (s[k].toNat : Int)) = true := by rw [decide_eq_true_eq]; omega
           clear hb hc
           go_wp2_with fail
           go_ret2
           exact ⟨0, by rw [HO2.out]; rfl, fun v hv => (HN1.out v hv).elim, Below.refl _ _⟩
     · have t3 : decide ((k : Int) < (s.size : Int)) = false := by rw [decide_eq_false_iff_not]; omega
       have t3' : decide (k < s.size) = false := by simpa using hlt
       have HO2 : Hid (ok = true) := Lib.hid (by
        have h0 := HA.out
        rw [List.take_of_length_le (show (sB s).length ≤ k from by show s.size ≤ k; omega)] at h0
        rw [HO.out, h0])
       have HV := Lib.hid (HYES.out HO2.out)
       clear hlt
       go_wp2_with (go_at_call 48; refine DA.out.mono ?_; rintro e w2 ⟨n, ev, rfl, hb2, hn0, hn1, hcase⟩; refine Hid.out ?_)
       refine Lib.hid ?_
       have HC := Lib.hid hcase
       clear hcase
       go_wp2_with fail
       go_ret2
       refine ⟨n, by rw [HO2.out]; rfl, fun v hv => ?_, hb2⟩
       have h1 := HNW.out v hv
       rcases HC.out with ⟨_, h2⟩ | ⟨_, h2⟩
       · exact numP_val h2 h1
       · rw [numP_bad h2] at h1; cases h1
 case true =>
  have hsd := HD1.out rfl
  rw [hsd] at DP
  go_enter Tryz.func36, Tryz.ntmps36
  go_upto_region 4 with (go_at_call 49; refine (DP.out _).mono ?_; rintro e w3 ⟨rfl, hw3⟩; rw [hw3])
  go_cut [39] (fun p wx => p = .bool (badD d s.size) ∧ wx = w)
  case first =>
   have e4 : (d.toList == [48]) = decide (d = ⟨#[48]⟩) := by rw [← str_eq, ByteArray.toList_eq ⟨#[48]⟩]
   by_cases c0 : d = ⟨#[]⟩
   · have hz : d.size = 0 := by rw [c0]; rfl
     have e0 := str_eq0 hz
     have HF : Hid (badD d s.size = true) := Lib.hid (by unfold badD; simp [c0])
     clear c0 e4
     go_wp2_with fail
     go_meet
     exact ⟨by rw [HF.out], rfl⟩
   have hz : d.size ≠ 0 := fun e => c0 (size0 e)
   have e0 := str_eq1 hz
   by_cases c1 : 12 < d.size
   · have y1 : decide ((12 : Int) < (d.size : Int)) = true := by rw [decide_eq_true_eq]; omega
     have y1' : decide (12 < d.size) = true := by simpa using c1
     have HF : Hid (badD d s.size = true) := Lib.hid (by unfold badD; simp [c1])
     clear c0 c1 e4
     go_wp2_with fail
     go_meet
     exact ⟨by rw [HF.out], rfl⟩
   have y1 : decide ((12 : Int) < (d.size : Int)) = false := by rw [decide_eq_false_iff_not]; omega
   have y1' : decide (12 < d.size) = false := by simpa using c1
   by_cases c2 : 1 < d.size
   · have y2 : decide ((1 : Int) < (d.size : Int)) = true := by rw [decide_eq_true_eq]; omega
     have y2' : decide (1 < d.size) = true := by simpa using c2
     have hpos : 0 < d.size := by omega
     have hh : (sB d).head? = some d[0] := by
      rw [List.head?_eq_getElem?, List.getElem?_eq_getElem (show 0 < (sB d).length from hpos)]
      simp [sB, ByteArray.getElem_eq_getElem_data]
     have c4 : ¬ d = ⟨#[48]⟩ := fun e => by rw [e] at c2; exact absurd c2 (by decide)
     rw [decide_eq_false c4] at e4
     have t3 : decide ((0 : Int) < (d.size : Int)) = true := by rw [decide_eq_true_eq]; omega
     have t3' : decide (0 < d.size) = true := by simpa using hpos
     by_cases c3 : d[0].toNat = 48
     · have e3 : ((d[0].toNat : Int) == 48) = true := by simpa using congrArg Int.ofNat c3
       have HF : Hid (badD d s.size = true) := Lib.hid (by
        have : d[0] = 48 := UInt8.toNat_inj.1 c3
        unfold badD
        rw [hh, this]
        simp [c2])
       clear c0 c1 c3 c4 hh
       go_wp2_with fail
       go_meet
       exact ⟨by rw [HF.out], rfl⟩
     · have e3 : ((d[0].toNat : Int) == 48) = false := by rw [beq_eq_false_iff_ne]; omega
       have HF : Hid (badD d s.size = false) := Lib.hid (by
        have : ¬ d[0] = 48 := fun e => c3 (by rw [e]; rfl)
        unfold badD
        rw [hh]
        simp [c0, c1, c4, this])
       clear c0 c1 c3 c4 hh
       go_wp2_with fail
       go_meet
       exact ⟨by rw [HF.out], rfl⟩
   have y2 : decide ((1 : Int) < (d.size : Int)) = false := by rw [decide_eq_false_iff_not]; omega
   have y2' : decide (1 < d.size) = false := by simpa using c2
   obtain ⟨z, hz4⟩ : ∃ z, decide (d = ⟨#[48]⟩) = z := ⟨_, rfl⟩
   obtain ⟨z5, hz5⟩ : ∃ z, decide (1 < s.size) = z := ⟨_, rfl⟩
   have y5 : decide ((1 : Int) < (s.size : Int)) = z5 := by rw [← hz5, Bool.eq_iff_iff, decide_eq_true_eq, decide_eq_true_eq]; omega
   have HF : Hid (badD d s.size = (z && z5)) := Lib.hid (by unfold badD; rw [hz4, hz5]; simp [c0, c1, c2])
   rw [hz4] at e4
   clear c0 c1 c2 hz4
   cases z <;> cases z5
   all_goals
    go_wp2_with fail
    go_meet
    exact ⟨by rw [HF.out]; rfl, rfl⟩
  case rest =>
   obtain ⟨rfl, rfl⟩ := hcut
   obtain ⟨bad, hbad⟩ : ∃ b, badD d s.size = b := ⟨_, rfl⟩
   rw [hbad] at HOK
   rw [hbad]
   have HNO : Hid (ok = false → ∀ v, numW true (sB s) = some v → False) := Lib.hid (fun h v hv => by
    rw [hv] at hok
    rw [← hok] at h
    cases h)
   have HYES : Hid (ok = true → ∃ v, numW true (sB s) = some v) := Lib.hid (fun h => Option.isSome_iff_exists.1 (hok.trans h))
   clear hbad hok
   cases bad
   case true =>
    have HO : Hid (ok = false) := Lib.hid HOK.out
    have HN1 := Lib.hid (HNO.out HO.out)
    go_wp2_with fail
    go_ret2
    exact ⟨0, by rw [HO.out]; rfl, fun v hv => (HN1.out v hv).elim, Below.refl _ _⟩
   case false =>
    have HO : Hid (ok = (sB d).all isD) := Lib.hid HOK.out
    go_wp2_with fail
    go_loop [7] (fun iv => ∃ (k : Nat), iv = .int .i64 k ∧ k ≤ d.size ∧ Hid (((sB d).take k).all isD = true)) (fun iv => d.size - (intOf iv).toNat)
    case atStart => exact ⟨0, rfl, by omega, Lib.hid rfl⟩
    case round =>
     obtain ⟨k, rfl, hk, HA⟩ := hrel
     by_cases hlt : k < d.size
     · have t3 : decide ((k : Int) < (d.size : Int)) = true := by rw [decide_eq_true_eq]; omega
       have t3' : decide (k < d.size) = true := by simpa using hlt
       have hub : (d[k].toNat : Int) ≤ 255 := by have := d[k].toNat_lt; omega
       have hst := all_step hlt HA.out
       have hbd := all_bad hlt
       have hall : isD d[k] = false → (sB d).all isD = false := fun h => by
        rw [List.all_eq_false]
        exact ⟨d[k], by simp [sB, ByteArray.getElem_eq_getElem_data], by simp [h]⟩
       by_cases hb : 48 ≤ d[k].toNat ∧ d[k].toNat ≤ 57
       · have q1 : decide ((d[k].toNat : Int) < 48) = false := by rw [decide_eq_false_iff_not]; omega
         have q2 : decide ((57 : Int) < (d[k].toNat : Int)) = false := by rw [decide_eq_false_iff_not]; omega
         have HA2 : Hid (((sB d).take (k + 1)).all isD = true) := Lib.hid (by rw [hst]; unfold isD; simp [hb])
         clear hst hbd hall hb
         go_wp2_with fail
         go_round
         case rel => exact ⟨k + 1, by go_num, by omega, HA2⟩
         case measure => simp [intOf]; omega
       · have HO2 : Hid (ok = false) := Lib.hid (by rw [HO.out]; exact hall (by unfold isD; simp; omega))
         have HN1 := Lib.hid (HNO.out HO2.out)
         clear hst hbd hall
         by_cases hc : d[k].toNat < 48
         · have q1 : decide ((d[k].toNat : Int) < 48) = true := by rw [decide_eq_true_eq]; omega
           clear hb hc
           go_wp2_with fail
           go_ret2
           exact ⟨0, by rw [HO2.out]; rfl, fun v hv => (HN1.out v hv).elim, Below.refl _ _⟩
         · have q1 : decide ((d[k].toNat : Int) < 48) = false := by rw [decide_eq_false_iff_not]; omega
           have q2 : decide ((57 : Int) < (d[k].toNat : Int)) = true := by rw [decide_eq_true_eq]; omega
           clear hb hc
           go_wp2_with fail
           go_ret2
           exact ⟨0, by rw [HO2.out]; rfl, fun v hv => (HN1.out v hv).elim, Below.refl _ _⟩
     · have t3 : decide ((k : Int) < (d.size : Int)) = false := by rw [decide_eq_false_iff_not]; omega
       have t3' : decide (k < d.size) = false := by simpa using hlt
       have HO2 : Hid (ok = true) := Lib.hid (by
        have h0 := HA.out
        rw [List.take_of_length_le (show (sB d).length ≤ k from by show d.size ≤ k; omega)] at h0
        rw [HO.out, h0])
       have HV := Lib.hid (HYES.out HO2.out)
       clear hlt
       go_wp2_with (go_at_call 48; refine DA.out.mono ?_; rintro e w2 ⟨n, ev, rfl, hb2, hn0, hn1, hcase⟩; refine Hid.out ?_)
       refine Lib.hid ?_
       have HC := Lib.hid hcase
       clear hcase
       go_wp2_with fail
       go_ret2
       refine ⟨n, by rw [HO2.out]; rfl, fun v hv => ?_, hb2⟩
       have h1 := HNW.out v hv
       rcases HC.out with ⟨_, h2⟩ | ⟨_, h2⟩
       · exact numP_val h2 h1
       · rw [numP_bad h2] at h1; cases h1
end Go.Proofs.YtcngjbfbdonpeaaGreatDoor

/- A text of this claim. -/
namespace Go.Proofs.YtcngjbfbdonpeaaGreatDoor
open Go.RowKit Go.BigFrame
open Txt
open Tr (Ed inR)
theorem ta_counted_parted (v : Value) (W : World) : (Instr.typeAssert (.iface 77 v) 56 59 true).run Tryz.prog W = .ok (.tuple #[.agg #[.int .i64 0, .int .i64 0, .int .i64 0, .int .i64 0, .string ⟨#[]⟩], .bool false]) W := by kernel_rfl
theorem ta_tracked_parted (v : Value) (W : World) : (Instr.typeAssert (.iface 78 v) 56 59 true).run Tryz.prog W = .ok (.tuple #[.agg #[.int .i64 0, .int .i64 0, .int .i64 0, .int .i64 0, .string ⟨#[]⟩], .bool false]) W := by kernel_rfl
theorem ta_parted_parted (v : Value) (W : World) : (Instr.typeAssert (.iface 59 v) 56 59 true).run Tryz.prog W = .ok (.tuple #[v, .bool true]) W := by kernel_rfl
theorem SOwn.weaken {w : World} {base base' : Nat} {v : Value} {l : List ByteArray} (h : SOwn w base v l) (hb : base' ≤ base) : SOwn w base' v l := by
 refine ⟨h.1, ?_⟩
 rcases h.2 with e | ⟨g, cap, cur, h1, h2, h3⟩
 · exact Or.inl e
 · exact Or.inr ⟨g, cap, cur, h1, Nat.le_trans hb h2, h3⟩
theorem grown_ext {V w w' : World} {base : Nat} {v : Value} {l : List ByteArray} (hb : Below V.heap.size V w) (h : SOwn w base v l) (hg : w.grownBy w' v.ownBlock) (hV : V.heap.size ≤ base) : Below V.heap.size V w' :=
 hb.grown hg hb.size fun k hk => Nat.le_trans hV (World.ownsRow.lt h k hk).1
theorem one_str {W : World} {g : Nat} {s : ByteArray} (h : W.cell? ⟨g, 0, none⟩ = some (.string s)) : ∀ j u, [s][j]? = some u → W.cell? ⟨g, j, none⟩ = some (.string u) := fun j u hj => by
 cases j with
 | zero => injection hj with hj; rw [← hj]; exact h
 | succ j => simp at hj
theorem two_str {W : World} {g : Nat} {s r : ByteArray} (h : W.cell? ⟨g, 0, none⟩ = some (.string s)) (h' : W.cell? ⟨g, 1, none⟩ = some (.string r)) : ∀ j u, [s, r][j]? = some u → W.cell? ⟨g, j, none⟩ = some (.string u) := fun j u hj => by
 cases j with
 | zero => injection hj with hj; rw [← hj]; exact h
 | succ j =>
  cases j with
  | zero => injection hj with hj; rw [← hj]; exact h'
  | succ j => simp at hj
def LineRet (ws : List ByteArray) (w : World) (e : Ending) (w' : World) : Prop := e = .returned (.string (bt (joinL 32 (ws.map sB) ++ [10]))) ∧ Below w.heap.size w w'
set_option maxHeartbeats 4000000 in
set_option maxRecDepth 100000 in
theorem lineOf_text (m : Nat) (hm : m < 13) (n f t : Int) (s : ByteArray) (w : World) (hg : Glo w) (hT : edI ⟨m, n, f, t, s⟩ = .iface 58 (edV ⟨m, n, f, t, s⟩)) (hsz : (joinL 32 (([wordK m, s]).map sB)).length ≤ 1000000) :
 Calls Tryz.prog 12 #[edV ⟨m, n, f, t, s⟩] w fun e w' => LineRet [wordK m, s] w e w' := by
 unfold LineRet
 have DE := Lib.hid (fun W => editOf_any ⟨m, n, f, t, s⟩ W)
 have HE : Hid (edI ⟨m, n, f, t, s⟩ = .iface 58 (edV ⟨m, n, f, t, s⟩)) := Lib.hid hT
 rw [HE.out] at DE
 have ta1 := fun v W => ta_texted_texted v W
 have HG := Lib.hid hg
 obtain ⟨u, hu⟩ : ∃ u, wordK m = u := ⟨_, rfl⟩
 have HWV : Hid (∀ W : World, (W.alloc (.cells wordsV 9)).cell? ⟨W.heap.size, m, none⟩ = some (.string u)) := Lib.hid (fun W => by
  rw [World.cell?_alloc_at _ _ _ _ rfl, wordsV_at hm, ← hu])
 have DJ := Lib.hid (fun (g c : Nat) (W : World) (hc : ∀ j x, ([wordK m, s])[j]? = some x → W.cell? ⟨g, 0 + j, none⟩ = some (.string x)) (hb : g < W.heap.size) (hl : ([wordK m, s]).length ≤ c) => joinS_any g c ([wordK m, s]) W hc hb hl (by simp) hsz)
 have hap := bt_snoc (joinL 32 (([wordK m, s]).map sB)) 10
 have hsz2 : (bt (joinL 32 (([wordK m, s]).map sB))).size ≤ 1000000 := hsz
 rw [← hap]
 obtain ⟨S, hS⟩ : ∃ S, bt (joinL 32 (([wordK m, s]).map sB)) = S := ⟨_, rfl⟩
 rw [hS] at DJ hsz2
 rw [hS]
 rw [hu] at DJ
 clear hap hsz hS hu hg hT
 unfold edV at *
 simp only at *
 obtain ⟨V1, hV1, hb1, hs1, hl1⟩ := alloc_cells w #[.int .i64 m, .int .i64 n, .int .i64 f, .int .i64 t, .string s] 30
 have HB1 := Lib.hid hb1
 have X0 := Ext.ex (show V1.cell? ⟨w.heap.size, 0, none⟩ = some (.int .i64 m) from hl1 0 _ rfl)
 have X1 := Ext.ex (show V1.cell? ⟨w.heap.size, 1, none⟩ = some (.int .i64 n) from hl1 1 _ rfl)
 have X2 := Ext.ex (show V1.cell? ⟨w.heap.size, 2, none⟩ = some (.int .i64 f) from hl1 2 _ rfl)
 have X3 := Ext.ex (show V1.cell? ⟨w.heap.size, 3, none⟩ = some (.int .i64 t) from hl1 3 _ rfl)
 have X4 := Ext.ex (show V1.cell? ⟨w.heap.size, 4, none⟩ = some (.string s) from hl1 4 _ rfl)
 have HGL := Lib.hid (fun X : Ext V1 => (HG.out.below hb1).below (show Below V1.heap.size V1 X.1 from X.2))
 have HSV := Lib.hid (show w.heap.size ≤ V1.heap.size by omega)
 clear HE hl1 hb1 hs1
 go_enter Tryz.func12, Tryz.ntmps12
 go_upto_region 1 with (fail)
 clear hV1
 go_cut [3] (fun p wx => ∃ (g c : Nat) (X : Ext V1), p = .slice (some ⟨g, 0, none⟩) 1 c ∧ wx = X.1 ∧ Hid (SOwn X.1 V1.heap.size p [u]))
 case first =>
  refine held_start (C := fun w' => ∃ Z : Ext V1, w' = Z.1) (by kernel_rfl) ?_
  obtain ⟨Z0, hZ0⟩ : ∃ Z : Ext V1, ({ V1 with drawn := V1.drawn + 1 } : World) = Z.1 := ⟨⟨{ V1 with drawn := V1.drawn + 1 }, ⟨rfl, rfl, rfl, Nat.le_refl _, fun _ _ => rfl⟩⟩, rfl⟩
  rw [hZ0]
  clear hZ0
  refine held_quiet (by kernel_rfl) (fun _ _ d _ _ h => by cases d <;> exact h) ⟨Z0, rfl⟩ [1, 2] 5 _ _ (by kernel_rfl) ?_
  change wpQuiet _ _ _ _ (_ :: _ :: []) _
  repeat go_big_quiet_step (fail)
  refine wpQuiet_nil ?_
  refine held_do (i := 0) _ rfl (by kernel_rfl) rfl (fun K hK => ?_)
  go_simp
  refine (words_any _).mono ?_
  rintro e w2 ⟨rfl, hw2⟩
  have hq2 := HWV.out Z0.1
  rw [← hw2] at hq2
  obtain ⟨Z1, rfl⟩ : ∃ Z : Ext V1, w2 = Z.1 := ⟨⟨w2, by rw [hw2]; exact below_step Z0.2 (below_al _ _)⟩, rfl⟩
  clear hw2
  refine hK _ _ ⟨Z1, rfl⟩ ?_
  clear hK K
  try simp only [Act.put, List.setIfInBounds_toArray, List.set_cons_zero, List.set_cons_succ]
  refine held_do (i := 3) _ rfl (by kernel_rfl) rfl (fun K hK => ?_)
  go_simp
  try rw [if_pos (by omega)]
  go_simp
  refine hK _ _ ⟨Z1, rfl⟩ ?_
  clear hK K
  try simp only [Act.put, List.setIfInBounds_toArray, List.set_cons_zero, List.set_cons_succ]
  refine held_do (i := 4) _ rfl (by kernel_rfl) rfl (fun K hK => ?_)
  go_simp
  refine hK _ _ ⟨Z1, rfl⟩ ?_
  clear hK K
  try simp only [Act.put, List.setIfInBounds_toArray, List.set_cons_zero, List.set_cons_succ]
  refine held_do (i := 5) _ rfl (by kernel_rfl) rfl (fun K hK => ?_)
  go_simp
  obtain ⟨w3, hw3⟩ : ∃ W, Z1.1.alloc (.cells #[.string u] 9) = W := ⟨_, rfl⟩
  have ho3 := SOwn.one Z1.1 u
  rw [hw3] at ho3 ⊢
  have HO3 := Lib.hid (ho3.weaken Z1.2.size)
  obtain ⟨Z2, rfl⟩ : ∃ Z : Ext V1, w3 = Z.1 := ⟨⟨w3, by rw [← hw3]; exact below_step Z1.2 (below_al _ _)⟩, rfl⟩
  clear hw3 ho3
  refine hK _ _ ⟨Z2, rfl⟩ ?_
  clear hK K
  try simp only [Act.put, List.setIfInBounds_toArray, List.set_cons_zero, List.set_cons_succ]
  refine held_quiet (by kernel_rfl) (fun _ _ d _ _ h => by cases d <;> exact h) ⟨Z2, rfl⟩ [6] 0 _ _ (by kernel_rfl) ?_
  change wpQuiet _ _ _ _ (_ :: []) _
  repeat go_big_quiet_step (fail)
  refine wpQuiet_nil ?_
  refine wpAnyH_done (by kernel_rfl) ?_ _
  go_wp2_with fail
  go_meet
  exact ⟨_, _, Z2, rfl, rfl, HO3⟩
 case rest =>
  obtain ⟨g, c, X, rfl, rfl, HO⟩ := hcut
  go_upto_region 4 with (go_at_call 27; refine (DE.out _).mono ?_; rintro e w3 ⟨rfl, hb3⟩)
  obtain ⟨Y, rfl⟩ : ∃ Z : Ext V1, w3 = Z.1 := ⟨⟨w3, below_step X.2 hb3⟩, rfl⟩
  have HOY := Lib.hid (HO.out.below hb3)
  clear hb3 HO
  obtain ⟨W5, hW5, hb5, hs5, hl5⟩ := alloc_cells Y.1 #[.string s] 9
  have HC5 := Lib.hid (one_str (hl5 0 _ rfl))
  have HO5 := Lib.hid (HOY.out.below hb5)
  have HB5 := Lib.hid (below_step Y.2 hb5)
  clear hb5 hs5 hl5 HOY
  go_upto_region 12 with (at_builtin; refine append_s rfl _ _ rfl rfl HO5.out rfl (ys := [s]) rfl (by decide) HC5.out (by simp) HB5.out.size (fun g9 c9 w9 ho9 hg9 => ?_))
  have HB9 := Lib.hid (grown_ext HB5.out HO5.out hg9 (Nat.le_refl _))
  have HO9 := Lib.hid ho9
  clear hg9 ho9 HO5 HB5
  obtain ⟨_, hlc, hgb, _, hcc⟩ := HO9.out.cells
  have DJ9 := Lib.hid (DJ.out _ _ w9 hcc hgb hlc)
  clear hlc hgb hcc DJ HO9
  go_wp2_with (go_at_call 28; refine DJ9.out.mono ?_; rintro e w10 ⟨rfl, hb10⟩)
  go_ret
  exact ⟨rfl, HB1.out.trans ((below_step HB9.out hb10).mono HSV.out)⟩
set_option maxHeartbeats 4000000 in
set_option maxRecDepth 100000 in
theorem lineOf_counted (m : Nat) (hm : m < 13) (n f t : Int) (s : ByteArray) (w : World) (hg : Glo w) (hn : -9223372036854775808 ≤ n ∧ n ≤ 9223372036854775807) (hT : edI ⟨m, n, f, t, s⟩ = .iface 77 (edV ⟨m, n, f, t, s⟩)) (hsz : (joinL 32 (([wordK m, itoaB n]).map sB)).length ≤ 1000000) :
 Calls Tryz.prog 12 #[edV ⟨m, n, f, t, s⟩] w fun e w' => LineRet [wordK m, itoaB n] w e w' := by
 unfold LineRet
 have DE := Lib.hid (fun W => editOf_any ⟨m, n, f, t, s⟩ W)
 have HE : Hid (edI ⟨m, n, f, t, s⟩ = .iface 77 (edV ⟨m, n, f, t, s⟩)) := Lib.hid hT
 rw [HE.out] at DE
 have ta1 := fun v W => ta_counted_texted v W
 have ta2 := fun v W => ta_counted_parted v W
 have HG := Lib.hid hg
 obtain ⟨u, hu⟩ : ∃ u, wordK m = u := ⟨_, rfl⟩
 have HWV : Hid (∀ W : World, (W.alloc (.cells wordsV 9)).cell? ⟨W.heap.size, m, none⟩ = some (.string u)) := Lib.hid (fun W => by
  rw [World.cell?_alloc_at _ _ _ _ rfl, wordsV_at hm, ← hu])
 have DJ := Lib.hid (fun (g c : Nat) (W : World) (hc : ∀ j x, ([wordK m, itoaB n])[j]? = some x → W.cell? ⟨g, 0 + j, none⟩ = some (.string x)) (hb : g < W.heap.size) (hl : ([wordK m, itoaB n]).length ≤ c) => joinS_any g c ([wordK m, itoaB n]) W hc hb hl (by simp) hsz)
 have hap := bt_snoc (joinL 32 (([wordK m, itoaB n]).map sB)) 10
 have hsz2 : (bt (joinL 32 (([wordK m, itoaB n]).map sB))).size ≤ 1000000 := hsz
 rw [← hap]
 obtain ⟨S, hS⟩ : ∃ S, bt (joinL 32 (([wordK m, itoaB n]).map sB)) = S := ⟨_, rfl⟩
 rw [hS] at DJ hsz2
 rw [hS]
 rw [hu] at DJ
 clear hap hsz hS hu hg hT
 unfold edV at *
 simp only at *
 obtain ⟨V1, hV1, hb1, hs1, hl1⟩ := alloc_cells w #[.int .i64 m, .int .i64 n, .int .i64 f, .int .i64 t, .string s] 30
 have HB1 := Lib.hid hb1
 have X0 := Ext.ex (show V1.cell? ⟨w.heap.size, 0, none⟩ = some (.int .i64 m) from hl1 0 _ rfl)
 have X1 := Ext.ex (show V1.cell? ⟨w.heap.size, 1, none⟩ = some (.int .i64 n) from hl1 1 _ rfl)
 have X2 := Ext.ex (show V1.cell? ⟨w.heap.size, 2, none⟩ = some (.int .i64 f) from hl1 2 _ rfl)
 have X3 := Ext.ex (show V1.cell? ⟨w.heap.size, 3, none⟩ = some (.int .i64 t) from hl1 3 _ rfl)
 have X4 := Ext.ex (show V1.cell? ⟨w.heap.size, 4, none⟩ = some (.string s) from hl1 4 _ rfl)
 have HGL := Lib.hid (fun X : Ext V1 => (HG.out.below hb1).below (show Below V1.heap.size V1 X.1 from X.2))
 have HSV := Lib.hid (show w.heap.size ≤ V1.heap.size by omega)
 clear HE hl1 hb1 hs1
 go_enter Tryz.func12, Tryz.ntmps12
 go_upto_region 1 with (fail)
 clear hV1
 go_cut [3] (fun p wx => ∃ (g c : Nat) (X : Ext V1), p = .slice (some ⟨g, 0, none⟩) 1 c ∧ wx = X.1 ∧ Hid (SOwn X.1 V1.heap.size p [u]))
 case first =>
  refine held_start (C := fun w' => ∃ Z : Ext V1, w' = Z.1) (by kernel_rfl) ?_
  obtain ⟨Z0, hZ0⟩ : ∃ Z : Ext V1, ({ V1 with drawn := V1.drawn + 1 } : World) = Z.1 := ⟨⟨{ V1 with drawn := V1.drawn + 1 }, ⟨rfl, rfl, rfl, Nat.le_refl _, fun _ _ => rfl⟩⟩, rfl⟩
  rw [hZ0]
  clear hZ0
  refine held_quiet (by kernel_rfl) (fun _ _ d _ _ h => by cases d <;> exact h) ⟨Z0, rfl⟩ [1, 2] 5 _ _ (by kernel_rfl) ?_
  change wpQuiet _ _ _ _ (_ :: _ :: []) _
  repeat go_big_quiet_step (fail)
  refine wpQuiet_nil ?_
  refine held_do (i := 0) _ rfl (by kernel_rfl) rfl (fun K hK => ?_)
  go_simp
  refine (words_any _).mono ?_
  rintro e w2 ⟨rfl, hw2⟩
  have hq2 := HWV.out Z0.1
  rw [← hw2] at hq2
  obtain ⟨Z1, rfl⟩ : ∃ Z : Ext V1, w2 = Z.1 := ⟨⟨w2, by rw [hw2]; exact below_step Z0.2 (below_al _ _)⟩, rfl⟩
  clear hw2
  refine hK _ _ ⟨Z1, rfl⟩ ?_
  clear hK K
  try simp only [Act.put, List.setIfInBounds_toArray, List.set_cons_zero, List.set_cons_succ]
  refine held_do (i := 3) _ rfl (by kernel_rfl) rfl (fun K hK => ?_)
  go_simp
  try rw [if_pos (by omega)]
  go_simp
  refine hK _ _ ⟨Z1, rfl⟩ ?_
  clear hK K
  try simp only [Act.put, List.setIfInBounds_toArray, List.set_cons_zero, List.set_cons_succ]
  refine held_do (i := 4) _ rfl (by kernel_rfl) rfl (fun K hK => ?_)
  go_simp
  refine hK _ _ ⟨Z1, rfl⟩ ?_
  clear hK K
  try simp only [Act.put, List.setIfInBounds_toArray, List.set_cons_zero, List.set_cons_succ]
  refine held_do (i := 5) _ rfl (by kernel_rfl) rfl (fun K hK => ?_)
  go_simp
  obtain ⟨w3, hw3⟩ : ∃ W, Z1.1.alloc (.cells #[.string u] 9) = W := ⟨_, rfl⟩
  have ho3 := SOwn.one Z1.1 u
  rw [hw3] at ho3 ⊢
  have HO3 := Lib.hid (ho3.weaken Z1.2.size)
  obtain ⟨Z2, rfl⟩ : ∃ Z : Ext V1, w3 = Z.1 := ⟨⟨w3, by rw [← hw3]; exact below_step Z1.2 (below_al _ _)⟩, rfl⟩
  clear hw3 ho3
  refine hK _ _ ⟨Z2, rfl⟩ ?_
  clear hK K
  try simp only [Act.put, List.setIfInBounds_toArray, List.set_cons_zero, List.set_cons_succ]
  refine held_quiet (by kernel_rfl) (fun _ _ d _ _ h => by cases d <;> exact h) ⟨Z2, rfl⟩ [6] 0 _ _ (by kernel_rfl) ?_
  change wpQuiet _ _ _ _ (_ :: []) _
  repeat go_big_quiet_step (fail)
  refine wpQuiet_nil ?_
  refine wpAnyH_done (by kernel_rfl) ?_ _
  go_wp2_with fail
  go_meet
  exact ⟨_, _, Z2, rfl, rfl, HO3⟩
 case rest =>
  obtain ⟨g, c, X, rfl, rfl, HO⟩ := hcut
  go_upto_region 4 with (go_at_call 27; refine (DE.out _).mono ?_; rintro e w3 ⟨rfl, hb3⟩)
  obtain ⟨Y, rfl⟩ : ∃ Z : Ext V1, w3 = Z.1 := ⟨⟨w3, below_step X.2 hb3⟩, rfl⟩
  have HOY := Lib.hid (HO.out.below hb3)
  clear hb3 HO
  obtain ⟨q, hq⟩ : ∃ q, itoaB n = q := ⟨_, rfl⟩
  have DI := Lib.hid (fun (X : Ext V1) => itoa_any n hn.1 hn.2 X.1 (HGL.out X))
  rw [hq] at DI DJ
  clear hq
  go_wp2_with (go_at_call 17; refine (DI.out Y).mono ?_; rintro e w4 ⟨rfl, hb4⟩; refine Hid.out ?_)
  refine Lib.hid ?_
  obtain ⟨Y4, rfl⟩ : ∃ Z : Ext V1, w4 = Z.1 := ⟨⟨w4, below_step Y.2 hb4⟩, rfl⟩
  have HOY4 := Lib.hid (HOY.out.below hb4)
  clear hb4 HOY
  obtain ⟨W5, hW5, hb5, hs5, hl5⟩ := alloc_cells Y4.1 #[.string q] 9
  have HC5 := Lib.hid (one_str (hl5 0 _ rfl))
  have HO5 := Lib.hid (HOY4.out.below hb5)
  have HB5 := Lib.hid (below_step Y4.2 hb5)
  clear hb5 hs5 hl5 HOY4
  go_upto_region 12 with (at_builtin; refine append_s rfl _ _ rfl rfl HO5.out rfl (ys := [q]) rfl (by decide) HC5.out (by simp) HB5.out.size (fun g9 c9 w9 ho9 hg9 => ?_))
  have HB9 := Lib.hid (grown_ext HB5.out HO5.out hg9 (Nat.le_refl _))
  have HO9 := Lib.hid ho9
  clear hg9 ho9 HO5 HB5
  obtain ⟨_, hlc, hgb, _, hcc⟩ := HO9.out.cells
  have DJ9 := Lib.hid (DJ.out _ _ w9 hcc hgb hlc)
  clear hlc hgb hcc DJ HO9
  go_wp2_with (go_at_call 28; refine DJ9.out.mono ?_; rintro e w10 ⟨rfl, hb10⟩)
  go_ret
  exact ⟨rfl, HB1.out.trans ((below_step HB9.out hb10).mono HSV.out)⟩
set_option maxHeartbeats 4000000 in
set_option maxRecDepth 100000 in
theorem lineOf_tracked (m : Nat) (hm : m < 13) (n f t : Int) (s : ByteArray) (w : World) (hg : Glo w) (hn : -9223372036854775808 ≤ n ∧ n ≤ 9223372036854775807) (hT : edI ⟨m, n, f, t, s⟩ = .iface 78 (edV ⟨m, n, f, t, s⟩)) (hsz : (joinL 32 (([wordK m, itoaB n]).map sB)).length ≤ 1000000) :
 Calls Tryz.prog 12 #[edV ⟨m, n, f, t, s⟩] w fun e w' => LineRet [wordK m, itoaB n] w e w' := by
 unfold LineRet
 have DE := Lib.hid (fun W => editOf_any ⟨m, n, f, t, s⟩ W)
 have HE : Hid (edI ⟨m, n, f, t, s⟩ = .iface 78 (edV ⟨m, n, f, t, s⟩)) := Lib.hid hT
 rw [HE.out] at DE
 have ta1 := fun v W => ta_tracked_texted v W
 have ta2 := fun v W => ta_tracked_parted v W
 have HG := Lib.hid hg
 obtain ⟨u, hu⟩ : ∃ u, wordK m = u := ⟨_, rfl⟩
 have HWV : Hid (∀ W : World, (W.alloc (.cells wordsV 9)).cell? ⟨W.heap.size, m, none⟩ = some (.string u)) := Lib.hid (fun W => by
  rw [World.cell?_alloc_at _ _ _ _ rfl, wordsV_at hm, ← hu])
 have DJ := Lib.hid (fun (g c : Nat) (W : World) (hc : ∀ j x, ([wordK m, itoaB n])[j]? = some x → W.cell? ⟨g, 0 + j, none⟩ = some (.string x)) (hb : g < W.heap.size) (hl : ([wordK m, itoaB n]).length ≤ c) => joinS_any g c ([wordK m, itoaB n]) W hc hb hl (by simp) hsz)
 have hap := bt_snoc (joinL 32 (([wordK m, itoaB n]).map sB)) 10
 have hsz2 : (bt (joinL 32 (([wordK m, itoaB n]).map sB))).size ≤ 1000000 := hsz
 rw [← hap]
 obtain ⟨S, hS⟩ : ∃ S, bt (joinL 32 (([wordK m, itoaB n]).map sB)) = S := ⟨_, rfl⟩
 rw [hS] at DJ hsz2
 rw [hS]
 rw [hu] at DJ
 clear hap hsz hS hu hg hT
 unfold edV at *
 simp only at *
 obtain ⟨V1, hV1, hb1, hs1, hl1⟩ := alloc_cells w #[.int .i64 m, .int .i64 n, .int .i64 f, .int .i64 t, .string s] 30
 have HB1 := Lib.hid hb1
 have X0 := Ext.ex (show V1.cell? ⟨w.heap.size, 0, none⟩ = some (.int .i64 m) from hl1 0 _ rfl)
 have X1 := Ext.ex (show V1.cell? ⟨w.heap.size, 1, none⟩ = some (.int .i64 n) from hl1 1 _ rfl)
 have X2 := Ext.ex (show V1.cell? ⟨w.heap.size, 2, none⟩ = some (.int .i64 f) from hl1 2 _ rfl)
 have X3 := Ext.ex (show V1.cell? ⟨w.heap.size, 3, none⟩ = some (.int .i64 t) from hl1 3 _ rfl)
 have X4 := Ext.ex (show V1.cell? ⟨w.heap.size, 4, none⟩ = some (.string s) from hl1 4 _ rfl)
 have HGL := Lib.hid (fun X : Ext V1 => (HG.out.below hb1).below (show Below V1.heap.size V1 X.1 from X.2))
 have HSV := Lib.hid (show w.heap.size ≤ V1.heap.size by omega)
 clear HE hl1 hb1 hs1
 go_enter Tryz.func12, Tryz.ntmps12
 go_upto_region 1 with (fail)
 clear hV1
 go_cut [3] (fun p wx => ∃ (g c : Nat) (X : Ext V1), p = .slice (some ⟨g, 0, none⟩) 1 c ∧ wx = X.1 ∧ Hid (SOwn X.1 V1.heap.size p [u]))
 case first =>
  refine held_start (C := fun w' => ∃ Z : Ext V1, w' = Z.1) (by kernel_rfl) ?_
  obtain ⟨Z0, hZ0⟩ : ∃ Z : Ext V1, ({ V1 with drawn := V1.drawn + 1 } : World) = Z.1 := ⟨⟨{ V1 with drawn := V1.drawn + 1 }, ⟨rfl, rfl, rfl, Nat.le_refl _, fun _ _ => rfl⟩⟩, rfl⟩
  rw [hZ0]
  clear hZ0
  refine held_quiet (by kernel_rfl) (fun _ _ d _ _ h => by cases d <;> exact h) ⟨Z0, rfl⟩ [1, 2] 5 _ _ (by kernel_rfl) ?_
  change wpQuiet _ _ _ _ (_ :: _ :: []) _
  repeat go_big_quiet_step (fail)
  refine wpQuiet_nil ?_
  refine held_do (i := 0) _ rfl (by kernel_rfl) rfl (fun K hK => ?_)
  go_simp
  refine (words_any _).mono ?_
  rintro e w2 ⟨rfl, hw2⟩
  have hq2 := HWV.out Z0.1
  rw [← hw2] at hq2
  obtain ⟨Z1, rfl⟩ : ∃ Z : Ext V1, w2 = Z.1 := ⟨⟨w2, by rw [hw2]; exact below_step Z0.2 (below_al _ _)⟩, rfl⟩
  clear hw2
  refine hK _ _ ⟨Z1, rfl⟩ ?_
  clear hK K
  try simp only [Act.put, List.setIfInBounds_toArray, List.set_cons_zero, List.set_cons_succ]
  refine held_do (i := 3) _ rfl (by kernel_rfl) rfl (fun K hK => ?_)
  go_simp
  try rw [if_pos (by omega)]
  go_simp
  refine hK _ _ ⟨Z1, rfl⟩ ?_
  clear hK K
  try simp only [Act.put, List.setIfInBounds_toArray, List.set_cons_zero, List.set_cons_succ]
  refine held_do (i := 4) _ rfl (by kernel_rfl) rfl (fun K hK => ?_)
  go_simp
  refine hK _ _ ⟨Z1, rfl⟩ ?_
  clear hK K
  try simp only [Act.put, List.setIfInBounds_toArray, List.set_cons_zero, List.set_cons_succ]
  refine held_do (i := 5) _ rfl (by kernel_rfl) rfl (fun K hK => ?_)
  go_simp
  obtain ⟨w3, hw3⟩ : ∃ W, Z1.1.alloc (.cells #[.string u] 9) = W := ⟨_, rfl⟩
  have ho3 := SOwn.one Z1.1 u
  rw [hw3] at ho3 ⊢
  have HO3 := Lib.hid (ho3.weaken Z1.2.size)
  obtain ⟨Z2, rfl⟩ : ∃ Z : Ext V1, w3 = Z.1 := ⟨⟨w3, by rw [← hw3]; exact below_step Z1.2 (below_al _ _)⟩, rfl⟩
  clear hw3 ho3
  refine hK _ _ ⟨Z2, rfl⟩ ?_
  clear hK K
  try simp only [Act.put, List.setIfInBounds_toArray, List.set_cons_zero, List.set_cons_succ]
  refine held_quiet (by kernel_rfl) (fun _ _ d _ _ h => by cases d <;> exact h) ⟨Z2, rfl⟩ [6] 0 _ _ (by kernel_rfl) ?_
  change wpQuiet _ _ _ _ (_ :: []) _
  repeat go_big_quiet_step (fail)
  refine wpQuiet_nil ?_
  refine wpAnyH_done (by kernel_rfl) ?_ _
  go_wp2_with fail
  go_meet
  exact ⟨_, _, Z2, rfl, rfl, HO3⟩
 case rest =>
  obtain ⟨g, c, X, rfl, rfl, HO⟩ := hcut
  go_upto_region 4 with (go_at_call 27; refine (DE.out _).mono ?_; rintro e w3 ⟨rfl, hb3⟩)
  obtain ⟨Y, rfl⟩ : ∃ Z : Ext V1, w3 = Z.1 := ⟨⟨w3, below_step X.2 hb3⟩, rfl⟩
  have HOY := Lib.hid (HO.out.below hb3)
  clear hb3 HO
  obtain ⟨q, hq⟩ : ∃ q, itoaB n = q := ⟨_, rfl⟩
  have DI := Lib.hid (fun (X : Ext V1) => itoa_any n hn.1 hn.2 X.1 (HGL.out X))
  rw [hq] at DI DJ
  clear hq
  go_wp2_with (go_at_call 17; refine (DI.out Y).mono ?_; rintro e w4 ⟨rfl, hb4⟩; refine Hid.out ?_)
  refine Lib.hid ?_
  obtain ⟨Y4, rfl⟩ : ∃ Z : Ext V1, w4 = Z.1 := ⟨⟨w4, below_step Y.2 hb4⟩, rfl⟩
  have HOY4 := Lib.hid (HOY.out.below hb4)
  clear hb4 HOY
  obtain ⟨W5, hW5, hb5, hs5, hl5⟩ := alloc_cells Y4.1 #[.string q] 9
  have HC5 := Lib.hid (one_str (hl5 0 _ rfl))
  have HO5 := Lib.hid (HOY4.out.below hb5)
  have HB5 := Lib.hid (below_step Y4.2 hb5)
  clear hb5 hs5 hl5 HOY4
  go_upto_region 12 with (at_builtin; refine append_s rfl _ _ rfl rfl HO5.out rfl (ys := [q]) rfl (by decide) HC5.out (by simp) HB5.out.size (fun g9 c9 w9 ho9 hg9 => ?_))
  have HB9 := Lib.hid (grown_ext HB5.out HO5.out hg9 (Nat.le_refl _))
  have HO9 := Lib.hid ho9
  clear hg9 ho9 HO5 HB5
  obtain ⟨_, hlc, hgb, _, hcc⟩ := HO9.out.cells
  have DJ9 := Lib.hid (DJ.out _ _ w9 hcc hgb hlc)
  clear hlc hgb hcc DJ HO9
  go_wp2_with (go_at_call 28; refine DJ9.out.mono ?_; rintro e w10 ⟨rfl, hb10⟩)
  go_ret
  exact ⟨rfl, HB1.out.trans ((below_step HB9.out hb10).mono HSV.out)⟩
set_option maxHeartbeats 4000000 in
set_option maxRecDepth 100000 in
theorem lineOf_unlap (n f t : Int) (s : ByteArray) (w : World) (hg : Glo w) (hn : -9223372036854775808 ≤ n ∧ n ≤ 9223372036854775807) (hsz : (joinL 32 (([wordK 12, itoaB n]).map sB)).length ≤ 1000000) :
 Calls Tryz.prog 12 #[edV ⟨12, n, f, t, s⟩] w fun e w' => LineRet [wordK 12, itoaB n] w e w' := by
 unfold LineRet
 have DE := Lib.hid (fun W => editOf_any ⟨12, n, f, t, s⟩ W)
 have HE : Hid (edI ⟨12, n, f, t, s⟩ = .iface 59 (edV ⟨12, n, f, t, s⟩)) := Lib.hid rfl
 rw [HE.out] at DE
 have ta1 := fun v W => ta_parted_texted v W
 have ta2 := fun v W => ta_parted_parted v W
 have HG := Lib.hid hg
 obtain ⟨u, hu⟩ : ∃ u, wordK 12 = u := ⟨_, rfl⟩
 have HWV : Hid (∀ W : World, (W.alloc (.cells wordsV 9)).cell? ⟨W.heap.size, 12, none⟩ = some (.string u)) := Lib.hid (fun W => by
  rw [World.cell?_alloc_at _ _ _ _ rfl, wordsV_at (by omega), ← hu]
  rfl)
 have DJ := Lib.hid (fun (g c : Nat) (W : World) (hc : ∀ j x, ([wordK 12, itoaB n])[j]? = some x → W.cell? ⟨g, 0 + j, none⟩ = some (.string x)) (hb : g < W.heap.size) (hl : ([wordK 12, itoaB n]).length ≤ c) => joinS_any g c ([wordK 12, itoaB n]) W hc hb hl (by simp) hsz)
 have hap := bt_snoc (joinL 32 (([wordK 12, itoaB n]).map sB)) 10
 have hsz2 : (bt (joinL 32 (([wordK 12, itoaB n]).map sB))).size ≤ 1000000 := hsz
 rw [← hap]
 obtain ⟨S, hS⟩ : ∃ S, bt (joinL 32 (([wordK 12, itoaB n]).map sB)) = S := ⟨_, rfl⟩
 rw [hS] at DJ hsz2
 rw [hS]
 rw [hu] at DJ
 clear hap hsz hS hu hg
 unfold edV at *
 simp only at *
 obtain ⟨V1, hV1, hb1, hs1, hl1⟩ := alloc_cells w #[.int .i64 12, .int .i64 n, .int .i64 f, .int .i64 t, .string s] 30
 have HB1 := Lib.hid hb1
 have X0 := Ext.ex (show V1.cell? ⟨w.heap.size, 0, none⟩ = some (.int .i64 12) from hl1 0 _ rfl)
 have X1 := Ext.ex (show V1.cell? ⟨w.heap.size, 1, none⟩ = some (.int .i64 n) from hl1 1 _ rfl)
 have X2 := Ext.ex (show V1.cell? ⟨w.heap.size, 2, none⟩ = some (.int .i64 f) from hl1 2 _ rfl)
 have X3 := Ext.ex (show V1.cell? ⟨w.heap.size, 3, none⟩ = some (.int .i64 t) from hl1 3 _ rfl)
 have X4 := Ext.ex (show V1.cell? ⟨w.heap.size, 4, none⟩ = some (.string s) from hl1 4 _ rfl)
 have HGL := Lib.hid (fun X : Ext V1 => (HG.out.below hb1).below (show Below V1.heap.size V1 X.1 from X.2))
 have HSV := Lib.hid (show w.heap.size ≤ V1.heap.size by omega)
 clear HE hl1 hb1 hs1
 go_enter Tryz.func12, Tryz.ntmps12
 go_upto_region 1 with (fail)
 clear hV1
 go_cut [3] (fun p wx => ∃ (g c : Nat) (X : Ext V1), p = .slice (some ⟨g, 0, none⟩) 1 c ∧ wx = X.1 ∧ Hid (SOwn X.1 V1.heap.size p [u]))
 case first =>
  refine held_start (C := fun w' => ∃ Z : Ext V1, w' = Z.1) (by kernel_rfl) ?_
  obtain ⟨Z0, hZ0⟩ : ∃ Z : Ext V1, ({ V1 with drawn := V1.drawn + 1 } : World) = Z.1 := ⟨⟨{ V1 with drawn := V1.drawn + 1 }, ⟨rfl, rfl, rfl, Nat.le_refl _, fun _ _ => rfl⟩⟩, rfl⟩
  rw [hZ0]
  clear hZ0
  refine held_quiet (by kernel_rfl) (fun _ _ d _ _ h => by cases d <;> exact h) ⟨Z0, rfl⟩ [1, 2] 5 _ _ (by kernel_rfl) ?_
  change wpQuiet _ _ _ _ (_ :: _ :: []) _
  repeat go_big_quiet_step (fail)
  refine wpQuiet_nil ?_
  refine held_do (i := 0) _ rfl (by kernel_rfl) rfl (fun K hK => ?_)
  go_simp
  refine (words_any _).mono ?_
  rintro e w2 ⟨rfl, hw2⟩
  have hq2 := HWV.out Z0.1
  rw [← hw2] at hq2
  obtain ⟨Z1, rfl⟩ : ∃ Z : Ext V1, w2 = Z.1 := ⟨⟨w2, by rw [hw2]; exact below_step Z0.2 (below_al _ _)⟩, rfl⟩
  clear hw2
  refine hK _ _ ⟨Z1, rfl⟩ ?_
  clear hK K
  try simp only [Act.put, List.setIfInBounds_toArray, List.set_cons_zero, List.set_cons_succ]
  refine held_do (i := 3) _ rfl (by kernel_rfl) rfl (fun K hK => ?_)
  go_simp
  try rw [if_pos (by omega)]
  go_simp
  refine hK _ _ ⟨Z1, rfl⟩ ?_
  clear hK K
  try simp only [Act.put, List.setIfInBounds_toArray, List.set_cons_zero, List.set_cons_succ]
  refine held_do (i := 4) _ rfl (by kernel_rfl) rfl (fun K hK => ?_)
  go_simp
  refine hK _ _ ⟨Z1, rfl⟩ ?_
  clear hK K
  try simp only [Act.put, List.setIfInBounds_toArray, List.set_cons_zero, List.set_cons_succ]
  refine held_do (i := 5) _ rfl (by kernel_rfl) rfl (fun K hK => ?_)
  go_simp
  obtain ⟨w3, hw3⟩ : ∃ W, Z1.1.alloc (.cells #[.string u] 9) = W := ⟨_, rfl⟩
  have ho3 := SOwn.one Z1.1 u
  rw [hw3] at ho3 ⊢
  have HO3 := Lib.hid (ho3.weaken Z1.2.size)
  obtain ⟨Z2, rfl⟩ : ∃ Z : Ext V1, w3 = Z.1 := ⟨⟨w3, by rw [← hw3]; exact below_step Z1.2 (below_al _ _)⟩, rfl⟩
  clear hw3 ho3
  refine hK _ _ ⟨Z2, rfl⟩ ?_
  clear hK K
  try simp only [Act.put, List.setIfInBounds_toArray, List.set_cons_zero, List.set_cons_succ]
  refine held_quiet (by kernel_rfl) (fun _ _ d _ _ h => by cases d <;> exact h) ⟨Z2, rfl⟩ [6] 0 _ _ (by kernel_rfl) ?_
  change wpQuiet _ _ _ _ (_ :: []) _
  repeat go_big_quiet_step (fail)
  refine wpQuiet_nil ?_
  refine wpAnyH_done (by kernel_rfl) ?_ _
  go_wp2_with fail
  go_meet
  exact ⟨_, _, Z2, rfl, rfl, HO3⟩
 case rest =>
  obtain ⟨g, c, X, rfl, rfl, HO⟩ := hcut
  go_upto_region 4 with (go_at_call 27; refine (DE.out _).mono ?_; rintro e w3 ⟨rfl, hb3⟩)
  obtain ⟨Y, rfl⟩ : ∃ Z : Ext V1, w3 = Z.1 := ⟨⟨w3, below_step X.2 hb3⟩, rfl⟩
  have HOY := Lib.hid (HO.out.below hb3)
  clear hb3 HO
  obtain ⟨q, hq⟩ : ∃ q, itoaB n = q := ⟨_, rfl⟩
  have DI := Lib.hid (fun (X : Ext V1) => itoa_any n hn.1 hn.2 X.1 (HGL.out X))
  rw [hq] at DI DJ
  clear hq
  go_wp2_with (go_at_call 17; refine (DI.out Y).mono ?_; rintro e w4 ⟨rfl, hb4⟩; refine Hid.out ?_)
  refine Lib.hid ?_
  obtain ⟨Y4, rfl⟩ : ∃ Z : Ext V1, w4 = Z.1 := ⟨⟨w4, below_step Y.2 hb4⟩, rfl⟩
  have HOY4 := Lib.hid (HOY.out.below hb4)
  clear hb4 HOY
  obtain ⟨W5, hW5, hb5, hs5, hl5⟩ := alloc_cells Y4.1 #[.string q] 9
  have HC5 := Lib.hid (one_str (hl5 0 _ rfl))
  have HO5 := Lib.hid (HOY4.out.below hb5)
  have HB5 := Lib.hid (below_step Y4.2 hb5)
  clear hb5 hs5 hl5 HOY4
  go_upto_region 12 with (at_builtin; refine append_s rfl _ _ rfl rfl HO5.out rfl (ys := [q]) rfl (by decide) HC5.out (by simp) HB5.out.size (fun g9 c9 w9 ho9 hg9 => ?_))
  have HB9 := Lib.hid (grown_ext HB5.out HO5.out hg9 (Nat.le_refl _))
  have HO9 := Lib.hid ho9
  clear hg9 ho9 HO5 HB5
  obtain ⟨_, hlc, hgb, _, hcc⟩ := HO9.out.cells
  have DJ9 := Lib.hid (DJ.out _ _ w9 hcc hgb hlc)
  clear hlc hgb hcc DJ HO9
  go_wp2_with (go_at_call 28; refine DJ9.out.mono ?_; rintro e w10 ⟨rfl, hb10⟩)
  go_ret
  exact ⟨rfl, HB1.out.trans ((below_step HB9.out hb10).mono HSV.out)⟩
set_option maxHeartbeats 4000000 in
set_option maxRecDepth 100000 in
theorem lineOf_crop (n f t : Int) (s : ByteArray) (w : World) (hg : Glo w) (hf : -9223372036854775808 ≤ f ∧ f ≤ 9223372036854775807) (ht : -9223372036854775808 ≤ t ∧ t ≤ 9223372036854775807) (hsz : (joinL 32 (([wordK 8, itoaB f, itoaB t]).map sB)).length ≤ 1000000) :
 Calls Tryz.prog 12 #[edV ⟨8, n, f, t, s⟩] w fun e w' => LineRet [wordK 8, itoaB f, itoaB t] w e w' := by
 unfold LineRet
 have DE := Lib.hid (fun W => editOf_any ⟨8, n, f, t, s⟩ W)
 have HE : Hid (edI ⟨8, n, f, t, s⟩ = .iface 59 (edV ⟨8, n, f, t, s⟩)) := Lib.hid rfl
 rw [HE.out] at DE
 have ta1 := fun v W => ta_parted_texted v W
 have ta2 := fun v W => ta_parted_parted v W
 have HG := Lib.hid hg
 obtain ⟨u, hu⟩ : ∃ u, wordK 8 = u := ⟨_, rfl⟩
 have HWV : Hid (∀ W : World, (W.alloc (.cells wordsV 9)).cell? ⟨W.heap.size, 8, none⟩ = some (.string u)) := Lib.hid (fun W => by
  rw [World.cell?_alloc_at _ _ _ _ rfl, wordsV_at (by omega), ← hu]
  rfl)
 have DJ := Lib.hid (fun (g c : Nat) (W : World) (hc : ∀ j x, ([wordK 8, itoaB f, itoaB t])[j]? = some x → W.cell? ⟨g, 0 + j, none⟩ = some (.string x)) (hb : g < W.heap.size) (hl : ([wordK 8, itoaB f, itoaB t]).length ≤ c) => joinS_any g c ([wordK 8, itoaB f, itoaB t]) W hc hb hl (by simp) hsz)
 have hap := bt_snoc (joinL 32 (([wordK 8, itoaB f, itoaB t]).map sB)) 10
 have hsz2 : (bt (joinL 32 (([wordK 8, itoaB f, itoaB t]).map sB))).size ≤ 1000000 := hsz
 rw [← hap]
 obtain ⟨S, hS⟩ : ∃ S, bt (joinL 32 (([wordK 8, itoaB f, itoaB t]).map sB)) = S := ⟨_, rfl⟩
 rw [hS] at DJ hsz2
 rw [hS]
 rw [hu] at DJ
 clear hap hsz hS hu hg
 unfold edV at *
 simp only at *
 obtain ⟨V1, hV1, hb1, hs1, hl1⟩ := alloc_cells w #[.int .i64 8, .int .i64 n, .int .i64 f, .int .i64 t, .string s] 30
 have HB1 := Lib.hid hb1
 have X0 := Ext.ex (show V1.cell? ⟨w.heap.size, 0, none⟩ = some (.int .i64 8) from hl1 0 _ rfl)
 have X1 := Ext.ex (show V1.cell? ⟨w.heap.size, 1, none⟩ = some (.int .i64 n) from hl1 1 _ rfl)
 have X2 := Ext.ex (show V1.cell? ⟨w.heap.size, 2, none⟩ = some (.int .i64 f) from hl1 2 _ rfl)
 have X3 := Ext.ex (show V1.cell? ⟨w.heap.size, 3, none⟩ = some (.int .i64 t) from hl1 3 _ rfl)
 have X4 := Ext.ex (show V1.cell? ⟨w.heap.size, 4, none⟩ = some (.string s) from hl1 4 _ rfl)
 have HGL := Lib.hid (fun X : Ext V1 => (HG.out.below hb1).below (show Below V1.heap.size V1 X.1 from X.2))
 have HSV := Lib.hid (show w.heap.size ≤ V1.heap.size by omega)
 clear HE hl1 hb1 hs1
 go_enter Tryz.func12, Tryz.ntmps12
 go_upto_region 1 with (fail)
 clear hV1
 go_cut [3] (fun p wx => ∃ (g c : Nat) (X : Ext V1), p = .slice (some ⟨g, 0, none⟩) 1 c ∧ wx = X.1 ∧ Hid (SOwn X.1 V1.heap.size p [u]))
 case first =>
  refine held_start (C := fun w' => ∃ Z : Ext V1, w' = Z.1) (by kernel_rfl) ?_
  obtain ⟨Z0, hZ0⟩ : ∃ Z : Ext V1, ({ V1 with drawn := V1.drawn + 1 } : World) = Z.1 := ⟨⟨{ V1 with drawn := V1.drawn + 1 }, ⟨rfl, rfl, rfl, Nat.le_refl _, fun _ _ => rfl⟩⟩, rfl⟩
  rw [hZ0]
  clear hZ0
  refine held_quiet (by kernel_rfl) (fun _ _ d _ _ h => by cases d <;> exact h) ⟨Z0, rfl⟩ [1, 2] 5 _ _ (by kernel_rfl) ?_
  change wpQuiet _ _ _ _ (_ :: _ :: []) _
  repeat go_big_quiet_step (fail)
  refine wpQuiet_nil ?_
  refine held_do (i := 0) _ rfl (by kernel_rfl) rfl (fun K hK => ?_)
  go_simp
  refine (words_any _).mono ?_
  rintro e w2 ⟨rfl, hw2⟩
  have hq2 := HWV.out Z0.1
  rw [← hw2] at hq2
  obtain ⟨Z1, rfl⟩ : ∃ Z : Ext V1, w2 = Z.1 := ⟨⟨w2, by rw [hw2]; exact below_step Z0.2 (below_al _ _)⟩, rfl⟩
  clear hw2
  refine hK _ _ ⟨Z1, rfl⟩ ?_
  clear hK K
  try simp only [Act.put, List.setIfInBounds_toArray, List.set_cons_zero, List.set_cons_succ]
  refine held_do (i := 3) _ rfl (by kernel_rfl) rfl (fun K hK => ?_)
  go_simp
  try rw [if_pos (by omega)]
  go_simp
  refine hK _ _ ⟨Z1, rfl⟩ ?_
  clear hK K
  try simp only [Act.put, List.setIfInBounds_toArray, List.set_cons_zero, List.set_cons_succ]
  refine held_do (i := 4) _ rfl (by kernel_rfl) rfl (fun K hK => ?_)
  go_simp
  refine hK _ _ ⟨Z1, rfl⟩ ?_
  clear hK K
  try simp only [Act.put, List.setIfInBounds_toArray, List.set_cons_zero, List.set_cons_succ]
  refine held_do (i := 5) _ rfl (by kernel_rfl) rfl (fun K hK => ?_)
  go_simp
  obtain ⟨w3, hw3⟩ : ∃ W, Z1.1.alloc (.cells #[.string u] 9) = W := ⟨_, rfl⟩
  have ho3 := SOwn.one Z1.1 u
  rw [hw3] at ho3 ⊢
  have HO3 := Lib.hid (ho3.weaken Z1.2.size)
  obtain ⟨Z2, rfl⟩ : ∃ Z : Ext V1, w3 = Z.1 := ⟨⟨w3, by rw [← hw3]; exact below_step Z1.2 (below_al _ _)⟩, rfl⟩
  clear hw3 ho3
  refine hK _ _ ⟨Z2, rfl⟩ ?_
  clear hK K
  try simp only [Act.put, List.setIfInBounds_toArray, List.set_cons_zero, List.set_cons_succ]
  refine held_quiet (by kernel_rfl) (fun _ _ d _ _ h => by cases d <;> exact h) ⟨Z2, rfl⟩ [6] 0 _ _ (by kernel_rfl) ?_
  change wpQuiet _ _ _ _ (_ :: []) _
  repeat go_big_quiet_step (fail)
  refine wpQuiet_nil ?_
  refine wpAnyH_done (by kernel_rfl) ?_ _
  go_wp2_with fail
  go_meet
  exact ⟨_, _, Z2, rfl, rfl, HO3⟩
 case rest =>
  obtain ⟨g, c, X, rfl, rfl, HO⟩ := hcut
  go_upto_region 4 with (go_at_call 27; refine (DE.out _).mono ?_; rintro e w3 ⟨rfl, hb3⟩)
  obtain ⟨Y, rfl⟩ : ∃ Z : Ext V1, w3 = Z.1 := ⟨⟨w3, below_step X.2 hb3⟩, rfl⟩
  have HOY := Lib.hid (HO.out.below hb3)
  clear hb3 HO
  obtain ⟨qf, hqf⟩ : ∃ q, itoaB f = q := ⟨_, rfl⟩
  obtain ⟨qt, hqt⟩ : ∃ q, itoaB t = q := ⟨_, rfl⟩
  have DF := Lib.hid (fun (X : Ext V1) => itoa_any f hf.1 hf.2 X.1 (HGL.out X))
  have DT := Lib.hid (fun (X : Ext V1) => itoa_any t ht.1 ht.2 X.1 (HGL.out X))
  rw [hqf] at DF
  rw [hqt] at DT
  rw [hqf, hqt] at DJ
  clear hqf hqt
  go_upto_region 9 with (fail)
  go_cut [3] (fun p wx => ∃ (g c : Nat) (X : Ext V1), p = .slice (some ⟨g, 0, none⟩) 3 c ∧ wx = X.1 ∧ Hid (SOwn X.1 V1.heap.size p [u, qf, qt]))
  case first =>
   refine held_start (C := fun w' => ∃ Z : Ext V1, w' = Z.1) (by kernel_rfl) ?_
   obtain ⟨Z0, hZ0⟩ : ∃ Z : Ext V1, ({ Y.1 with drawn := Y.1.drawn + 1 } : World) = Z.1 := ⟨⟨{ Y.1 with drawn := Y.1.drawn + 1 }, below_step Y.2 ⟨rfl, rfl, rfl, Nat.le_refl _, fun _ _ => rfl⟩⟩, rfl⟩
   rw [hZ0]
   have HO0 := Lib.hid (HOY.out.below (show Below Y.1.heap.size Y.1 Z0.1 by rw [← hZ0]; exact ⟨rfl, rfl, rfl, Nat.le_refl _, fun _ _ => rfl⟩))
   clear HOY
   clear hZ0
   refine held_quiet (by kernel_rfl) (fun _ _ d _ _ h => by cases d <;> exact h) ⟨Z0, rfl⟩ [0, 1, 2, 4, 5] 5 _ _ (by kernel_rfl) ?_
   change wpQuiet _ _ _ _ (_ :: _ :: _ :: _ :: _ :: []) _
   repeat go_big_quiet_step (fail)
   refine wpQuiet_nil ?_
   refine held_do (i := 3) _ rfl (by kernel_rfl) rfl (fun K hK => ?_)
   go_simp
   refine (DF.out Z0).mono ?_
   rintro e w2 ⟨rfl, hb2⟩
   obtain ⟨Z1, rfl⟩ : ∃ Z : Ext V1, w2 = Z.1 := ⟨⟨w2, below_step Z0.2 hb2⟩, rfl⟩
   have HO1 := Lib.hid (HO0.out.below hb2)
   clear hb2
   refine hK _ _ ⟨Z1, rfl⟩ ?_
   clear hK K
   try simp only [Act.put, List.setIfInBounds_toArray, List.set_cons_zero, List.set_cons_succ]
   refine held_do (i := 6) _ rfl (by kernel_rfl) rfl (fun K hK => ?_)
   go_simp
   refine (DT.out Z1).mono ?_
   rintro e w2 ⟨rfl, hb2⟩
   obtain ⟨Z2, rfl⟩ : ∃ Z : Ext V1, w2 = Z.1 := ⟨⟨w2, below_step Z1.2 hb2⟩, rfl⟩
   have HO2 := Lib.hid (HO1.out.below hb2)
   clear hb2
   refine hK _ _ ⟨Z2, rfl⟩ ?_
   clear hK K
   try simp only [Act.put, List.setIfInBounds_toArray, List.set_cons_zero, List.set_cons_succ]
   refine held_do (i := 7) _ rfl (by kernel_rfl) rfl (fun K hK => ?_)
   go_simp
   obtain ⟨W5, hW5, hb5, hs5, hl5⟩ := alloc_cells Z2.1 #[.string qf, .string qt] 9
   rw [hW5]
   have HC5 := Lib.hid (two_str (hl5 0 _ rfl) (hl5 1 _ rfl))
   have HO5 := Lib.hid (HO2.out.below hb5)
   have HB5 := Lib.hid (below_step Z2.2 hb5)
   obtain ⟨Z3, rfl⟩ : ∃ Z : Ext V1, W5 = Z.1 := ⟨⟨W5, HB5.out⟩, rfl⟩
   clear hW5 hb5 hs5 hl5
   refine hK _ _ ⟨Z3, rfl⟩ ?_
   clear hK K
   try simp only [Act.put, List.setIfInBounds_toArray, List.set_cons_zero, List.set_cons_succ]
   refine held_do (i := 8) _ rfl (by kernel_rfl) rfl (fun K hK => ?_)
   refine wp_append_s _ _ rfl rfl HO5.out rfl (ys := [qf, qt]) rfl (by decide) HC5.out (by simp) HB5.out.size (fun g9 c9 w9 ho9 hg9 => ?_)
   have HB9 := Lib.hid (grown_ext HB5.out HO5.out hg9 (Nat.le_refl _))
   have HO9 := Lib.hid ho9
   obtain ⟨Z4, rfl⟩ : ∃ Z : Ext V1, w9 = Z.1 := ⟨⟨w9, HB9.out⟩, rfl⟩
   refine hK _ _ ⟨Z4, rfl⟩ ?_
   clear hK K hg9 ho9
   try simp only [Act.put, List.setIfInBounds_toArray, List.set_cons_zero, List.set_cons_succ]
   refine held_quiet (by kernel_rfl) (fun _ _ d _ _ h => by cases d <;> exact h) ⟨Z4, rfl⟩ [9] 0 _ _ (by kernel_rfl) ?_
   change wpQuiet _ _ _ _ (_ :: []) _
   repeat go_big_quiet_step (fail)
   refine wpQuiet_nil ?_
   refine wpAnyH_done (by kernel_rfl) ?_ _
   go_wp2_with fail
   go_meet
   exact ⟨_, _, Z4, rfl, rfl, HO9⟩
  case rest =>
   obtain ⟨g2, c2, X2, rfl, rfl, HO⟩ := hcut
   have HB9 := Lib.hid X2.2
   have HO9 := HO
   clear HO
   obtain ⟨_, hlc, hgb, _, hcc⟩ := HO9.out.cells
   have DJ9 := Lib.hid (DJ.out _ _ _ hcc hgb hlc)
   clear hlc hgb hcc DJ HO9
   go_wp2_with (go_at_call 28; refine DJ9.out.mono ?_; rintro e w10 ⟨rfl, hb10⟩)
   go_ret
   exact ⟨rfl, HB1.out.trans ((below_step HB9.out hb10).mono HSV.out)⟩
set_option maxHeartbeats 4000000 in
set_option maxRecDepth 100000 in
theorem lineOf_lap (n f t : Int) (s : ByteArray) (w : World) (hg : Glo w) (hf : -9223372036854775808 ≤ f ∧ f ≤ 9223372036854775807) (ht : -9223372036854775808 ≤ t ∧ t ≤ 9223372036854775807) (hsz : (joinL 32 (([wordK 11, itoaB f, itoaB t, s]).map sB)).length ≤ 1000000) :
 Calls Tryz.prog 12 #[edV ⟨11, n, f, t, s⟩] w fun e w' => LineRet [wordK 11, itoaB f, itoaB t, s] w e w' := by
 unfold LineRet
 have DE := Lib.hid (fun W => editOf_any ⟨11, n, f, t, s⟩ W)
 have HE : Hid (edI ⟨11, n, f, t, s⟩ = .iface 59 (edV ⟨11, n, f, t, s⟩)) := Lib.hid rfl
 rw [HE.out] at DE
 have ta1 := fun v W => ta_parted_texted v W
 have ta2 := fun v W => ta_parted_parted v W
 have HG := Lib.hid hg
 obtain ⟨u, hu⟩ : ∃ u, wordK 11 = u := ⟨_, rfl⟩
 have HWV : Hid (∀ W : World, (W.alloc (.cells wordsV 9)).cell? ⟨W.heap.size, 11, none⟩ = some (.string u)) := Lib.hid (fun W => by
  rw [World.cell?_alloc_at _ _ _ _ rfl, wordsV_at (by omega), ← hu]
  rfl)
 have DJ := Lib.hid (fun (g c : Nat) (W : World) (hc : ∀ j x, ([wordK 11, itoaB f, itoaB t, s])[j]? = some x → W.cell? ⟨g, 0 + j, none⟩ = some (.string x)) (hb : g < W.heap.size) (hl : ([wordK 11, itoaB f, itoaB t, s]).length ≤ c) => joinS_any g c ([wordK 11, itoaB f, itoaB t, s]) W hc hb hl (by simp) hsz)
 have hap := bt_snoc (joinL 32 (([wordK 11, itoaB f, itoaB t, s]).map sB)) 10
 have hsz2 : (bt (joinL 32 (([wordK 11, itoaB f, itoaB t, s]).map sB))).size ≤ 1000000 := hsz
 rw [← hap]
 obtain ⟨S, hS⟩ : ∃ S, bt (joinL 32 (([wordK 11, itoaB f, itoaB t, s]).map sB)) = S := ⟨_, rfl⟩
 rw [hS] at DJ hsz2
 rw [hS]
 rw [hu] at DJ
 clear hap hsz hS hu hg
 unfold edV at *
 simp only at *
 obtain ⟨V1, hV1, hb1, hs1, hl1⟩ := alloc_cells w #[.int .i64 11, .int .i64 n, .int .i64 f, .int .i64 t, .string s] 30
 have HB1 := Lib.hid hb1
 have X0 := Ext.ex (show V1.cell? ⟨w.heap.size, 0, none⟩ = some (.int .i64 11) from hl1 0 _ rfl)
 have X1 := Ext.ex (show V1.cell? ⟨w.heap.size, 1, none⟩ = some (.int .i64 n) from hl1 1 _ rfl)
 have X2 := Ext.ex (show V1.cell? ⟨w.heap.size, 2, none⟩ = some (.int .i64 f) from hl1 2 _ rfl)
 have X3 := Ext.ex (show V1.cell? ⟨w.heap.size, 3, none⟩ = some (.int .i64 t) from hl1 3 _ rfl)
 have X4 := Ext.ex (show V1.cell? ⟨w.heap.size, 4, none⟩ = some (.string s) from hl1 4 _ rfl)
 have HGL := Lib.hid (fun X : Ext V1 => (HG.out.below hb1).below (show Below V1.heap.size V1 X.1 from X.2))
 have HSV := Lib.hid (show w.heap.size ≤ V1.heap.size by omega)
 clear HE hl1 hb1 hs1
 go_enter Tryz.func12, Tryz.ntmps12
 go_upto_region 1 with (fail)
 clear hV1
 go_cut [3] (fun p wx => ∃ (g c : Nat) (X : Ext V1), p = .slice (some ⟨g, 0, none⟩) 1 c ∧ wx = X.1 ∧ Hid (SOwn X.1 V1.heap.size p [u]))
 case first =>
  refine held_start (C := fun w' => ∃ Z : Ext V1, w' = Z.1) (by kernel_rfl) ?_
  obtain ⟨Z0, hZ0⟩ : ∃ Z : Ext V1, ({ V1 with drawn := V1.drawn + 1 } : World) = Z.1 := ⟨⟨{ V1 with drawn := V1.drawn + 1 }, ⟨rfl, rfl, rfl, Nat.le_refl _, fun _ _ => rfl⟩⟩, rfl⟩
  rw [hZ0]
  clear hZ0
  refine held_quiet (by kernel_rfl) (fun _ _ d _ _ h => by cases d <;> exact h) ⟨Z0, rfl⟩ [1, 2] 5 _ _ (by kernel_rfl) ?_
  change wpQuiet _ _ _ _ (_ :: _ :: []) _
  repeat go_big_quiet_step (fail)
  refine wpQuiet_nil ?_
  refine held_do (i := 0) _ rfl (by kernel_rfl) rfl (fun K hK => ?_)
  go_simp
  refine (words_any _).mono ?_
  rintro e w2 ⟨rfl, hw2⟩
  have hq2 := HWV.out Z0.1
  rw [← hw2] at hq2
  obtain ⟨Z1, rfl⟩ : ∃ Z : Ext V1, w2 = Z.1 := ⟨⟨w2, by rw [hw2]; exact below_step Z0.2 (below_al _ _)⟩, rfl⟩
  clear hw2
  refine hK _ _ ⟨Z1, rfl⟩ ?_
  clear hK K
  try simp only [Act.put, List.setIfInBounds_toArray, List.set_cons_zero, List.set_cons_succ]
  refine held_do (i := 3) _ rfl (by kernel_rfl) rfl (fun K hK => ?_)
  go_simp
  try rw [if_pos (by omega)]
  go_simp
  refine hK _ _ ⟨Z1, rfl⟩ ?_
  clear hK K
  try simp only [Act.put, List.setIfInBounds_toArray, List.set_cons_zero, List.set_cons_succ]
  refine held_do (i := 4) _ rfl (by kernel_rfl) rfl (fun K hK => ?_)
  go_simp
  refine hK _ _ ⟨Z1, rfl⟩ ?_
  clear hK K
  try simp only [Act.put, List.setIfInBounds_toArray, List.set_cons_zero, List.set_cons_succ]
  refine held_do (i := 5) _ rfl (by kernel_rfl) rfl (fun K hK => ?_)
  go_simp
  obtain ⟨w3, hw3⟩ : ∃ W, Z1.1.alloc (.cells #[.string u] 9) = W := ⟨_, rfl⟩
  have ho3 := SOwn.one Z1.1 u
  rw [hw3] at ho3 ⊢
  have HO3 := Lib.hid (ho3.weaken Z1.2.size)
  obtain ⟨Z2, rfl⟩ : ∃ Z : Ext V1, w3 = Z.1 := ⟨⟨w3, by rw [← hw3]; exact below_step Z1.2 (below_al _ _)⟩, rfl⟩
  clear hw3 ho3
  refine hK _ _ ⟨Z2, rfl⟩ ?_
  clear hK K
  try simp only [Act.put, List.setIfInBounds_toArray, List.set_cons_zero, List.set_cons_succ]
  refine held_quiet (by kernel_rfl) (fun _ _ d _ _ h => by cases d <;> exact h) ⟨Z2, rfl⟩ [6] 0 _ _ (by kernel_rfl) ?_
  change wpQuiet _ _ _ _ (_ :: []) _
  repeat go_big_quiet_step (fail)
  refine wpQuiet_nil ?_
  refine wpAnyH_done (by kernel_rfl) ?_ _
  go_wp2_with fail
  go_meet
  exact ⟨_, _, Z2, rfl, rfl, HO3⟩
 case rest =>
  obtain ⟨g, c, X, rfl, rfl, HO⟩ := hcut
  go_upto_region 4 with (go_at_call 27; refine (DE.out _).mono ?_; rintro e w3 ⟨rfl, hb3⟩)
  obtain ⟨Y, rfl⟩ : ∃ Z : Ext V1, w3 = Z.1 := ⟨⟨w3, below_step X.2 hb3⟩, rfl⟩
  have HOY := Lib.hid (HO.out.below hb3)
  clear hb3 HO
  obtain ⟨qf, hqf⟩ : ∃ q, itoaB f = q := ⟨_, rfl⟩
  obtain ⟨qt, hqt⟩ : ∃ q, itoaB t = q := ⟨_, rfl⟩
  have DF := Lib.hid (fun (X : Ext V1) => itoa_any f hf.1 hf.2 X.1 (HGL.out X))
  have DT := Lib.hid (fun (X : Ext V1) => itoa_any t ht.1 ht.2 X.1 (HGL.out X))
  rw [hqf] at DF
  rw [hqt] at DT
  rw [hqf, hqt] at DJ
  clear hqf hqt
  go_upto_region 9 with (fail)
  go_cut [3] (fun p wx => ∃ (g c : Nat) (X : Ext V1), p = .slice (some ⟨g, 0, none⟩) 3 c ∧ wx = X.1 ∧ Hid (SOwn X.1 V1.heap.size p [u, qf, qt]))
  case first =>
   refine held_start (C := fun w' => ∃ Z : Ext V1, w' = Z.1) (by kernel_rfl) ?_
   obtain ⟨Z0, hZ0⟩ : ∃ Z : Ext V1, ({ Y.1 with drawn := Y.1.drawn + 1 } : World) = Z.1 := ⟨⟨{ Y.1 with drawn := Y.1.drawn + 1 }, below_step Y.2 ⟨rfl, rfl, rfl, Nat.le_refl _, fun _ _ => rfl⟩⟩, rfl⟩
   rw [hZ0]
   have HO0 := Lib.hid (HOY.out.below (show Below Y.1.heap.size Y.1 Z0.1 by rw [← hZ0]; exact ⟨rfl, rfl, rfl, Nat.le_refl _, fun _ _ => rfl⟩))
   clear HOY
   clear hZ0
   refine held_quiet (by kernel_rfl) (fun _ _ d _ _ h => by cases d <;> exact h) ⟨Z0, rfl⟩ [0, 1, 2, 4, 5] 5 _ _ (by kernel_rfl) ?_
   change wpQuiet _ _ _ _ (_ :: _ :: _ :: _ :: _ :: []) _
   repeat go_big_quiet_step (fail)
   refine wpQuiet_nil ?_
   refine held_do (i := 3) _ rfl (by kernel_rfl) rfl (fun K hK => ?_)
   go_simp
   refine (DF.out Z0).mono ?_
   rintro e w2 ⟨rfl, hb2⟩
   obtain ⟨Z1, rfl⟩ : ∃ Z : Ext V1, w2 = Z.1 := ⟨⟨w2, below_step Z0.2 hb2⟩, rfl⟩
   have HO1 := Lib.hid (HO0.out.below hb2)
   clear hb2
   refine hK _ _ ⟨Z1, rfl⟩ ?_
   clear hK K
   try simp only [Act.put, List.setIfInBounds_toArray, List.set_cons_zero, List.set_cons_succ]
   refine held_do (i := 6) _ rfl (by kernel_rfl) rfl (fun K hK => ?_)
   go_simp
   refine (DT.out Z1).mono ?_
   rintro e w2 ⟨rfl, hb2⟩
   obtain ⟨Z2, rfl⟩ : ∃ Z : Ext V1, w2 = Z.1 := ⟨⟨w2, below_step Z1.2 hb2⟩, rfl⟩
   have HO2 := Lib.hid (HO1.out.below hb2)
   clear hb2
   refine hK _ _ ⟨Z2, rfl⟩ ?_
   clear hK K
   try simp only [Act.put, List.setIfInBounds_toArray, List.set_cons_zero, List.set_cons_succ]
   refine held_do (i := 7) _ rfl (by kernel_rfl) rfl (fun K hK => ?_)
   go_simp
   obtain ⟨W5, hW5, hb5, hs5, hl5⟩ := alloc_cells Z2.1 #[.string qf, .string qt] 9
   rw [hW5]
   have HC5 := Lib.hid (two_str (hl5 0 _ rfl) (hl5 1 _ rfl))
   have HO5 := Lib.hid (HO2.out.below hb5)
   have HB5 := Lib.hid (below_step Z2.2 hb5)
   obtain ⟨Z3, rfl⟩ : ∃ Z : Ext V1, W5 = Z.1 := ⟨⟨W5, HB5.out⟩, rfl⟩
   clear hW5 hb5 hs5 hl5
   refine hK _ _ ⟨Z3, rfl⟩ ?_
   clear hK K
   try simp only [Act.put, List.setIfInBounds_toArray, List.set_cons_zero, List.set_cons_succ]
   refine held_do (i := 8) _ rfl (by kernel_rfl) rfl (fun K hK => ?_)
   refine wp_append_s _ _ rfl rfl HO5.out rfl (ys := [qf, qt]) rfl (by decide) HC5.out (by simp) HB5.out.size (fun g9 c9 w9 ho9 hg9 => ?_)
   have HB9 := Lib.hid (grown_ext HB5.out HO5.out hg9 (Nat.le_refl _))
   have HO9 := Lib.hid ho9
   obtain ⟨Z4, rfl⟩ : ∃ Z : Ext V1, w9 = Z.1 := ⟨⟨w9, HB9.out⟩, rfl⟩
   refine hK _ _ ⟨Z4, rfl⟩ ?_
   clear hK K hg9 ho9
   try simp only [Act.put, List.setIfInBounds_toArray, List.set_cons_zero, List.set_cons_succ]
   refine held_quiet (by kernel_rfl) (fun _ _ d _ _ h => by cases d <;> exact h) ⟨Z4, rfl⟩ [9] 0 _ _ (by kernel_rfl) ?_
   change wpQuiet _ _ _ _ (_ :: []) _
   repeat go_big_quiet_step (fail)
   refine wpQuiet_nil ?_
   refine wpAnyH_done (by kernel_rfl) ?_ _
   go_wp2_with fail
   go_meet
   exact ⟨_, _, Z4, rfl, rfl, HO9⟩
  case rest =>
   obtain ⟨g2, c2, X2, rfl, rfl, HO⟩ := hcut
   obtain ⟨W5, hW5, hb5, hs5, hl5⟩ := alloc_cells X2.1 #[.string s] 9
   have HC5 := Lib.hid (one_str (hl5 0 _ rfl))
   have HO5 := Lib.hid (HO.out.below hb5)
   have HB5 := Lib.hid (below_step X2.2 hb5)
   clear hb5 hs5 hl5 HO
   go_upto_region 12 with (at_builtin; refine append_s rfl _ _ rfl rfl HO5.out rfl (ys := [s]) rfl (by decide) HC5.out (by simp) HB5.out.size (fun g9 c9 w9 ho9 hg9 => ?_))
   have HB9 := Lib.hid (grown_ext HB5.out HO5.out hg9 (Nat.le_refl _))
   have HO9 := Lib.hid ho9
   clear hg9 ho9 HO5 HB5
   obtain ⟨_, hlc, hgb, _, hcc⟩ := HO9.out.cells
   have DJ9 := Lib.hid (DJ.out _ _ w9 hcc hgb hlc)
   clear hlc hgb hcc DJ HO9
   go_wp2_with (go_at_call 28; refine DJ9.out.mono ?_; rintro e w10 ⟨rfl, hb10⟩)
   go_ret
   exact ⟨rfl, HB1.out.trans ((below_step HB9.out hb10).mono HSV.out)⟩
end Go.Proofs.YtcngjbfbdonpeaaGreatDoor

/- A text of this claim. -/
namespace Go.Proofs.YtcngjbfbdonpeaaGreatDoor
open Go.RowKit Go.BigFrame
open Txt
open Tr (Ed inR)
theorem i64_of {n : Int} (h : okB n) : -9223372036854775808 ≤ n ∧ n ≤ 9223372036854775807 := by
 unfold okB at h
 omega
theorem ok_nums {x : Ed} (h : chkE x = 0) : okB x.n ∧ okB x.f ∧ okB x.t ∧ 1 ≤ x.k ∧ x.k ≤ 12 := by
 have h0 : okB 0 := by unfold okB; omega
 unfold chkE at h
 split at h
 · omega
 rename_i hk
 split at h
 · omega
 rename_i hf
 have hf : formE x = true := by simpa using hf
 refine ⟨?_, ?_, ?_, by omega, by omega⟩
 all_goals
  unfold formE at hf
  unfold fieldE at h
  split at hf
  · simp only [Bool.and_eq_true, decide_eq_true_eq] at hf
    first | rw [hf.1.1] | rw [hf.1.2] | rw [hf.2]
    exact h0
  · rename_i c1
    rw [if_neg c1] at h
    split at hf
    · rename_i c8
      simp only [Bool.and_eq_true, decide_eq_true_eq] at hf
      rw [if_neg (by omega), if_neg (by omega), if_neg (by omega), if_neg (by omega), if_neg (by omega), if_neg (by omega), if_neg (by omega)] at h
      split at h
      · omega
      · unfold okB
        omega
    · rename_i c8
      split at hf
      · rename_i c11
        simp only [decide_eq_true_eq] at hf
        rw [if_neg (by omega), if_neg (by omega), if_neg (by omega), if_neg (by omega), if_neg (by omega), if_neg (by omega), if_neg (by omega)] at h
        split at h
        · omega
        · unfold okB
          omega
      · simp only [Bool.and_eq_true, decide_eq_true_eq] at hf
        unfold okB
        repeat
         split at h
         · first
           | (have := rng_of h; omega)
           | (split at h <;> first | omega | (rename_i h1; unfold inR at h1; simp at h1; omega))
           | omega
        all_goals omega
theorem lineOf_any (x : Ed) (w : World) (hg : Glo w) (hx : chkE x = 0) :
 Calls Tryz.prog 12 #[edV x] w fun e w' => e = .returned (.string (bt (lineW x))) ∧ Below w.heap.size w w' := by
 obtain ⟨hn, hf, ht, hk1, hk2⟩ := ok_nums hx
 have hsz : (bodyW x).length ≤ 1000000 := by have := (line_ok hx).len; omega
 obtain ⟨k, n, f, t, s⟩ := x
 have hn := i64_of hn
 have hf := i64_of hf
 have ht := i64_of ht
 rcases kinds k with rfl | rfl | rfl | rfl | rfl | rfl | rfl | rfl | rfl | rfl | rfl | rfl | h | h
 · exact lineOf_text 1 (by decide) n f t s w hg rfl hsz
 · exact lineOf_counted 2 (by decide) n f t s w hg hn rfl hsz
 · exact lineOf_text 3 (by decide) n f t s w hg rfl hsz
 · exact lineOf_text 4 (by decide) n f t s w hg rfl hsz
 · exact lineOf_counted 5 (by decide) n f t s w hg hn rfl hsz
 · exact lineOf_counted 6 (by decide) n f t s w hg hn rfl hsz
 · exact lineOf_counted 7 (by decide) n f t s w hg hn rfl hsz
 · exact lineOf_crop n f t s w hg hf ht hsz
 · exact lineOf_tracked 9 (by decide) n f t s w hg hn rfl hsz
 · exact lineOf_tracked 10 (by decide) n f t s w hg hn rfl hsz
 · exact lineOf_lap n f t s w hg hf ht hsz
 · exact lineOf_unlap n f t s w hg hn hsz
 · simp only at hk1; omega
 · simp only at hk2; omega
end Go.Proofs.YtcngjbfbdonpeaaGreatDoor

/- A text of this claim. -/
namespace Go.Proofs.YtcngjbfbdonpeaaGreatDoor
open Go.RowKit Go.BigFrame
open Txt
open Tr (Ed inR)
theorem alloc_blk (w : World) (cs : Array Value) (T : TypeId) : ∃ W, w.alloc (.cells cs T) = W ∧ Below w.heap.size w W ∧ W.heap.size = w.heap.size + 1 ∧ W.heap[w.heap.size]? = some (.cells cs T (0, 0)) :=
 ⟨_, rfl, below_al _ _, by simp, heap_alloc_new w _⟩
theorem chk_parts {l : List Ed} (h : chkEL l = 0) : l.length ≤ 200 ∧ ∀ x, x ∈ l → chkE x = 0 := by
 unfold chkEL at h
 split at h
 · omega
 · exact ⟨by omega, chkEs_zero.1 h⟩
theorem take_text {l : List Ed} {i : Nat} {x : Ed} (hx : l[i]? = some x) : textW (l.take (i + 1)) = textW (l.take i) ++ lineW x := by
 obtain ⟨h1, e1⟩ := List.getElem?_eq_some_iff.1 hx
 rw [List.take_succ_eq_append_getElem h1, e1]
 unfold textW
 rw [List.flatMap_append]
 simp
theorem take_small {l : List Ed} (h : chkEL l = 0) (i : Nat) : (textW (l.take i)).length ≤ 100000000 := by
 obtain ⟨h1, h2⟩ := chk_parts h
 have := text_len (l.take i) fun x hx => h2 x (List.mem_of_mem_take hx)
 have h3 : (l.take i).length ≤ 200 := by rw [List.length_take]; omega
 omega
set_option maxHeartbeats 8000000 in
set_option maxRecDepth 100000 in
theorem print_any (a : Option Addr) (l : List Ed) (c : Nat) (w : World) (hr : ERow w a l) (hs : ∀ x, x ∈ l → x.s.size ≤ maxLen) (hg : Glo w) :
 Calls Tryz.prog 4 #[.slice a l.length c] w fun e w' => e = .returned (.tuple #[.string (printS l), .int .i64 (chkEL l)]) ∧ Below w.heap.size w w' := by
 have HR := Lib.hid hr
 have HG := Lib.hid hg
 have DC := Lib.hid (checkEdits_any a l c w hr hs)
 obtain ⟨nl, hnl⟩ : ∃ n, l.length = n := ⟨_, rfl⟩
 have HN := Lib.hid hnl
 obtain ⟨er, her⟩ : ∃ e, chkEL l = e := ⟨_, rfl⟩
 have HER := Lib.hid her
 rw [hnl, her] at DC
 rw [hnl, her]
 clear hr hs hg hnl her
 by_cases h0 : er = 0
 case neg =>
  have x0 : (er != 0) = true := by simpa using h0
  have HP : Hid (printS l = ⟨#[]⟩) := Lib.hid (by unfold printS; rw [HER.out, if_neg h0])
  clear h0
  go_enter Tryz.func4, Tryz.ntmps4
  go_wp2_with (go_at_call 10; refine DC.out.mono ?_; rintro e w1 ⟨rfl, hb1⟩)
  go_ret2
  exact ⟨by rw [HP.out]; rfl, hb1⟩
 subst h0
 have HP : Hid (printS l = bt (textW l)) := Lib.hid (by unfold printS; rw [if_pos HER.out])
 have HSM := Lib.hid (fun i => take_small HER.out i)
 have HOK := Lib.hid (chk_parts HER.out).2
 have hnb : nl ≤ 200 := by rw [← HN.out]; exact (chk_parts HER.out).1
 go_enter Tryz.func4, Tryz.ntmps4
 go_upto_region 4 with (go_at_call 10; refine DC.out.mono ?_; rintro e w1 ⟨rfl, hb1⟩)
 obtain ⟨W2, hW2, hb2, hs2, hq2⟩ := alloc_blk w1 #[.pointer none, .slice none 0 0] 37
 have HST : Hid (Bld w1 W2 (textW (l.take 0))) := Lib.hid ⟨by rw [← hW2]; exact Lib.fresh_isBuilder _ _ _, hb2⟩
 have HB1 := Lib.hid hb1
 have hw1 := hb1.size
 clear hb1 hb2 hs2 hq2 DC
 go_upto_region 5 with (fail)
 clear hW2
 go_wp2_with fail
 go_loopw [15] (fun iv wr => ∃ (i : Nat), iv = .int .i64 i ∧ i ≤ nl ∧ Hid (Bld w1 wr (textW (l.take i)))) (fun iv _ => nl - (intOf iv).toNat)
 case atStart => exact ⟨0, rfl, by omega, HST⟩
 case round =>
  obtain ⟨i, rfl, hi, HL⟩ := hrel
  have HD := Lib.hid (HB1.out.trans (HL.out.d.mono hw1))
  by_cases hlt : i < nl
  · have t1 : decide ((i : Int) < (nl : Int)) = true := by rw [decide_eq_true_eq]; omega
    have t1' : decide (i < nl) = true := by simpa using hlt
    have hii : (i : Int) < (nl : Int) := by omega
    obtain ⟨x, hx⟩ : ∃ x, l[i]? = some x := ⟨_, List.getElem?_eq_getElem (by rw [HN.out]; exact hlt)⟩
    obtain ⟨b, off, rfl, hb, e0, e1, e2, e3, e4⟩ := (HR.out.below HD.out).at hx
    have hxo := HOK.out x (List.mem_of_getElem? hx)
    obtain ⟨V1, hV1, hvb, hvs, hvl⟩ := alloc_cells wr #[.int .i64 x.k, .int .i64 x.n, .int .i64 x.f, .int .i64 x.t, .string x.s] 30
    have u0 := hvl 0 _ rfl
    have u1 := hvl 1 _ rfl
    have u2 := hvl 2 _ rfl
    have u3 := hvl 3 _ rfl
    have u4 := hvl 4 _ rfl
    have HL1 := Lib.hid (HL.out.below hvb)
    have HD1 := Lib.hid (HD.out.trans (hvb.mono HD.out.size))
    have DL := Lib.hid (lineOf_any x V1 (HG.out.below HD1.out) hxo)
    have hll : (lineW x).length ≤ 101 := by
     have h1 := (line_ok hxo).len
     have e2 : lineW x = bodyW x ++ [10] := rfl
     rw [e2, List.length_append]
     show _ + 1 ≤ _
     omega
    have HLL := Lib.hid hll
    have HT := Lib.hid (take_text hx)
    have HTL := Lib.hid (HSM.out i)
    unfold edV at DL
    clear hx hvb hvs hvl hxo hll HL
    go_wp2_with (go_at_call 12; refine DL.out.mono ?_; rintro e w5 ⟨rfl, hb5⟩; refine Hid.out ?_)
    refine Lib.hid ?_
    have DW := Lib.hid ((HL1.out.below hb5).write (lineW x) HTL.out (by have := HLL.out; omega))
    clear hb5 DL
    go_wp2_with (go_at_call 11; refine DW.out.mono ?_; rintro e w6 ⟨rfl, hb6, _⟩; refine Hid.out ?_)
    refine Lib.hid ?_
    have HN6 : Hid (Bld w1 w6 (textW (l.take (i + 1)))) := Lib.hid (by rw [HT.out]; exact hb6)
    clear hb6 DW
    go_wp2_with fail
    go_roundw
    case rel => exact ⟨i + 1, by go_num, by omega, HN6⟩
    case measure => simp [intOf]; omega
  · have t1 : decide ((i : Int) < (nl : Int)) = false := by rw [decide_eq_false_iff_not]; omega
    have t1' : decide (i < nl) = false := by simpa using hlt
    have HBT : Hid (Bld w1 wr (textW l)) := Lib.hid (by
     have h0 := HL.out
     rwa [List.take_of_length_le (by rw [HN.out]; omega)] at h0)
    have DS := Lib.hid (Tryz.Builder_String_any w1.heap.size w1.heap.size (textW l) wr HBT.out.b HBT.out.d.size)
    have HW1 := Lib.hid hw1
    clear hlt HL hw1
    go_wp2_with (go_at_call 13; refine DS.out.mono ?_; rintro e w3 ⟨rfl, hb3⟩)
    go_ret2
    exact ⟨by rw [HP.out]; rfl, HB1.out.trans ((HBT.out.d.trans hb3).mono HW1.out)⟩
end Go.Proofs.YtcngjbfbdonpeaaGreatDoor

/- A text of this claim. -/
namespace Go.Proofs.YtcngjbfbdonpeaaGreatDoor
open Go.RowKit Go.BigFrame
open Tr (Ed inR)
set_option maxHeartbeats 2000000 in
set_option maxRecDepth 100000 in
theorem rcheckAll_any (a : Option Addr) (l : List Ed) (c : Nat) (w : World) (hr : ERow w a l) (hs : ∀ x, x ∈ l → x.s.size ≤ maxLen) :
 Calls Tryz.prog 14 #[.slice a l.length c] w fun e w' => e = .returned (.int .i64 (chkEL l)) ∧ Below w.heap.size w w' := by
 have HR := Lib.hid hr
 have DC := Lib.hid (fun (x : Ed) (hx : x ∈ l) (W : World) => show Calls Tryz.prog 29 #[edV x] W _ from rcheck_any x W (hs x hx))
 obtain ⟨nl, hnl⟩ : ∃ n, l.length = n := ⟨_, rfl⟩
 have HV : Hid (chkEL l = if 200 < nl then 3 else chkEs l) := Lib.hid (by unfold chkEL; rw [hnl])
 have HN := Lib.hid hnl
 rw [hnl]
 clear hr hs hnl
 by_cases hbig : 200 < nl
 · have t1 : decide ((200 : Int) < (nl : Int)) = true := by rw [decide_eq_true_eq]; omega
   have HV2 := Lib.hid (HV.out.trans (if_pos hbig))
   clear hbig HV
   go_enter Tryz.func14, Tryz.ntmps14
   go_wp2_with fail
   go_ret
   exact ⟨by rw [HV2.out]; rfl, Below.refl _ _⟩
 · have t1 : decide ((200 : Int) < (nl : Int)) = false := by rw [decide_eq_false_iff_not]; omega
   have HV2 := Lib.hid (HV.out.trans (if_neg hbig))
   clear HV
   go_enter Tryz.func14, Tryz.ntmps14
   go_wp2_with fail
   go_loopw [11] (fun iv wr => ∃ (k : Nat), iv = .int .i64 k ∧ k ≤ nl ∧ Hid (chkEs l = chkEs (l.drop k)) ∧ ∃ X : Ext w, wr = X.1) (fun iv _ => nl - (intOf iv).toNat)
   case atStart => exact ⟨0, rfl, by omega, Lib.hid rfl, ⟨w, Below.refl _ _⟩, rfl⟩
   case round =>
    obtain ⟨k, rfl, hk, HE, X, rfl⟩ := hrel
    by_cases hlt : k < nl
    · have t2 : decide ((k : Int) < (nl : Int)) = true := by rw [decide_eq_true_eq]; omega
      have t2' : decide (k < nl) = true := by simpa using hlt
      obtain ⟨x, hx⟩ : ∃ x, l[k]? = some x := ⟨_, List.getElem?_eq_getElem (by rw [HN.out]; exact hlt)⟩
      obtain ⟨b, off, rfl, hb, e0, e1, e2, e3, e4⟩ := (HR.out.below X.2).at hx
      have DX := Lib.hid (DC.out x (List.mem_of_getElem? hx))
      obtain ⟨hn1, hn2⟩ := chkEs_drop hx HE.out
      obtain ⟨r, hr⟩ : ∃ r, chkE x = r := ⟨_, rfl⟩
      rw [hr] at DX hn1 hn2
      obtain ⟨V1, hV1, hvb, hvs, hvl⟩ := alloc_cells X.1 #[.int .i64 x.k, .int .i64 x.n, .int .i64 x.f, .int .i64 x.t, .string x.s] 30
      have u0 := hvl 0 _ rfl
      have u1 := hvl 1 _ rfl
      have u2 := hvl 2 _ rfl
      have u3 := hvl 3 _ rfl
      have u4 := hvl 4 _ rfl
      have HV1 := Lib.hid hV1
      have HB1 := Lib.hid (X.2.trans (hvb.mono X.2.size))
      unfold edV at DX
      clear hx hr hV1 hvb hvs hvl HE
      by_cases h0 : r = 0
      · subst h0
        have HN2 := Lib.hid (hn2 rfl)
        clear hn1 hn2
        go_wp2_with fail
        rw [HV1.out]
        go_wp2_with fail
        refine (DX.out _).mono ?_
        rintro e w1 ⟨rfl, hb2⟩
        obtain ⟨Z, rfl⟩ : ∃ Z : Ext w, w1 = Z.1 := ⟨⟨w1, HB1.out.trans (hb2.mono HB1.out.size)⟩, rfl⟩
        clear hb2
        go_wp2_with fail
        go_roundw
        case rel => exact ⟨k + 1, by go_num, by omega, HN2, Z, rfl⟩
        case measure => simp [intOf]; omega
      · have HN1 := Lib.hid (hn1 h0)
        have hbne : (r != 0) = true := by rw [bne_iff_ne]; exact h0
        clear hn1 hn2 h0
        go_wp2_with fail
        rw [HV1.out]
        go_wp2_with fail
        refine (DX.out _).mono ?_
        rintro e w1 ⟨rfl, hb2⟩
        have HB2 := Lib.hid (HB1.out.trans (hb2.mono HB1.out.size))
        clear hb2
        go_wp2_with fail
        go_ret
        exact ⟨by rw [HV2.out, HN1.out]; rfl, HB2.out⟩
    · have t2 : decide ((k : Int) < (nl : Int)) = false := by rw [decide_eq_false_iff_not]; omega
      have t2' : decide (k < nl) = false := by simpa using hlt
      have HF := Lib.hid (show chkEs l = 0 by
       rw [HE.out, List.drop_eq_nil_of_le (by rw [HN.out]; omega)]
       rfl)
      have HX := Lib.hid X.2
      clear hlt HE
      go_wp2_with fail
      go_ret
      exact ⟨by rw [HV2.out, HF.out]; rfl, HX.out⟩
end Go.Proofs.YtcngjbfbdonpeaaGreatDoor

/- A text of this claim. -/
namespace Go.Proofs.YtcngjbfbdonpeaaGreatDoor
open Go.RowKit Go.BigFrame
open Txt
open Tr (Ed inR)
theorem sB_app (a b : ByteArray) : sB (a ++ b) = sB a ++ sB b := by
 simp [sB, ByteArray.data_append]
theorem widx_1 (W : World) : (Instr.index 62 (.agg #[.string ⟨#[]⟩, .string ⟨#[110, 97, 109, 101]⟩, .string ⟨#[115, 112, 111, 114, 116]⟩, .string ⟨#[116, 97, 103]⟩, .string ⟨#[117, 110, 116, 97, 103]⟩, .string ⟨#[115, 104, 105, 102, 116]⟩, .string ⟨#[114, 97, 105, 115, 101]⟩, .string ⟨#[102, 105, 101, 108, 100]⟩, .string ⟨#[99, 114, 111, 112]⟩, .string ⟨#[108, 101, 118, 101, 108]⟩, .string ⟨#[102, 105, 108, 108]⟩, .string ⟨#[108, 97, 112]⟩, .string ⟨#[117, 110, 108, 97, 112]⟩]) (.int .i64 1)).run Tryz.prog W = .ok (.string ⟨#[110, 97, 109, 101]⟩) W := by kernel_rfl
theorem widx_2 (W : World) : (Instr.index 62 (.agg #[.string ⟨#[]⟩, .string ⟨#[110, 97, 109, 101]⟩, .string ⟨#[115, 112, 111, 114, 116]⟩, .string ⟨#[116, 97, 103]⟩, .string ⟨#[117, 110, 116, 97, 103]⟩, .string ⟨#[115, 104, 105, 102, 116]⟩, .string ⟨#[114, 97, 105, 115, 101]⟩, .string ⟨#[102, 105, 101, 108, 100]⟩, .string ⟨#[99, 114, 111, 112]⟩, .string ⟨#[108, 101, 118, 101, 108]⟩, .string ⟨#[102, 105, 108, 108]⟩, .string ⟨#[108, 97, 112]⟩, .string ⟨#[117, 110, 108, 97, 112]⟩]) (.int .i64 2)).run Tryz.prog W = .ok (.string ⟨#[115, 112, 111, 114, 116]⟩) W := by kernel_rfl
theorem widx_3 (W : World) : (Instr.index 62 (.agg #[.string ⟨#[]⟩, .string ⟨#[110, 97, 109, 101]⟩, .string ⟨#[115, 112, 111, 114, 116]⟩, .string ⟨#[116, 97, 103]⟩, .string ⟨#[117, 110, 116, 97, 103]⟩, .string ⟨#[115, 104, 105, 102, 116]⟩, .string ⟨#[114, 97, 105, 115, 101]⟩, .string ⟨#[102, 105, 101, 108, 100]⟩, .string ⟨#[99, 114, 111, 112]⟩, .string ⟨#[108, 101, 118, 101, 108]⟩, .string ⟨#[102, 105, 108, 108]⟩, .string ⟨#[108, 97, 112]⟩, .string ⟨#[117, 110, 108, 97, 112]⟩]) (.int .i64 3)).run Tryz.prog W = .ok (.string ⟨#[116, 97, 103]⟩) W := by kernel_rfl
theorem widx_4 (W : World) : (Instr.index 62 (.agg #[.string ⟨#[]⟩, .string ⟨#[110, 97, 109, 101]⟩, .string ⟨#[115, 112, 111, 114, 116]⟩, .string ⟨#[116, 97, 103]⟩, .string ⟨#[117, 110, 116, 97, 103]⟩, .string ⟨#[115, 104, 105, 102, 116]⟩, .string ⟨#[114, 97, 105, 115, 101]⟩, .string ⟨#[102, 105, 101, 108, 100]⟩, .string ⟨#[99, 114, 111, 112]⟩, .string ⟨#[108, 101, 118, 101, 108]⟩, .string ⟨#[102, 105, 108, 108]⟩, .string ⟨#[108, 97, 112]⟩, .string ⟨#[117, 110, 108, 97, 112]⟩]) (.int .i64 4)).run Tryz.prog W = .ok (.string ⟨#[117, 110, 116, 97, 103]⟩) W := by kernel_rfl
theorem widx_5 (W : World) : (Instr.index 62 (.agg #[.string ⟨#[]⟩, .string ⟨#[110, 97, 109, 101]⟩, .string ⟨#[115, 112, 111, 114, 116]⟩, .string ⟨#[116, 97, 103]⟩, .string ⟨#[117, 110, 116, 97, 103]⟩, .string ⟨#[115, 104, 105, 102, 116]⟩, .string ⟨#[114, 97, 105, 115, 101]⟩, .string ⟨#[102, 105, 101, 108, 100]⟩, .string ⟨#[99, 114, 111, 112]⟩, .string ⟨#[108, 101, 118, 101, 108]⟩, .string ⟨#[102, 105, 108, 108]⟩, .string ⟨#[108, 97, 112]⟩, .string ⟨#[117, 110, 108, 97, 112]⟩]) (.int .i64 5)).run Tryz.prog W = .ok (.string ⟨#[115, 104, 105, 102, 116]⟩) W := by kernel_rfl
theorem widx_6 (W : World) : (Instr.index 62 (.agg #[.string ⟨#[]⟩, .string ⟨#[110, 97, 109, 101]⟩, .string ⟨#[115, 112, 111, 114, 116]⟩, .string ⟨#[116, 97, 103]⟩, .string ⟨#[117, 110, 116, 97, 103]⟩, .string ⟨#[115, 104, 105, 102, 116]⟩, .string ⟨#[114, 97, 105, 115, 101]⟩, .string ⟨#[102, 105, 101, 108, 100]⟩, .string ⟨#[99, 114, 111, 112]⟩, .string ⟨#[108, 101, 118, 101, 108]⟩, .string ⟨#[102, 105, 108, 108]⟩, .string ⟨#[108, 97, 112]⟩, .string ⟨#[117, 110, 108, 97, 112]⟩]) (.int .i64 6)).run Tryz.prog W = .ok (.string ⟨#[114, 97, 105, 115, 101]⟩) W := by kernel_rfl
theorem widx_7 (W : World) : (Instr.index 62 (.agg #[.string ⟨#[]⟩, .string ⟨#[110, 97, 109, 101]⟩, .string ⟨#[115, 112, 111, 114, 116]⟩, .string ⟨#[116, 97, 103]⟩, .string ⟨#[117, 110, 116, 97, 103]⟩, .string ⟨#[115, 104, 105, 102, 116]⟩, .string ⟨#[114, 97, 105, 115, 101]⟩, .string ⟨#[102, 105, 101, 108, 100]⟩, .string ⟨#[99, 114, 111, 112]⟩, .string ⟨#[108, 101, 118, 101, 108]⟩, .string ⟨#[102, 105, 108, 108]⟩, .string ⟨#[108, 97, 112]⟩, .string ⟨#[117, 110, 108, 97, 112]⟩]) (.int .i64 7)).run Tryz.prog W = .ok (.string ⟨#[102, 105, 101, 108, 100]⟩) W := by kernel_rfl
theorem widx_8 (W : World) : (Instr.index 62 (.agg #[.string ⟨#[]⟩, .string ⟨#[110, 97, 109, 101]⟩, .string ⟨#[115, 112, 111, 114, 116]⟩, .string ⟨#[116, 97, 103]⟩, .string ⟨#[117, 110, 116, 97, 103]⟩, .string ⟨#[115, 104, 105, 102, 116]⟩, .string ⟨#[114, 97, 105, 115, 101]⟩, .string ⟨#[102, 105, 101, 108, 100]⟩, .string ⟨#[99, 114, 111, 112]⟩, .string ⟨#[108, 101, 118, 101, 108]⟩, .string ⟨#[102, 105, 108, 108]⟩, .string ⟨#[108, 97, 112]⟩, .string ⟨#[117, 110, 108, 97, 112]⟩]) (.int .i64 8)).run Tryz.prog W = .ok (.string ⟨#[99, 114, 111, 112]⟩) W := by kernel_rfl
theorem widx_9 (W : World) : (Instr.index 62 (.agg #[.string ⟨#[]⟩, .string ⟨#[110, 97, 109, 101]⟩, .string ⟨#[115, 112, 111, 114, 116]⟩, .string ⟨#[116, 97, 103]⟩, .string ⟨#[117, 110, 116, 97, 103]⟩, .string ⟨#[115, 104, 105, 102, 116]⟩, .string ⟨#[114, 97, 105, 115, 101]⟩, .string ⟨#[102, 105, 101, 108, 100]⟩, .string ⟨#[99, 114, 111, 112]⟩, .string ⟨#[108, 101, 118, 101, 108]⟩, .string ⟨#[102, 105, 108, 108]⟩, .string ⟨#[108, 97, 112]⟩, .string ⟨#[117, 110, 108, 97, 112]⟩]) (.int .i64 9)).run Tryz.prog W = .ok (.string ⟨#[108, 101, 118, 101, 108]⟩) W := by kernel_rfl
theorem widx_10 (W : World) : (Instr.index 62 (.agg #[.string ⟨#[]⟩, .string ⟨#[110, 97, 109, 101]⟩, .string ⟨#[115, 112, 111, 114, 116]⟩, .string ⟨#[116, 97, 103]⟩, .string ⟨#[117, 110, 116, 97, 103]⟩, .string ⟨#[115, 104, 105, 102, 116]⟩, .string ⟨#[114, 97, 105, 115, 101]⟩, .string ⟨#[102, 105, 101, 108, 100]⟩, .string ⟨#[99, 114, 111, 112]⟩, .string ⟨#[108, 101, 118, 101, 108]⟩, .string ⟨#[102, 105, 108, 108]⟩, .string ⟨#[108, 97, 112]⟩, .string ⟨#[117, 110, 108, 97, 112]⟩]) (.int .i64 10)).run Tryz.prog W = .ok (.string ⟨#[102, 105, 108, 108]⟩) W := by kernel_rfl
theorem widx_11 (W : World) : (Instr.index 62 (.agg #[.string ⟨#[]⟩, .string ⟨#[110, 97, 109, 101]⟩, .string ⟨#[115, 112, 111, 114, 116]⟩, .string ⟨#[116, 97, 103]⟩, .string ⟨#[117, 110, 116, 97, 103]⟩, .string ⟨#[115, 104, 105, 102, 116]⟩, .string ⟨#[114, 97, 105, 115, 101]⟩, .string ⟨#[102, 105, 101, 108, 100]⟩, .string ⟨#[99, 114, 111, 112]⟩, .string ⟨#[108, 101, 118, 101, 108]⟩, .string ⟨#[102, 105, 108, 108]⟩, .string ⟨#[108, 97, 112]⟩, .string ⟨#[117, 110, 108, 97, 112]⟩]) (.int .i64 11)).run Tryz.prog W = .ok (.string ⟨#[108, 97, 112]⟩) W := by kernel_rfl
theorem widx_12 (W : World) : (Instr.index 62 (.agg #[.string ⟨#[]⟩, .string ⟨#[110, 97, 109, 101]⟩, .string ⟨#[115, 112, 111, 114, 116]⟩, .string ⟨#[116, 97, 103]⟩, .string ⟨#[117, 110, 116, 97, 103]⟩, .string ⟨#[115, 104, 105, 102, 116]⟩, .string ⟨#[114, 97, 105, 115, 101]⟩, .string ⟨#[102, 105, 101, 108, 100]⟩, .string ⟨#[99, 114, 111, 112]⟩, .string ⟨#[108, 101, 118, 101, 108]⟩, .string ⟨#[102, 105, 108, 108]⟩, .string ⟨#[108, 97, 112]⟩, .string ⟨#[117, 110, 108, 97, 112]⟩]) (.int .i64 12)).run Tryz.prog W = .ok (.string ⟨#[117, 110, 108, 97, 112]⟩) W := by kernel_rfl
set_option maxHeartbeats 8000000 in
set_option maxRecDepth 100000 in
theorem word_any (k : Int) (hk : 1 ≤ k ∧ k ≤ 12) (w : World) : Calls Tryz.prog 15 #[.int .i64 k] w fun e w' => e = .returned (.string (wordK k)) ∧ w = w' := by
 rcases kinds k with rfl | rfl | rfl | rfl | rfl | rfl | rfl | rfl | rfl | rfl | rfl | rfl | h | h
 · have hidx := widx_1
   go_enter Tryz.func15, Tryz.ntmps15
   go_wp2_with fail
   go_ret
   exact ⟨rfl, rfl⟩
 · have hidx := widx_2
   go_enter Tryz.func15, Tryz.ntmps15
   go_wp2_with fail
   go_ret
   exact ⟨rfl, rfl⟩
 · have hidx := widx_3
   go_enter Tryz.func15, Tryz.ntmps15
   go_wp2_with fail
   go_ret
   exact ⟨rfl, rfl⟩
 · have hidx := widx_4
   go_enter Tryz.func15, Tryz.ntmps15
   go_wp2_with fail
   go_ret
   exact ⟨rfl, rfl⟩
 · have hidx := widx_5
   go_enter Tryz.func15, Tryz.ntmps15
   go_wp2_with fail
   go_ret
   exact ⟨rfl, rfl⟩
 · have hidx := widx_6
   go_enter Tryz.func15, Tryz.ntmps15
   go_wp2_with fail
   go_ret
   exact ⟨rfl, rfl⟩
 · have hidx := widx_7
   go_enter Tryz.func15, Tryz.ntmps15
   go_wp2_with fail
   go_ret
   exact ⟨rfl, rfl⟩
 · have hidx := widx_8
   go_enter Tryz.func15, Tryz.ntmps15
   go_wp2_with fail
   go_ret
   exact ⟨rfl, rfl⟩
 · have hidx := widx_9
   go_enter Tryz.func15, Tryz.ntmps15
   go_wp2_with fail
   go_ret
   exact ⟨rfl, rfl⟩
 · have hidx := widx_10
   go_enter Tryz.func15, Tryz.ntmps15
   go_wp2_with fail
   go_ret
   exact ⟨rfl, rfl⟩
 · have hidx := widx_11
   go_enter Tryz.func15, Tryz.ntmps15
   go_wp2_with fail
   go_ret
   exact ⟨rfl, rfl⟩
 · have hidx := widx_12
   go_enter Tryz.func15, Tryz.ntmps15
   go_wp2_with fail
   go_ret
   exact ⟨rfl, rfl⟩
 · omega
 · omega
def lineS (bS bN bT : Bool) (x : Ed) (acc : ByteArray) : ByteArray :=
 let a0 := acc ++ wordK x.k
 let a1 := if bS = true then a0 ++ (⟨#[32]⟩ ++ itoaB x.f ++ ⟨#[32]⟩ ++ itoaB x.t) else a0
 let a2 := if bN = true then a1 ++ (⟨#[32]⟩ ++ itoaB x.n) else a1
 let a3 := if bT = true then a2 ++ (⟨#[32]⟩ ++ x.s) else a2
 a3 ++ ⟨#[10]⟩
theorem lineS_is (x : Ed) (hk : 1 ≤ x.k ∧ x.k ≤ 12) (l : List UInt8) : lineS (usesS x.k) (usesNB x.k) (usesT x.k) x (bt l) = bt (l ++ lineW x) := by
 obtain ⟨k, n, f, t, s⟩ := x
 rcases kinds k with rfl | rfl | rfl | rfl | rfl | rfl | rfl | rfl | rfl | rfl | rfl | rfl | h | h
 iterate 12
  · apply sB_inj
    simp [lineS, usesS, usesNB, usesT, sB_app, sB_bs, lineW, restW, isText, joinL]
    rfl
 · simp only at hk; omega
 · simp only at hk; omega
theorem text_size {l : List Ed} (h : chkEL l = 0) {x : Ed} (hx : x ∈ l) : x.s.size ≤ 100 ∧ (itoaB x.n).size ≤ 13 ∧ (itoaB x.f).size ≤ 13 ∧ (itoaB x.t).size ≤ 13 ∧ (wordK x.k).size ≤ 5 := by
 have hc := (chk_parts h).2 x hx
 obtain ⟨hn, hf, ht, hk1, hk2⟩ := ok_nums hc
 have hl := (line_ok hc).len
 refine ⟨?_, itoa_size hn, itoa_size hf, itoa_size ht, ?_⟩
 · obtain ⟨k, n, f, t, s⟩ := x
   have hs : (sB s).length = s.size := rfl
   by_cases h0 : s.size = 0
   · show s.size ≤ 100
     omega
   · unfold bodyW restW at hl
     try simp only at hl hk1 hk2
     show s.size ≤ 100
     by_cases c1 : isText k.toNat = true
     · rw [if_pos c1] at hl
       simp only [List.map_cons, List.map_nil, joinL, List.length_append, List.length_cons] at hl
       omega
     · rw [if_neg c1] at hl
       by_cases c8 : k = 11
       · rw [if_neg (by omega), if_pos c8] at hl
         simp only [List.map_cons, List.map_nil, joinL, List.length_append, List.length_cons] at hl
         omega
       · exfalso
         unfold chkE at hc
         rw [if_neg (by simp only; omega)] at hc
         try simp only at hc
         have hf : formE ⟨k, n, f, t, s⟩ = false := by
          unfold formE
          try simp only
          have c1' : ¬ (k = 1 ∨ k = 3 ∨ k = 4) := fun e => c1 (by rcases e with rfl | rfl | rfl <;> rfl)
          rw [if_neg c1']
          split
          · simp [h0]
          · first | (rw [if_neg c8]; simp [h0]) | simp [h0]
         rw [hf] at hc
         simp at hc
 · obtain ⟨m, hm⟩ : ∃ m : Nat, x.k = m := ⟨x.k.toNat, by omega⟩
   rw [hm]
   exact (wordK_no m (by omega) (by omega)).2.2
set_option maxHeartbeats 8000000 in
set_option maxRecDepth 100000 in
theorem rprint_any (a : Option Addr) (l : List Ed) (c : Nat) (w : World) (hr : ERow w a l) (hs : ∀ x, x ∈ l → x.s.size ≤ maxLen) (hg : Glo w) :
 Calls Tryz.prog 5 #[.slice a l.length c] w fun e w' => e = .returned (.tuple #[.string (printS l), .int .i64 (chkEL l)]) ∧ Below w.heap.size w w' := by
 have HR := Lib.hid hr
 have HG := Lib.hid hg
 have DC := Lib.hid (rcheckAll_any a l c w hr hs)
 obtain ⟨nl, hnl⟩ : ∃ n, l.length = n := ⟨_, rfl⟩
 have HN := Lib.hid hnl
 obtain ⟨er, her⟩ : ∃ e, chkEL l = e := ⟨_, rfl⟩
 have HER := Lib.hid her
 rw [hnl, her] at DC
 rw [hnl, her]
 clear hr hs hg hnl her
 by_cases h0 : er = 0
 case neg =>
  have x0 : (er != 0) = true := by simpa using h0
  have HP : Hid (printS l = ⟨#[]⟩) := Lib.hid (by unfold printS; rw [HER.out, if_neg h0])
  clear h0
  go_enter Tryz.func5, Tryz.ntmps5
  go_wp2_with (go_at_call 14; refine DC.out.mono ?_; rintro e w1 ⟨rfl, hb1⟩)
  go_ret2
  exact ⟨by rw [HP.out]; rfl, hb1⟩
 subst h0
 have HP : Hid (printS l = bt (textW l)) := Lib.hid (by unfold printS; rw [if_pos HER.out])
 have HSM := Lib.hid (fun i => take_small HER.out i)
 have HOK := Lib.hid (chk_parts HER.out).2
 have hnb : nl ≤ 200 := by rw [← HN.out]; exact (chk_parts HER.out).1
 go_enter Tryz.func5, Tryz.ntmps5
 go_upto_region 4 with (go_at_call 14; refine DC.out.mono ?_; rintro e w1 ⟨rfl, hb1⟩)
 have HB1 := Lib.hid hb1
 have hw1 := hb1.size
 clear hb1 DC
 go_wp2_with fail
 go_loopw [5, 15] (fun sv iv wr => ∃ (acc : ByteArray) (i : Nat), sv = .string acc ∧ iv = .int .i64 i ∧ i ≤ nl ∧ Hid (acc = bt (textW (l.take i))) ∧ Hid (∃ X : Ext w1, wr = X.1)) (fun _ iv _ => nl - (intOf iv).toNat)
 case atStart => exact ⟨_, 0, rfl, rfl, by omega, Lib.hid rfl, Lib.hid ⟨⟨w1, Below.refl _ _⟩, rfl⟩⟩
 case round =>
  obtain ⟨acc, i, rfl, rfl, hi, HA, HX⟩ := hrel
  obtain ⟨X, rfl⟩ := HX.out
  clear HX
  have HD := Lib.hid (X.down HB1.out hw1)
  by_cases hlt : i < nl
  · have t1 : decide ((i : Int) < (nl : Int)) = true := by rw [decide_eq_true_eq]; omega
    have t1' : decide (i < nl) = true := by simpa using hlt
    have hii : (i : Int) < (nl : Int) := by omega
    obtain ⟨x, hx⟩ : ∃ x, l[i]? = some x := ⟨_, List.getElem?_eq_getElem (by rw [HN.out]; exact hlt)⟩
    obtain ⟨b, off, rfl, hb, e0, e1, e2, e3, e4⟩ := (HR.out.below HD.out).at hx
    have hxo := HOK.out x (List.mem_of_getElem? hx)
    obtain ⟨hn, hf, ht, hk1, hk2⟩ := ok_nums hxo
    have HN64 := Lib.hid (i64_of hn)
    have HF64 := Lib.hid (i64_of hf)
    have HT64 := Lib.hid (i64_of ht)
    obtain ⟨hzs, hzn, hzf, hzt, hzk⟩ := text_size HER.out (List.mem_of_getElem? hx)
    have hsa : acc.size ≤ 100000000 := by
     have h0 : acc.size = (textW (l.take i)).length := by rw [HA.out]; rfl
     rw [h0]
     exact HSM.out i
    obtain ⟨V1, hV1, hvb, hvs, hvl⟩ := alloc_cells X.1 #[.int .i64 x.k, .int .i64 x.n, .int .i64 x.f, .int .i64 x.t, .string x.s] 30
    have HD1 := Lib.hid (HD.out.trans (hvb.mono HD.out.size))
    have HVB := Lib.hid hvb
    have F0 : ∀ Z : Ext V1, Z.1.cell? ⟨X.1.heap.size, 0, none⟩ = some (.int .i64 x.k) := Ext.ex (hvl 0 _ rfl)
    have F1 : ∀ Z : Ext V1, Z.1.cell? ⟨X.1.heap.size, 1, none⟩ = some (.int .i64 x.n) := Ext.ex (hvl 1 _ rfl)
    have F2 : ∀ Z : Ext V1, Z.1.cell? ⟨X.1.heap.size, 2, none⟩ = some (.int .i64 x.f) := Ext.ex (hvl 2 _ rfl)
    have F3 : ∀ Z : Ext V1, Z.1.cell? ⟨X.1.heap.size, 3, none⟩ = some (.int .i64 x.t) := Ext.ex (hvl 3 _ rfl)
    have F4 : ∀ Z : Ext V1, Z.1.cell? ⟨X.1.heap.size, 4, none⟩ = some (.string x.s) := Ext.ex (hvl 4 _ rfl)
    have HL := Lib.hid (show lineS (usesS x.k) (usesNB x.k) (usesT x.k) x acc = bt (textW (l.take (i + 1))) by rw [HA.out, take_text hx]; exact lineS_is x ⟨hk1, hk2⟩ _)
    have DW := Lib.hid (fun W : World => word_any x.k ⟨hk1, hk2⟩ W)
    have DS := Lib.hid (fun W : World => rspan_any x.k W)
    have DN := Lib.hid (fun W : World => rn_any x.k W)
    have DT := Lib.hid (fun W : World => rtext_any x.k W)
    have DI0 := Lib.hid (fun (Y : Ext V1) => Y.calls (itoa_any x.n HN64.out.1 HN64.out.2 Y.1 (HG.out.below (HD1.out.trans (Y.2.mono HD1.out.size)))))
    have DI1 := Lib.hid (fun (Y : Ext V1) => Y.calls (itoa_any x.f HF64.out.1 HF64.out.2 Y.1 (HG.out.below (HD1.out.trans (Y.2.mono HD1.out.size)))))
    have DI2 := Lib.hid (fun (Y : Ext V1) => Y.calls (itoa_any x.t HT64.out.1 HT64.out.2 Y.1 (HG.out.below (HD1.out.trans (Y.2.mono HD1.out.size)))))
    generalize usesS x.k = bS at HL DS
    generalize usesNB x.k = bN at HL DN
    generalize usesT x.k = bT at HL DT
    unfold lineS at HL
    obtain ⟨qn, hqn⟩ : ∃ q, itoaB x.n = q := ⟨_, rfl⟩
    obtain ⟨qf, hqf⟩ : ∃ q, itoaB x.f = q := ⟨_, rfl⟩
    obtain ⟨qt, hqt⟩ : ∃ q, itoaB x.t = q := ⟨_, rfl⟩
    obtain ⟨qk, hqk⟩ : ∃ q, wordK x.k = q := ⟨_, rfl⟩
    rw [hqn] at DI0 hzn HL
    rw [hqf] at DI1 hzf HL
    rw [hqt] at DI2 hzt HL
    rw [hqk] at DW hzk HL
    obtain ⟨k, n, f, t, s⟩ := x
    simp only at *
    have F0' := F0 ⟨V1, Below.refl _ _⟩
    clear hqn hqf hqt hqk hx hvb hvs hvl hxo hn hf ht
    go_upto_region 8 with (fail)
    clear hV1 F0'
    refine ext_wp fun Y0 => ?_
    have F0' := F0 Y0
    cases bS
    case false =>
     cases bN <;> cases bT
     all_goals
      have h9 := HL.out
      simp only [↓reduceIte, Bool.false_eq_true] at h9
      have HL9 := Lib.hid h9
      clear h9
      go_wp2_with (first | (go_at_call 15; refine (DW.out _).mono ?_; rintro e w5 ⟨rfl, rfl⟩) | (go_at_call 16; refine (DS.out _).mono ?_; rintro e w5 ⟨rfl, rfl⟩) | (go_at_call 18; refine (DN.out _).mono ?_; rintro e w5 ⟨rfl, rfl⟩) | (go_at_call 19; refine (DT.out _).mono ?_; rintro e w5 ⟨rfl, rfl⟩) | (go_at_call 17; refine (DI0.out _).mono ?_; rintro e w5 ⟨rfl, Y5, rfl⟩))
      go_roundw
      case rel => exact ⟨_, i + 1, rfl, by go_num, by omega, HL9, Lib.hid ⟨⟨_, below_step X.2 (below_step HVB.out (Subtype.property _))⟩, rfl⟩⟩
      case measure => simp [intOf]; omega
    case true =>
     go_upto_region 10 with (first | (go_at_call 15; refine (DW.out _).mono ?_; rintro e w5 ⟨rfl, rfl⟩) | (go_at_call 16; refine (DS.out _).mono ?_; rintro e w5 ⟨rfl, rfl⟩) | (go_at_call 18; refine (DN.out _).mono ?_; rintro e w5 ⟨rfl, rfl⟩) | (go_at_call 19; refine (DT.out _).mono ?_; rintro e w5 ⟨rfl, rfl⟩) | (go_at_call 17; refine (DI0.out _).mono ?_; rintro e w5 ⟨rfl, Y5, rfl⟩))
     refine wp_region_ext (W := V1) _ (by kernel_rfl) (by kernel_rfl) ?_
     repeat go_big_quiet_step ((first | (go_at_call 17; with_reducible exact DI1.out _) | (go_at_call 17; with_reducible exact DI2.out _)))
     refine wpQuiet_nil ?_
     intro _ hw'
     obtain ⟨Y, rfl⟩ := hw'
     have F0'' := F0 Y
     cases bN <;> cases bT
     all_goals
      have h9 := HL.out
      simp only [↓reduceIte, Bool.false_eq_true] at h9
      have HL9 := Lib.hid h9
      clear h9
      go_wp2_with (first | (go_at_call 15; refine (DW.out _).mono ?_; rintro e w5 ⟨rfl, rfl⟩) | (go_at_call 16; refine (DS.out _).mono ?_; rintro e w5 ⟨rfl, rfl⟩) | (go_at_call 18; refine (DN.out _).mono ?_; rintro e w5 ⟨rfl, rfl⟩) | (go_at_call 19; refine (DT.out _).mono ?_; rintro e w5 ⟨rfl, rfl⟩) | (go_at_call 17; refine (DI0.out _).mono ?_; rintro e w5 ⟨rfl, Y5, rfl⟩))
      go_roundw
      case rel => exact ⟨_, i + 1, rfl, by go_num, by omega, HL9, Lib.hid ⟨⟨_, below_step X.2 (below_step HVB.out (Subtype.property _))⟩, rfl⟩⟩
      case measure => simp [intOf]; omega
  · have t1 : decide ((i : Int) < (nl : Int)) = false := by rw [decide_eq_false_iff_not]; omega
    have t1' : decide (i < nl) = false := by simpa using hlt
    have HF : Hid (acc = printS l) := Lib.hid (by
     have h0 := HA.out
     rw [HP.out]
     rwa [List.take_of_length_le (by rw [HN.out]; omega)] at h0)
    clear hlt HA
    go_wp2_with fail
    go_ret2
    exact ⟨by rw [HF.out]; rfl, HD.out⟩
end Go.Proofs.YtcngjbfbdonpeaaGreatDoor

/- A text of this claim. -/
namespace Go.Proofs.YtcngjbfbdonpeaaGreatDoor
open Go.RowKit Go.BigFrame
open Txt
open Tr (Ed inR)
structure XB (W : World) (B : Nat) (k n f t : Int) (s : ByteArray) (ok : Bool) : Prop where
 x : W.heap[B]? = some (.cells #[.int .i64 k, .int .i64 n, .int .i64 f, .int .i64 t, .string s] 30 (0, 0))
 o : W.heap[B + 1]? = some (.cells #[.bool ok] 4 (0, 0))
theorem cell_of {w : World} {b i : Nat} {cs : Array Value} {T : TypeId} {fz : Nat × Nat} {v : Value} (h : w.heap[b]? = some (.cells cs T fz)) (hv : cs[i]? = some v) : w.cell? ⟨b, i, none⟩ = some v := by
 simp [World.cell?, h, hv]
theorem put_of {w : World} {b i : Nat} {cs : Array Value} {T : TypeId} {fz : Nat × Nat} {v : Value} (h : w.heap[b]? = some (.cells cs T fz)) : (w.setCell ⟨b, i, none⟩ v).heap[b]? = some (.cells (cs.setIfInBounds i v) T fz) := by
 simp [World.setCell, Array.getElem?_modify, h]
theorem put_else {w : World} {b i q : Nat} {v : Value} (h : q ≠ b) : (w.setCell ⟨b, i, none⟩ v).heap[q]? = w.heap[q]? := by
 simp only [World.setCell]
 rw [Array.getElem?_modify, if_neg (fun e => h e.symm)]
section
variable {W : World} {B : Nat} {k n f t : Int} {s : ByteArray} {ok : Bool}
theorem XB.cells (h : XB W B k n f t s ok) : W.cell? ⟨B, 0, none⟩ = some (.int .i64 k) ∧ W.cell? ⟨B, 1, none⟩ = some (.int .i64 n) ∧ W.cell? ⟨B, 2, none⟩ = some (.int .i64 f) ∧ W.cell? ⟨B, 3, none⟩ = some (.int .i64 t) ∧ W.cell? ⟨B, 4, none⟩ = some (.string s) ∧ W.cell? ⟨B + 1, 0, none⟩ = some (.bool ok) :=
 ⟨cell_of h.x rfl, cell_of h.x rfl, cell_of h.x rfl, cell_of h.x rfl, cell_of h.x rfl, cell_of h.o rfl⟩
theorem XB.free (h : XB W B k n f t s ok) : (∀ i, W.frozen? ⟨B, i, none⟩ = false) ∧ W.frozen? ⟨B + 1, 0, none⟩ = false := ⟨fun i => Lib.frozen_of_heap h.x i, Lib.frozen_of_heap h.o 0⟩
theorem XB.below {W' : World} (h : XB W B k n f t s ok) (hb : Below W.heap.size W W') : XB W' B k n f t s ok := ⟨(hb.block B (lt_of_block h.x)).trans h.x, (hb.block (B + 1) (lt_of_block h.o)).trans h.o⟩
theorem XB.setK (h : XB W B k n f t s ok) (v : Int) : XB (W.setCell ⟨B, 0, none⟩ (.int .i64 v)) B v n f t s ok := ⟨put_of h.x, by rw [put_else (by omega)]; exact h.o⟩
theorem XB.setN (h : XB W B k n f t s ok) (v : Int) : XB (W.setCell ⟨B, 1, none⟩ (.int .i64 v)) B k v f t s ok := ⟨put_of h.x, by rw [put_else (by omega)]; exact h.o⟩
theorem XB.setF (h : XB W B k n f t s ok) (v : Int) : XB (W.setCell ⟨B, 2, none⟩ (.int .i64 v)) B k n v t s ok := ⟨put_of h.x, by rw [put_else (by omega)]; exact h.o⟩
theorem XB.setT (h : XB W B k n f t s ok) (v : Int) : XB (W.setCell ⟨B, 3, none⟩ (.int .i64 v)) B k n f v s ok := ⟨put_of h.x, by rw [put_else (by omega)]; exact h.o⟩
theorem XB.setS (h : XB W B k n f t s ok) (v : ByteArray) : XB (W.setCell ⟨B, 4, none⟩ (.string v)) B k n f t v ok := ⟨put_of h.x, by rw [put_else (by omega)]; exact h.o⟩
theorem XB.setO (h : XB W B k n f t s ok) (v : Bool) : XB (W.setCell ⟨B + 1, 0, none⟩ (.bool v)) B k n f t s v := ⟨by rw [put_else (by omega)]; exact h.x, put_of h.o⟩
end
end Go.Proofs.YtcngjbfbdonpeaaGreatDoor
