/- The reader's number. -/
import Derived.Test.YthcddmjgehcgaaaR
namespace Go.Proofs.Ythcddmjgehcgaaa
open Go.RowKit Go.BigFrame

theorem numEnd {B : Nat} {s : ByteArray} {p : Nat} {ok : Bool} {digits : Nat} {least most : Int} {w wr : World} {n : Int} {k q : Nat} {b : Bool} (hR : IsRd wr B s q ok) (hK : Kp B w wr)
    (hX : Rd.numAt s digits least most ok p = (n, k, q)) (hb : Rd.numOk least ok (n, k, q) = b) :
    Ending.returned (.int .i64 n) = .returned (.int .i64 (Rd.numAt s digits least most ok p).1) ∧
      IsRd (wr.setCell ⟨B + 3, 0, none⟩ (.bool b)) B s (Rd.numAt s digits least most ok p).2.2 (Rd.numOk least ok (Rd.numAt s digits least most ok p)) ∧ Kp B w (wr.setCell ⟨B + 3, 0, none⟩ (.bool b)) := by
  rw [hX, hb]; exact ⟨rfl, hR.setOk b, hK.setOk _⟩

set_option maxHeartbeats 1000000 in
set_option maxRecDepth 100000 in
theorem number_any {B : Nat} {s : ByteArray} {p : Nat} {ok : Bool} (digits : Nat) (least most : Int) (w : World) (h : IsRd w B s p ok) (hs : s.size ≤ 9223372036854775807) (hd : digits ≤ 18) :
    Calls Try.prog 96 #[.int .i64 digits, .int .i64 least, .int .i64 most, pt (B + 4), pt B, pt (B + 2), pt (B + 5), pt (B + 3)] w fun e w' =>
      e = .returned (.int .i64 (Rd.numAt s digits least most ok p).1) ∧ IsRd w' B s (Rd.numAt s digits least most ok p).2.2 (Rd.numOk least ok (Rd.numAt s digits least most ok p)) ∧ Kp B w w' := by
  have h' := Lib.hid h
  clear h
  unfold pt
  go_enter Try.func96, Try.ntmps96
  go_wp2_with fail
  go_loopw [12, 13] (fun n m wr => ∃ (nn : Int) (k q : Nat), n = .int .i64 nn ∧ m = .int .i64 k ∧ k ≤ digits ∧ 0 ≤ nn ∧ nn < 10 ^ k ∧ IsRd wr B s q ok ∧ Kp B w wr ∧
      Rd.numLoop s digits least most ok (digits - k) nn k q = Rd.numAt s digits least most ok p) (fun _ m _ => digits - (intOf m).toNat)
  case atStart => exact ⟨0, 0, p, rfl, rfl, by omega, by omega, by decide, h'.out, Kp.refl _ _, rfl⟩
  case round =>
    obtain ⟨n, k, q, rfl, rfl, hk, hn0, hn1, hR, hK, hF⟩ := hrel
    have HR := Lib.hid hR
    have HK := Lib.hid hK
    have HF := Lib.hid hF
    have HN := Lib.hid hn1
    obtain ⟨_, c0, c2, cf2, c3, cf3, cd, ct⟩ := hR
    unfold digF pt at cd
    unfold takeF pt at ct
    clear hK hF hn1 h'
    by_cases hkd : k < digits
    · have t1 : decide ((k : Int) < (digits : Int)) = true := by rw [decide_eq_true_eq]; omega
      have t1' : decide (k < digits) = true := by simpa using hkd
      go_wp2_with fail
      refine (digit_any wr HR.out).mono ?_
      rintro e w1 ⟨rfl, rfl⟩
      cases hdg : Rd.digAt s q ok
      · have HX := Lib.hid (HF.out.symm.trans (Rd.numLoop_stop (s := s) (digits := digits) (least := least) (most := most) (ok := ok) (f := digits - k) (n := n) (m := k) (p := q) (by simp [hdg])))
        clear hdg HF
        go_wp2
        all_goals go_ret
        all_goals refine numEnd HR.out HK.out HX.out ?_
        all_goals simp_all [Rd.numOk]
      · obtain ⟨hok, hq, hb0, hb1⟩ := Rd.digAt_true hdg
        subst hok
        have HD := Lib.hid hdg
        have e1 := Rd.byte_lt hq
        have He1 := Lib.hid e1
        rw [e1] at hb0 hb1
        have hn9 : n ≤ 99999999999999999 := by
          have h1 := HN.out
          have h2 : (10 : Int) ^ k ≤ 10 ^ 17 := by exact_mod_cast Nat.pow_le_pow_right (show 0 < 10 by omega) (show k ≤ 17 by omega)
          have h3 : (10 : Int) ^ 17 = 100000000000000000 := by decide
          omega
        clear hdg e1
        cases bk : decide (0 < k)
        · skip
          cases bm : decide (most < 10 * n + ((s[q].toNat : Int) - 48))
          · cases bx : (10 * n + ((s[q].toNat : Int) - 48) == 0)
            · have cx : decide (10 * n + ((s[q].toNat : Int) - 48) = 0) = false := by simpa using bx
              have HX := Lib.hid (Rd.numLoop_next (s := s) (digits := digits) (least := least) (most := most) (ok := true) (f := digits - k - 1) (n := n) (m := k) (p := q) ⟨hkd, HD.out⟩ (by rw [He1.out]; simp [Rd.stops, bk, bm, cx]))
              go_wp2_with fail
              refine (take_any wr HR.out hs hq (by rw [He1.out]; exact hb0)).mono ?_
              rintro e w1 ⟨rfl, hR1, hK1⟩
              rw [He1.out]
              have HR1 := Lib.hid hR1
              have HK1 := Lib.hid (HK.out.trans hK1)
              clear hR1 hK1
              go_wp2
              go_roundw
              case rel =>
                refine ⟨10 * n + ((s[q].toNat : Int) - 48), k + 1, q + 1, rfl, by go_num, by omega, by omega, ?_, HR1.out, HK1.out, ?_⟩
                · have := HN.out
                  rw [Int.pow_succ]; omega
                · rw [← HF.out, show digits - k = (digits - k - 1) + 1 by omega, HX.out, He1.out, show digits - (k + 1) = digits - k - 1 by omega]
              case measure => simp [intOf]; omega
            · have cx : decide (10 * n + ((s[q].toNat : Int) - 48) = 0) = true := by simpa using bx
              cases bl : decide (0 < least)
              · skip
                have HX := Lib.hid (Rd.numLoop_next (s := s) (digits := digits) (least := least) (most := most) (ok := true) (f := digits - k - 1) (n := n) (m := k) (p := q) ⟨hkd, HD.out⟩ (by rw [He1.out]; simp [Rd.stops, bk, bm, cx, bl]))
                go_wp2_with fail
                refine (take_any wr HR.out hs hq (by rw [He1.out]; exact hb0)).mono ?_
                rintro e w1 ⟨rfl, hR1, hK1⟩
                rw [He1.out]
                have HR1 := Lib.hid hR1
                have HK1 := Lib.hid (HK.out.trans hK1)
                clear hR1 hK1
                go_wp2
                go_roundw
                case rel =>
                  refine ⟨10 * n + ((s[q].toNat : Int) - 48), k + 1, q + 1, rfl, by go_num, by omega, by omega, ?_, HR1.out, HK1.out, ?_⟩
                  · have := HN.out
                    rw [Int.pow_succ]; omega
                  · rw [← HF.out, show digits - k = (digits - k - 1) + 1 by omega, HX.out, He1.out, show digits - (k + 1) = digits - k - 1 by omega]
                case measure => simp [intOf]; omega
              · skip
                have HX := Lib.hid (HF.out.symm.trans (Rd.numLoop_break (s := s) (digits := digits) (least := least) (most := most) (ok := true) (f := digits - k) (n := n) (m := k) (p := q) ⟨hkd, HD.out⟩ (by rw [He1.out]; simp [Rd.stops, bk, bm, cx, bl])))
                clear HF
                go_wp2
                go_ret
                refine numEnd HR.out HK.out HX.out ?_
                simp [Rd.numOk, bk]
          · skip
            have HX := Lib.hid (HF.out.symm.trans (Rd.numLoop_break (s := s) (digits := digits) (least := least) (most := most) (ok := true) (f := digits - k) (n := n) (m := k) (p := q) ⟨hkd, HD.out⟩ (by rw [He1.out]; simp [Rd.stops, bk, bm])))
            clear HF
            go_wp2
            go_ret
            refine numEnd HR.out HK.out HX.out ?_
            simp [Rd.numOk, bk]
        · cases bn : (n == 0)
          · have cn : decide (n = 0) = false := by simpa using bn
            cases bm : decide (most < 10 * n + ((s[q].toNat : Int) - 48))
            · cases bx : (10 * n + ((s[q].toNat : Int) - 48) == 0)
              · have cx : decide (10 * n + ((s[q].toNat : Int) - 48) = 0) = false := by simpa using bx
                have HX := Lib.hid (Rd.numLoop_next (s := s) (digits := digits) (least := least) (most := most) (ok := true) (f := digits - k - 1) (n := n) (m := k) (p := q) ⟨hkd, HD.out⟩ (by rw [He1.out]; simp [Rd.stops, bk, cn, bm, cx]))
                go_wp2_with fail
                refine (take_any wr HR.out hs hq (by rw [He1.out]; exact hb0)).mono ?_
                rintro e w1 ⟨rfl, hR1, hK1⟩
                rw [He1.out]
                have HR1 := Lib.hid hR1
                have HK1 := Lib.hid (HK.out.trans hK1)
                clear hR1 hK1
                go_wp2
                go_roundw
                case rel =>
                  refine ⟨10 * n + ((s[q].toNat : Int) - 48), k + 1, q + 1, rfl, by go_num, by omega, by omega, ?_, HR1.out, HK1.out, ?_⟩
                  · have := HN.out
                    rw [Int.pow_succ]; omega
                  · rw [← HF.out, show digits - k = (digits - k - 1) + 1 by omega, HX.out, He1.out, show digits - (k + 1) = digits - k - 1 by omega]
                case measure => simp [intOf]; omega
              · have cx : decide (10 * n + ((s[q].toNat : Int) - 48) = 0) = true := by simpa using bx
                cases bl : decide (0 < least)
                · skip
                  have HX := Lib.hid (Rd.numLoop_next (s := s) (digits := digits) (least := least) (most := most) (ok := true) (f := digits - k - 1) (n := n) (m := k) (p := q) ⟨hkd, HD.out⟩ (by rw [He1.out]; simp [Rd.stops, bk, cn, bm, cx, bl]))
                  go_wp2_with fail
                  refine (take_any wr HR.out hs hq (by rw [He1.out]; exact hb0)).mono ?_
                  rintro e w1 ⟨rfl, hR1, hK1⟩
                  rw [He1.out]
                  have HR1 := Lib.hid hR1
                  have HK1 := Lib.hid (HK.out.trans hK1)
                  clear hR1 hK1
                  go_wp2
                  go_roundw
                  case rel =>
                    refine ⟨10 * n + ((s[q].toNat : Int) - 48), k + 1, q + 1, rfl, by go_num, by omega, by omega, ?_, HR1.out, HK1.out, ?_⟩
                    · have := HN.out
                      rw [Int.pow_succ]; omega
                    · rw [← HF.out, show digits - k = (digits - k - 1) + 1 by omega, HX.out, He1.out, show digits - (k + 1) = digits - k - 1 by omega]
                  case measure => simp [intOf]; omega
                · skip
                  have HX := Lib.hid (HF.out.symm.trans (Rd.numLoop_break (s := s) (digits := digits) (least := least) (most := most) (ok := true) (f := digits - k) (n := n) (m := k) (p := q) ⟨hkd, HD.out⟩ (by rw [He1.out]; simp [Rd.stops, bk, cn, bm, cx, bl])))
                  clear HF
                  go_wp2
                  go_ret
                  refine numEnd HR.out HK.out HX.out ?_
                  simp [Rd.numOk, bk]
            · skip
              have HX := Lib.hid (HF.out.symm.trans (Rd.numLoop_break (s := s) (digits := digits) (least := least) (most := most) (ok := true) (f := digits - k) (n := n) (m := k) (p := q) ⟨hkd, HD.out⟩ (by rw [He1.out]; simp [Rd.stops, bk, cn, bm])))
              clear HF
              go_wp2
              go_ret
              refine numEnd HR.out HK.out HX.out ?_
              simp [Rd.numOk, bk]
          · have cn : decide (n = 0) = true := by simpa using bn
            have HX := Lib.hid (HF.out.symm.trans (Rd.numLoop_break (s := s) (digits := digits) (least := least) (most := most) (ok := true) (f := digits - k) (n := n) (m := k) (p := q) ⟨hkd, HD.out⟩ (by rw [He1.out]; simp [Rd.stops, bk, cn])))
            clear HF
            go_wp2
            go_ret
            refine numEnd HR.out HK.out HX.out ?_
            simp [Rd.numOk, bk]
    · have t1 : decide ((k : Int) < (digits : Int)) = false := by rw [decide_eq_false_iff_not]; omega
      have t1' : decide (k < digits) = false := by simpa using hkd
      have HX := Lib.hid (HF.out.symm.trans (Rd.numLoop_stop (s := s) (digits := digits) (least := least) (most := most) (ok := ok) (f := digits - k) (n := n) (m := k) (p := q) (by simp [hkd])))
      clear HF
      go_wp2
      all_goals go_ret
      all_goals refine numEnd HR.out HK.out HX.out ?_
      all_goals simp_all [Rd.numOk]
end Go.Proofs.Ythcddmjgehcgaaa
