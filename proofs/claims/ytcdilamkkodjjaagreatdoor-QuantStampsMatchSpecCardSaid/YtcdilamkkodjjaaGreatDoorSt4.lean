/- Several texts of this claim in one. -/
import Derived.Test.YtcdilamkkodjjaaGreatDoorSt3
import Derived.BigRegion
import Derived.Test.YtcdilamkkodjjaaGreatDoorDt4
import Derived.Test.YtcdilamkkodjjaaGreatDoorSt2
import Derived.Test.YtcdilamkkodjjaaGreatDoorDt3
import Derived.Test.YtcdilamkkodjjaaGreatDoorRows
import Derived.ProofKit
import Derived.OpenShut
import Derived.Lib.SmallJoins
import Derived.Deep.SlicePairs
import Derived.Carry
/- Zones: Moments of the reference: its walk. -/
namespace Go.Proofs.YtcdilamkkodjjaaGreatDoor
open Go.RowKit Go.BigFrame

theorem own_below {w w' : World} {base n size : Nat} {v : Value} {e : TypeId} {xs : List Value} (h : w.ownsRow base e size v n xs) (hb : Below w.heap.size w w') : w'.ownsRow base e size v n xs :=
  h.kept (row := none) ⟨hb.os, hb.tape, hb.output, hb.size, fun k hk _ => hb.block k hk⟩ (by cases v.ownBlock <;> simp)
/-- a slice of the call's own: its value and what it reads as -/
theorem own_slice {w : World} {base : Nat} {v : Value} {L : List Int} {e : TypeId} (h : w.ownsRow base e 1 v L.length (L.map (.int .i64))) :
    ∃ a c, v = .slice a L.length c ∧ (0 < L.length → ∃ g, a = some ⟨g, 0, none⟩ ∧ base ≤ g ∧ g < w.heap.size) ∧ c ≤ maxLen := by
  rcases h.2 with ⟨h0, h1⟩ | ⟨g, cap, cur, hv, hb, hg, hn, hm, hs, ht⟩
  · exact ⟨none, 0, by rw [h0, h1], fun hl => by omega, by unfold maxLen; omega⟩
  · exact ⟨_, _, hv, fun _ => ⟨g, rfl, hb, lt_of_block hg⟩, hm⟩

theorem row_cell {w : World} {base g cap n : Nat} {e : TypeId} {M : List Int} (h : w.ownsRow base e 1 (.slice (some ⟨g, 0, none⟩) n cap) n (M.map (.int .i64))) (hn : M.length = n) (j : Nat) (hj : j < n) :
    w.cell? ⟨g, j, none⟩ = some (.int .i64 (M.getD j 0)) ∧ w.frozen? ⟨g, j, none⟩ = false := by
  refine ⟨?_, h.frozenAt j⟩
  rw [h.cellAt j (by omega), List.getElem?_map, List.getD_eq_getElem?_getD, List.getElem?_eq_getElem (by omega : j < M.length)]
  rfl

set_option maxHeartbeats 4000000 in
set_option maxRecDepth 100000 in
theorem rmoments_any (first day second : Int) (a : Option Addr) (len cap : Nat) (F O : Nat → Int) (w : World) (hr : Rows2 w a len F O) :
    Calls Tryz.prog 50 #[.agg #[.int .i64 first, .slice a len cap], .int .i64 day, .int .i64 second] w fun e w' =>
      (∃ v, e = .returned (.tuple #[v, .int .i64 (momErr first F O len day second)]) ∧ IntsAt w' v (momList first F O len day second)) ∧ Below w.heap.size w w' := by
  obtain ⟨i0, hi0, hz0, hz1, hz2⟩ := info_parts int_info
  have HR := Lib.hid hr
  have hw1 : Below w.heap.size w (w.alloc (.cells #[.int .i64 first, .slice a len cap] 31)) := (Below.refl _ _).alloc (Nat.le_refl _) _
  have HR1 := hr.below hw1 (Nat.le_refl _)
  have hc := Lib.hid (rcheckZone_any first a len cap F O _ HR1)
  have HW1 := Lib.hid hw1
  clear hr HR1 hw1
  have hd := outside_any day 0 999999
  have hse := outside_any second 0 86399
  by_cases h0 : chk first F O len = 0
  · rw [h0] at hc
    by_cases h1 : dayB day = true ∧ 0 ≤ second ∧ second ≤ 86399
    · have he : momErr first F O len day second = 0 := by unfold momErr; rw [if_pos h0, if_pos h1]
      have hq := Lib.hid (fun Q => momList_eq (Q := Q) he)
      rw [he]
      obtain ⟨hdd, s0, s1⟩ := h1
      obtain ⟨d0, d1⟩ := dayB_true hdd
      obtain ⟨hlen, hof, hch⟩ := chk_zero h0
      obtain ⟨of0, of1⟩ := outB_false hof
      have hl : (len : Int) ≤ 200 := by omega
      have Hch := Lib.hid hch
      rw [show (decide (day < 0) || decide (999999 < day)) = false by simp; omega] at hd
      rw [show (decide (second < 0) || decide (86399 < second)) = false by simp; omega] at hse
      have hd := Lib.hid hd
      have hse := Lib.hid hse
      have H0 := Lib.hid h0
      clear h0 he hdd hof hch
      go_enter Tryz.func50, Tryz.ntmps50
      go_wp2_with fail
      refine hc.out.mono ?_
      rintro e w1 ⟨rfl, hb1⟩
      have HB1 := Lib.hid (HW1.out.trans (hb1.mono (by simp)))
      have hs1 : w.heap.size < w1.heap.size := by have := hb1.size; simp at this; omega
      have cZ : ∀ i, w1.cell? ⟨w.heap.size, i, none⟩ = (#[.int .i64 first, .slice a len cap] : Array Value)[i]? := by
        intro i
        rw [hb1.cell (p := ⟨w.heap.size, i, none⟩) (by simp)]
        rw [World.cell?_alloc_at _ _ _ _ rfl]
      have cZ0 : w1.cell? ⟨w.heap.size, 0, none⟩ = some (.int .i64 first) := cZ 0
      have cZ1 : w1.cell? ⟨w.heap.size, 1, none⟩ = some (.slice a len cap) := cZ 1
      clear hb1 cZ
      go_wp2_with fail
      refine (hd.out _).mono ?_
      rintro e w2 ⟨rfl, rfl⟩
      go_wp2_with fail
      refine (hse.out _).mono ?_
      rintro e w2 ⟨rfl, rfl⟩
      go_wp2_with fail
      go_loopw [9, 10] (fun lv kv wr => ∃ (q : Int) (k : Nat), kv = .int .i64 q ∧ q + 1 = (k : Int) ∧ q ≤ (len : Int) ∧ Hid (wr.ownsRow w1.heap.size 3 1 lv (dedL first F O len day second k).length ((dedL first F O len day second k).map (.int .i64))) ∧ Hid (Below w1.heap.size w1 wr)) (fun _ kv _ => len + 1 - (intOf kv + 1).toNat)
      case atStart => exact ⟨-1, 0, rfl, rfl, by omega, Lib.hid (World.ownsRow_nil _ _ _ _), Lib.hid (Below.refl _ _)⟩
      case round =>
        obtain ⟨q, k, rfl, hqk, hq2, HO, HBr⟩ := hrel
        have hsr := HBr.out.size
        have cZ0r := (HBr.out.cell (p := ⟨w.heap.size, 0, none⟩) hs1).trans cZ0
        have cZ1r := (HBr.out.cell (p := ⟨w.heap.size, 1, none⟩) hs1).trans cZ1
        by_cases hlt : q < (len : Int)
        · have t1 : decide (q < (len : Int)) = true := by simpa using hlt
          by_cases hq0 : q < 0
          · have t2 : decide (0 ≤ q) = false := by simpa using hq0
            obtain rfl : k = 0 := by omega
            have Ho := Lib.hid (show candO first O 0 = first from rfl)
            have HOFF := Lib.hid (fun W (hW : Below w.heap.size w W) => rzoffset_any first (momOf day second first) a len cap F O W (HR.out.below hW (Nat.le_refl _)))
            cases hmB : momB (momOf day second first)
            · have hv : offsetR first F O len (momOf day second first) = (0, 9) := by unfold offsetR; rw [if_pos H0.out, if_neg (by simp [hmB])]
              have hng : momGood first F O len day second (candO first O 0) = false := by unfold momGood; rw [Ho.out, hmB]; rfl
              have hD : dedL first F O len day second (0 + 1) = dedL first F O len day second 0 := by rw [dedL_succ, if_neg (fun h => by rw [hng] at h; exact absurd h.1 (by simp))]
              have HD := Lib.hid hD
              rw [hv] at HOFF
              unfold scRet at HOFF
              clear hmB hv hng hD
              go_wp2_with fail
              refine (HOFF.out _ (HB1.out.trans (HBr.out.mono (by omega)))).mono ?_
              rintro e w2 ⟨rfl, hb2⟩
              have hs2 := hb2.size
              have HB2 := Lib.hid (HBr.out.trans (hb2.mono hsr))
              have O2 := Lib.hid (own_below HO.out hb2)
              clear hb2
              go_wp2_with fail
              go_roundw
              case rel => exact ⟨_, 1, rfl, by omega, by omega, by rw [HD.out]; exact O2, HB2⟩
              case measure => simp [intOf]; omega
            · have hv : offsetR first F O len (momOf day second first) = (offF first (momOf day second first) F O len, 0) := by unfold offsetR; rw [if_pos H0.out, if_pos hmB]
              rw [hv] at HOFF
              unfold scRet at HOFF
              have hg : momGood first F O len day second (candO first O 0) = (offF first (momOf day second first) F O len == first) := by unfold momGood; rw [Ho.out, hmB]; rfl
              obtain ⟨at', hat⟩ : ∃ at', offF first (momOf day second first) F O len = at' := ⟨_, rfl⟩
              rw [hat] at HOFF hg
              clear hmB hv hat
              cases hae : (at' == first)
              · have hae' : (at' != first) = true := by simp only [bne, hae]; rfl
                have hD : dedL first F O len day second (0 + 1) = dedL first F O len day second 0 := by rw [dedL_succ, if_neg (fun h => by rw [hg, hae] at h; exact absurd h.1 (by simp))]
                have HD := Lib.hid hD
                clear hg hD
                go_wp2_with fail
                refine (HOFF.out _ (HB1.out.trans (HBr.out.mono (by omega)))).mono ?_
                rintro e w2 ⟨rfl, hb2⟩
                have hs2 := hb2.size
                have HB2 := Lib.hid (HBr.out.trans (hb2.mono hsr))
                have O2 := Lib.hid (own_below HO.out hb2)
                clear hb2
                go_wp2_with fail
                go_roundw
                case rel => exact ⟨_, 1, rfl, by omega, by omega, by rw [HD.out]; exact O2, HB2⟩
                case measure => simp [intOf]; omega
              · have hae' : (at' != first) = false := by simp only [bne, hae]; rfl
                have hgt : momGood first F O len day second (candO first O 0) = true := by rw [hg, hae]
                have HD := Lib.hid (show dedL first F O len day second (0 + 1) = if momOf day second first ∈ dedL first F O len day second 0 then dedL first F O len day second 0 else dedL first F O len day second 0 ++ [momOf day second first] by
                  rw [dedL_succ, Ho.out]
                  by_cases hin : momOf day second first ∈ dedL first F O len day second 0
                  · rw [if_neg (fun h => h.2 hin), if_pos hin]
                  · rw [if_pos ⟨by rw [← Ho.out]; exact hgt, hin⟩, if_neg hin])
                have em : day * 86400 + second - 60 * (first) = momOf day second first := rfl
                have hDk := dedL_le first F O len day second 0
                generalize dedL first F O len day second 0 = L at HO HD hDk
                clear hg hgt
                obtain ⟨aL, cL, rfl, hfm, hcm⟩ := own_slice HO.out
                unfold maxLen at hcm
                have Hfm := Lib.hid hfm
                clear hfm
                go_wp2_with fail
                refine (HOFF.out _ (HB1.out.trans (HBr.out.mono (by omega)))).mono ?_
                rintro e w2 ⟨rfl, hb2⟩
                have hs2 := hb2.size
                have HB2 := Lib.hid (HBr.out.trans (hb2.mono hsr))
                have O2 := Lib.hid (own_below HO.out hb2)
                clear hb2
                go_wp2_with fail
                generalize momOf day second first = M at HD em ⊢
                go_loop [15, 70] (fun nv jv => ∃ (j : Nat) (nb : Bool), nv = .bool nb ∧ jv = .int .i64 j ∧ j ≤ L.length ∧ Hid (nb = decide (M ∈ L.take j))) (fun _ jv => L.length - (intOf jv).toNat)
                case atStart => exact ⟨0, false, rfl, rfl, by omega, Lib.hid (by simp)⟩
                case round =>
                  obtain ⟨j, nb, rfl, rfl, hj, HN⟩ := hrel
                  by_cases hjl : j < L.length
                  · have t3 : decide ((j : Int) < (L.length : Int)) = true := by rw [decide_eq_true_eq]; omega
                    obtain ⟨g, rfl, hg1, hg2⟩ := Hfm.out (by omega)
                    have cj : w2.cell? ⟨g, j, none⟩ = some (.int .i64 L[j]) := by rw [O2.out.cellAt j (by omega)]; simp [hjl]
                    have HT := Lib.hid (List.take_succ_eq_append_getElem hjl)
                    generalize L[j] = x at cj HT
                    cases nb
                    · go_wp2_with fail
                      go_round
                      case rel => exact ⟨j + 1, _, rfl, by go_num, by omega, Lib.hid (by
                        rw [HT.out]
                        have := HN.out
                        rw [Bool.eq_iff_iff]
                        simp only [beq_iff_eq, decide_eq_true_eq, List.mem_append, List.mem_singleton]
                        have h2 : M ∉ L.take j := by simpa using this.symm
                        constructor
                        · intro h; exact Or.inr h.symm
                        · rintro (h | h)
                          · exact absurd h h2
                          · exact h.symm)⟩
                      case measure => simp [intOf]; omega
                    · go_wp2_with fail
                      go_round
                      case rel => exact ⟨j + 1, true, rfl, by go_num, by omega, Lib.hid (by
                        rw [HT.out]
                        have := HN.out
                        have h2 : M ∈ L.take j := by simpa using this.symm
                        symm
                        rw [decide_eq_true_eq]
                        exact List.mem_append_left _ h2)⟩
                      case measure => simp [intOf]; omega
                  · have t3 : decide ((j : Int) < (L.length : Int)) = false := by rw [decide_eq_false_iff_not]; omega
                    have t3' : decide (j < L.length) = false := by simpa using hjl
                    have hN := HN.out
                    rw [List.take_of_length_le (by omega)] at hN
                    cases nb
                    · have HD2 : dedL first F O len day second (0 + 1) = L ++ [M] := by rw [HD.out, if_neg (by simpa using hN.symm)]
                      have HD3 := Lib.hid HD2
                      have O2' := O2.out
                      clear hN HD2 hjl
                      go_wp2_with (first
                        | (at_builtin; go_loud (
                           refine wpList_append_own _ rfl _ _ 58 rfl w1.heap.size 3 i0 (.int .i64 0) 1 8 Tryz.underlying58 hi0 hz0 hz1 hz2 rfl (by decide) (.slice aL L.length cL) L.length (L.map (.int .i64)) rfl (O2'.alloc _) ⟨w2.heap.size, 0, none⟩ 1 1 [.int .i64 M] rfl rfl (fun j u hj => by match j, hj with | 0, hj => (simp at hj; subst hj; simp [Addr.add])) (fun u hu => by simp at hu; subst hu; rfl) (by unfold maxLen; omega) (by omega) (by simp; omega) ?_
                           intro v' w3 hown' hgrow _
                           have HW3 := Lib.hid hown'
                           have HG3 := Lib.hid hgrow
                           clear hown' hgrow))
                        | fail)
                      go_roundw
                      case rel => exact ⟨_, 1, rfl, by omega, by omega, by rw [HD3.out]; exact Lib.hid (by simpa using HW3.out), Lib.hid ((HB2.out.alloc (by omega) _).grown HG3.out (by simp; omega) (fun k hk => by have := O2.out.lt k hk; omega))⟩
                      case measure => simp [intOf]; omega
                    · have HD2 : dedL first F O len day second (0 + 1) = L := by rw [HD.out, if_pos (by simpa using hN.symm)]
                      have HD3 := Lib.hid HD2
                      clear hN HD2 hjl
                      go_wp2_with fail
                      go_roundw
                      case rel => exact ⟨_, 1, rfl, by omega, by omega, by rw [HD3.out]; exact O2, HB2⟩
                      case measure => simp [intOf]; omega
          · have t2 : decide (0 ≤ q) = true := by rw [decide_eq_true_eq]; omega
            obtain ⟨kq, rfl⟩ : ∃ kq : Nat, q = kq := ⟨q.toNat, by omega⟩
            obtain rfl : k = kq + 1 := by omega
            clear hqk
            have Ho := Lib.hid (show candO first O (kq + 1) = O kq from rfl)
            have hRr := HR.out.below (HB1.out.trans (HBr.out.mono (by omega))) (Nat.le_refl _)
            obtain ⟨b, off, rfl, hbl, hcc⟩ := hRr.here (by omega)
            obtain ⟨_, c1⟩ := hcc kq (by omega)
            obtain ⟨o0, o1⟩ := outB_false (Hch.out kq (by omega)).2.1
            clear hcc hRr
            have HOFF := Lib.hid (fun W (hW : Below w.heap.size w W) => rzoffset_any first (momOf day second (O kq)) (some ⟨b, off, none⟩) len cap F O W (HR.out.below hW (Nat.le_refl _)))
            cases hmB : momB (momOf day second (O kq))
            · have hv : offsetR first F O len (momOf day second (O kq)) = (0, 9) := by unfold offsetR; rw [if_pos H0.out, if_neg (by simp [hmB])]
              have hng : momGood first F O len day second (candO first O (kq + 1)) = false := by unfold momGood; rw [Ho.out, hmB]; rfl
              have hD : dedL first F O len day second (kq + 1 + 1) = dedL first F O len day second (kq + 1) := by rw [dedL_succ, if_neg (fun h => by rw [hng] at h; exact absurd h.1 (by simp))]
              have HD := Lib.hid hD
              rw [hv] at HOFF
              unfold scRet at HOFF
              clear hmB hv hng hD
              go_wp2_with fail
              refine (HOFF.out _ (HB1.out.trans (HBr.out.mono (by omega)))).mono ?_
              rintro e w2 ⟨rfl, hb2⟩
              have hs2 := hb2.size
              have HB2 := Lib.hid (HBr.out.trans (hb2.mono hsr))
              have O2 := Lib.hid (own_below HO.out hb2)
              clear hb2
              go_wp2_with fail
              go_roundw
              case rel => exact ⟨_, kq + 1 + 1, rfl, by omega, by omega, by rw [HD.out]; exact O2, HB2⟩
              case measure => simp [intOf]; omega
            · have hv : offsetR first F O len (momOf day second (O kq)) = (offF first (momOf day second (O kq)) F O len, 0) := by unfold offsetR; rw [if_pos H0.out, if_pos hmB]
              rw [hv] at HOFF
              unfold scRet at HOFF
              have hg : momGood first F O len day second (candO first O (kq + 1)) = (offF first (momOf day second (O kq)) F O len == (O kq)) := by unfold momGood; rw [Ho.out, hmB]; rfl
              obtain ⟨at', hat⟩ : ∃ at', offF first (momOf day second (O kq)) F O len = at' := ⟨_, rfl⟩
              rw [hat] at HOFF hg
              clear hmB hv hat
              cases hae : (at' == (O kq))
              · have hae' : (at' != (O kq)) = true := by simp only [bne, hae]; rfl
                have hD : dedL first F O len day second (kq + 1 + 1) = dedL first F O len day second (kq + 1) := by rw [dedL_succ, if_neg (fun h => by rw [hg, hae] at h; exact absurd h.1 (by simp))]
                have HD := Lib.hid hD
                clear hg hD
                go_wp2_with fail
                refine (HOFF.out _ (HB1.out.trans (HBr.out.mono (by omega)))).mono ?_
                rintro e w2 ⟨rfl, hb2⟩
                have hs2 := hb2.size
                have HB2 := Lib.hid (HBr.out.trans (hb2.mono hsr))
                have O2 := Lib.hid (own_below HO.out hb2)
                clear hb2
                go_wp2_with fail
                go_roundw
                case rel => exact ⟨_, kq + 1 + 1, rfl, by omega, by omega, by rw [HD.out]; exact O2, HB2⟩
                case measure => simp [intOf]; omega
              · have hae' : (at' != (O kq)) = false := by simp only [bne, hae]; rfl
                have hgt : momGood first F O len day second (candO first O (kq + 1)) = true := by rw [hg, hae]
                have HD := Lib.hid (show dedL first F O len day second (kq + 1 + 1) = if momOf day second (O kq) ∈ dedL first F O len day second (kq + 1) then dedL first F O len day second (kq + 1) else dedL first F O len day second (kq + 1) ++ [momOf day second (O kq)] by
                  rw [dedL_succ, Ho.out]
                  by_cases hin : momOf day second (O kq) ∈ dedL first F O len day second (kq + 1)
                  · rw [if_neg (fun h => h.2 hin), if_pos hin]
                  · rw [if_pos ⟨by rw [← Ho.out]; exact hgt, hin⟩, if_neg hin])
                have em : day * 86400 + second - 60 * (O kq) = momOf day second (O kq) := rfl
                have hDk := dedL_le first F O len day second (kq + 1)
                generalize dedL first F O len day second (kq + 1) = L at HO HD hDk
                clear hg hgt
                obtain ⟨aL, cL, rfl, hfm, hcm⟩ := own_slice HO.out
                unfold maxLen at hcm
                have Hfm := Lib.hid hfm
                clear hfm
                go_wp2_with fail
                refine (HOFF.out _ (HB1.out.trans (HBr.out.mono (by omega)))).mono ?_
                rintro e w2 ⟨rfl, hb2⟩
                have hs2 := hb2.size
                have HB2 := Lib.hid (HBr.out.trans (hb2.mono hsr))
                have O2 := Lib.hid (own_below HO.out hb2)
                clear hb2
                go_wp2_with fail
                generalize momOf day second (O kq) = M at HD em ⊢
                go_loop [15, 70] (fun nv jv => ∃ (j : Nat) (nb : Bool), nv = .bool nb ∧ jv = .int .i64 j ∧ j ≤ L.length ∧ Hid (nb = decide (M ∈ L.take j))) (fun _ jv => L.length - (intOf jv).toNat)
                case atStart => exact ⟨0, false, rfl, rfl, by omega, Lib.hid (by simp)⟩
                case round =>
                  obtain ⟨j, nb, rfl, rfl, hj, HN⟩ := hrel
                  by_cases hjl : j < L.length
                  · have t3 : decide ((j : Int) < (L.length : Int)) = true := by rw [decide_eq_true_eq]; omega
                    obtain ⟨g, rfl, hg1, hg2⟩ := Hfm.out (by omega)
                    have cj : w2.cell? ⟨g, j, none⟩ = some (.int .i64 L[j]) := by rw [O2.out.cellAt j (by omega)]; simp [hjl]
                    have HT := Lib.hid (List.take_succ_eq_append_getElem hjl)
                    generalize L[j] = x at cj HT
                    cases nb
                    · go_wp2_with fail
                      go_round
                      case rel => exact ⟨j + 1, _, rfl, by go_num, by omega, Lib.hid (by
                        rw [HT.out]
                        have := HN.out
                        rw [Bool.eq_iff_iff]
                        simp only [beq_iff_eq, decide_eq_true_eq, List.mem_append, List.mem_singleton]
                        have h2 : M ∉ L.take j := by simpa using this.symm
                        constructor
                        · intro h; exact Or.inr h.symm
                        · rintro (h | h)
                          · exact absurd h h2
                          · exact h.symm)⟩
                      case measure => simp [intOf]; omega
                    · go_wp2_with fail
                      go_round
                      case rel => exact ⟨j + 1, true, rfl, by go_num, by omega, Lib.hid (by
                        rw [HT.out]
                        have := HN.out
                        have h2 : M ∈ L.take j := by simpa using this.symm
                        symm
                        rw [decide_eq_true_eq]
                        exact List.mem_append_left _ h2)⟩
                      case measure => simp [intOf]; omega
                  · have t3 : decide ((j : Int) < (L.length : Int)) = false := by rw [decide_eq_false_iff_not]; omega
                    have t3' : decide (j < L.length) = false := by simpa using hjl
                    have hN := HN.out
                    rw [List.take_of_length_le (by omega)] at hN
                    cases nb
                    · have HD2 : dedL first F O len day second (kq + 1 + 1) = L ++ [M] := by rw [HD.out, if_neg (by simpa using hN.symm)]
                      have HD3 := Lib.hid HD2
                      have O2' := O2.out
                      clear hN HD2 hjl
                      go_wp2_with (first
                        | (at_builtin; go_loud (
                           refine wpList_append_own _ rfl _ _ 58 rfl w1.heap.size 3 i0 (.int .i64 0) 1 8 Tryz.underlying58 hi0 hz0 hz1 hz2 rfl (by decide) (.slice aL L.length cL) L.length (L.map (.int .i64)) rfl (O2'.alloc _) ⟨w2.heap.size, 0, none⟩ 1 1 [.int .i64 M] rfl rfl (fun j u hj => by match j, hj with | 0, hj => (simp at hj; subst hj; simp [Addr.add])) (fun u hu => by simp at hu; subst hu; rfl) (by unfold maxLen; omega) (by omega) (by simp; omega) ?_
                           intro v' w3 hown' hgrow _
                           have HW3 := Lib.hid hown'
                           have HG3 := Lib.hid hgrow
                           clear hown' hgrow))
                        | fail)
                      go_roundw
                      case rel => exact ⟨_, kq + 1 + 1, rfl, by omega, by omega, by rw [HD3.out]; exact Lib.hid (by simpa using HW3.out), Lib.hid ((HB2.out.alloc (by omega) _).grown HG3.out (by simp; omega) (fun k hk => by have := O2.out.lt k hk; omega))⟩
                      case measure => simp [intOf]; omega
                    · have HD2 : dedL first F O len day second (kq + 1 + 1) = L := by rw [HD.out, if_pos (by simpa using hN.symm)]
                      have HD3 := Lib.hid HD2
                      clear hN HD2 hjl
                      go_wp2_with fail
                      go_roundw
                      case rel => exact ⟨_, kq + 1 + 1, rfl, by omega, by omega, by rw [HD3.out]; exact O2, HB2⟩
                      case measure => simp [intOf]; omega
        · have t1 : decide (q < (len : Int)) = false := by simpa using hlt
          obtain rfl : q = (len : Int) := by omega
          obtain rfl : k = len + 1 := by omega
          have hDk := dedL_le first F O len day second (len + 1)
          generalize dedL first F O len day second (len + 1) = L at HO hDk hq
          obtain ⟨aL, cL, rfl, hfm, hcm⟩ := own_slice HO.out
          unfold maxLen at hcm
          have Hfm := Lib.hid hfm
          clear hfm
          go_wp2_with fail
          obtain ⟨wo, rfl⟩ : ∃ wo : World, wo = wr := ⟨_, rfl⟩
          go_loopw [89] (fun iv w3 => ∃ (i : Nat) (M : List Int), iv = .int .i64 i ∧ i ≤ L.length ∧ Hid (M.length = L.length) ∧ Hid (M.Perm L) ∧ Hid (Srt (fun j => M.getD j 0) i) ∧ Hid (w3.ownsRow w1.heap.size 3 1 (.slice aL L.length cL) L.length (M.map (.int .i64))) ∧ Hid (Below w1.heap.size w1 w3)) (fun iv _ => L.length - (intOf iv).toNat)
          case atStart => exact ⟨0, L, rfl, by omega, Lib.hid rfl, Lib.hid (List.Perm.refl _), Lib.hid (fun a b h1 h2 => by omega), HO, HBr⟩
          case round =>
            obtain ⟨i, M, rfl, hi, HML, HMP, HS, HM, HB3⟩ := hrel
            by_cases hil : i < L.length
            · have t3 : decide ((i : Int) < (L.length : Int)) = true := by rw [decide_eq_true_eq]; omega
              obtain ⟨g, rfl, hg1, hg2⟩ := Hfm.out (by omega)
              go_wp2_with fail
              obtain ⟨wp, rfl⟩ : ∃ wp : World, wp = wr := ⟨_, rfl⟩
              go_loopw [19] (fun kv w4 => ∃ (k2 : Nat) (M2 : List Int), kv = .int .i64 k2 ∧ k2 ≤ i ∧ Hid (M2.length = L.length) ∧ Hid (M2.Perm L) ∧ Hid (Ins (fun j => M2.getD j 0) i k2) ∧ Hid (w4.ownsRow w1.heap.size 3 1 (.slice (some ⟨g, 0, none⟩) L.length cL) L.length (M2.map (.int .i64))) ∧ Hid (Below w1.heap.size w1 w4)) (fun kv _ => (intOf kv).toNat)
              case atStart => exact ⟨i, M, rfl, by omega, HML, HMP, Lib.hid (ins_start HS.out), HM, HB3⟩
              case round =>
                obtain ⟨k2, M2, rfl, hk2, HML2, HMP2, HI, HM2, HB4⟩ := hrel
                by_cases hk0 : 0 < k2
                · obtain ⟨kp, rfl⟩ : ∃ kp, k2 = kp + 1 := ⟨k2 - 1, by omega⟩
                  obtain ⟨c1, f1⟩ := row_cell HM2.out HML2.out (kp + 1) (by omega)
                  obtain ⟨c2, f2⟩ := row_cell HM2.out HML2.out kp (by omega)
                  obtain ⟨x, hx⟩ : ∃ x, M2.getD (kp + 1) 0 = x := ⟨_, rfl⟩
                  obtain ⟨y, hy⟩ : ∃ y, M2.getD kp 0 = y := ⟨_, rfl⟩
                  rw [hx] at c1
                  rw [hy] at c2
                  have HX := Lib.hid hx
                  have HY := Lib.hid hy
                  clear hx hy
                  have t4 : decide ((0 : Int) < (kp : Int) + 1) = true := by rw [decide_eq_true_eq]; omega
                  have t4' : decide (0 < kp + 1) = true := by simp
                  have hidx : ((kp : Int) + 1).toNat = kp + 1 := by omega
                  by_cases hxy : x < y
                  · have t5 : decide (x < y) = true := by simpa using hxy
                    go_wp2_with fail
                    go_quiet (fail)
                    go_wp2_with fail
                    have HM5 := Lib.hid (show (wr.drewN nq).ownsRow w1.heap.size 3 1 (.slice (some ⟨g, 0, none⟩) L.length cL) L.length (M2.map (.int .i64)) from HM2.out)
                    have HB5 := Lib.hid (below_drewN HB4.out nq)
                    have c1' : (wr.drewN nq).cell? ⟨g, kp + 1, none⟩ = some (.int .i64 x) := c1
                    have c2' : (wr.drewN nq).cell? ⟨g, kp, none⟩ = some (.int .i64 y) := c2
                    have f1' : (wr.drewN nq).frozen? ⟨g, kp + 1, none⟩ = false := f1
                    have f2' : (wr.drewN nq).frozen? ⟨g, kp, none⟩ = false := f2
                    clear c1 c2 f1 f2
                    generalize wr.drewN nq = w5 at HM5 HB5 c1' c2' f1' f2' ⊢
                    go_region
                    go_wp2
                    go_roundw
                    case rel => exact ⟨kp, swp M2 (kp + 1), by first | rfl | go_num, by omega, Lib.hid (by rw [swp_length]; exact HML2.out), Lib.hid ((swp_perm (by omega) (by have := HML2.out; omega)).trans HMP2.out), Lib.hid (ins_step HI.out (by omega) hk2 (by have := HML2.out; omega) (by show M2.getD (kp + 1) 0 < M2.getD kp 0; rw [HX.out, HY.out]; exact hxy)), Lib.hid (row_swap HM5.out (kp + 1) x y HX.out HY.out).1, Lib.hid (below_drewN (HB5.out.grown (row_swap HM5.out (kp + 1) x y HX.out HY.out).2 HB5.out.size (by rintro _ ⟨rfl⟩; exact hg1)) 1)⟩
                    case measure => simp [intOf]
                  · have t5 : decide (x < y) = false := by simpa using hxy
                    have HS2 := Lib.hid (ins_end HI.out hk2 (Or.inr (by show M2.getD kp 0 ≤ M2.getD (kp + 1) 0; rw [HX.out, HY.out]; omega)))
                    go_wp2_with fail
                    go_quiet (fail)
                    go_wp2_with fail
                    go_roundw
                    case rel => exact ⟨i + 1, M2, by go_num, by omega, HML2, HMP2, HS2, Lib.hid HM2.out, Lib.hid (below_drewN HB4.out _)⟩
                    case measure => simp [intOf]; omega
                · obtain rfl : k2 = 0 := by omega
                  have HS2 := Lib.hid (ins_end HI.out hk2 (Or.inl rfl))
                  have t4 : decide ((0 : Int) < 0) = false := by simp
                  go_wp2_with fail
                  go_quiet (fail)
                  go_wp2_with fail
                  go_roundw
                  case rel => exact ⟨i + 1, M2, by go_num, by omega, HML2, HMP2, HS2, Lib.hid HM2.out, Lib.hid (below_drewN HB4.out _)⟩
                  case measure => simp [intOf]; omega
            · have t3 : decide ((i : Int) < (L.length : Int)) = false := by rw [decide_eq_false_iff_not]; omega
              have t3' : decide (i < L.length) = false := by simpa using hil
              obtain rfl : i = L.length := by omega
              have hml := HML.out
              have e := hq.out M HMP.out (srt_pairwise (by rw [hml]; exact HS.out))
              have HE := Lib.hid e
              have hi1 : IntsAt wr (.slice aL L.length cL) M := by
                have h := HM.out
                rw [← hml] at h ⊢
                exact IntsAt.of_own h
              have HI1 := Lib.hid hi1
              clear hi1 e hml hil
              go_wp2_with fail
              go_ret2
              exact ⟨⟨_, rfl, by rw [HE.out]; exact HI1.out⟩, HB1.out.trans (HB3.out.mono (by omega))⟩
    · have he : momErr first F O len day second = 9 := by unfold momErr; rw [if_pos h0, if_neg h1]
      have hl : momList first F O len day second = [] := by unfold momList; rw [he, if_neg (by decide)]
      rw [he, hl]
      cases hdd : dayB day
      · have hdo : (decide (day < 0) || decide (999999 < day)) = true := by
          simp only [dayB, Bool.and_eq_false_iff, decide_eq_false_iff_not] at hdd
          simp only [Bool.or_eq_true, decide_eq_true_eq]
          omega
        rw [hdo] at hd
        have hd := Lib.hid hd
        clear h0 h1 he hl hdd hdo hse
        go_enter Tryz.func50, Tryz.ntmps50
        go_wp2_with fail
        refine hc.out.mono ?_
        rintro e w1 ⟨rfl, hb1⟩
        have HB1 := Lib.hid (HW1.out.trans (hb1.mono (by simp)))
        clear hb1
        go_wp2_with fail
        refine (hd.out _).mono ?_
        rintro e w2 ⟨rfl, rfl⟩
        go_wp2_with fail
        go_ret2
        exact ⟨⟨_, rfl, IntsAt.nil _⟩, HB1.out⟩
      · obtain ⟨d0, d1⟩ := dayB_true hdd
        rw [show (decide (day < 0) || decide (999999 < day)) = false by simp; omega] at hd
        have hso : (decide (second < 0) || decide (86399 < second)) = true := by
          simp only [Bool.or_eq_true, decide_eq_true_eq]
          by_cases h2 : second < 0
          · exact Or.inl h2
          · exact Or.inr (Int.not_le.1 fun h3 => h1 ⟨hdd, by omega, h3⟩)
        rw [hso] at hse
        have hd := Lib.hid hd
        have hse := Lib.hid hse
        clear h0 h1 he hl hdd hso
        go_enter Tryz.func50, Tryz.ntmps50
        go_wp2_with fail
        refine hc.out.mono ?_
        rintro e w1 ⟨rfl, hb1⟩
        have HB1 := Lib.hid (HW1.out.trans (hb1.mono (by simp)))
        clear hb1
        go_wp2_with fail
        refine (hd.out _).mono ?_
        rintro e w2 ⟨rfl, rfl⟩
        go_wp2_with fail
        refine (hse.out _).mono ?_
        rintro e w2 ⟨rfl, rfl⟩
        go_wp2_with fail
        go_ret2
        exact ⟨⟨_, rfl, IntsAt.nil _⟩, HB1.out⟩
  · have he : momErr first F O len day second = chk first F O len := by unfold momErr; rw [if_neg h0]
    have hl : momList first F O len day second = [] := by unfold momList; rw [he, if_neg h0]
    rw [he, hl]
    generalize chk first F O len = z at hc h0 ⊢
    have hz' : (z != 0) = true := by simpa using h0
    clear h0 he hl hd hse
    go_enter Tryz.func50, Tryz.ntmps50
    go_wp2_with fail
    refine hc.out.mono ?_
    rintro e w1 ⟨rfl, hb1⟩
    have HB1 := Lib.hid (HW1.out.trans (hb1.mono (by simp)))
    clear hb1
    go_wp2_with fail
    go_ret2
    exact ⟨⟨_, rfl, IntsAt.nil _⟩, HB1.out⟩
end Go.Proofs.YtcdilamkkodjjaaGreatDoor

/- ReadStamp of the reference. -/
namespace Go.Proofs.YtcdilamkkodjjaaGreatDoor
open Go.RowKit Go.BigFrame
open Rd (dateT stT firstT matchT litT pairT tok0 Tok TokOk)

theorem st_ok : ∀ t, t ∈ stT → TokOk t ∧ Rd.Small 99 t := by
  intro t ht
  simp only [stT, List.mem_cons, List.not_mem_nil, or_false] at ht
  have h2 : TokOk (pairT 23) ∧ Rd.Small 99 (pairT 23) := ⟨Or.inr (Or.inr (Or.inl ⟨rfl, by decide, by decide⟩)), Or.inr ⟨Or.inr rfl, by decide, by decide⟩⟩
  have h5 : TokOk (pairT 59) ∧ Rd.Small 99 (pairT 59) := ⟨Or.inr (Or.inr (Or.inl ⟨rfl, by decide, by decide⟩)), Or.inr ⟨Or.inr rfl, by decide, by decide⟩⟩
  have hs : TokOk (litT ⟨#[32]⟩) ∧ Rd.Small 99 (litT ⟨#[32]⟩) := ⟨Or.inl ⟨rfl, by decide⟩, Or.inl rfl⟩
  have hc : TokOk (litT Rd.colon) ∧ Rd.Small 99 (litT Rd.colon) := ⟨Or.inl ⟨rfl, by decide⟩, Or.inl rfl⟩
  rcases ht with rfl | rfl | rfl | rfl | rfl | rfl
  · exact hs
  · exact h2
  · exact hc
  · exact h5
  · exact hc
  · exact h5
theorem stamp_ok : ∀ t, t ∈ dateT ++ stT → TokOk t ∧ Rd.Small 99 t := fun t ht => by
  rcases List.mem_append.1 ht with h | h
  · exact date_ok t h
  · exact st_ok t h
theorem stamp_vals {s : ByteArray} (h : 0 ≤ (firstT s [dateT ++ stT] 0 0).1) : ∀ v, v ∈ (firstT s [dateT ++ stT] 0 0).2.1 → 0 ≤ v ∧ v ≤ 99 := by
  obtain ⟨k, f, h1, h2, h3, h4⟩ := Rd.firstT_len [dateT ++ stT] h
  have hk : k = 0 := by
    have := (List.getElem?_eq_some_iff.1 h1).1
    simp at this
    exact this
  subst hk
  injection h1 with h1
  subst h1
  rw [h4]
  exact Rd.matchT_vals (s := s) (M := 99) (dateT ++ stT) 0 (fun t ht => (stamp_ok t ht).2)
set_option maxHeartbeats 8000000 in
set_option maxRecDepth 100000 in
theorem rReadStamp_any (first : Int) (a : Option Addr) (len cap : Nat) (F O : Nat → Int) (s : ByteArray) (last : Bool) (w : World) (hr : Rows2 w a len F O) (hg : Glo w) (hs : s.size ≤ 9223372036854775807) :
    Calls Tryz.prog 14 #[.agg #[.int .i64 first, .slice a len cap], .string s, .bool last] w fun e w' => e = .returned (.tuple #[.int .i64 (stampAns first F O len (readStampP s) last).1, .int .i64 (stampAns first F O len (readStampP s) last).2.1, .int .i64 (stampAns first F O len (readStampP s) last).2.2]) ∧ Below w.heap.size w w' := by
  obtain ⟨V, hV, hbV, hsV, hcV⟩ := alloc_cells w #[.int .i64 first, .slice a len cap] 31
  have z0 := hcV 0 _ rfl
  have z1 := hcV 1 _ rfl
  have HRV := hr.below hbV (Nat.le_refl _)
  have hc := Lib.hid (rcheckZone_any first a len cap F O V HRV)
  have HBV := Lib.hid hbV
  have HVz := Lib.hid hV
  have HRW := Lib.hid (fun (W : World) (h : Below w.heap.size w W) => hr.below h (Nat.le_refl _))
  have HG := Lib.hid (fun (W : World) (h : Below w.heap.size w W) => hg.below h)
  obtain ⟨ck, hck⟩ : ∃ ck, chk first F O len = ck := ⟨_, rfl⟩
  have hA : ∀ r, stampAns first F O len r last = if ck ≠ 0 then (0, 0, ck) else if r.2.2 ≠ 0 then (0, r.2.1, r.2.2)
      else if (momList first F O len (r.1 / 86400) (r.1 % 86400)).length = 0 then (0, 0, 4)
      else if last = true then ((momList first F O len (r.1 / 86400) (r.1 % 86400)).getD ((momList first F O len (r.1 / 86400) (r.1 % 86400)).length - 1) 0, 0, 0)
      else ((momList first F O len (r.1 / 86400) (r.1 % 86400)).getD 0 0, 0, 0) := fun r => by rw [← hck]; rfl
  have HME : Hid (∀ day second, ck = 0 → dayB day = true → 0 ≤ second → second ≤ 86399 → momErr first F O len day second = 0) := Lib.hid (fun day second h1 h2 h3 h4 => by
    unfold momErr
    rw [hck, if_pos h1, if_pos ⟨h2, h3, h4⟩])
  rw [hck] at hc
  clear hcV hbV HRV hV hck hr hg
  by_cases h0 : ck = 0
  case neg =>
    have b1 : (ck == 0) = false := by simpa using h0
    have b2 : (ck != 0) = true := by simpa using h0
    have HX := Lib.hid ((hA (readStampP s)).trans (if_pos h0))
    clear h0 hA
    go_enter Tryz.func14, Tryz.ntmps14
    go_upto_region 1 with fail
    rw [HVz.out]
    go_wp2_with fail
    refine hc.out.mono ?_
    rintro e w1 ⟨rfl, hb1⟩
    go_wp2_with fail
    go_ret3
    exact ⟨by rw [HX.out]; rfl, below_step HBV.out hb1⟩
  case pos =>
  have b1 : (ck == 0) = true := by simpa using h0
  have b2 : (ck != 0) = false := by simpa using h0
  have hA2 := fun r => (hA r).trans (if_neg (fun h => h h0))
  have H0 := Lib.hid h0
  clear hA h0
  by_cases hz : 1000 < s.size
  · have t1 : decide ((1000 : Int) < (s.size : Int)) = true := by rw [decide_eq_true_eq]; omega
    have t2 : decide (1000 < s.size) = true := by simpa using hz
    have hrp : readStampP s = (0, 0, 3) := by unfold readStampP Rd.readForms; rw [if_pos hz]; rfl
    have HX := Lib.hid (show stampAns first F O len (readStampP s) last = (0, 0, 3) by rw [hA2, hrp]; exact if_pos (by decide))
    clear hz hA2 hrp
    go_enter Tryz.func14, Tryz.ntmps14
    go_upto_region 1 with fail
    rw [HVz.out]
    go_wp2_with fail
    refine hc.out.mono ?_
    rintro e w1 ⟨rfl, hb1⟩
    go_wp2_with fail
    go_ret3
    exact ⟨by rw [HX.out]; rfl, below_step HBV.out hb1⟩
  have t1 : decide ((1000 : Int) < (s.size : Int)) = false := by rw [decide_eq_false_iff_not]; omega
  have t2 : decide (1000 < s.size) = false := by simpa using hz
  have HEQ := Lib.hid (Rd.stamp_eq s hz)
  have HVA := Lib.hid (stamp_vals (s := s))
  have HZ := Lib.hid hz
  have hrp : readStampP s = Rd.ranged (Rd.readForms s [Rd.stampF]) 0 86399999999 := rfl
  rw [← hrp] at HEQ
  obtain ⟨R, hR⟩ : ∃ R, readStampP s = R := ⟨_, rfl⟩
  rw [hR] at HEQ ⊢
  have HA := Lib.hid (hA2 R)
  clear hz hA2 hrp hR
  have DD := Lib.hid (fun (W : World) => dateForm_any W)
  have DP : Hid (∀ (m : Int) (W : World), Calls Tryz.prog 48 #[.int .i64 m] W fun e w' => e = .returned (.agg #[.int .i64 3, .string ⟨#[]⟩, .int .i64 0, .int .i64 m, .int .i64 0]) ∧ Below W.heap.size W w') := Lib.hid (fun m W => rpair_any m W)
  have DI : Hid (∀ (tx : ByteArray) (W : World), Calls Tryz.prog 32 #[.string tx] W fun e w' => e = .returned (.agg #[.int .i64 1, .string tx, .int .i64 0, .int .i64 0, .int .i64 0]) ∧ Below W.heap.size W w') := Lib.hid (fun tx W => lit_any tx W)
  have DW : Hid (∀ (vf vt : Value) (W : World), FormBlk W vf dateT → FormBlk W vt stT → Calls Tryz.prog 31 #[vf, vt] W fun e w' => ∃ g c, e = .returned (.slice (some ⟨g, 0, none⟩) 12 c) ∧ FormBlk w' (.slice (some ⟨g, 0, none⟩) 12 c) (dateT ++ stT) ∧ Below W.heap.size W w') := Lib.hid (fun vf vt W h1 h2 => by
    refine (with_any dateT stT _ _ W h1 h2 (by decide) (by decide) (by decide) (by decide)).mono ?_
    rintro e w' ⟨v, rfl, hf, hb⟩
    obtain ⟨g, c, cs, rfl, h3, h4⟩ := hf
    exact ⟨g, c, rfl, ⟨g, c, cs, rfl, h3, h4⟩, hb⟩)
  go_enter Tryz.func14, Tryz.ntmps14
  go_upto_region 1 with fail
  rw [HVz.out]
  go_wp2_with fail
  refine hc.out.mono ?_
  rintro e' w1 ⟨rfl, hb1⟩
  have Z0 := Lib.hid (below_cell hb1 z0)
  have Z1 := Lib.hid (below_cell hb1 z1)
  have HB1 := Lib.hid (below_step HBV.out hb1)
  clear z0 z1 hb1 HBV hc HVz
  go_wp2_with fail
  refine (DD.out _).mono ?_
  rintro e x0 ⟨qd, rfl, hfd, hx0⟩
  have HQ0 := Lib.hid hx0
  have HFD := Lib.hid hfd
  obtain ⟨y0, hy0⟩ : ∃ y, x0 = y := ⟨_, rfl⟩
  have HFD0 : Hid (∀ W, Below x0.heap.size x0 W → FormBlk W (.slice (some ⟨qd, 0, none⟩) 6 6) dateT) := Lib.hid (fun W h => HFD.out.below h)
  have HX0 := Lib.hid (Below.refl x0.heap.size x0)
  clear hx0 hfd hy0 y0 HFD
  go_wp2_with fail
  refine (DI.out _ _).mono ?_
  rintro e x1 ⟨rfl, hx1⟩
  have HQ1 := Lib.hid (HQ0.out.trans (hx1.mono HQ0.out.size))
  have HX1 := Lib.hid (HX0.out.trans (hx1.mono HX0.out.size))
  clear hx1 HQ0 HX0
  go_wp2_with fail
  refine (DP.out 23 _).mono ?_
  rintro e x2 ⟨rfl, hx2⟩
  have HQ2 := Lib.hid (HQ1.out.trans (hx2.mono HQ1.out.size))
  have HX2 := Lib.hid (HX1.out.trans (hx2.mono HX1.out.size))
  clear hx2 HQ1 HX1
  go_wp2_with fail
  refine (DI.out _ _).mono ?_
  rintro e x3 ⟨rfl, hx3⟩
  have HQ3 := Lib.hid (HQ2.out.trans (hx3.mono HQ2.out.size))
  have HX3 := Lib.hid (HX2.out.trans (hx3.mono HX2.out.size))
  clear hx3 HQ2 HX2
  go_wp2_with fail
  refine (DP.out 59 _).mono ?_
  rintro e x4 ⟨rfl, hx4⟩
  have HQ4 := Lib.hid (HQ3.out.trans (hx4.mono HQ3.out.size))
  have HX4 := Lib.hid (HX3.out.trans (hx4.mono HX3.out.size))
  clear hx4 HQ3 HX3
  go_wp2_with fail
  refine (DI.out _ _).mono ?_
  rintro e x5 ⟨rfl, hx5⟩
  have HQ5 := Lib.hid (HQ4.out.trans (hx5.mono HQ4.out.size))
  have HX5 := Lib.hid (HX4.out.trans (hx5.mono HX4.out.size))
  clear hx5 HQ4 HX4
  go_wp2_with fail
  refine (DP.out 59 _).mono ?_
  rintro e x6 ⟨rfl, hx6⟩
  have HQ6 := Lib.hid (HQ5.out.trans (hx6.mono HQ5.out.size))
  have HX6 := Lib.hid (HX5.out.trans (hx6.mono HX5.out.size))
  clear hx6 HQ5 HX5
  go_wp2_with fail
  obtain ⟨U, hU, hub, _, huq⟩ := alloc_block x6 #[.int .i64 1, .string ⟨#[32]⟩, .int .i64 0, .int .i64 0, .int .i64 0, .int .i64 3, .string ⟨#[]⟩, .int .i64 0, .int .i64 23, .int .i64 0, .int .i64 1, .string ⟨#[58]⟩, .int .i64 0, .int .i64 0, .int .i64 0, .int .i64 3, .string ⟨#[]⟩, .int .i64 0, .int .i64 59, .int .i64 0, .int .i64 1, .string ⟨#[58]⟩, .int .i64 0, .int .i64 0, .int .i64 0, .int .i64 3, .string ⟨#[]⟩, .int .i64 0, .int .i64 59, .int .i64 0] 63
  rw [hU]
  have HT : Hid (FormBlk U (.slice (some ⟨x6.heap.size, 0, none⟩) 6 6) stT) := Lib.hid ⟨x6.heap.size, 6, _, rfl, huq, fun i j hi hj => by
      have hi : i < 6 := hi
      match i, hi, j, hj with
      | 0, _, 0, _ | 0, _, 1, _ | 0, _, 2, _ | 0, _, 3, _ | 0, _, 4, _ | 1, _, 0, _ | 1, _, 1, _ | 1, _, 2, _ | 1, _, 3, _ | 1, _, 4, _ | 2, _, 0, _ | 2, _, 1, _ | 2, _, 2, _ | 2, _, 3, _ | 2, _, 4, _ | 3, _, 0, _ | 3, _, 1, _ | 3, _, 2, _ | 3, _, 3, _ | 3, _, 4, _ | 4, _, 0, _ | 4, _, 1, _ | 4, _, 2, _ | 4, _, 3, _ | 4, _, 4, _ | 5, _, 0, _ | 5, _, 1, _ | 5, _, 2, _ | 5, _, 3, _ | 5, _, 4, _ => rfl⟩
  have HFU := Lib.hid (HFD0.out U (HX6.out.trans (hub.mono HX6.out.size)))
  have HQU := Lib.hid (below_step HQ6.out hub)
  obtain ⟨pu, hpu⟩ : ∃ p, x6.heap.size = p := ⟨_, rfl⟩
  rw [hpu] at HT ⊢
  clear hU hub huq hpu HFD0 HX6 HQ6
  refine (DW.out _ _ _ HFU.out HT.out).mono ?_
  rintro e x7 ⟨gf, cf, rfl, hf7, hx7⟩
  have HQ7 := Lib.hid (HQU.out.trans (hx7.mono HQU.out.size))
  have HF7 := Lib.hid hf7
  clear hx7 hf7 HQU HFU HT
  obtain ⟨Y, hY, hyb, _, hyq⟩ := alloc_block x7 #[.slice (some ⟨gf, 0, none⟩) 12 cf] 60
  have hFI : FormsIn Y (some ⟨x7.heap.size, 0, none⟩) [dateT ++ stT] := fun j f hf => by
    have hj : j = 0 := by
      have := (List.getElem?_eq_some_iff.1 hf).1
      simp at this
      exact this
    subst hj
    injection hf with hf
    subst hf
    obtain ⟨aj, cj, he, h4⟩ := (HF7.out.below hyb).form
    injection he with he1 he2 he3
    subst he1
    subst he3
    exact ⟨x7.heap.size, 0, _, _, rfl, lt_of_block hyq, block_cell hyq rfl, h4, fun t ht => (stamp_ok t ht).1, by decide⟩
  have HQY := Lib.hid (HQ7.out.trans (hyb.mono HQ7.out.size))
  have HBY := Lib.hid (below_step HB1.out HQY.out)
  have D1 := Lib.hid (first_any s [dateT ++ stT] (some ⟨x7.heap.size, 0, none⟩) 1 Y (by have := HZ.out; omega) hFI (by decide) (HG.out Y HBY.out))
  unfold FirstRet at D1
  obtain ⟨E, hE⟩ : ∃ E, firstT s [dateT ++ stT] 0 0 = E := ⟨_, rfl⟩
  rw [hE] at D1 HEQ HVA
  obtain ⟨n, L, far⟩ := E
  simp only at D1 HEQ HVA
  have ZY0 := Lib.hid (below_cell HQY.out Z0.out)
  have ZY1 := Lib.hid (below_cell HQY.out Z1.out)
  clear hE hFI hyb hyq HQ7 HF7 Z0 Z1 HB1
  go_upto_region 7 with (go_at_call 34; refine D1.out.mono ?_; rintro e w5 ⟨lv, rfl, hb5, hown⟩)
  have HB5 := Lib.hid (below_step HBY.out hb5)
  have Z50 := below_cell hb5 ZY0.out
  have Z51 := below_cell hb5 ZY1.out
  clear hb5 ZY0 ZY1 HBY HQY hY
  rcases HEQ.out with ⟨hneg, hRe⟩ | ⟨la, lb, lm, ld, lh, ln, lx, hE, hcase⟩
  case inl =>
    have n1 : decide (n < 0) = true := by simpa using hneg
    have HX := Lib.hid (show stampAns first F O len R last = (0, far, 6) by rw [HA.out, hRe]; exact if_pos (show (6 : Int) ≠ 0 by decide))
    clear HEQ HA hRe hneg hown HVA
    go_wp2_with fail
    go_ret3
    exact ⟨by rw [HX.out]; rfl, HB5.out⟩
  case inr =>
  injection hE with hE1 hE2
  injection hE2 with hE2 hE3
  subst hE1 hE2 hE3
  have HO := hown (by omega)
  obtain ⟨g, c, rfl⟩ := own_open HO (show 0 < 7 by omega)
  have V := HVA.out (by omega)
  have va := V la (by simp)
  have vb := V lb (by simp)
  have vm := V lm (by simp)
  have vd := V ld (by simp)
  have vh := V lh (by simp)
  have vn := V ln (by simp)
  have vx := V lx (by simp)
  have e0 := HO.cells (g := g) rfl 0 (.int .i64 la) rfl
  have e1 := HO.cells (g := g) rfl 1 (.int .i64 lb) rfl
  have e2 := HO.cells (g := g) rfl 2 (.int .i64 lm) rfl
  have e3 := HO.cells (g := g) rfl 3 (.int .i64 ld) rfl
  have e4 := HO.cells (g := g) rfl 4 (.int .i64 lh) rfl
  have e5 := HO.cells (g := g) rfl 5 (.int .i64 ln) rfl
  have e6 := HO.cells (g := g) rfl 6 (.int .i64 lx) rfl
  rw [addr_add0] at e0 e1 e2 e3 e4 e5 e6
  have E0 := Ext.ex e0
  have E1 := Ext.ex e1
  have E2 := Ext.ex e2
  have E3 := Ext.ex e3
  have E4 := Ext.ex e4
  have E5 := Ext.ex e5
  have E6 := Ext.ex e6
  have E7 := Ext.ex Z50
  have E8 := Ext.ex Z51
  have DY := Lib.hid (fun (X : Ext w5) => Ext.same X (rdayOf_any (100 * la + lb) lm ld X.1))
  have n1 : decide ((0 : Int) < 0) = false := rfl
  rw [← Cal.dayOf_eq] at DY
  obtain ⟨r, hrr⟩ : ∃ r, Cal.dayOfF (100 * la + lb) lm ld = r := ⟨_, rfl⟩
  rw [hrr] at DY hcase
  obtain ⟨rn, re⟩ := r
  simp only at DY hcase
  have HCS := Lib.hid hcase
  clear hrr hown HO HEQ V HVA e0 e1 e2 e3 e4 e5 e6 Z50 Z51 hcase D1
  go_upto_region 9 with fail
  refine ext_wp fun Y5 => ?_
  refine wp_region_ext Y5 (by kernel_rfl) (by kernel_rfl) ?_
  repeat (go_big_quiet_step ((first
    | (go_at_call 49; with_reducible exact DY.out _))))
  refine wpQuiet_nil ?_
  intro _ hw'
  obtain ⟨Z6, rfl⟩ := hw'
  rcases HCS.out with ⟨hre, hRe⟩ | ⟨day, hre, hday, hsec, hRe⟩
  case inl =>
    have c1 : (re == 0) = false := by simpa using hre
    have c2 : (re != 0) = true := by simpa using hre
    have HX := Lib.hid (show stampAns first F O len R last = (0, 0, 9) by rw [HA.out, hRe]; exact if_pos (by decide))
    clear HCS HA hRe hre
    go_wp2_with fail
    go_ret3
    exact ⟨by rw [HX.out]; rfl, Z6.down HB5.out HB5.out.size⟩
  case inr =>
  injection hre with hr1 hr2
  subst hr1 hr2
  have hdb : dayB rn = true := by unfold dayB; simp only [Bool.and_eq_true, decide_eq_true_eq]; omega
  obtain ⟨sc, hsc⟩ : ∃ x, 3600 * lh + 60 * ln + lx = x := ⟨_, rfl⟩
  rw [hsc] at hsec hRe
  have hme := HME.out rn sc H0.out hdb (by omega) (by omega)
  have hq1 : (rn * 86400 + sc) / 86400 = rn := by omega
  have hq2 : (rn * 86400 + sc) % 86400 = sc := by omega
  have HA2 := HA.out
  rw [hRe] at HA2
  have HRe := Lib.hid hRe
  simp only [hq1, hq2] at HA2
  have HA3 := HA2.trans (if_neg (by simp))
  have hLl := momList_short first F O len rn sc
  have HMM : Hid (∀ X : Ext w5, Calls Tryz.prog 50 #[.agg #[.int .i64 first, .slice a len cap], .int .i64 rn, .int .i64 sc] X.1 fun e w' => (∃ v, e = .returned (.tuple #[v, .int .i64 0]) ∧ IntsAt w' v (momList first F O len rn sc)) ∧ Below X.1.heap.size X.1 w') := Lib.hid (fun X => by
    have h := rmoments_any first rn sc a len cap F O X.1 (HRW.out X.1 (X.down HB5.out HB5.out.size))
    rw [hme] at h
    exact h)
  generalize momList first F O len rn sc = L at HMM HA3 hLl
  have HA4 := Lib.hid HA3
  clear HA HA2 HA3 hme hq1 hq2 hRe hdb HCS HME
  go_upto_region 12 with fail
  refine held_start (C := fun w' => ∃ Z : Ext w5, w' = Z.1) (by kernel_rfl) ?_
  obtain ⟨Y7, hY7⟩ : ∃ Z : Ext w5, ({ Z6.1 with drawn := Z6.1.drawn + 1 } : World) = Z.1 := ⟨⟨{ Z6.1 with drawn := Z6.1.drawn + 1 }, Z6.2.trans ⟨rfl, rfl, rfl, Nat.le_refl _, fun _ _ => rfl⟩⟩, rfl⟩
  rw [hY7]
  clear hY7
  refine held_quiet (by kernel_rfl) (fun _ _ d _ _ h => by cases d <;> exact h) ⟨Y7, rfl⟩ [0, 1, 2, 3, 4, 5, 6, 7, 8, 9, 10, 11, 12, 13, 14] 6 _ _ (by kernel_rfl) ?_
  change wpQuiet _ _ _ _ (_ :: _ :: _ :: _ :: _ :: _ :: _ :: _ :: _ :: _ :: _ :: _ :: _ :: _ :: _ :: []) _
  repeat go_big_quiet_step (fail)
  refine wpQuiet_nil ?_
  refine held_do (i := 15) _ rfl (by kernel_rfl) rfl (fun K hK => ?_)
  go_simp
  refine (HMM.out Y7).mono ?_
  rintro e w8 ⟨⟨v, rfl, a3, c3, rfl, hc3, hx3⟩, hb8⟩
  obtain ⟨Y8, hY8⟩ : ∃ Z : Ext w5, w8 = Z.1 := ⟨⟨w8, below_step Y7.2 hb8⟩, rfl⟩
  rw [hY8] at hx3 ⊢
  refine hK _ _ ⟨Y8, rfl⟩ ?_
  clear hK K hb8 hY8 HMM
  refine held_quiet (by kernel_rfl) (fun _ _ d _ _ h => by cases d <;> exact h) ⟨Y8, rfl⟩ [16, 17, 18, 19, 20] 0 _ _ (by kernel_rfl) ?_
  change wpQuiet _ _ _ _ (_ :: _ :: _ :: _ :: _ :: []) _
  repeat go_big_quiet_step (fail)
  refine wpQuiet_nil ?_
  refine wpAnyH_done (by kernel_rfl) ?_ _
  by_cases hl : L.length = 0
  case pos =>
    have HX := Lib.hid (HA4.out.trans (if_pos hl))
    have d1 : ((L.length : Int) == 0) = true := by simp [hl]
    have d2 : (L.length == 0) = true := by simp [hl]
    clear HA4 hl hx3
    go_wp2_with fail
    go_ret3
    exact ⟨by rw [HRe.out, HX.out]; rfl, Y8.down HB5.out HB5.out.size⟩
  case neg =>
  have d1 : ((L.length : Int) == 0) = false := by simp; exact fun h => hl (by rw [h]; rfl)
  have d2 : (L.length == 0) = false := by simpa using hl
  have HA5 := Lib.hid (HA4.out.trans (if_neg hl))
  obtain ⟨b, rfl, hblt, hcell⟩ := hx3 (by omega)
  have q0 := hcell 0 (by omega)
  have ql := hcell (L.length - 1) (by omega)
  obtain ⟨m, hm⟩ : ∃ m, L.length = m + 1 := ⟨L.length - 1, by omega⟩
  rw [hm] at HA5 hcell d1 d2 ql hc3 hLl ⊢
  rw [Nat.add_sub_cancel] at HA5 ql
  have hix : ((m + 1 : Nat) : Int) - 1 = (m : Int) := by omega
  clear hl HA4 hcell hm
  cases last
  case false =>
    have HX := Lib.hid (HA5.out.trans (if_neg (by simp)))
    clear HA5
    go_wp2_with fail
    go_ret3
    exact ⟨by rw [HRe.out, HX.out]; rfl, Y8.down HB5.out HB5.out.size⟩
  case true =>
    have HX := Lib.hid (HA5.out.trans (if_pos rfl))
    clear HA5
    go_wp2_with fail
    go_ret3
    exact ⟨by rw [HRe.out, HX.out]; rfl, Y8.down HB5.out HB5.out.size⟩
end Go.Proofs.YtcdilamkkodjjaaGreatDoor

/- The walk of the law of stamps. -/
namespace Go.Proofs.YtcdilamkkodjjaaGreatDoor
open Go.RowKit Go.BigFrame

set_option maxHeartbeats 2000000 in
set_option maxRecDepth 100000 in
theorem stamps_law (first moment : Int) (a : Option Addr) (len cap : Nat) (F O : Nat → Int) (s : ByteArray) (last : Bool) (w : World) (hr : Rows2 w a len F O) (hs : s.size ≤ 9223372036854775807) (hg : Glo w) :
    Calls Tryz.prog 4 #[.agg #[.int .i64 first, .slice a len cap], .int .i64 moment, .string s, .bool last] w fun e w' => e = .returned (.bool true) ∧ Below w.heap.size w w' := by
  have D1 := Lib.hid (fun W (h : Below w.heap.size w W) => stampText_any first moment a len cap F O W (hr.below h (Nat.le_refl _)) (hg.below h))
  have D2 := Lib.hid (fun W (h : Below w.heap.size w W) => rstampText_any first moment a len cap F O W (hr.below h (Nat.le_refl _)) (hg.below h))
  have D3 := Lib.hid (fun W (h : Below w.heap.size w W) => readStamp_any first a len cap F O s last W (hr.below h (Nat.le_refl _)) hs)
  have D4 := Lib.hid (fun W (h : Below w.heap.size w W) => rReadStamp_any first a len cap F O s last W (hr.below h (Nat.le_refl _)) (hg.below h) hs)
  have D5 := Lib.hid (fun W => told_any W)
  generalize stampTextR (localR first F O len moment) = u at D1 D2
  generalize stampAns first F O len (readStampP s) last = v at D3 D4
  obtain ⟨t, e⟩ := u
  obtain ⟨x, i, g⟩ := v
  have ht : (t.toList == t.toList) = true := by simp
  obtain ⟨V, hV, hbV, hsV, hcV⟩ := alloc_cells w #[.int .i64 first, .slice a len cap] 31
  have z0 := hcV 0 _ rfl
  have z1 := hcV 1 _ rfl
  have HB0 := Lib.hid hbV
  have HVz := Lib.hid hV
  clear hcV hbV hV hr hg hsV
  go_enter Tryz.func4, Tryz.ntmps4
  go_upto_region 1 with fail
  rw [HVz.out]
  clear HVz
  go_upto_region 2 with (go_at_call 11; refine (D1.out _ HB0.out).mono ?_; rintro e w1 ⟨rfl, hb1⟩)
  have y0 := below_cell hb1 z0
  have y1 := below_cell hb1 z1
  have HB1 := Lib.hid (below_step HB0.out hb1)
  clear z0 z1 hb1 HB0
  have z0 := y0
  have z1 := y1
  clear y0 y1
  go_upto_region 3 with (go_at_call 12; refine (D2.out _ HB1.out).mono ?_; rintro e w2 ⟨rfl, hb2⟩)
  have y0 := below_cell hb2 z0
  have y1 := below_cell hb2 z1
  have HB2 := Lib.hid (below_step HB1.out hb2)
  clear z0 z1 hb2 HB1
  have z0 := y0
  have z1 := y1
  clear y0 y1
  go_upto_region 4 with (go_at_call 13; refine (D3.out _ HB2.out).mono ?_; rintro e w3 ⟨rfl, hb3⟩)
  have y0 := below_cell hb3 z0
  have y1 := below_cell hb3 z1
  have HB3 := Lib.hid (below_step HB2.out hb3)
  clear z0 z1 hb3 HB2
  have z0 := y0
  have z1 := y1
  clear y0 y1
  go_upto_region 5 with (go_at_call 14; refine (D4.out _ HB3.out).mono ?_; rintro e w4 ⟨rfl, hb4⟩)
  have y0 := below_cell hb4 z0
  have y1 := below_cell hb4 z1
  have HB4 := Lib.hid (below_step HB3.out hb4)
  clear z0 z1 hb4 HB3
  have z0 := y0
  have z1 := y1
  clear y0 y1
  go_wp2_with (go_at_call 10; refine (D5.out _).mono ?_; rintro e w5 ⟨rfl, hb5⟩)
  go_ret
  exact ⟨rfl, below_step HB4.out hb5⟩
end Go.Proofs.YtcdilamkkodjjaaGreatDoor

/- A zone that came in: how it reads, and that it reads so afterwards. -/
namespace Go.Proofs.YtcdilamkkodjjaaGreatDoor
open Go.ChangeShapes Go.WideShapes Go.ChangeAt Go.RowKit Go.Deep

theorem laidOut : laidOutB Tryz.prog = true := by kernel_rfl
theorem cellsZone : Tryz.prog.cellsOf 31 = 2 := by kernel_rfl
theorem cellsChange : Tryz.prog.cellsOf 109 = 2 := by kernel_rfl
theorem cellsInt : Tryz.prog.cellsOf 3 = 1 := by kernel_rfl
theorem readZone : Tryz.prog.readableRec 31 = true := by kernel_rfl
theorem rowZone : 31 < Tryz.prog.types.size := of_decide_eq_true (by kernel_rfl)
def intV : Value → Int
  | .int _ n => n
  | _ => 0
set_option maxRecDepth 100000 in
theorem open_zone {H : Type} {enc : TypeId × Value → H} {W : World} {r : Reach} {b0 base : Nat} {v : Value} {d : DataW H} {p : List MemPlace}
    (hv : Value.okWide Tryz.prog W r b0 31 v) (h : DataW.Trod enc Tryz.prog W base (fun _ => true) true 31 v d p) :
    ∃ (first : Int) (a : Option Addr) (len cap : Nat) (F O : Nat → Int), v = .agg #[.int .i64 first, .slice a len cap] ∧ Rows2 W a len F O := by
  obtain ⟨c0, c1, y0, y1, m, rfl, rfl, rfl, hy0, hy1⟩ := Go.Joins.open_agg2 Tryz.underlying31 (by kernel_rfl) cellsZone hv h
  obtain ⟨first, e0, _, _⟩ := DataW.trod_int Tryz.underlying3 hy0
  simp at e0
  subst e0
  rcases open_slice_pairs Tryz.underlying29 Tryz.underlying109 cellsChange rfl rfl cellsInt cellsInt hy1 with ⟨hc, _⟩ | ⟨a, len, cap, m, k, V0, V1, D0, D1, P0, P1, hc, _, hl, hm, hmm, _, hall⟩
  · simp only [List.cons.injEq, and_true] at hc
    subst hc
    exact ⟨first, none, 0, 0, fun _ => 0, fun _ => 0, rfl, ⟨fun h => absurd h (by omega)⟩⟩
  · simp only [List.cons.injEq, and_true] at hc
    subst hc
    simp only [if_true] at hmm
    subst hmm
    refine ⟨first, some a, len, m, fun i => intV (V0 i), fun i => intV (V1 i), rfl, ⟨fun hl0 => ?_⟩⟩
    obtain ⟨b, o, sp⟩ := a
    have hspot : sp = none := by simpa [Addr.add] using World.cell?_spot (hall 0 (by omega)).1
    subst hspot
    refine ⟨b, o, rfl, ?_, fun i hi => ?_⟩
    · exact World.block_lt_of_cell? W _ (hall 0 (by omega)).1
    · obtain ⟨g0, g1, g2, g3⟩ := hall i (by omega)
      obtain ⟨x, hx, _, _⟩ := DataW.trod_int Tryz.underlying3 g2
      obtain ⟨y, hy, _, _⟩ := DataW.trod_int Tryz.underlying3 g3
      simp only [List.cons.injEq, and_true] at hx hy
      rw [hx] at g0
      rw [hy] at g1
      rw [add_plain] at g0 g1
      rw [hx, hy]
      exact ⟨g0, by rw [Nat.add_assoc]; exact g1⟩
end Go.Proofs.YtcdilamkkodjjaaGreatDoor
