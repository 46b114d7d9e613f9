/- Zones: Moments of the reference: its walk. -/
import Derived.Test.YthcddmjgehcgaaaJ9
import Derived.BigRegion
namespace Go.Proofs.Ythcddmjgehcgaaa
open Go.RowKit Go.BigFrame

theorem own_below {w w' : World} {base n size : Nat} {v : Value} {e : TypeId} {xs : List Value} (h : w.ownsRow base e size v n xs) (hb : Below w.heap.size w w') : w'.ownsRow base e size v n xs :=
  h.kept (row := none) ⟨hb.os, hb.tape, hb.output, hb.size, fun k hk _ => hb.block k hk⟩ (by cases v.ownBlock <;> simp)
/-- a slice of the call's own: its value and what it reads as -/
theorem own_slice {w : World} {base : Nat} {v : Value} {L : List Int} {e : TypeId} (h : w.ownsRow base e 1 v L.length (L.map (.int .i64))) :
    ∃ a c, v = .slice a L.length c ∧ (0 < L.length → ∃ g, a = some ⟨g, 0, none⟩ ∧ base ≤ g ∧ g < w.heap.size) ∧ c ≤ maxLen := by
  rcases h.2 with ⟨h0, h1⟩ | ⟨g, cap, cur, hv, hb, hg, hn, hm, hs, ht⟩
  · exact ⟨none, 0, by rw [h0, h1], fun hl => by omega, by unfold maxLen; omega⟩
  · exact ⟨_, _, hv, fun _ => ⟨g, rfl, hb, lt_of_block hg⟩, hm⟩

theorem row_cell {w : World} {base g cap n : Nat} {e : TypeId} {M : List Int} (h : w.ownsRow base e 1 (.slice (some ⟨g, 0, none⟩) n cap) n (M.map (.int .i64))) (hn : M.length = n) (j : Nat) (hj : j < n) :
    w.cell? ⟨g, j, none⟩ = some (.int .i64 (M.getD j 0)) ∧ w.frozen? ⟨g, j, none⟩ = false := by
  refine ⟨?_, h.frozenAt j⟩
  rw [h.cellAt j (by omega), List.getElem?_map, List.getD_eq_getElem?_getD, List.getElem?_eq_getElem (by omega : j < M.length)]
  rfl

set_option maxHeartbeats 4000000 in
set_option maxRecDepth 100000 in
theorem rmoments_any (first day second : Int) (a : Option Addr) (len cap : Nat) (F O : Nat → Int) (w : World) (hr : Rows2 w a len F O) :
    Calls Try.prog 30 #[.agg #[.int .i64 first, .slice a len cap], .int .i64 day, .int .i64 second] w fun e w' =>
      (∃ v, e = .returned (.tuple #[v, .int .i64 (momErr first F O len day second)]) ∧ IntsAt w' v (momList first F O len day second)) ∧ Below w.heap.size w w' := by
  obtain ⟨i0, hi0, hz0, hz1, hz2⟩ := info_parts int_info
  have HR := Lib.hid hr
  have hw1 : Below w.heap.size w (w.alloc (.cells #[.int .i64 first, .slice a len cap] 40)) := (Below.refl _ _).alloc (Nat.le_refl _) _
  have HR1 := hr.below hw1 (Nat.le_refl _)
  have hc := Lib.hid (rcheckZone_any first a len cap F O _ HR1)
  have HW1 := Lib.hid hw1
  clear hr HR1 hw1
  have hd := outside_any day 0 999999
  have hse := outside_any second 0 86399
  by_cases h0 : chk first F O len = 0
  · rw [h0] at hc
    by_cases h1 : dayB day = true ∧ 0 ≤ second ∧ second ≤ 86399
    · have he : momErr first F O len day second = 0 := by unfold momErr; rw [if_pos h0, if_pos h1]
      have hq := Lib.hid (fun Q => momList_eq (Q := Q) he)
      rw [he]
      obtain ⟨hdd, s0, s1⟩ := h1
      obtain ⟨d0, d1⟩ := dayB_true hdd
      obtain ⟨hlen, hof, hch⟩ := chk_zero h0
      obtain ⟨of0, of1⟩ := outB_false hof
      have hl : (len : Int) ≤ 200 := by omega
      have Hch := Lib.hid hch
      rw [show (decide (day < 0) || decide (999999 < day)) = false by simp; omega] at hd
      rw [show (decide (second < 0) || decide (86399 < second)) = false by simp; omega] at hse
      have hd := Lib.hid hd
      have hse := Lib.hid hse
      have H0 := Lib.hid h0
      clear h0 he hdd hof hch
      go_enter Try.func30, Try.ntmps30
      go_wp2_with fail
      refine hc.out.mono ?_
      rintro e w1 ⟨rfl, hb1⟩
      have HB1 := Lib.hid (HW1.out.trans (hb1.mono (by simp)))
      have hs1 : w.heap.size < w1.heap.size := by have := hb1.size; simp at this; omega
      have cZ : ∀ i, w1.cell? ⟨w.heap.size, i, none⟩ = (#[.int .i64 first, .slice a len cap] : Array Value)[i]? := by
        intro i
        rw [hb1.cell (p := ⟨w.heap.size, i, none⟩) (by simp)]
        rw [World.cell?_alloc_at _ _ _ _ rfl]
      have cZ0 : w1.cell? ⟨w.heap.size, 0, none⟩ = some (.int .i64 first) := cZ 0
      have cZ1 : w1.cell? ⟨w.heap.size, 1, none⟩ = some (.slice a len cap) := cZ 1
      clear hb1 cZ
      go_wp2_with fail
      refine (hd.out _).mono ?_
      rintro e w2 ⟨rfl, rfl⟩
      go_wp2_with fail
      refine (hse.out _).mono ?_
      rintro e w2 ⟨rfl, rfl⟩
      go_wp2_with fail
      go_loopw [9, 10] (fun lv kv wr => ∃ (q : Int) (k : Nat), kv = .int .i64 q ∧ q + 1 = (k : Int) ∧ q ≤ (len : Int) ∧ Hid (wr.ownsRow w1.heap.size 3 1 lv (dedL first F O len day second k).length ((dedL first F O len day second k).map (.int .i64))) ∧ Hid (Below w1.heap.size w1 wr)) (fun _ kv _ => len + 1 - (intOf kv + 1).toNat)
      case atStart => exact ⟨-1, 0, rfl, rfl, by omega, Lib.hid (World.ownsRow_nil _ _ _ _), Lib.hid (Below.refl _ _)⟩
      case round =>
        obtain ⟨q, k, rfl, hqk, hq2, HO, HBr⟩ := hrel
        have hsr := HBr.out.size
        have cZ0r := (HBr.out.cell (p := ⟨w.heap.size, 0, none⟩) hs1).trans cZ0
        have cZ1r := (HBr.out.cell (p := ⟨w.heap.size, 1, none⟩) hs1).trans cZ1
        by_cases hlt : q < (len : Int)
        · have t1 : decide (q < (len : Int)) = true := by simpa using hlt
          by_cases hq0 : q < 0
          · have t2 : decide (0 ≤ q) = false := by simpa using hq0
            obtain rfl : k = 0 := by omega
            have Ho := Lib.hid (show candO first O 0 = first from rfl)
            have HOFF := Lib.hid (fun W (hW : Below w.heap.size w W) => rzoffset_any first (momOf day second first) a len cap F O W (HR.out.below hW (Nat.le_refl _)))
            cases hmB : momB (momOf day second first)
            · have hv : offsetR first F O len (momOf day second first) = (0, 9) := by unfold offsetR; rw [if_pos H0.out, if_neg (by simp [hmB])]
              have hng : momGood first F O len day second (candO first O 0) = false := by unfold momGood; rw [Ho.out, hmB]; rfl
              have hD : dedL first F O len day second (0 + 1) = dedL first F O len day second 0 := by rw [dedL_succ, if_neg (fun h => by rw [hng] at h; exact absurd h.1 (by simp))]
              have HD := Lib.hid hD
              rw [hv] at HOFF
              unfold scRet at HOFF
              clear hmB hv hng hD
              go_wp2_with fail
              refine (HOFF.out _ (HB1.out.trans (HBr.out.mono (by omega)))).mono ?_
              rintro e w2 ⟨rfl, hb2⟩
              have hs2 := hb2.size
              have HB2 := Lib.hid (HBr.out.trans (hb2.mono hsr))
              have O2 := Lib.hid (own_below HO.out hb2)
              clear hb2
              go_wp2_with fail
              go_roundw
              case rel => exact ⟨_, 1, rfl, by omega, by omega, by rw [HD.out]; exact O2, HB2⟩
              case measure => simp [intOf]; omega
            · have hv : offsetR first F O len (momOf day second first) = (offF first (momOf day second first) F O len, 0) := by unfold offsetR; rw [if_pos H0.out, if_pos hmB]
              rw [hv] at HOFF
              unfold scRet at HOFF
              have hg : momGood first F O len day second (candO first O 0) = (offF first (momOf day second first) F O len == first) := by unfold momGood; rw [Ho.out, hmB]; rfl
              obtain ⟨at', hat⟩ : ∃ at', offF first (momOf day second first) F O len = at' := ⟨_, rfl⟩
              rw [hat] at HOFF hg
              clear hmB hv hat
              cases hae : (at' == first)
              · have hae' : (at' != first) = true := by simp only [bne, hae]; rfl
                have hD : dedL first F O len day second (0 + 1) = dedL first F O len day second 0 := by rw [dedL_succ, if_neg (fun h => by rw [hg, hae] at h; exact absurd h.1 (by simp))]
                have HD := Lib.hid hD
                clear hg hD
                go_wp2_with fail
                refine (HOFF.out _ (HB1.out.trans (HBr.out.mono (by omega)))).mono ?_
                rintro e w2 ⟨rfl, hb2⟩
                have hs2 := hb2.size
                have HB2 := Lib.hid (HBr.out.trans (hb2.mono hsr))
                have O2 := Lib.hid (own_below HO.out hb2)
                clear hb2
                go_wp2_with fail
                go_roundw
                case rel => exact ⟨_, 1, rfl, by omega, by omega, by rw [HD.out]; exact O2, HB2⟩
                case measure => simp [intOf]; omega
              · have hae' : (at' != first) = false := by simp only [bne, hae]; rfl
                have hgt : momGood first F O len day second (candO first O 0) = true := by rw [hg, hae]
                have HD := Lib.hid (show dedL first F O len day second (0 + 1) = if momOf day second first ∈ dedL first F O len day second 0 then dedL first F O len day second 0 else dedL first F O len day second 0 ++ [momOf day second first] by
                  rw [dedL_succ, Ho.out]
                  by_cases hin : momOf day second first ∈ dedL first F O len day second 0
                  · rw [if_neg (fun h => h.2 hin), if_pos hin]
                  · rw [if_pos ⟨by rw [← Ho.out]; exact hgt, hin⟩, if_neg hin])
                have em : day * 86400 + second - 60 * (first) = momOf day second first := rfl
                have hDk := dedL_le first F O len day second 0
                generalize dedL first F O len day second 0 = L at HO HD hDk
                clear hg hgt
                obtain ⟨aL, cL, rfl, hfm, hcm⟩ := own_slice HO.out
                unfold maxLen at hcm
                have Hfm := Lib.hid hfm
                clear hfm
                go_wp2_with fail
                refine (HOFF.out _ (HB1.out.trans (HBr.out.mono (by omega)))).mono ?_
                rintro e w2 ⟨rfl, hb2⟩
                have hs2 := hb2.size
                have HB2 := Lib.hid (HBr.out.trans (hb2.mono hsr))
                have O2 := Lib.hid (own_below HO.out hb2)
                clear hb2
                go_wp2_with fail
                generalize momOf day second first = M at HD em ⊢
                go_loop [15, 70] (fun nv jv => ∃ (j : Nat) (nb : Bool), nv = .bool nb ∧ jv = .int .i64 j ∧ j ≤ L.length ∧ Hid (nb = decide (M ∈ L.take j))) (fun _ jv => L.length - (intOf jv).toNat)
                case atStart => exact ⟨0, false, rfl, rfl, by omega, Lib.hid (by simp)⟩
                case round =>
                  obtain ⟨j, nb, rfl, rfl, hj, HN⟩ := hrel
                  by_cases hjl : j < L.length
                  · have t3 : decide ((j : Int) < (L.length : Int)) = true := by rw [decide_eq_true_eq]; omega
                    obtain ⟨g, rfl, hg1, hg2⟩ := Hfm.out (by omega)
                    have cj : w2.cell? ⟨g, j, none⟩ = some (.int .i64 L[j]) := by rw [O2.out.cellAt j (by omega)]; simp [hjl]
                    have HT := Lib.hid (List.take_succ_eq_append_getElem hjl)
                    generalize L[j] = x at cj HT
                    cases nb
                    · go_wp2_with fail
                      go_round
                      case rel => exact ⟨j + 1, _, rfl, by go_num, by omega, Lib.hid (by
                        rw [HT.out]
                        have := HN.out
                        rw [Bool.eq_iff_iff]
                        simp only [beq_iff_eq, decide_eq_true_eq, List.mem_append, List.mem_singleton]
                        have h2 : M ∉ L.take j := by simpa using this.symm
                        constructor
                        · intro h; exact Or.inr h.symm
                        · rintro (h | h)
                          · exact absurd h h2
                          · exact h.symm)⟩
                      case measure => simp [intOf]; omega
                    · go_wp2_with fail
                      go_round
                      case rel => exact ⟨j + 1, true, rfl, by go_num, by omega, Lib.hid (by
                        rw [HT.out]
                        have := HN.out
                        have h2 : M ∈ L.take j := by simpa using this.symm
                        symm
                        rw [decide_eq_true_eq]
                        exact List.mem_append_left _ h2)⟩
                      case measure => simp [intOf]; omega
                  · have t3 : decide ((j : Int) < (L.length : Int)) = false := by rw [decide_eq_false_iff_not]; omega
                    have t3' : decide (j < L.length) = false := by simpa using hjl
                    have hN := HN.out
                    rw [List.take_of_length_le (by omega)] at hN
                    cases nb
                    · have HD2 : dedL first F O len day second (0 + 1) = L ++ [M] := by rw [HD.out, if_neg (by simpa using hN.symm)]
                      have HD3 := Lib.hid HD2
                      have O2' := O2.out
                      clear hN HD2 hjl
                      go_wp2_with (first
                        | (at_builtin; go_loud (
                           refine wpList_append_own _ rfl _ _ 33 rfl w1.heap.size 3 i0 (.int .i64 0) 1 8 Try.underlying33 hi0 hz0 hz1 hz2 rfl (by decide) (.slice aL L.length cL) L.length (L.map (.int .i64)) rfl (O2'.alloc _) ⟨w2.heap.size, 0, none⟩ 1 1 [.int .i64 M] rfl rfl (fun j u hj => by match j, hj with | 0, hj => (simp at hj; subst hj; simp [Addr.add])) (fun u hu => by simp at hu; subst hu; rfl) (by unfold maxLen; omega) (by omega) (by simp; omega) ?_
                           intro v' w3 hown' hgrow _
                           have HW3 := Lib.hid hown'
                           have HG3 := Lib.hid hgrow
                           clear hown' hgrow))
                        | fail)
                      go_roundw
                      case rel => exact ⟨_, 1, rfl, by omega, by omega, by rw [HD3.out]; exact Lib.hid (by simpa using HW3.out), Lib.hid ((HB2.out.alloc (by omega) _).grown HG3.out (by simp; omega) (fun k hk => by have := O2.out.lt k hk; omega))⟩
                      case measure => simp [intOf]; omega
                    · have HD2 : dedL first F O len day second (0 + 1) = L := by rw [HD.out, if_pos (by simpa using hN.symm)]
                      have HD3 := Lib.hid HD2
                      clear hN HD2 hjl
                      go_wp2_with fail
                      go_roundw
                      case rel => exact ⟨_, 1, rfl, by omega, by omega, by rw [HD3.out]; exact O2, HB2⟩
                      case measure => simp [intOf]; omega
          · have t2 : decide (0 ≤ q) = true := by rw [decide_eq_true_eq]; omega
            obtain ⟨kq, rfl⟩ : ∃ kq : Nat, q = kq := ⟨q.toNat, by omega⟩
            obtain rfl : k = kq + 1 := by omega
            clear hqk
            have Ho := Lib.hid (show candO first O (kq + 1) = O kq from rfl)
            have hRr := HR.out.below (HB1.out.trans (HBr.out.mono (by omega))) (Nat.le_refl _)
            obtain ⟨b, off, rfl, hbl, hcc⟩ := hRr.here (by omega)
            obtain ⟨_, c1⟩ := hcc kq (by omega)
            obtain ⟨o0, o1⟩ := outB_false (Hch.out kq (by omega)).2.1
            clear hcc hRr
            have HOFF := Lib.hid (fun W (hW : Below w.heap.size w W) => rzoffset_any first (momOf day second (O kq)) (some ⟨b, off, none⟩) len cap F O W (HR.out.below hW (Nat.le_refl _)))
            cases hmB : momB (momOf day second (O kq))
            · have hv : offsetR first F O len (momOf day second (O kq)) = (0, 9) := by unfold offsetR; rw [if_pos H0.out, if_neg (by simp [hmB])]
              have hng : momGood first F O len day second (candO first O (kq + 1)) = false := by unfold momGood; rw [Ho.out, hmB]; rfl
              have hD : dedL first F O len day second (kq + 1 + 1) = dedL first F O len day second (kq + 1) := by rw [dedL_succ, if_neg (fun h => by rw [hng] at h; exact absurd h.1 (by simp))]
              have HD := Lib.hid hD
              rw [hv] at HOFF
              unfold scRet at HOFF
              clear hmB hv hng hD
              go_wp2_with fail
              refine (HOFF.out _ (HB1.out.trans (HBr.out.mono (by omega)))).mono ?_
              rintro e w2 ⟨rfl, hb2⟩
              have hs2 := hb2.size
              have HB2 := Lib.hid (HBr.out.trans (hb2.mono hsr))
              have O2 := Lib.hid (own_below HO.out hb2)
              clear hb2
              go_wp2_with fail
              go_roundw
              case rel => exact ⟨_, kq + 1 + 1, rfl, by omega, by omega, by rw [HD.out]; exact O2, HB2⟩
              case measure => simp [intOf]; omega
            · have hv : offsetR first F O len (momOf day second (O kq)) = (offF first (momOf day second (O kq)) F O len, 0) := by unfold offsetR; rw [if_pos H0.out, if_pos hmB]
              rw [hv] at HOFF
              unfold scRet at HOFF
              have hg : momGood first F O len day second (candO first O (kq + 1)) = (offF first (momOf day second (O kq)) F O len == (O kq)) := by unfold momGood; rw [Ho.out, hmB]; rfl
              obtain ⟨at', hat⟩ : ∃ at', offF first (momOf day second (O kq)) F O len = at' := ⟨_, rfl⟩
              rw [hat] at HOFF hg
              clear hmB hv hat
              cases hae : (at' == (O kq))
              · have hae' : (at' != (O kq)) = true := by simp only [bne, hae]; rfl
                have hD : dedL first F O len day second (kq + 1 + 1) = dedL first F O len day second (kq + 1) := by rw [dedL_succ, if_neg (fun h => by rw [hg, hae] at h; exact absurd h.1 (by simp))]
                have HD := Lib.hid hD
                clear hg hD
                go_wp2_with fail
                refine (HOFF.out _ (HB1.out.trans (HBr.out.mono (by omega)))).mono ?_
                rintro e w2 ⟨rfl, hb2⟩
                have hs2 := hb2.size
                have HB2 := Lib.hid (HBr.out.trans (hb2.mono hsr))
                have O2 := Lib.hid (own_below HO.out hb2)
                clear hb2
                go_wp2_with fail
                go_roundw
                case rel => exact ⟨_, kq + 1 + 1, rfl, by omega, by omega, by rw [HD.out]; exact O2, HB2⟩
                case measure => simp [intOf]; omega
              · have hae' : (at' != (O kq)) = false := by simp only [bne, hae]; rfl
                have hgt : momGood first F O len day second (candO first O (kq + 1)) = true := by rw [hg, hae]
                have HD := Lib.hid (show dedL first F O len day second (kq + 1 + 1) = if momOf day second (O kq) ∈ dedL first F O len day second (kq + 1) then dedL first F O len day second (kq + 1) else dedL first F O len day second (kq + 1) ++ [momOf day second (O kq)] by
                  rw [dedL_succ, Ho.out]
                  by_cases hin : momOf day second (O kq) ∈ dedL first F O len day second (kq + 1)
                  · rw [if_neg (fun h => h.2 hin), if_pos hin]
                  · rw [if_pos ⟨by rw [← Ho.out]; exact hgt, hin⟩, if_neg hin])
                have em : day * 86400 + second - 60 * (O kq) = momOf day second (O kq) := rfl
                have hDk := dedL_le first F O len day second (kq + 1)
                generalize dedL first F O len day second (kq + 1) = L at HO HD hDk
                clear hg hgt
                obtain ⟨aL, cL, rfl, hfm, hcm⟩ := own_slice HO.out
                unfold maxLen at hcm
                have Hfm := Lib.hid hfm
                clear hfm
                go_wp2_with fail
                refine (HOFF.out _ (HB1.out.trans (HBr.out.mono (by omega)))).mono ?_
                rintro e w2 ⟨rfl, hb2⟩
                have hs2 := hb2.size
                have HB2 := Lib.hid (HBr.out.trans (hb2.mono hsr))
                have O2 := Lib.hid (own_below HO.out hb2)
                clear hb2
                go_wp2_with fail
                generalize momOf day second (O kq) = M at HD em ⊢
                go_loop [15, 70] (fun nv jv => ∃ (j : Nat) (nb : Bool), nv = .bool nb ∧ jv = .int .i64 j ∧ j ≤ L.length ∧ Hid (nb = decide (M ∈ L.take j))) (fun _ jv => L.length - (intOf jv).toNat)
                case atStart => exact ⟨0, false, rfl, rfl, by omega, Lib.hid (by simp)⟩
                case round =>
                  obtain ⟨j, nb, rfl, rfl, hj, HN⟩ := hrel
                  by_cases hjl : j < L.length
                  · have t3 : decide ((j : Int) < (L.length : Int)) = true := by rw [decide_eq_true_eq]; omega
                    obtain ⟨g, rfl, hg1, hg2⟩ := Hfm.out (by omega)
                    have cj : w2.cell? ⟨g, j, none⟩ = some (.int .i64 L[j]) := by rw [O2.out.cellAt j (by omega)]; simp [hjl]
                    have HT := Lib.hid (List.take_succ_eq_append_getElem hjl)
                    generalize L[j] = x at cj HT
                    cases nb
                    · go_wp2_with fail
                      go_round
                      case rel => exact ⟨j + 1, _, rfl, by go_num, by omega, Lib.hid (by
                        rw [HT.out]
                        have := HN.out
                        rw [Bool.eq_iff_iff]
                        simp only [beq_iff_eq, decide_eq_true_eq, List.mem_append, List.mem_singleton]
                        have h2 : M ∉ L.take j := by simpa using this.symm
                        constructor
                        · intro h; exact Or.inr h.symm
                        · rintro (h | h)
                          · exact absurd h h2
                          · exact h.symm)⟩
                      case measure => simp [intOf]; omega
                    · go_wp2_with fail
                      go_round
                      case rel => exact ⟨j + 1, true, rfl, by go_num, by omega, Lib.hid (by
                        rw [HT.out]
                        have := HN.out
                        have h2 : M ∈ L.take j := by simpa using this.symm
                        symm
                        rw [decide_eq_true_eq]
                        exact List.mem_append_left _ h2)⟩
                      case measure => simp [intOf]; omega
                  · have t3 : decide ((j : Int) < (L.length : Int)) = false := by rw [decide_eq_false_iff_not]; omega
                    have t3' : decide (j < L.length) = false := by simpa using hjl
                    have hN := HN.out
                    rw [List.take_of_length_le (by omega)] at hN
                    cases nb
                    · have HD2 : dedL first F O len day second (kq + 1 + 1) = L ++ [M] := by rw [HD.out, if_neg (by simpa using hN.symm)]
                      have HD3 := Lib.hid HD2
                      have O2' := O2.out
                      clear hN HD2 hjl
                      go_wp2_with (first
                        | (at_builtin; go_loud (
                           refine wpList_append_own _ rfl _ _ 33 rfl w1.heap.size 3 i0 (.int .i64 0) 1 8 Try.underlying33 hi0 hz0 hz1 hz2 rfl (by decide) (.slice aL L.length cL) L.length (L.map (.int .i64)) rfl (O2'.alloc _) ⟨w2.heap.size, 0, none⟩ 1 1 [.int .i64 M] rfl rfl (fun j u hj => by match j, hj with | 0, hj => (simp at hj; subst hj; simp [Addr.add])) (fun u hu => by simp at hu; subst hu; rfl) (by unfold maxLen; omega) (by omega) (by simp; omega) ?_
                           intro v' w3 hown' hgrow _
                           have HW3 := Lib.hid hown'
                           have HG3 := Lib.hid hgrow
                           clear hown' hgrow))
                        | fail)
                      go_roundw
                      case rel => exact ⟨_, kq + 1 + 1, rfl, by omega, by omega, by rw [HD3.out]; exact Lib.hid (by simpa using HW3.out), Lib.hid ((HB2.out.alloc (by omega) _).grown HG3.out (by simp; omega) (fun k hk => by have := O2.out.lt k hk; omega))⟩
                      case measure => simp [intOf]; omega
                    · have HD2 : dedL first F O len day second (kq + 1 + 1) = L := by rw [HD.out, if_pos (by simpa using hN.symm)]
                      have HD3 := Lib.hid HD2
                      clear hN HD2 hjl
                      go_wp2_with fail
                      go_roundw
                      case rel => exact ⟨_, kq + 1 + 1, rfl, by omega, by omega, by rw [HD3.out]; exact O2, HB2⟩
                      case measure => simp [intOf]; omega
        · have t1 : decide (q < (len : Int)) = false := by simpa using hlt
          obtain rfl : q = (len : Int) := by omega
          obtain rfl : k = len + 1 := by omega
          have hDk := dedL_le first F O len day second (len + 1)
          generalize dedL first F O len day second (len + 1) = L at HO hDk hq
          obtain ⟨aL, cL, rfl, hfm, hcm⟩ := own_slice HO.out
          unfold maxLen at hcm
          have Hfm := Lib.hid hfm
          clear hfm
          go_wp2_with fail
          obtain ⟨wo, rfl⟩ : ∃ wo : World, wo = wr := ⟨_, rfl⟩
          go_loopw [89] (fun iv w3 => ∃ (i : Nat) (M : List Int), iv = .int .i64 i ∧ i ≤ L.length ∧ Hid (M.length = L.length) ∧ Hid (M.Perm L) ∧ Hid (Srt (fun j => M.getD j 0) i) ∧ Hid (w3.ownsRow w1.heap.size 3 1 (.slice aL L.length cL) L.length (M.map (.int .i64))) ∧ Hid (Below w1.heap.size w1 w3)) (fun iv _ => L.length - (intOf iv).toNat)
          case atStart => exact ⟨0, L, rfl, by omega, Lib.hid rfl, Lib.hid (List.Perm.refl _), Lib.hid (fun a b h1 h2 => by omega), HO, HBr⟩
          case round =>
            obtain ⟨i, M, rfl, hi, HML, HMP, HS, HM, HB3⟩ := hrel
            by_cases hil : i < L.length
            · have t3 : decide ((i : Int) < (L.length : Int)) = true := by rw [decide_eq_true_eq]; omega
              obtain ⟨g, rfl, hg1, hg2⟩ := Hfm.out (by omega)
              go_wp2_with fail
              obtain ⟨wp, rfl⟩ : ∃ wp : World, wp = wr := ⟨_, rfl⟩
              go_loopw [19] (fun kv w4 => ∃ (k2 : Nat) (M2 : List Int), kv = .int .i64 k2 ∧ k2 ≤ i ∧ Hid (M2.length = L.length) ∧ Hid (M2.Perm L) ∧ Hid (Ins (fun j => M2.getD j 0) i k2) ∧ Hid (w4.ownsRow w1.heap.size 3 1 (.slice (some ⟨g, 0, none⟩) L.length cL) L.length (M2.map (.int .i64))) ∧ Hid (Below w1.heap.size w1 w4)) (fun kv _ => (intOf kv).toNat)
              case atStart => exact ⟨i, M, rfl, by omega, HML, HMP, Lib.hid (ins_start HS.out), HM, HB3⟩
              case round =>
                obtain ⟨k2, M2, rfl, hk2, HML2, HMP2, HI, HM2, HB4⟩ := hrel
                by_cases hk0 : 0 < k2
                · obtain ⟨kp, rfl⟩ : ∃ kp, k2 = kp + 1 := ⟨k2 - 1, by omega⟩
                  obtain ⟨c1, f1⟩ := row_cell HM2.out HML2.out (kp + 1) (by omega)
                  obtain ⟨c2, f2⟩ := row_cell HM2.out HML2.out kp (by omega)
                  obtain ⟨x, hx⟩ : ∃ x, M2.getD (kp + 1) 0 = x := ⟨_, rfl⟩
                  obtain ⟨y, hy⟩ : ∃ y, M2.getD kp 0 = y := ⟨_, rfl⟩
                  rw [hx] at c1
                  rw [hy] at c2
                  have HX := Lib.hid hx
                  have HY := Lib.hid hy
                  clear hx hy
                  have t4 : decide ((0 : Int) < (kp : Int) + 1) = true := by rw [decide_eq_true_eq]; omega
                  have t4' : decide (0 < kp + 1) = true := by simp
                  have hidx : ((kp : Int) + 1).toNat = kp + 1 := by omega
                  by_cases hxy : x < y
                  · have t5 : decide (x < y) = true := by simpa using hxy
                    go_wp2_with fail
                    go_quiet (fail)
                    go_wp2_with fail
                    have HM5 := Lib.hid (show (wr.drewN nq).ownsRow w1.heap.size 3 1 (.slice (some ⟨g, 0, none⟩) L.length cL) L.length (M2.map (.int .i64)) from HM2.out)
                    have HB5 := Lib.hid (below_drewN HB4.out nq)
                    have c1' : (wr.drewN nq).cell? ⟨g, kp + 1, none⟩ = some (.int .i64 x) := c1
                    have c2' : (wr.drewN nq).cell? ⟨g, kp, none⟩ = some (.int .i64 y) := c2
                    have f1' : (wr.drewN nq).frozen? ⟨g, kp + 1, none⟩ = false := f1
                    have f2' : (wr.drewN nq).frozen? ⟨g, kp, none⟩ = false := f2
                    clear c1 c2 f1 f2
                    generalize wr.drewN nq = w5 at HM5 HB5 c1' c2' f1' f2' ⊢
                    go_region
                    go_wp2
                    go_roundw
                    case rel => exact ⟨kp, swp M2 (kp + 1), by first | rfl | go_num, by omega, Lib.hid (by rw [swp_length]; exact HML2.out), Lib.hid ((swp_perm (by omega) (by have := HML2.out; omega)).trans HMP2.out), Lib.hid (ins_step HI.out (by omega) hk2 (by have := HML2.out; omega) (by show M2.getD (kp + 1) 0 < M2.getD kp 0; rw [HX.out, HY.out]; exact hxy)), Lib.hid (row_swap HM5.out (kp + 1) x y HX.out HY.out).1, Lib.hid (below_drewN (HB5.out.grown (row_swap HM5.out (kp + 1) x y HX.out HY.out).2 HB5.out.size (by rintro _ ⟨rfl⟩; exact hg1)) 1)⟩
                    case measure => simp [intOf]
                  · have t5 : decide (x < y) = false := by simpa using hxy
                    have HS2 := Lib.hid (ins_end HI.out hk2 (Or.inr (by show M2.getD kp 0 ≤ M2.getD (kp + 1) 0; rw [HX.out, HY.out]; omega)))
                    go_wp2_with fail
                    go_quiet (fail)
                    go_wp2_with fail
                    go_roundw
                    case rel => exact ⟨i + 1, M2, by go_num, by omega, HML2, HMP2, HS2, Lib.hid HM2.out, Lib.hid (below_drewN HB4.out _)⟩
                    case measure => simp [intOf]; omega
                · obtain rfl : k2 = 0 := by omega
                  have HS2 := Lib.hid (ins_end HI.out hk2 (Or.inl rfl))
                  have t4 : decide ((0 : Int) < 0) = false := by simp
                  go_wp2_with fail
                  go_quiet (fail)
                  go_wp2_with fail
                  go_roundw
                  case rel => exact ⟨i + 1, M2, by go_num, by omega, HML2, HMP2, HS2, Lib.hid HM2.out, Lib.hid (below_drewN HB4.out _)⟩
                  case measure => simp [intOf]; omega
            · have t3 : decide ((i : Int) < (L.length : Int)) = false := by rw [decide_eq_false_iff_not]; omega
              have t3' : decide (i < L.length) = false := by simpa using hil
              obtain rfl : i = L.length := by omega
              have hml := HML.out
              have e := hq.out M HMP.out (srt_pairwise (by rw [hml]; exact HS.out))
              have HE := Lib.hid e
              have hi1 : IntsAt wr (.slice aL L.length cL) M := by
                have h := HM.out
                rw [← hml] at h ⊢
                exact IntsAt.of_own h
              have HI1 := Lib.hid hi1
              clear hi1 e hml hil
              go_wp2_with fail
              go_ret2
              exact ⟨⟨_, rfl, by rw [HE.out]; exact HI1.out⟩, HB1.out.trans (HB3.out.mono (by omega))⟩
    · have he : momErr first F O len day second = 9 := by unfold momErr; rw [if_pos h0, if_neg h1]
      have hl : momList first F O len day second = [] := by unfold momList; rw [he, if_neg (by decide)]
      rw [he, hl]
      cases hdd : dayB day
      · have hdo : (decide (day < 0) || decide (999999 < day)) = true := by
          simp only [dayB, Bool.and_eq_false_iff, decide_eq_false_iff_not] at hdd
          simp only [Bool.or_eq_true, decide_eq_true_eq]
          omega
        rw [hdo] at hd
        have hd := Lib.hid hd
        clear h0 h1 he hl hdd hdo hse
        go_enter Try.func30, Try.ntmps30
        go_wp2_with fail
        refine hc.out.mono ?_
        rintro e w1 ⟨rfl, hb1⟩
        have HB1 := Lib.hid (HW1.out.trans (hb1.mono (by simp)))
        clear hb1
        go_wp2_with fail
        refine (hd.out _).mono ?_
        rintro e w2 ⟨rfl, rfl⟩
        go_wp2_with fail
        go_ret2
        exact ⟨⟨_, rfl, IntsAt.nil _⟩, HB1.out⟩
      · obtain ⟨d0, d1⟩ := dayB_true hdd
        rw [show (decide (day < 0) || decide (999999 < day)) = false by simp; omega] at hd
        have hso : (decide (second < 0) || decide (86399 < second)) = true := by
          simp only [Bool.or_eq_true, decide_eq_true_eq]
          by_cases h2 : second < 0
          · exact Or.inl h2
          · exact Or.inr (Int.not_le.1 fun h3 => h1 ⟨hdd, by omega, h3⟩)
        rw [hso] at hse
        have hd := Lib.hid hd
        have hse := Lib.hid hse
        clear h0 h1 he hl hdd hso
        go_enter Try.func30, Try.ntmps30
        go_wp2_with fail
        refine hc.out.mono ?_
        rintro e w1 ⟨rfl, hb1⟩
        have HB1 := Lib.hid (HW1.out.trans (hb1.mono (by simp)))
        clear hb1
        go_wp2_with fail
        refine (hd.out _).mono ?_
        rintro e w2 ⟨rfl, rfl⟩
        go_wp2_with fail
        refine (hse.out _).mono ?_
        rintro e w2 ⟨rfl, rfl⟩
        go_wp2_with fail
        go_ret2
        exact ⟨⟨_, rfl, IntsAt.nil _⟩, HB1.out⟩
  · have he : momErr first F O len day second = chk first F O len := by unfold momErr; rw [if_neg h0]
    have hl : momList first F O len day second = [] := by unfold momList; rw [he, if_neg h0]
    rw [he, hl]
    generalize chk first F O len = z at hc h0 ⊢
    have hz' : (z != 0) = true := by simpa using h0
    clear h0 he hl hd hse
    go_enter Try.func30, Try.ntmps30
    go_wp2_with fail
    refine hc.out.mono ?_
    rintro e w1 ⟨rfl, hb1⟩
    have HB1 := Lib.hid (HW1.out.trans (hb1.mono (by simp)))
    clear hb1
    go_wp2_with fail
    go_ret2
    exact ⟨⟨_, rfl, IntsAt.nil _⟩, HB1.out⟩
end Go.Proofs.Ythcddmjgehcgaaa
