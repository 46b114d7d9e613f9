/- The law QuantZonesMatchSpec: its walk. -/
import Derived.Test.YthcddmjgehcgaaaJ10
import Derived.Deep.RegionHeld3
namespace Go.Proofs.Ythcddmjgehcgaaa
open Go.RowKit Go.BigFrame

theorem equal_ints {w : World} {v v' : Value} {L : List Int} (hl : L.length ≤ 1000) (h : IntsAt w v L) (h' : IntsAt w v' L) :
    Calls Try.prog 24 #[v, v'] w fun e w' => e = .returned (.bool true) ∧ Below w.heap.size w w' := by
  obtain ⟨a, c, rfl, hc, hx⟩ := h
  obtain ⟨a', c', rfl, hc', hx'⟩ := h'
  by_cases h0 : 0 < L.length
  · obtain ⟨b, rfl, _, hx⟩ := hx h0
    obtain ⟨b', rfl, _, hx'⟩ := hx' h0
    refine (Try.slices_Equal_int b 0 L.length c b' 0 L.length c' L L w (Nat.le_refl _) (Nat.le_refl _) (by omega) (by omega) (fun j hj => by rw [Nat.zero_add]; exact hx j hj) (fun j hj => by rw [Nat.zero_add]; exact hx' j hj)).mono ?_
    rintro e w1 ⟨rfl, q, rfl⟩
    exact ⟨ret_bool (by simp), below_drewN (Below.refl _ _) q⟩
  · have h1 : L.length = 0 := by omega
    rw [h1]
    refine (Try.slices_Equal_int_empty a a' c 0 c' w (by omega)).mono ?_
    rintro e w1 ⟨rfl, rfl⟩
    exact ⟨ret_bool (by simp), Below.refl _ _⟩
theorem momList_le (first : Int) (F O : Nat → Int) (len : Nat) (day second : Int) : (momList first F O len day second).length ≤ 1000 := by
  unfold momList
  split
  · rename_i h
    have h1 : chk first F O len = 0 := by
      unfold momErr at h
      split at h
      · assumption
      · exact h
    have := Lib.compact_length_le ((gathL first F O len day second (len + 1)).mergeSort fun x y => decide (x ≤ y))
    rw [List.length_mergeSort] at this
    have := gathL_le first F O len day second (len + 1)
    have := (chk_zero h1).1
    omega
  · simp
theorem keepZ {w7 W Wn : World} {Z : Nat} {x y : Option Value} (hZ : Z < w7.heap.size) (h : W.cell? ⟨Z, 0, none⟩ = x ∧ W.cell? ⟨Z, 1, none⟩ = y ∧ Below w7.heap.size w7 W) (hb : Below W.heap.size W Wn) :
    Wn.cell? ⟨Z, 0, none⟩ = x ∧ Wn.cell? ⟨Z, 1, none⟩ = y ∧ Below w7.heap.size w7 Wn := by
  have hs := h.2.2.size
  exact ⟨(hb.cell (p := ⟨Z, 0, none⟩) (Nat.lt_of_lt_of_le hZ hs)).trans h.1, (hb.cell (p := ⟨Z, 1, none⟩) (Nat.lt_of_lt_of_le hZ hs)).trans h.2.1, h.2.2.trans (hb.mono hs)⟩

set_option maxHeartbeats 4000000 in
set_option maxRecDepth 100000 in
theorem zones_any (first moment day second : Int) (a : Option Addr) (len cap : Nat) (F O : Nat → Int) (w : World) (hr : Rows2 w a len F O) :
    Calls Try.prog 8 #[.agg #[.int .i64 first, .slice a len cap], .int .i64 moment, .int .i64 day, .int .i64 second] w (Whole w) := by
  have HT := Lib.hid (fun W => told_any W)
  have d1 := Lib.hid (fun W (h : Below w.heap.size w W) => zoffset_any first moment a len cap F O W (hr.below h (Nat.le_refl _)))
  have d2 := Lib.hid (fun W (h : Below w.heap.size w W) => rzoffset_any first moment a len cap F O W (hr.below h (Nat.le_refl _)))
  have d3 := Lib.hid (fun W (h : Below w.heap.size w W) => local_any first moment a len cap F O W (hr.below h (Nat.le_refl _)))
  have d4 := Lib.hid (fun W (h : Below w.heap.size w W) => rlocal_any first moment a len cap F O W (hr.below h (Nat.le_refl _)))
  have d5 := Lib.hid (fun W (h : Below w.heap.size w W) => moments_any first day second a len cap F O W (hr.below h (Nat.le_refl _)))
  have d6 := Lib.hid (fun W (h : Below w.heap.size w W) => rmoments_any first day second a len cap F O W (hr.below h (Nat.le_refl _)))
  have d7 := Lib.hid (fun W (h : Below w.heap.size w W) => checkZone_any first a len cap F O W (hr.below h (Nat.le_refl _)))
  have d8 := Lib.hid (fun W (h : Below w.heap.size w W) => rcheckZone_any first a len cap F O W (hr.below h (Nat.le_refl _)))
  have hL := momList_le first F O len day second
  generalize momList first F O len day second = L at d5 d6 hL
  generalize momErr first F O len day second = er at d5 d6
  generalize chk first F O len = ck at d7 d8
  generalize offsetR first F O len moment = p1 at d1 d2
  generalize localR first F O len moment = p2 at d3 d4
  obtain ⟨x1, x2⟩ := p1
  obtain ⟨y1, y2, y3⟩ := p2
  unfold scRet at d1 d2
  unfold tri at d3 d4
  have HL := Lib.hid hL
  clear hr hL
  have hw1 : Below w.heap.size w (w.alloc (.cells #[.int .i64 first, .slice a len cap] 40)) := (Below.refl _ _).alloc (Nat.le_refl _) _
  have hc0 : (w.alloc (.cells #[.int .i64 first, .slice a len cap] 40)).cell? ⟨w.heap.size, 0, none⟩ = some (.int .i64 first) := by rw [World.cell?_alloc_at _ _ _ _ rfl]; rfl
  have hc1 : (w.alloc (.cells #[.int .i64 first, .slice a len cap] 40)).cell? ⟨w.heap.size, 1, none⟩ = some (.slice a len cap) := by rw [World.cell?_alloc_at _ _ _ _ rfl]; rfl
  have hz0 : w.heap.size < (w.alloc (.cells #[.int .i64 first, .slice a len cap] 40)).heap.size := by simp
  go_enter Try.func8, Try.ntmps8
  go_wp2_with fail
  generalize (w.alloc (.cells #[.int .i64 first, .slice a len cap] 40)) = w1 at hw1 hc0 hc1 hz0 ⊢
  have K1 := Lib.hid hw1
  clear hw1
  refine (d1.out _ K1.out).mono ?_
  rintro e w2 ⟨rfl, hb⟩
  have hc0 := (hb.cell (p := ⟨w.heap.size, 0, none⟩) hz0).trans hc0
  have hc1 := (hb.cell (p := ⟨w.heap.size, 1, none⟩) hz0).trans hc1
  have K2 := Lib.hid (K1.out.trans (hb.mono K1.out.size))
  have hz0 := Nat.lt_of_lt_of_le hz0 hb.size
  clear hb
  go_wp2_with fail
  refine (d2.out _ K2.out).mono ?_
  rintro e w3 ⟨rfl, hb⟩
  have hc0 := (hb.cell (p := ⟨w.heap.size, 0, none⟩) hz0).trans hc0
  have hc1 := (hb.cell (p := ⟨w.heap.size, 1, none⟩) hz0).trans hc1
  have K3 := Lib.hid (K2.out.trans (hb.mono K2.out.size))
  have hz0 := Nat.lt_of_lt_of_le hz0 hb.size
  clear hb
  go_wp2_with fail
  refine (d3.out _ K3.out).mono ?_
  rintro e w4 ⟨rfl, hb⟩
  have hc0 := (hb.cell (p := ⟨w.heap.size, 0, none⟩) hz0).trans hc0
  have hc1 := (hb.cell (p := ⟨w.heap.size, 1, none⟩) hz0).trans hc1
  have K4 := Lib.hid (K3.out.trans (hb.mono K3.out.size))
  have hz0 := Nat.lt_of_lt_of_le hz0 hb.size
  clear hb
  go_wp2_with fail
  refine (d4.out _ K4.out).mono ?_
  rintro e w5 ⟨rfl, hb⟩
  have hc0 := (hb.cell (p := ⟨w.heap.size, 0, none⟩) hz0).trans hc0
  have hc1 := (hb.cell (p := ⟨w.heap.size, 1, none⟩) hz0).trans hc1
  have K5 := Lib.hid (K4.out.trans (hb.mono K4.out.size))
  have hz0 := Nat.lt_of_lt_of_le hz0 hb.size
  clear hb
  go_wp2_with fail
  refine (d5.out _ K5.out).mono ?_
  rintro e w6 ⟨⟨v, rfl, hi⟩, hb⟩
  have hc0 := (hb.cell (p := ⟨w.heap.size, 0, none⟩) hz0).trans hc0
  have hc1 := (hb.cell (p := ⟨w.heap.size, 1, none⟩) hz0).trans hc1
  have K6 := Lib.hid (K5.out.trans (hb.mono K5.out.size))
  have hz0 := Nat.lt_of_lt_of_le hz0 hb.size
  have I6 := Lib.hid hi
  clear hb hi
  go_wp2_with fail
  refine (d6.out _ K6.out).mono ?_
  rintro e w7 ⟨⟨v', rfl, hi⟩, hb⟩
  have hc0 := (hb.cell (p := ⟨w.heap.size, 0, none⟩) hz0).trans hc0
  have hc1 := (hb.cell (p := ⟨w.heap.size, 1, none⟩) hz0).trans hc1
  have K7 := Lib.hid (K6.out.trans (hb.mono K6.out.size))
  have hz0 := Nat.lt_of_lt_of_le hz0 hb.size
  have I7 := Lib.hid hi
  have I8 := Lib.hid (I6.out.below hb (Nat.le_refl _))
  have hbr : Below w7.heap.size w7 w7.drew := (Below.refl _ _).drew
  have D7 := Lib.hid (fun W (h : Below w7.heap.size w7 W) => d7.out W (K7.out.trans (h.mono K7.out.size)))
  have D8 := Lib.hid (fun W (h : Below w7.heap.size w7 W) => d8.out W (K7.out.trans (h.mono K7.out.size)))
  have DE := Lib.hid (fun W (h : Below w7.heap.size w7 W) => equal_ints (w := W) HL.out (I8.out.below h (Nat.le_refl _)) (I7.out.below h (Nat.le_refl _)))
  have DT := Lib.hid (fun W (_ : Below w7.heap.size w7 W) => HT.out W)
  clear hb hi d1 d2 d3 d4 d5 d6 d7 d8 HT K1 K2 K3 K4 K5 K6
  have hc0 : w7.cell? ⟨w.heap.size, 0, none⟩ = some (.int .i64 first) := by assumption
  have hc1 : w7.cell? ⟨w.heap.size, 1, none⟩ = some (.slice a len cap) := by assumption
  have HZ := Lib.hid hz0
  go_wp2_with fail
  go_region_held3 (fun w' => w'.cell? ⟨w.heap.size, 0, none⟩ = some (.int .i64 first) ∧ w'.cell? ⟨w.heap.size, 1, none⟩ = some (.slice a len cap) ∧ Below w7.heap.size w7 w')
    (first
      | go_keep
      | exact keepZ HZ.out (by assumption) (by assumption)
      | (go_split_ands; exact keepZ HZ.out ⟨by assumption, by assumption, by assumption⟩ (by assumption)))
    (first
      | (go_at_call 31; go_split_ands; refine (D7.out _ (by assumption)).mono ?_; rintro e wn ⟨rfl, hbn⟩)
      | (go_at_call 32; go_split_ands; refine (D8.out _ (by assumption)).mono ?_; rintro e wn ⟨rfl, hbn⟩)
      | (go_at_call 24; go_split_ands; refine (DE.out _ (by assumption)).mono ?_; rintro e wn ⟨rfl, hbn⟩)
      | (go_at_call 9; go_split_ands; refine (DT.out _ (by assumption)).mono ?_; rintro e wn ⟨rfl, hbn⟩))
  go_wp2
  go_ret
  go_split_ands
  exact ⟨rfl, K7.out.trans (Below.mono (by assumption) K7.out.size)⟩
end Go.Proofs.Ythcddmjgehcgaaa
