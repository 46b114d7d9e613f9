/- The law QuantShareMatchesSpec: its walk. -/
import Derived.Test.YthcddmjgehcgaaaPf
import Derived.Test.YthcddmjgehcgaaaL1
namespace Go.Proofs.Ythcddmjgehcgaaa
open Go.RowKit Go.BigFrame
open Shr (sumF quo rst)

theorem equal_rows {w : World} {g g' n : Nat} {f : Nat → Int} (hn : n ≤ 1000000) (h : RowF w g n f) (h' : RowF w g' n f) :
    Calls Try.prog 24 #[.slice (some ⟨g, 0, none⟩) n n, .slice (some ⟨g', 0, none⟩) n n] w fun e w' => e = .returned (.bool true) ∧ Below w.heap.size w w' := by
  have hc : ∀ {g : Nat}, RowF w g n f → ∀ j, j < ((List.range n).map f).length → w.cell? ⟨g, 0 + j, none⟩ = some (.int .i64 (((List.range n).map f).getD j 0)) := fun {g} h j hj => by
    simp only [List.length_map, List.length_range] at hj
    rw [Nat.zero_add, h.cell hj, List.getD_eq_getElem?_getD, List.getElem?_map, List.getElem?_range hj]
    rfl
  refine (Try.slices_Equal_int g 0 n n g' 0 n n ((List.range n).map f) ((List.range n).map f) w (by simp) (by simp) (by omega) (by omega) (hc h) (hc h')).mono ?_
  rintro e w1 ⟨rfl, q, rfl⟩
  exact ⟨ret_bool (by simp), below_drewN (Below.refl _ _) q⟩

set_option maxHeartbeats 1000000 in
set_option maxRecDepth 100000 in
theorem shares_any (T : Int) (a : Option Addr) (n cap : Nat) (W : Nat → Int) (w : World) (hr : Row1 w a n W) :
    Calls Try.prog 7 #[.int .i64 T, .slice a n cap] w (Whole w) := by
  have HT := Lib.hid (fun W => told_any W)
  have HR := Lib.hid hr
  have d1 := Lib.hid (share_any T a n cap W w hr)
  have d2 := Lib.hid (fun W0 (h : Below w.heap.size w W0) => rshare_any T a n cap W W0 (hr.below h (Nat.le_refl _)))
  clear hr
  by_cases h0 : shareErr T W n = 0
  · have H0 := Lib.hid h0
    have hn : n ≤ 1000000 := by have := (share_fine h0).n1; omega
    clear h0
    go_enter Try.func7, Try.ntmps7
    go_wp2_with fail
    refine d1.out.mono ?_
    rintro e w1 ⟨hs, _, hb1⟩
    obtain ⟨l, g, ho, rfl, hrow, hg⟩ := hs H0.out
    have HB1 := Lib.hid hb1
    have HO := Lib.hid ho
    have HROW := Lib.hid hrow
    clear hs ho hrow hg hb1
    go_wp2_with fail
    refine (d2.out _ HB1.out).mono ?_
    rintro e w2 ⟨hs, _, hb2⟩
    obtain ⟨l2, g2, ho, rfl, hrow, hg⟩ := hs H0.out
    obtain rfl := HO.out.unique ho
    have R1 := Lib.hid (HROW.out.kept (below_grown hb2) (by simp))
    have R2 := Lib.hid hrow
    have HB2 := Lib.hid (HB1.out.trans (hb2.mono HB1.out.size))
    clear hs ho hrow hg hb2
    go_wp2_with fail
    refine (equal_rows hn R1.out R2.out).mono ?_
    rintro e w3 ⟨rfl, hb3⟩
    have HB3 := Lib.hid (HB2.out.trans (hb3.mono HB2.out.size))
    clear hb3
    go_wp2_with fail
    refine (HT.out _).mono ?_
    rintro e w4 ⟨rfl, hb4⟩
    have HB4 := Lib.hid (HB3.out.trans (hb4.mono HB3.out.size))
    clear hb4
    go_wp2_with fail
    go_ret
    exact ⟨rfl, HB4.out⟩
  · have H0 := Lib.hid h0
    clear h0
    go_enter Try.func7, Try.ntmps7
    go_wp2_with fail
    refine d1.out.mono ?_
    rintro e w1 ⟨_, hs, hb1⟩
    obtain rfl := hs H0.out
    have HB1 := Lib.hid hb1
    clear hs hb1
    go_wp2_with fail
    refine (d2.out _ HB1.out).mono ?_
    rintro e w2 ⟨_, hs, hb2⟩
    obtain rfl := hs H0.out
    have HB2 := Lib.hid (HB1.out.trans (hb2.mono HB1.out.size))
    clear hs hb2 d1 d2 H0
    generalize shareErr T W n = er
    go_wp2_with fail
    refine (Try.slices_Equal_int_empty none none 0 0 0 w2 (by omega)).mono ?_
    rintro e w3 ⟨rfl, rfl⟩
    go_wp2_with fail
    refine (HT.out _).mono ?_
    rintro e w4 ⟨rfl, hb4⟩
    have HB4 := Lib.hid (HB2.out.trans (hb4.mono HB2.out.size))
    clear hb4
    go_wp2_with fail
    go_ret
    exact ⟨rfl, HB4.out⟩
end Go.Proofs.Ythcddmjgehcgaaa
