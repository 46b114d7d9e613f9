/- The long form of durations. -/
import Derived.Test.YthcddmjgehcgaaaV
namespace Go.Proofs.Ythcddmjgehcgaaa
open Go.RowKit Go.BigFrame

set_option maxHeartbeats 2000000 in
set_option maxRecDepth 100000 in
theorem long_form : FormOk 57 Rd.longF := by
  intro B s w h hs
  have hsz := h.size
  have hR0 := h.boxed (.cells (rdVals B) 83)
  have hK0 := (Kp.refl B w).alloc (.cells (rdVals B) 83)
  have hX := isBox_new w B 83
  have HX := Lib.hid hX
  have k0 := hX.num
  unfold numF at k0
  clear hX
  have hnum := Lib.hid (fun w (h : IsRd w B s 0 true) => number_any 3 1 999 w h (by omega) (by omega))
  have hv := Rd.numLoop_val s 3 1 999 true 3 0 0 0 (by omega) (by omega)
  rw [show Rd.numLoop s 3 1 999 true 3 0 0 0 = Rd.numAt s 3 1 999 true 0 from rfl] at hv
  generalize hh : Rd.numAt s 3 1 999 true 0 = h1 at hnum hv
  have hex := Lib.hid (fun w (h : IsRd w B s h1.2.2 (Rd.numOk 1 true h1)) => exact_any Rd.colon w h (by omega) (by decide))
  generalize hc : Rd.exactAt s Rd.colon h1.2.2 (Rd.numOk 1 true h1) = c at hex
  have hpr := Lib.hid (fun w (h : IsRd w B s c.1 c.2) => pair_any 59 w h (by omega))
  have hy := Rd.pairAt_val s (most := 59) c.1 c.2 (by omega)
  generalize hm : Rd.pairAt s 59 c.1 c.2 = m at hpr hy
  have hex2 := Lib.hid (fun w (h : IsRd w B s m.2.1 m.2.2) => exact_any Rd.colon w h (by omega) (by decide))
  generalize hd : Rd.exactAt s Rd.colon m.2.1 m.2.2 = d at hex2
  have hpr2 := Lib.hid (fun w (h : IsRd w B s d.1 d.2) => pair_any 59 w h (by omega))
  have hx := Rd.pairAt_val s (most := 59) d.1 d.2 (by omega)
  generalize hxx : Rd.pairAt s 59 d.1 d.2 = x at hpr2 hx
  have hF : Rd.longF s = (3600 * h1.1 + 60 * m.1 + x.1, x.2.1, x.2.2) := by unfold Rd.longF; simp only [hh, hc, hm, hd, hxx]
  rw [hF]
  have v0 := hv.1
  have v1 : h1.1 ≤ 999 := by omega
  have y0 := hy.1
  have y1 := hy.2
  have x0 := hx.1
  have x1 := hx.2
  clear hF hh hc hm hd hxx hv hx hy
  generalize hn1 : h1.1 = hv at *
  generalize hn2 : x.1 = xv at *
  generalize hn3 : m.1 = mv at *
  have hK0' := Lib.hid hK0
  have hR0' := Lib.hid hR0
  clear hK0 hR0 h hn1 hn2 hn3
  go_enter Try.func57, Try.ntmps57
  go_wp2_with fail
  refine (hnum.out _ hR0'.out).mono ?_
  rintro e w1 ⟨rfl, hR1, hK1⟩
  have HX1 := Lib.hid (HX.out.kp hK1 (by omega))
  have k3 := HX1.out.exact_
  unfold exactF at k3
  have HR1 := Lib.hid hR1
  have HK1 := Lib.hid (hK0'.out.trans hK1)
  clear hR1 hK1 k0 HX
  go_wp2_with fail
  refine (hex.out _ HR1.out).mono ?_
  rintro e w2 ⟨rfl, hR2, hK2⟩
  have HX2 := Lib.hid (HX1.out.kp hK2 (by omega))
  have k2 := HX2.out.pair
  unfold pairF at k2
  have HR2 := Lib.hid hR2
  have HK2 := Lib.hid (HK1.out.trans hK2)
  clear hR2 hK2 k3 HX1
  go_wp2_with fail
  refine (hpr.out _ HR2.out).mono ?_
  rintro e w3 ⟨rfl, hR3, hK3⟩
  have HX3 := Lib.hid (HX2.out.kp hK3 (by omega))
  have k3 := HX3.out.exact_
  unfold exactF at k3
  have HR3 := Lib.hid hR3
  have HK3 := Lib.hid (HK2.out.trans hK3)
  clear hR3 hK3 k2 HX2
  go_wp2_with fail
  refine (hex2.out _ HR3.out).mono ?_
  rintro e w4 ⟨rfl, hR4, hK4⟩
  have HX4 := Lib.hid (HX3.out.kp hK4 (by omega))
  have k2 := HX4.out.pair
  unfold pairF at k2
  have HR4 := Lib.hid hR4
  have HK4 := Lib.hid (HK3.out.trans hK4)
  clear hR4 hK4 k3 HX3
  go_wp2_with fail
  refine (hpr2.out _ HR4.out).mono ?_
  rintro e w5 ⟨rfl, hR5, hK5⟩
  have HR5 := Lib.hid hR5
  have HK5 := Lib.hid (HK4.out.trans hK5)
  clear hR5 hK5 k2
  go_wp2
  go_ret
  exact ⟨rfl, HR5.out, HK5.out⟩
end Go.Proofs.Ythcddmjgehcgaaa
