/- Durations with letters. -/
import Derived.Test.YthcddmjgehcgaaaW
import Derived.Test.YthcddmjgehcgaaaX
import Derived.Test.YthcddmjgehcgaaaRl
namespace Go.Proofs.Ythcddmjgehcgaaa
open Go.RowKit Go.BigFrame

def strLen : Value → Nat | .string t => t.size | _ => 0
theorem lets_size {m : Nat} (h : m ≤ 3) : (Rd.lets m).size = m := by
  rcases (show m = 0 ∨ m = 1 ∨ m = 2 ∨ m = 3 by omega) with rfl | rfl | rfl | rfl <;> rfl
theorem sum_bound {v u : Int} (h0 : 0 ≤ v) (h1 : v ≤ 9999999) (hu : u = 3600 ∨ u = 60 ∨ u = 1) : 0 ≤ v * u ∧ v * u ≤ 36000000000 := by
  rcases hu with rfl | rfl | rfl <;> omega

set_option maxHeartbeats 4000000 in
set_option maxRecDepth 100000 in
theorem lettered_form : FormOk 59 Rd.letteredF := by
  intro B s w h hs
  have hsz := h.size
  have hb0 := ((Below.refl w.heap.size w).alloc (Nat.le_refl _) (.cells (rdVals B) 83)).alloc (by simp) (.cells #[.int .i64 3600, .int .i64 60, .int .i64 1] 3)
  have hR0 := Lib.hid (h.kept hb0)
  have hK0 := Lib.hid (Kp.of_below (B := B) hb0)
  have hX0 := Lib.hid ((isBox_new w B 83).kp (Kp.of_below (B := B) ((Below.refl _ _).alloc (Nat.le_refl _) (.cells #[.int .i64 3600, .int .i64 60, .int .i64 1] 3))) (by omega))
  obtain ⟨z, hz⟩ : ∃ z, z = Rd.letteredF s := ⟨_, rfl⟩
  rw [← hz]
  have Hz := Lib.hid (hz.symm : Rd.lettLoop s 3 3 0 0 true = z)
  clear h hb0 hz
  go_enter Try.func59, Try.ntmps59
  go_wp2_with fail
  go_loopw [3, 5] (fun sv lv wr => ∃ (sum : Int) (m f p : Nat) (ok : Bool), sv = .int .i64 sum ∧ lv = .string (Rd.lets m) ∧ m ≤ 3 ∧ m ≤ f ∧ 0 ≤ sum ∧ sum ≤ 36000000000 * (3 - m) ∧ IsRd wr B s p ok ∧ IsBox wr w.heap.size B ∧ Kp B w wr ∧
      wr.cell? ⟨w.heap.size + 1, 0, none⟩ = some (.int .i64 3600) ∧ wr.cell? ⟨w.heap.size + 1, 1, none⟩ = some (.int .i64 60) ∧ wr.cell? ⟨w.heap.size + 1, 2, none⟩ = some (.int .i64 1) ∧ Rd.lettLoop s f m sum p ok = z) (fun _ lv _ => strLen lv)
  case atStart =>
    exact ⟨0, 3, 3, 0, true, rfl, rfl, by omega, by omega, by omega, by omega, hR0.out, hX0.out, hK0.out, by rw [World.cell?_alloc_at _ _ _ _ (by simp)]; rfl, by rw [World.cell?_alloc_at _ _ _ _ (by simp)]; rfl, by rw [World.cell?_alloc_at _ _ _ _ (by simp)]; rfl, Hz.out⟩
  case round =>
    obtain ⟨sum, m, f, p, ok, rfl, rfl, hm, hf, hs0, hs1, hR, hX, hK, u0, u1, u2, hL⟩ := hrel
    have HR := Lib.hid hR
    have HX := Lib.hid hX
    have HK := Lib.hid hK
    have HL := Lib.hid hL
    have k0 := hX.num
    unfold numF at k0
    clear hR hX hK hL Hz hR0 hX0 hK0
    by_cases hm0 : m = 0
    · subst hm0
      have hL := HL.out
      rw [Rd.lettLoop_end] at hL
      subst hL
      unfold Rd.lets
      clear HL
      go_wp2
      go_ret
      exact ⟨rfl, HR.out, HK.out⟩
    · have hne : (!(Rd.lets m).toList.isEmpty) = true := by
        rcases (show m = 1 ∨ m = 2 ∨ m = 3 by omega) with rfl | rfl | rfl <;> kernel_rfl
      have hne2 : (Rd.lets m).toList.isEmpty = false := by simpa using hne
      obtain ⟨f, rfl⟩ : ∃ g, f = g + 1 := ⟨f - 1, by omega⟩
      have hlm := lets_size hm
      have hnum := Lib.hid (number_any 7 0 9999999 wr HR.out (by omega) (by omega))
      have hv := Rd.numAt_val s 7 0 9999999 ok p (by omega)
      generalize hx : Rd.numAt s 7 0 9999999 ok p = x at hnum hv
      have hone := Lib.hid (fun w (h : IsRd w B s x.2.2 (Rd.numOk 0 ok x)) => one_any (Rd.lets m) w h (by omega))
      have hk := Rd.oneAt_lt s (Rd.lets m) x.2.2 (Rd.numOk 0 ok x)
      rw [hlm] at hk
      generalize hkk : Rd.oneAt s (Rd.lets m) x.2.2 (Rd.numOk 0 ok x) = k at hone hk
      have Hx := Lib.hid hx
      have Hk := Lib.hid hkk
      have v0 := hv.1
      have v1 := hv.2
      generalize hxv : x.1 = xv at v0 v1 hnum
      have Hxv := Lib.hid hxv
      generalize hkv : k.1 = kv at hk hone
      have Hkv := Lib.hid hkv
      clear hx hkk hv hlm hxv hkv
      go_wp2_with fail
      refine hnum.out.mono ?_
      rintro e w1 ⟨rfl, hR1, hK1⟩
      have HX1 := Lib.hid (HX.out.kp hK1 (by omega))
      have k4 := HX1.out.one
      unfold oneF at k4
      have HR1 := Lib.hid hR1
      have HK1 := Lib.hid (HK.out.trans hK1)
      have U0 := IsRd.of_kp hK1 u0 (by omega) (by omega)
      have U1 := IsRd.of_kp hK1 u1 (by omega) (by omega)
      have U2 := IsRd.of_kp hK1 u2 (by omega) (by omega)
      clear hR1 hK1 k0 HX u0 u1 u2 hnum
      go_wp2_with fail
      refine (hone.out _ HR1.out).mono ?_
      rintro e w2 ⟨rfl, hR2, hK2⟩
      have HX2 := Lib.hid (HX1.out.kp hK2 (by omega))
      have k7 := HX2.out.dig
      unfold digF' at k7
      have HR2 := Lib.hid hR2
      have HK2 := Lib.hid (HK1.out.trans hK2)
      have u0 := IsRd.of_kp hK2 U0 (by omega) (by omega)
      have u1 := IsRd.of_kp hK2 U1 (by omega) (by omega)
      have u2 := IsRd.of_kp hK2 U2 (by omega) (by omega)
      clear hR2 hK2 k4 HX1 U0 U1 U2 hone HR1 HK1 HR HK
      by_cases hkn : kv < 0
      · have t1 : decide (kv < 0) = true := by simpa using hkn
        have hL := HL.out
        rw [Rd.lettLoop_none hm0 Hx.out Hk.out (by rw [Hkv.out]; exact hkn)] at hL
        subst hL
        clear hk hkn HL
        go_wp2
        go_ret
        exact ⟨rfl, HR2.out, HK2.out⟩
      · have t1 : decide (kv < 0) = false := by simpa using hkn
        obtain ⟨kn, rfl⟩ := Int.eq_ofNat_of_zero_le (show 0 ≤ kv by omega)
        have hkm : kn < m := by omega
        have hdig := Lib.hid (digit_any w2 HR2.out)
        have h6 : (m = 1 ∧ kn = 0) ∨ (m = 2 ∧ kn = 0) ∨ (m = 2 ∧ kn = 1) ∨ (m = 3 ∧ kn = 0) ∨ (m = 3 ∧ kn = 1) ∨ (m = 3 ∧ kn = 2) := by omega
        cases hdg : Rd.digAt s k.2.1 k.2.2
        · have hL := HL.out
          rw [Rd.lettLoop_last hm0 Hx.out Hk.out (by rw [Hkv.out]; exact hkn) hdg, Hkv.out, Hxv.out] at hL
          rw [hdg] at hdig
          have HL2 := Lib.hid hL
          clear hL HL hdg hk hkn hkm
          rcases h6 with ⟨rfl, rfl⟩ | ⟨rfl, rfl⟩ | ⟨rfl, rfl⟩ | ⟨rfl, rfl⟩ | ⟨rfl, rfl⟩ | ⟨rfl, rfl⟩
          · have hb := sum_bound v0 v1 (u := 1) (by omega)
            clear hm0 hne hne2
            unfold Rd.lets
            go_wp2_with fail
            refine hdig.out.mono ?_
            rintro e w3 ⟨rfl, rfl⟩
            go_wp2
            go_ret
            rw [← HL2.out]
            refine ⟨ret_int ?_, HR2.out, HK2.out⟩
            show _ = sum + xv * 1
            omega
          · have hb := sum_bound v0 v1 (u := 60) (by omega)
            clear hm0 hne hne2
            unfold Rd.lets
            go_wp2_with fail
            refine hdig.out.mono ?_
            rintro e w3 ⟨rfl, rfl⟩
            go_wp2
            go_ret
            rw [← HL2.out]
            refine ⟨ret_int ?_, HR2.out, HK2.out⟩
            show _ = sum + xv * 60
            omega
          · have hb := sum_bound v0 v1 (u := 1) (by omega)
            clear hm0 hne hne2
            unfold Rd.lets
            go_wp2_with fail
            refine hdig.out.mono ?_
            rintro e w3 ⟨rfl, rfl⟩
            go_wp2
            go_ret
            rw [← HL2.out]
            refine ⟨ret_int ?_, HR2.out, HK2.out⟩
            show _ = sum + xv * 1
            omega
          · have hb := sum_bound v0 v1 (u := 3600) (by omega)
            clear hm0 hne hne2
            unfold Rd.lets
            go_wp2_with fail
            refine hdig.out.mono ?_
            rintro e w3 ⟨rfl, rfl⟩
            go_wp2
            go_ret
            rw [← HL2.out]
            refine ⟨ret_int ?_, HR2.out, HK2.out⟩
            show _ = sum + xv * 3600
            omega
          · have hb := sum_bound v0 v1 (u := 60) (by omega)
            clear hm0 hne hne2
            unfold Rd.lets
            go_wp2_with fail
            refine hdig.out.mono ?_
            rintro e w3 ⟨rfl, rfl⟩
            go_wp2
            go_ret
            rw [← HL2.out]
            refine ⟨ret_int ?_, HR2.out, HK2.out⟩
            show _ = sum + xv * 60
            omega
          · have hb := sum_bound v0 v1 (u := 1) (by omega)
            clear hm0 hne hne2
            unfold Rd.lets
            go_wp2_with fail
            refine hdig.out.mono ?_
            rintro e w3 ⟨rfl, rfl⟩
            go_wp2
            go_ret
            rw [← HL2.out]
            refine ⟨ret_int ?_, HR2.out, HK2.out⟩
            show _ = sum + xv * 1
            omega
        · have hL := HL.out
          rw [Rd.lettLoop_next hm0 Hx.out Hk.out (by rw [Hkv.out]; exact hkn) hdg, Hkv.out, Hxv.out] at hL
          rw [hdg] at hdig
          have HL2 := Lib.hid hL
          clear hL HL hdg hk hkn hkm
          rcases h6 with ⟨rfl, rfl⟩ | ⟨rfl, rfl⟩ | ⟨rfl, rfl⟩ | ⟨rfl, rfl⟩ | ⟨rfl, rfl⟩ | ⟨rfl, rfl⟩
          · have hb := sum_bound v0 v1 (u := 1) (by omega)
            clear hm0 hne hne2
            unfold Rd.lets
            go_wp2_with fail
            refine hdig.out.mono ?_
            rintro e w3 ⟨rfl, rfl⟩
            go_wp2
            go_roundw
            case rel =>
              refine ⟨sum + xv * 1, 0, f, k.2.1, k.2.2, ?_, ?_, by omega, by omega, by omega, by omega, HR2.out, HX2.out, HK2.out, u0, u1, u2, HL2.out⟩
              · exact congrArg (Value.int .i64) (by omega)
              · first | rfl | kernel_rfl
            case measure => first | (simp [strLen]; done) | decide | (show (_ : Nat) < _; kernel_rfl)
          · have hb := sum_bound v0 v1 (u := 60) (by omega)
            clear hm0 hne hne2
            unfold Rd.lets
            go_wp2_with fail
            refine hdig.out.mono ?_
            rintro e w3 ⟨rfl, rfl⟩
            go_wp2
            go_roundw
            case rel =>
              refine ⟨sum + xv * 60, 1, f, k.2.1, k.2.2, ?_, ?_, by omega, by omega, by omega, by omega, HR2.out, HX2.out, HK2.out, u0, u1, u2, HL2.out⟩
              · exact congrArg (Value.int .i64) (by omega)
              · first | rfl | kernel_rfl
            case measure => first | (simp [strLen]; done) | decide | (show (_ : Nat) < _; kernel_rfl)
          · have hb := sum_bound v0 v1 (u := 1) (by omega)
            clear hm0 hne hne2
            unfold Rd.lets
            go_wp2_with fail
            refine hdig.out.mono ?_
            rintro e w3 ⟨rfl, rfl⟩
            go_wp2
            go_roundw
            case rel =>
              refine ⟨sum + xv * 1, 0, f, k.2.1, k.2.2, ?_, ?_, by omega, by omega, by omega, by omega, HR2.out, HX2.out, HK2.out, u0, u1, u2, HL2.out⟩
              · exact congrArg (Value.int .i64) (by omega)
              · first | rfl | kernel_rfl
            case measure => first | (simp [strLen]; done) | decide | (show (_ : Nat) < _; kernel_rfl)
          · have hb := sum_bound v0 v1 (u := 3600) (by omega)
            clear hm0 hne hne2
            unfold Rd.lets
            go_wp2_with fail
            refine hdig.out.mono ?_
            rintro e w3 ⟨rfl, rfl⟩
            go_wp2
            go_roundw
            case rel =>
              refine ⟨sum + xv * 3600, 2, f, k.2.1, k.2.2, ?_, ?_, by omega, by omega, by omega, by omega, HR2.out, HX2.out, HK2.out, u0, u1, u2, HL2.out⟩
              · exact congrArg (Value.int .i64) (by omega)
              · first | rfl | kernel_rfl
            case measure => first | (simp [strLen]; done) | decide | (show (_ : Nat) < _; kernel_rfl)
          · have hb := sum_bound v0 v1 (u := 60) (by omega)
            clear hm0 hne hne2
            unfold Rd.lets
            go_wp2_with fail
            refine hdig.out.mono ?_
            rintro e w3 ⟨rfl, rfl⟩
            go_wp2
            go_roundw
            case rel =>
              refine ⟨sum + xv * 60, 1, f, k.2.1, k.2.2, ?_, ?_, by omega, by omega, by omega, by omega, HR2.out, HX2.out, HK2.out, u0, u1, u2, HL2.out⟩
              · exact congrArg (Value.int .i64) (by omega)
              · first | rfl | kernel_rfl
            case measure => first | (simp [strLen]; done) | decide | (show (_ : Nat) < _; kernel_rfl)
          · have hb := sum_bound v0 v1 (u := 1) (by omega)
            clear hm0 hne hne2
            unfold Rd.lets
            go_wp2_with fail
            refine hdig.out.mono ?_
            rintro e w3 ⟨rfl, rfl⟩
            go_wp2
            go_roundw
            case rel =>
              refine ⟨sum + xv * 1, 0, f, k.2.1, k.2.2, ?_, ?_, by omega, by omega, by omega, by omega, HR2.out, HX2.out, HK2.out, u0, u1, u2, HL2.out⟩
              · exact congrArg (Value.int .i64) (by omega)
              · first | rfl | kernel_rfl
            case measure => first | (simp [strLen]; done) | decide | (show (_ : Nat) < _; kernel_rfl)
end Go.Proofs.Ythcddmjgehcgaaa
