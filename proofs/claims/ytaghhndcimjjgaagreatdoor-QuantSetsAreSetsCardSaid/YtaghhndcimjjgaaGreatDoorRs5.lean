/- Several texts of this claim in one. -/
import Derived.Test.YtaghhndcimjjgaaGreatDoorRs4
import Derived.Deep.AppendLies
import Derived.Deep.RegionWith
import Derived.Laws.StructEq
/- Sets: ReadSpans of the program. (printed by wip/gen_ex.py) -/
namespace Rd
theorem exact_one1 {s : ByteArray} {c p : Nat} (hc : c < 256) (h : begAt s c p true = true) : exactAt s (byteT c) p true = (p + 1, true) := by
  obtain ⟨_, h1, h2⟩ := begAt_true h
  have hb : byte (byteT c) 0 = c := by
    rw [byte_lt (show 0 < (byteT c).size by exact Nat.zero_lt_one)]
    show (c.toUInt8).toNat = c
    simp; omega
  unfold exactAt
  rw [if_pos rfl]
  show exactLoop s (byteT c) 1 0 p = _
  rw [exactLoop, if_pos (show 0 < (byteT c).size from Nat.zero_lt_one), hb, if_pos ⟨h1, h2⟩, exactLoop]
end Rd
namespace Go.Proofs.YtaghhndcimjjgaaGreatDoor
open Go.RowKit Go.BigFrame
open Sp (chkS spl mem Norm)
open Rd (numS rd1 rdAll rdStart mostL wrongL nfL readR begAt exactAt)

def lenOfV : Value → Nat
  | .slice _ n _ => n
  | _ => 0
theorem SpOwn.len {w : World} {base : Nat} {v : Value} {l : List (Int × Int)} (h : SpOwn w base v l) : lenOfV v = l.length := by
  obtain ⟨a, c, rfl, _⟩ := h.rows
  rfl
/-- what reading spans hands back -/
def ReadRet (s : ByteArray) (w : World) (e : Ending) (w' : World) : Prop :=
  (∃ v, e = .returned (.tuple #[v, .int .i64 ((readR s).2.1 : Nat), .int .i64 (readR s).2.2]) ∧ SpOwn w' w.heap.size v (readR s).1) ∧ Below w.heap.size w w'
theorem readR_big {s : ByteArray} (h : 40000 < s.size) : readR s = ([], 0, 3) := by unfold readR; rw [if_pos h]
theorem readR_bad {s : ByteArray} (h : ¬ 40000 < s.size) (h2 : (rdStart s).2.2 = false) : readR s = ([], (rdStart s).2.1, 6) := by unfold readR; rw [if_neg h, if_pos h2]
theorem readR_most {s : ByteArray} (h : ¬ 40000 < s.size) (h2 : (rdStart s).2.2 = true) (h3 : 1000000000000 < mostL (rdStart s).1) : readR s = ([], 0, 9) := by unfold readR; rw [if_neg h, if_neg (by rw [h2]; simp), if_pos h3]
theorem readR_wrong {s : ByteArray} (h : ¬ 40000 < s.size) (h2 : (rdStart s).2.2 = true) (h3 : ¬ 1000000000000 < mostL (rdStart s).1) (h4 : wrongL (rdStart s).1 = true) : readR s = ([], 0, 10) := by unfold readR; rw [if_neg h, if_neg (by rw [h2]; simp), if_neg h3, if_pos h4]
theorem readR_ok {s : ByteArray} (h : ¬ 40000 < s.size) (h2 : (rdStart s).2.2 = true) (h3 : ¬ 1000000000000 < mostL (rdStart s).1) (h4 : wrongL (rdStart s).1 = false) : readR s = (sizedL (nfL (rdStart s).1), 0, sizedE (nfL (rdStart s).1).length) := by
  unfold readR sizedL sizedE
  rw [if_neg h, if_neg (by rw [h2]; simp), if_neg h3, if_neg (by rw [h4]; simp)]
  split <;> rfl
theorem start_vals (s : ByteArray) : ∀ x, x ∈ (rdStart s).1 → (0 ≤ x.1 ∧ x.1 ≤ 9999999999999) ∧ 0 ≤ x.2 ∧ x.2 ≤ 9999999999999 := by
  unfold rdStart
  split
  · intro x hx; cases hx
  · exact Rd.rdAll_vals s _ _ _ (fun x hx => by cases hx)
set_option maxHeartbeats 8000000 in
set_option maxRecDepth 100000 in
theorem readSpans_any (s : ByteArray) (w : World) (hs : s.size ≤ 9223372036854775807) : Calls Tryz.prog 24 #[.string s] w (ReadRet s w) := by
  unfold ReadRet
  by_cases hbig : 40000 < s.size
  case pos =>
    rw [readR_big hbig]
    have t1 : decide ((40000 : Int) < (s.size : Int)) = true := by rw [decide_eq_true_eq]; omega
    have t1' : decide (40000 < s.size) = true := by simpa using hbig
    clear hbig
    go_enter Tryz.func24, Tryz.ntmps24
    go_wp2_with fail
    go_ret3
    exact ⟨⟨_, rfl, SpOwn.nil _ _⟩, Below.refl _ _⟩
  case neg =>
  have t1 : decide ((40000 : Int) < (s.size : Int)) = false := by rw [decide_eq_false_iff_not]; omega
  have t1' : decide (40000 < s.size) = false := by simpa using hbig
  have HBIG := Lib.hid hbig
  have hs4 : s.size ≤ 40000 := by omega
  clear hbig hs
  obtain ⟨⟨RL, rp, rok⟩, hR⟩ : ∃ R, rdStart s = R := ⟨_, rfl⟩
  have HRS := Lib.hid hR
  have HVALS := Lib.hid (show ∀ x, x ∈ RL → (0 ≤ x.1 ∧ x.1 ≤ 9999999999999) ∧ 0 ≤ x.2 ∧ x.2 ≤ 9999999999999 from by have := start_vals s; rw [hR] at this; exact this)
  have hmf : ∀ fn first cap w, (Instr.makeFunc fn first cap).run Tryz.prog w = .ok (.func fn first cap) w := fun _ _ _ _ => rfl
  obtain ⟨i0, hi0, hy0, hy1, hy2⟩ := info_parts (show (Tryz.prog.info? 35).map (fun i => (i.zero, i.size, i.bytes)) = some (some (.agg #[.int .i64 0, .int .i64 0]), 2, 16) by kernel_rfl)
  have HI := Lib.hid (And.intro hi0 (And.intro hy0 (And.intro hy1 hy2)))
  have D0 := Lib.hid (readerOf_any s w)
  have DS := Lib.hid (fun (a : Option Addr) (n c : Nat) (W : World) => sized_any a n c W)
  obtain ⟨tz, htz⟩ : ∃ b, decide (s.size = 0) = b := ⟨_, rfl⟩
  have hz1 : (s.toList == []) = tz := by
    rw [← htz, ByteArray.toList_eq, Bool.eq_iff_iff, beq_iff_eq, decide_eq_true_eq]
    exact ⟨fun h => by have := congrArg List.length h; simpa using this, fun h => List.length_eq_zero_iff.1 (by simpa using h)⟩
  have HTZ := Lib.hid htz
  clear hR hi0 hy0 hy1 hy2 htz
  go_enter Tryz.func24, Tryz.ntmps24
  go_wp2_with fail
  refine D0.out.mono ?_
  rintro e w1 ⟨rfl, hrd1, hb1⟩
  obtain ⟨Bz, hBz⟩ : ∃ x, w.heap.size = x := ⟨_, rfl⟩
  rw [hBz] at hrd1 ⊢
  have HB1 := Lib.hid hb1
  have HBZ := Lib.hid hBz
  have hsz1 := hrd1.size
  have HRD1 := Lib.hid hrd1
  clear hb1 hBz hrd1 D0
  unfold rdVals digF pt
  go_upto_region 4 with fail
  obtain ⟨V1, hV1, hbV1, hsV1, hcV1⟩ := alloc_cells w1 (rdVals Bz) 66
  unfold rdVals digF pt at hV1
  rw [hV1]
  go_upto_region 5 with fail
  obtain ⟨w3, hV2, hbV2, hsV2, hcV2⟩ := alloc_block V1 #[.int .i64 0] 3
  rw [hV2]
  have hqm : V1.heap.size = w1.heap.size + 1 := hsV1
  have HRDR := Lib.hid (fun i v (h : (rdVals Bz)[i]? = some v) => (hbV2.cell (p := ⟨w1.heap.size, i, none⟩) (by show w1.heap.size < _; omega)).trans (hcV1 i v h))
  have HS0 := Lib.hid (show RdSt w3 w3 Bz V1.heap.size s 0 true 0 from ⟨(HRD1.out.kept hbV1).kept hbV2, Kept.refl _ _, hcV2, by omega⟩)
  have HB3 := Lib.hid (below_step (below_step HB1.out hbV1) hbV2)
  have hq3 : V1.heap.size < w3.heap.size := by omega
  have hr3 : w1.heap.size < w3.heap.size := by omega
  have hrq : w1.heap.size ≠ V1.heap.size := by omega
  have hrB : Bz + 6 ≤ w1.heap.size := hsz1
  obtain ⟨qr, hqr⟩ : ∃ x, w1.heap.size = x := ⟨_, rfl⟩
  rw [hqm] at HS0 hq3 hrq
  simp only [hqr] at HRDR HS0 hq3 hr3 hrq hrB ⊢
  obtain ⟨qm, hqmm⟩ : ∃ x, qr + 1 = x := ⟨_, rfl⟩
  simp only [hqmm] at HS0 hq3 hrq ⊢
  have HRD := Lib.hid (fun (W : World) (hk : Kept (fun k => k = Bz + 2 ∨ k = Bz + 3 ∨ k = qm) w3 W) => reader_cells (w := W) HRDR.out hr3 hrB hrq hk)
  clear hV1 hbV1 hsV1 hcV1 hV2 hbV2 hsV2 hcV2 HRDR HRD1 HB1 hsz1 hqr hqmm hqm
  go_wp2_with fail
  go_loopw [2, 8, 9] (fun v wv mv wr => ∃ (l : List (Int × Int)) (p f : Nat) (ok mo wb : Bool) (m : Int), wv = .bool wb ∧ mv = .bool mo ∧ p ≤ s.size ∧ l.length ≤ p + 1 ∧ (mo = true → l.length ≤ p) ∧ Hid (mo = true → ok = true ∧ s.size < p + f ∧ rdAll s f p l = (RL, rp, rok)) ∧ Hid (mo = false → RL = l ∧ rp = p ∧ rok = (ok && decide (p = s.size))) ∧ Hid (RdSt w3 wr Bz qm s p ok m) ∧ Hid (m = mostL l) ∧ Hid (wb = wrongL l) ∧ Hid (SpOwn wr w3.heap.size v l)) (fun v _ _ _ => s.size + 2 - lenOfV v)
  case atStart => exact ⟨[], 0, s.size + 1, true, !tz, false, 0, rfl, rfl, by omega, by simp, fun _ => by simp, Lib.hid (fun h => ⟨rfl, by omega, by
      have h1 : tz = false := by simpa using h
      have h2 : ¬ s.size = 0 := by have := HTZ.out; rw [h1] at this; simpa using this
      rw [← HRS.out]; unfold rdStart; rw [if_neg h2]⟩), Lib.hid (fun h => by
      have h1 : tz = true := by simpa using h
      have h2 : s.size = 0 := by have := HTZ.out; rw [h1] at this; simpa using this
      have h3 := HRS.out
      unfold rdStart at h3
      rw [if_pos h2] at h3
      simp only [Prod.mk.injEq] at h3
      obtain ⟨e1, e2, e3⟩ := h3
      exact ⟨e1.symm, e2.symm, by rw [← e3, h2]; rfl⟩), HS0, Lib.hid rfl, Lib.hid rfl, Lib.hid (SpOwn.nil _ _)⟩
  case round =>
    obtain ⟨l, p, f, ok, mo, wb, m, rfl, rfl, hp, hl, hl2, HK, HK2, HS, HM, HW, HO⟩ := hrel
    clear hz1 HTZ
    have hlen := HO.out.len
    have hss := HS.out.kept.size
    cases mo
    case false =>
      obtain ⟨hRL, hrp, hrok⟩ := HK2.out rfl
      subst hRL
      subst hrp
      have r8 := (HRD.out wr HS.out.kept).2.2.2
      unfold plcF0 pt at r8
      have hP := place_any wr HS.out.rd
      rw [← hrok] at hP
      unfold pt at hP
      have DP := Lib.hid hP
      have HBW := Lib.hid (Kept.below (B := w.heap.size) HB3.out HS.out.kept HB3.out.size (fun k hk e => by have h1 := HBZ.out; have h2 := HS.out.hq; rcases e with e | e | e <;> omega))
      clear hP hrok HK HK2 hl2
      go_wp2_with fail
      refine DP.out.mono ?_
      rintro e w5 ⟨rfl, nn, hnn⟩
      have HS5 := Lib.hid (show RdSt w3 w5 Bz qm s rp ok m by rw [hnn]; exact HS.out.below (below_drewN (Below.refl _ _) _))
      have HO5 := Lib.hid (show SpOwn w5 w3.heap.size u2 RL by rw [hnn]; exact HO.out.below (below_drewN (Below.refl _ _) _))
      have HBW5 := Lib.hid (show Below w.heap.size w w5 by rw [hnn]; exact below_drewN HBW.out _)
      have cm : w5.cell? ⟨qm, 0, none⟩ = some (.int .i64 m) := by rw [Lib.cell_of_heap HS5.out.most]; rfl
      clear hnn r8 DP HS HO HBW
      cases rok
      case false =>
        have HRR := Lib.hid (readR_bad HBIG.out (by rw [HRS.out]))
        go_wp2_with fail
        go_ret3
        rw [HRR.out, HRS.out]
        exact ⟨⟨_, rfl, SpOwn.nil _ _⟩, HBW5.out⟩
      case true =>
      by_cases hm : 1000000000000 < m
      case pos =>
        have u1 : decide ((1000000000000 : Int) < m) = true := by rw [decide_eq_true_eq]; exact hm
        have HRR := Lib.hid (readR_most HBIG.out (by rw [HRS.out]) (by rw [HRS.out]; show _ < mostL RL; rw [← HM.out]; exact hm))
        clear hm
        go_wp2_with fail
        go_ret3
        rw [HRR.out]
        exact ⟨⟨_, rfl, SpOwn.nil _ _⟩, HBW5.out⟩
      case neg =>
      have u1 : decide ((1000000000000 : Int) < m) = false := by rw [decide_eq_false_iff_not]; exact hm
      cases wb
      case true =>
        have HRR := Lib.hid (readR_wrong HBIG.out (by rw [HRS.out]) (by rw [HRS.out]; show ¬ _ < mostL RL; rw [← HM.out]; exact hm) (by rw [HRS.out]; exact HW.out.symm))
        clear hm
        go_wp2_with fail
        go_ret3
        rw [HRR.out]
        exact ⟨⟨_, rfl, SpOwn.nil _ _⟩, HBW5.out⟩
      case false =>
      have HRR := Lib.hid (readR_ok HBIG.out (by rw [HRS.out]) (by rw [HRS.out]; show ¬ _ < mostL RL; rw [← HM.out]; exact hm) (by rw [HRS.out]; exact HW.out.symm))
      obtain ⟨a5, c5, he5, _, hrow, _⟩ := HO5.out.rows
      subst he5
      have HD := Lib.hid (joined_any a5 RL.length c5 (spF RL) (spT RL) w5 hrow (by omega) (fun i hi => by
        have hx : RL[i]? = some (RL[i]) := List.getElem?_eq_getElem hi
        have hv := HVALS.out (RL[i]) (List.getElem_mem hi)
        have hw : RL[i].1 ≤ RL[i].2 := by
          rcases Int.lt_or_le (RL[i]).2 (RL[i]).1 with g | g
          · have := (Rd.wrongL_iff RL).2 ⟨_, List.getElem_mem hi, g⟩
            rw [← HW.out] at this
            cases this
          · exact g
        unfold spF spT
        rw [List.getD_eq_getElem?_getD, hx]
        simp only [Option.getD_some]
        omega))
      rw [spl_of] at HD
      clear hm hrow HBIG HVALS HS5
      go_wp2_with fail
      refine HD.out.mono ?_
      rintro e w6 ⟨⟨v6, u, rfl, ho6, hnu, hmu, hul⟩, hb6⟩
      have hu := Rd.nfL_unique HW.out.symm hnu hmu
      have HU := Lib.hid hu
      obtain ⟨a6, c6, rfl, _⟩ := ho6.rows
      have HO6 := Lib.hid (ho6.weaken HBW5.out.size)
      have HB6 := Lib.hid (below_step HBW5.out hb6)
      clear ho6 hnu hmu hul hb6 hu HD
      go_wp2_with fail
      refine (DS.out _ _ _ _).mono ?_
      rintro e _ ⟨rfl, rfl⟩
      go_wp2_with fail
      go_ret3
      rw [HRR.out, HRS.out]
      show (∃ v, _ = Ending.returned (.tuple #[v, .int .i64 ((0 : Nat) : Int), .int .i64 (sizedE (nfL RL).length)]) ∧ SpOwn _ _ v (sizedL (nfL RL))) ∧ _
      rw [← HU.out]
      exact ⟨⟨sizedV (.slice a6 u.length c6) u.length, rfl, HO6.out.sized⟩, HB6.out⟩
    case true =>
      obtain ⟨hok, hf, hrd⟩ := HK.out rfl
      subst hok
      have hl3 := hl2 rfl
      obtain ⟨f, rfl⟩ : ∃ f', f = f' + 1 := ⟨f - 1, by omega⟩
      obtain ⟨⟨xn, xk, xp⟩, hx⟩ : ∃ x, numS s p = x := ⟨_, rfl⟩
      have hxv := Rd.num_val s p
      have hxg := Rd.num_ge s p
      have hxi := Rd.num_in hp
      rw [hx] at hxv hxg hxi
      simp only at hxv hxg hxi
      obtain ⟨hx0, hx1⟩ := hxv
      have hN := fun (W : World) (h : RdSt w3 W Bz qm s p true m) (hr : W.cell? ⟨qr, 0, none⟩ = some (numF0 Bz)) => numC_any W h (by omega) hr
      rw [show Rd.numAt s 13 0 9999999999999 true p = (xn, xk, xp) from hx] at hN
      simp only at hN
      unfold pt at hN
      have DN := Lib.hid hN
      have HX1 := Lib.hid hx
      rw [rdAll] at hrd
      have HC := Lib.hid hrd
      clear hrd HK HK2 hx hl2 hN
      go_upto_region 10 with fail
      obtain ⟨V, hV, hbV, hsV, hcV⟩ := alloc_block wr #[.int .i64 0, .int .i64 0] 35
      rw [hV]
      have HX := Lib.hid (StX.new HS.out HO.out hq3 hbV hcV)
      obtain ⟨x, hxx⟩ : ∃ x, wr.heap.size = x := ⟨_, rfl⟩
      rw [hxx] at HX ⊢
      have r0 := (HRD.out V HX.out.st.kept).1
      have D1 := Lib.hid (DN.out V HX.out.st r0)
      unfold numF0 pt at r0
      clear hV hbV hsV hcV hxx HS HO hss
      go_wp2_with fail
      refine D1.out.mono ?_
      rintro e w4 ⟨rfl, hs4', hk4⟩
      have HX4 := Lib.hid (HX.out.num hk4 hs4')
      obtain ⟨c0, c1, z0, z1⟩ := HX4.out.cells
      clear hs4' hk4 D1 DN r0 HX
      go_upto_region 11 with fail
      obtain ⟨w5, hw5⟩ : ∃ W, w4.setCell ⟨x, 0, none⟩ (.int .i64 xn) = W := ⟨_, rfl⟩
      have HX5 := Lib.hid (show StX w3 w5 Bz qm s _ _ _ _ l x xn 0 by rw [← hw5]; exact HX4.out.setF xn)
      rw [hw5]
      clear hw5 c0 c1 z0 z1 HX4
      obtain ⟨c0, c1, z0, z1⟩ := HX5.out.cells
      go_upto_region 12 with fail
      obtain ⟨w6, hw6⟩ : ∃ W, w5.setCell ⟨x, 1, none⟩ (.int .i64 xn) = W := ⟨_, rfl⟩
      have HX6 := Lib.hid (show StX w3 w6 Bz qm s _ _ _ _ l x xn xn by rw [← hw6]; exact HX5.out.setT xn)
      rw [hw6]
      clear hw6 c0 c1 z0 z1 HX5
      have r6 := (HRD.out w6 HX6.out.st.kept).2.2.1
      unfold begF0 pt at r6
      obtain ⟨k1, hk1⟩ : ∃ k, Rd.numOk 0 true (xn, xk, xp) = k := ⟨_, rfl⟩
      rw [hk1] at HX6
      have hB := begins_rd 45 (by decide) w6 HX6.out.st.rd hxi
      unfold pt at hB
      cases k1
      case false =>
        rw [show begAt s 45 xp false = false from rfl] at hB
        have DB := Lib.hid hB
        have hr1 : rd1 s p = ((xn, xn), xp, false) := by unfold rd1; rw [HX1.out]; simp only; rw [hk1, if_neg (by simp)]
        have HR := Lib.hid (show RL = l ++ [(xn, xn)] ∧ rp = xp ∧ rok = (false && decide (xp = s.size)) by
          have := HC.out
          rw [hr1] at this
          simp only at this
          rw [if_neg (by simp)] at this
          simp only [Prod.mk.injEq] at this
          exact ⟨this.1.symm, this.2.1.symm, this.2.2.symm⟩)
        clear hB hr1 hk1 HX1 HC
        go_wp2_with fail
        refine DB.out.mono ?_
        rintro e _ ⟨rfl, rfl⟩
        have hcm : begAt s 44 xp false = false := rfl
        clear DB r6
        obtain ⟨c0, c1, z0, z1⟩ := HX6.out.cells
        have hoo := HX6.out.own
        obtain ⟨j1, j2, j3, j4⟩ := HI.out
        obtain ⟨dw, hdw⟩ : ∃ b, decide (xn < xn) = b := ⟨_, rfl⟩
        have HWN : Hid ((wb || dw) = wrongL (l ++ [(xn, xn)])) := Lib.hid (by rw [Rd.wrongL_snoc, ← HW.out, ← hdw])
        have HMN : Hid (max m xn = mostL (l ++ [(xn, xn)])) := Lib.hid (by rw [Rd.mostL_snoc, ← HM.out]; show max m xn = max (max m xn) xn; omega)
        have hb9 := fun (W : World) (h : RdSt w3 W Bz qm s xp false (max m xn)) => begins_rd 44 (by decide) W h.rd (by omega)
        rw [hcm] at hb9
        unfold pt at hb9
        have D9 := Lib.hid hb9
        clear hb9
        clear hcm
        cases wb
        case true =>
          go_upto_region 17 with (first
            | (at_builtin; go_loud (
               refine wpList_append_own _ rfl _ _ 22 rfl w3.heap.size 35 i0 (.agg #[.int .i64 0, .int .i64 0]) 2 16 Tryz.underlying22 j1 j2 j3 j4 rfl (by decide) u2 l.length (l.flatMap spC) rfl (hoo.alloc _) ⟨w6.heap.size, 0, none⟩ 1 1 [.int .i64 xn, .int .i64 xn] rfl rfl (fun j u hj => by rw [addr_add0]; exact cell_new j u (by simpa using hj)) (fun u hu => by simp only [List.mem_cons, List.not_mem_nil, or_false] at hu; rcases hu with rfl | rfl <;> rfl) (by unfold maxLen; omega) (by omega) (by have := HX6.out.st.kept.size; simp; omega) ?_
               intro v' w8 hown' hgrow _
               have HO8 := Lib.hid (SpOwn.snoc (l := l) (x := (xn, xn)) hown')
               have HS8 := Lib.hid ((HX6.out.st.below (below_al w6 _)).grown hgrow (fun g hg => (hoo.lt g hg).1) hq3)
               clear hown' hgrow))
            | fail)
          have r6 := (HRD.out w8 HS8.out.kept).2.2.1
          have r3 := (HRD.out w8 HS8.out.kept).2.1
          unfold begF0 pt at r6
          unfold exactF0 pt at r3
          go_wp2_with fail
          refine (D9.out w8 HS8.out).mono ?_
          rintro e _ ⟨rfl, rfl⟩
          go_wp2_with fail
          go_roundw
          case rel => exact ⟨l ++ [(xn, xn)], xp, 0, false, false, true, _, rfl, rfl, by omega, by simp; omega, (fun h => by cases h), Lib.hid (fun h => by cases h), Lib.hid (fun _ => HR.out), HS8, HMN, Lib.hid (by have := HWN.out; rw [← hdw] at this; simpa using this), HO8⟩
          case measure =>
            rw [hlen, show lenOfV _ = (l ++ [(xn, xn)]).length from HO8.out.len]
            simp; omega
        case false =>
          clear HW
          go_upto_region 17 with (first
            | (at_builtin; go_loud (
               refine wpList_append_own _ rfl _ _ 22 rfl w3.heap.size 35 i0 (.agg #[.int .i64 0, .int .i64 0]) 2 16 Tryz.underlying22 j1 j2 j3 j4 rfl (by decide) u2 l.length (l.flatMap spC) rfl (hoo.alloc _) ⟨w6.heap.size, 0, none⟩ 1 1 [.int .i64 xn, .int .i64 xn] rfl rfl (fun j u hj => by rw [addr_add0]; exact cell_new j u (by simpa using hj)) (fun u hu => by simp only [List.mem_cons, List.not_mem_nil, or_false] at hu; rcases hu with rfl | rfl <;> rfl) (by unfold maxLen; omega) (by omega) (by have := HX6.out.st.kept.size; simp; omega) ?_
               intro v' w8 hown' hgrow _
               have HO8 := Lib.hid (SpOwn.snoc (l := l) (x := (xn, xn)) hown')
               have HS8 := Lib.hid ((HX6.out.st.below (below_al w6 _)).grown hgrow (fun g hg => (hoo.lt g hg).1) hq3)
               clear hown' hgrow))
            | fail)
          have r6 := (HRD.out w8 HS8.out.kept).2.2.1
          have r3 := (HRD.out w8 HS8.out.kept).2.1
          unfold begF0 pt at r6
          unfold exactF0 pt at r3
          go_wp2_with fail
          refine (D9.out w8 HS8.out).mono ?_
          rintro e _ ⟨rfl, rfl⟩
          go_wp2_with fail
          go_roundw
          case rel => exact ⟨l ++ [(xn, xn)], xp, 0, false, false, false, _, rfl, rfl, by omega, by simp; omega, (fun h => by cases h), Lib.hid (fun h => by cases h), Lib.hid (fun _ => HR.out), HS8, HMN, Lib.hid (by have := HWN.out; rw [← hdw] at this; simpa using this), HO8⟩
          case measure =>
            rw [hlen, show lenOfV _ = (l ++ [(xn, xn)]).length from HO8.out.len]
            simp; omega
      case true =>
        obtain ⟨kb, hkb⟩ : ∃ b, begAt s 45 xp true = b := ⟨_, rfl⟩
        rw [hkb] at hB
        have DB := Lib.hid hB
        clear hB
        cases kb
        case false =>
          have hr1 : rd1 s p = ((xn, xn), xp, true) := by unfold rd1; rw [HX1.out]; simp only; rw [hk1, if_pos rfl, hkb, if_neg (by simp)]
          obtain ⟨kc, hcm⟩ : ∃ b, begAt s 44 xp true = b := ⟨_, rfl⟩
          have hc := HC.out
          rw [hr1] at hc
          simp only at hc
          rw [hcm] at hc
          clear hr1 hk1 HX1 HC hkb
          go_wp2_with fail
          refine DB.out.mono ?_
          rintro e _ ⟨rfl, rfl⟩
          clear DB r6
          cases kc
          case true =>
            rw [if_pos (by simp)] at hc
            have HR := Lib.hid hc
            have hpc := (Rd.begAt_true hcm).2.1
            clear hc
            obtain ⟨c0, c1, z0, z1⟩ := HX6.out.cells
            have hoo := HX6.out.own
            obtain ⟨j1, j2, j3, j4⟩ := HI.out
            obtain ⟨dw, hdw⟩ : ∃ b, decide (xn < xn) = b := ⟨_, rfl⟩
            have HWN : Hid ((wb || dw) = wrongL (l ++ [(xn, xn)])) := Lib.hid (by rw [Rd.wrongL_snoc, ← HW.out, ← hdw])
            have HMN : Hid (max m xn = mostL (l ++ [(xn, xn)])) := Lib.hid (by rw [Rd.mostL_snoc, ← HM.out]; show max m xn = max (max m xn) xn; omega)
            have hb9 := fun (W : World) (h : RdSt w3 W Bz qm s xp true (max m xn)) => begins_rd 44 (by decide) W h.rd (by omega)
            rw [hcm] at hb9
            unfold pt at hb9
            have D9 := Lib.hid hb9
            clear hb9
            have hb10 := fun (W : World) (h : RdSt w3 W Bz qm s xp true (max m xn)) => exact_any (Rd.byteT 44) W h.rd (by omega) (by decide)
            rw [Rd.exact_one1 (by decide) hcm] at hb10
            unfold pt at hb10
            have D10 := Lib.hid hb10
            clear hb10
            clear hcm
            cases wb
            case true =>
              go_upto_region 17 with (first
                | (at_builtin; go_loud (
                   refine wpList_append_own _ rfl _ _ 22 rfl w3.heap.size 35 i0 (.agg #[.int .i64 0, .int .i64 0]) 2 16 Tryz.underlying22 j1 j2 j3 j4 rfl (by decide) u2 l.length (l.flatMap spC) rfl (hoo.alloc _) ⟨w6.heap.size, 0, none⟩ 1 1 [.int .i64 xn, .int .i64 xn] rfl rfl (fun j u hj => by rw [addr_add0]; exact cell_new j u (by simpa using hj)) (fun u hu => by simp only [List.mem_cons, List.not_mem_nil, or_false] at hu; rcases hu with rfl | rfl <;> rfl) (by unfold maxLen; omega) (by omega) (by have := HX6.out.st.kept.size; simp; omega) ?_
                   intro v' w8 hown' hgrow _
                   have HO8 := Lib.hid (SpOwn.snoc (l := l) (x := (xn, xn)) hown')
                   have HS8 := Lib.hid ((HX6.out.st.below (below_al w6 _)).grown hgrow (fun g hg => (hoo.lt g hg).1) hq3)
                   clear hown' hgrow))
                | fail)
              have r6 := (HRD.out w8 HS8.out.kept).2.2.1
              have r3 := (HRD.out w8 HS8.out.kept).2.1
              unfold begF0 pt at r6
              unfold exactF0 pt at r3
              go_wp2_with fail
              refine (D9.out w8 HS8.out).mono ?_
              rintro e _ ⟨rfl, rfl⟩
              go_wp2_with fail
              refine (D10.out w8 HS8.out).mono ?_
              rintro e w9 ⟨rfl, hrd9, hkp9⟩
              have HS9 := Lib.hid (HS8.out.kp hkp9 hrd9)
              have HO9 := Lib.hid (show SpOwn w9 w3.heap.size _ (l ++ [(xn, xn)]) from own_same HO8.out (fun g hg hl _ => hkp9.block g hl (by have := HS8.out.hq; omega) (by have := HS8.out.hq; omega)))
              clear hrd9 hkp9
              go_wp2_with fail
              go_roundw
              case rel => exact ⟨l ++ [(xn, xn)], xp + 1, f, true, true, true, _, rfl, rfl, by omega, by simp; omega, fun _ => by simp; omega, Lib.hid (fun _ => ⟨rfl, by omega, HR.out⟩), Lib.hid (fun h => by cases h), HS9, HMN, Lib.hid (by have := HWN.out; rw [← hdw] at this; simpa using this), HO9⟩
              case measure =>
                rw [hlen, show lenOfV _ = (l ++ [(xn, xn)]).length from HO9.out.len]
                simp; omega
            case false =>
              clear HW
              go_upto_region 17 with (first
                | (at_builtin; go_loud (
                   refine wpList_append_own _ rfl _ _ 22 rfl w3.heap.size 35 i0 (.agg #[.int .i64 0, .int .i64 0]) 2 16 Tryz.underlying22 j1 j2 j3 j4 rfl (by decide) u2 l.length (l.flatMap spC) rfl (hoo.alloc _) ⟨w6.heap.size, 0, none⟩ 1 1 [.int .i64 xn, .int .i64 xn] rfl rfl (fun j u hj => by rw [addr_add0]; exact cell_new j u (by simpa using hj)) (fun u hu => by simp only [List.mem_cons, List.not_mem_nil, or_false] at hu; rcases hu with rfl | rfl <;> rfl) (by unfold maxLen; omega) (by omega) (by have := HX6.out.st.kept.size; simp; omega) ?_
                   intro v' w8 hown' hgrow _
                   have HO8 := Lib.hid (SpOwn.snoc (l := l) (x := (xn, xn)) hown')
                   have HS8 := Lib.hid ((HX6.out.st.below (below_al w6 _)).grown hgrow (fun g hg => (hoo.lt g hg).1) hq3)
                   clear hown' hgrow))
                | fail)
              have r6 := (HRD.out w8 HS8.out.kept).2.2.1
              have r3 := (HRD.out w8 HS8.out.kept).2.1
              unfold begF0 pt at r6
              unfold exactF0 pt at r3
              go_wp2_with fail
              refine (D9.out w8 HS8.out).mono ?_
              rintro e _ ⟨rfl, rfl⟩
              go_wp2_with fail
              refine (D10.out w8 HS8.out).mono ?_
              rintro e w9 ⟨rfl, hrd9, hkp9⟩
              have HS9 := Lib.hid (HS8.out.kp hkp9 hrd9)
              have HO9 := Lib.hid (show SpOwn w9 w3.heap.size _ (l ++ [(xn, xn)]) from own_same HO8.out (fun g hg hl _ => hkp9.block g hl (by have := HS8.out.hq; omega) (by have := HS8.out.hq; omega)))
              clear hrd9 hkp9
              go_wp2_with fail
              go_roundw
              case rel => exact ⟨l ++ [(xn, xn)], xp + 1, f, true, true, false, _, rfl, rfl, by omega, by simp; omega, fun _ => by simp; omega, Lib.hid (fun _ => ⟨rfl, by omega, HR.out⟩), Lib.hid (fun h => by cases h), HS9, HMN, Lib.hid (by have := HWN.out; rw [← hdw] at this; simpa using this), HO9⟩
              case measure =>
                rw [hlen, show lenOfV _ = (l ++ [(xn, xn)]).length from HO9.out.len]
                simp; omega
          case false =>
            rw [if_neg (by simp)] at hc
            simp only [Prod.mk.injEq] at hc
            have HR := Lib.hid (show RL = l ++ [(xn, xn)] ∧ rp = xp ∧ rok = (true && decide (xp = s.size)) from ⟨hc.1.symm, hc.2.1.symm, hc.2.2.symm⟩)
            clear hc
            obtain ⟨c0, c1, z0, z1⟩ := HX6.out.cells
            have hoo := HX6.out.own
            obtain ⟨j1, j2, j3, j4⟩ := HI.out
            obtain ⟨dw, hdw⟩ : ∃ b, decide (xn < xn) = b := ⟨_, rfl⟩
            have HWN : Hid ((wb || dw) = wrongL (l ++ [(xn, xn)])) := Lib.hid (by rw [Rd.wrongL_snoc, ← HW.out, ← hdw])
            have HMN : Hid (max m xn = mostL (l ++ [(xn, xn)])) := Lib.hid (by rw [Rd.mostL_snoc, ← HM.out]; show max m xn = max (max m xn) xn; omega)
            have hb9 := fun (W : World) (h : RdSt w3 W Bz qm s xp true (max m xn)) => begins_rd 44 (by decide) W h.rd (by omega)
            rw [hcm] at hb9
            unfold pt at hb9
            have D9 := Lib.hid hb9
            clear hb9
            clear hcm
            cases wb
            case true =>
              go_upto_region 17 with (first
                | (at_builtin; go_loud (
                   refine wpList_append_own _ rfl _ _ 22 rfl w3.heap.size 35 i0 (.agg #[.int .i64 0, .int .i64 0]) 2 16 Tryz.underlying22 j1 j2 j3 j4 rfl (by decide) u2 l.length (l.flatMap spC) rfl (hoo.alloc _) ⟨w6.heap.size, 0, none⟩ 1 1 [.int .i64 xn, .int .i64 xn] rfl rfl (fun j u hj => by rw [addr_add0]; exact cell_new j u (by simpa using hj)) (fun u hu => by simp only [List.mem_cons, List.not_mem_nil, or_false] at hu; rcases hu with rfl | rfl <;> rfl) (by unfold maxLen; omega) (by omega) (by have := HX6.out.st.kept.size; simp; omega) ?_
                   intro v' w8 hown' hgrow _
                   have HO8 := Lib.hid (SpOwn.snoc (l := l) (x := (xn, xn)) hown')
                   have HS8 := Lib.hid ((HX6.out.st.below (below_al w6 _)).grown hgrow (fun g hg => (hoo.lt g hg).1) hq3)
                   clear hown' hgrow))
                | fail)
              have r6 := (HRD.out w8 HS8.out.kept).2.2.1
              have r3 := (HRD.out w8 HS8.out.kept).2.1
              unfold begF0 pt at r6
              unfold exactF0 pt at r3
              go_wp2_with fail
              refine (D9.out w8 HS8.out).mono ?_
              rintro e _ ⟨rfl, rfl⟩
              go_wp2_with fail
              go_roundw
              case rel => exact ⟨l ++ [(xn, xn)], xp, 0, true, false, true, _, rfl, rfl, by omega, by simp; omega, (fun h => by cases h), Lib.hid (fun h => by cases h), Lib.hid (fun _ => HR.out), HS8, HMN, Lib.hid (by have := HWN.out; rw [← hdw] at this; simpa using this), HO8⟩
              case measure =>
                rw [hlen, show lenOfV _ = (l ++ [(xn, xn)]).length from HO8.out.len]
                simp; omega
            case false =>
              clear HW
              go_upto_region 17 with (first
                | (at_builtin; go_loud (
                   refine wpList_append_own _ rfl _ _ 22 rfl w3.heap.size 35 i0 (.agg #[.int .i64 0, .int .i64 0]) 2 16 Tryz.underlying22 j1 j2 j3 j4 rfl (by decide) u2 l.length (l.flatMap spC) rfl (hoo.alloc _) ⟨w6.heap.size, 0, none⟩ 1 1 [.int .i64 xn, .int .i64 xn] rfl rfl (fun j u hj => by rw [addr_add0]; exact cell_new j u (by simpa using hj)) (fun u hu => by simp only [List.mem_cons, List.not_mem_nil, or_false] at hu; rcases hu with rfl | rfl <;> rfl) (by unfold maxLen; omega) (by omega) (by have := HX6.out.st.kept.size; simp; omega) ?_
                   intro v' w8 hown' hgrow _
                   have HO8 := Lib.hid (SpOwn.snoc (l := l) (x := (xn, xn)) hown')
                   have HS8 := Lib.hid ((HX6.out.st.below (below_al w6 _)).grown hgrow (fun g hg => (hoo.lt g hg).1) hq3)
                   clear hown' hgrow))
                | fail)
              have r6 := (HRD.out w8 HS8.out.kept).2.2.1
              have r3 := (HRD.out w8 HS8.out.kept).2.1
              unfold begF0 pt at r6
              unfold exactF0 pt at r3
              go_wp2_with fail
              refine (D9.out w8 HS8.out).mono ?_
              rintro e _ ⟨rfl, rfl⟩
              go_wp2_with fail
              go_roundw
              case rel => exact ⟨l ++ [(xn, xn)], xp, 0, true, false, false, _, rfl, rfl, by omega, by simp; omega, (fun h => by cases h), Lib.hid (fun h => by cases h), Lib.hid (fun _ => HR.out), HS8, HMN, Lib.hid (by have := HWN.out; rw [← hdw] at this; simpa using this), HO8⟩
              case measure =>
                rw [hlen, show lenOfV _ = (l ++ [(xn, xn)]).length from HO8.out.len]
                simp; omega
        case true =>
          have hpb := (Rd.begAt_true hkb).2.1
          obtain ⟨⟨yn, yk, yp⟩, hy⟩ : ∃ x, numS s (xp + 1) = x := ⟨_, rfl⟩
          have hyv := Rd.num_val s (xp + 1)
          have hyg := Rd.num_ge s (xp + 1)
          have hyi := Rd.num_in (s := s) (p := xp + 1) (by omega)
          rw [hy] at hyv hyg hyi
          simp only at hyv hyg hyi
          obtain ⟨hy0, hy1⟩ := hyv
          obtain ⟨k2, hk2⟩ : ∃ k, Rd.numOk 0 true (yn, yk, yp) = k := ⟨_, rfl⟩
          have hr1 : rd1 s p = ((xn, yn), yp, k2) := by unfold rd1; rw [HX1.out]; simp only; rw [hk1, if_pos rfl, hkb, if_pos rfl, hy]; simp only; rw [hk2]
          have hN := fun (W : World) (h : RdSt w3 W Bz qm s (xp + 1) true (max m xn)) (hr : W.cell? ⟨qr, 0, none⟩ = some (numF0 Bz)) => numC_any W h (by omega) hr
          rw [show Rd.numAt s 13 0 9999999999999 true (xp + 1) = (yn, yk, yp) from hy] at hN
          simp only at hN
          rw [hk2] at hN
          unfold pt at hN
          have DN := Lib.hid hN
          have hE := exact_any (Rd.byteT 45) w6 HX6.out.st.rd (by omega) (by decide)
          rw [Rd.exact_one1 (by decide) hkb] at hE
          unfold pt at hE
          have DE := Lib.hid hE
          have r3 := (HRD.out w6 HX6.out.st.kept).2.1
          unfold exactF0 pt at r3
          have hc := HC.out
          rw [hr1] at hc
          simp only at hc
          have HC2 := Lib.hid hc
          clear hr1 hk1 HX1 HC hkb hy hk2 hN hE hc
          go_wp2_with fail
          refine DB.out.mono ?_
          rintro e _ ⟨rfl, rfl⟩
          clear DB r6
          go_wp2_with fail
          refine DE.out.mono ?_
          rintro e w10 ⟨rfl, hrd10, hkp10⟩
          have HX10 := Lib.hid (HX6.out.kp hkp10 hrd10)
          have r0 := (HRD.out w10 HX10.out.st.kept).1
          have D1 := Lib.hid (DN.out w10 HX10.out.st r0)
          unfold numF0 pt at r0
          clear hrd10 hkp10 HX6 DE DN r3
          go_wp2_with fail
          refine D1.out.mono ?_
          rintro e w11 ⟨rfl, hs11, hk11⟩
          have HX11 := Lib.hid (HX10.out.num hk11 hs11)
          obtain ⟨c0, c1, z0, z1⟩ := HX11.out.cells
          clear hs11 hk11 D1 r0 HX10
          go_upto_region 15 with fail
          obtain ⟨w12, hw12⟩ : ∃ W, w11.setCell ⟨x, 1, none⟩ (.int .i64 yn) = W := ⟨_, rfl⟩
          have HX12 := Lib.hid (show StX w3 w12 Bz qm s _ _ _ _ l x xn yn by rw [← hw12]; exact HX11.out.setT yn)
          rw [hw12]
          clear hw12 c0 c1 z0 z1 HX11
          cases k2
          case false =>
            have HR := Lib.hid (show RL = l ++ [(xn, yn)] ∧ rp = yp ∧ rok = (false && decide (yp = s.size)) by
              have := HC2.out
              rw [if_neg (by simp)] at this
              simp only [Prod.mk.injEq] at this
              exact ⟨this.1.symm, this.2.1.symm, this.2.2.symm⟩)
            clear HC2
            have hcm : begAt s 44 yp false = false := rfl
            obtain ⟨c0, c1, z0, z1⟩ := HX12.out.cells
            have hoo := HX12.out.own
            obtain ⟨j1, j2, j3, j4⟩ := HI.out
            obtain ⟨dw, hdw⟩ : ∃ b, decide (yn < xn) = b := ⟨_, rfl⟩
            have HWN : Hid ((wb || dw) = wrongL (l ++ [(xn, yn)])) := Lib.hid (by rw [Rd.wrongL_snoc, ← HW.out, ← hdw])
            have HMN : Hid (max (max m xn) yn = mostL (l ++ [(xn, yn)])) := Lib.hid (by rw [Rd.mostL_snoc, ← HM.out])
            have hb9 := fun (W : World) (h : RdSt w3 W Bz qm s yp false (max (max m xn) yn)) => begins_rd 44 (by decide) W h.rd (by omega)
            rw [hcm] at hb9
            unfold pt at hb9
            have D9 := Lib.hid hb9
            clear hb9
            clear hcm
            cases wb
            case true =>
              go_upto_region 17 with (first
                | (at_builtin; go_loud (
                   refine wpList_append_own _ rfl _ _ 22 rfl w3.heap.size 35 i0 (.agg #[.int .i64 0, .int .i64 0]) 2 16 Tryz.underlying22 j1 j2 j3 j4 rfl (by decide) u2 l.length (l.flatMap spC) rfl (hoo.alloc _) ⟨w12.heap.size, 0, none⟩ 1 1 [.int .i64 xn, .int .i64 yn] rfl rfl (fun j u hj => by rw [addr_add0]; exact cell_new j u (by simpa using hj)) (fun u hu => by simp only [List.mem_cons, List.not_mem_nil, or_false] at hu; rcases hu with rfl | rfl <;> rfl) (by unfold maxLen; omega) (by omega) (by have := HX12.out.st.kept.size; simp; omega) ?_
                   intro v' w8 hown' hgrow _
                   have HO8 := Lib.hid (SpOwn.snoc (l := l) (x := (xn, yn)) hown')
                   have HS8 := Lib.hid ((HX12.out.st.below (below_al w12 _)).grown hgrow (fun g hg => (hoo.lt g hg).1) hq3)
                   clear hown' hgrow))
                | fail)
              have r6 := (HRD.out w8 HS8.out.kept).2.2.1
              have r3 := (HRD.out w8 HS8.out.kept).2.1
              unfold begF0 pt at r6
              unfold exactF0 pt at r3
              go_wp2_with fail
              refine (D9.out w8 HS8.out).mono ?_
              rintro e _ ⟨rfl, rfl⟩
              go_wp2_with fail
              go_roundw
              case rel => exact ⟨l ++ [(xn, yn)], yp, 0, false, false, true, _, rfl, rfl, by omega, by simp; omega, (fun h => by cases h), Lib.hid (fun h => by cases h), Lib.hid (fun _ => HR.out), HS8, HMN, Lib.hid (by have := HWN.out; simpa using this), HO8⟩
              case measure =>
                rw [hlen, show lenOfV _ = (l ++ [(xn, yn)]).length from HO8.out.len]
                simp; omega
            case false =>
              clear HW
              go_upto_region 17 with (first
                | (at_builtin; go_loud (
                   refine wpList_append_own _ rfl _ _ 22 rfl w3.heap.size 35 i0 (.agg #[.int .i64 0, .int .i64 0]) 2 16 Tryz.underlying22 j1 j2 j3 j4 rfl (by decide) u2 l.length (l.flatMap spC) rfl (hoo.alloc _) ⟨w12.heap.size, 0, none⟩ 1 1 [.int .i64 xn, .int .i64 yn] rfl rfl (fun j u hj => by rw [addr_add0]; exact cell_new j u (by simpa using hj)) (fun u hu => by simp only [List.mem_cons, List.not_mem_nil, or_false] at hu; rcases hu with rfl | rfl <;> rfl) (by unfold maxLen; omega) (by omega) (by have := HX12.out.st.kept.size; simp; omega) ?_
                   intro v' w8 hown' hgrow _
                   have HO8 := Lib.hid (SpOwn.snoc (l := l) (x := (xn, yn)) hown')
                   have HS8 := Lib.hid ((HX12.out.st.below (below_al w12 _)).grown hgrow (fun g hg => (hoo.lt g hg).1) hq3)
                   clear hown' hgrow))
                | fail)
              have r6 := (HRD.out w8 HS8.out.kept).2.2.1
              have r3 := (HRD.out w8 HS8.out.kept).2.1
              unfold begF0 pt at r6
              unfold exactF0 pt at r3
              go_wp2_with fail
              refine (D9.out w8 HS8.out).mono ?_
              rintro e _ ⟨rfl, rfl⟩
              go_wp2_with fail
              go_roundw
              case rel => exact ⟨l ++ [(xn, yn)], yp, 0, false, false, dw, _, rfl, rfl, by omega, by simp; omega, (fun h => by cases h), Lib.hid (fun h => by cases h), Lib.hid (fun _ => HR.out), HS8, HMN, Lib.hid (by have := HWN.out; simpa using this), HO8⟩
              case measure =>
                rw [hlen, show lenOfV _ = (l ++ [(xn, yn)]).length from HO8.out.len]
                simp; omega
          case true =>
            obtain ⟨kc, hcm⟩ : ∃ b, begAt s 44 yp true = b := ⟨_, rfl⟩
            have hc := HC2.out
            rw [hcm] at hc
            clear HC2
            cases kc
            case true =>
              rw [if_pos (by simp)] at hc
              have HR := Lib.hid hc
              have hpc := (Rd.begAt_true hcm).2.1
              clear hc
              obtain ⟨c0, c1, z0, z1⟩ := HX12.out.cells
              have hoo := HX12.out.own
              obtain ⟨j1, j2, j3, j4⟩ := HI.out
              obtain ⟨dw, hdw⟩ : ∃ b, decide (yn < xn) = b := ⟨_, rfl⟩
              have HWN : Hid ((wb || dw) = wrongL (l ++ [(xn, yn)])) := Lib.hid (by rw [Rd.wrongL_snoc, ← HW.out, ← hdw])
              have HMN : Hid (max (max m xn) yn = mostL (l ++ [(xn, yn)])) := Lib.hid (by rw [Rd.mostL_snoc, ← HM.out])
              have hb9 := fun (W : World) (h : RdSt w3 W Bz qm s yp true (max (max m xn) yn)) => begins_rd 44 (by decide) W h.rd (by omega)
              rw [hcm] at hb9
              unfold pt at hb9
              have D9 := Lib.hid hb9
              clear hb9
              have hb10 := fun (W : World) (h : RdSt w3 W Bz qm s yp true (max (max m xn) yn)) => exact_any (Rd.byteT 44) W h.rd (by omega) (by decide)
              rw [Rd.exact_one1 (by decide) hcm] at hb10
              unfold pt at hb10
              have D10 := Lib.hid hb10
              clear hb10
              clear hcm
              cases wb
              case true =>
                go_upto_region 17 with (first
                  | (at_builtin; go_loud (
                     refine wpList_append_own _ rfl _ _ 22 rfl w3.heap.size 35 i0 (.agg #[.int .i64 0, .int .i64 0]) 2 16 Tryz.underlying22 j1 j2 j3 j4 rfl (by decide) u2 l.length (l.flatMap spC) rfl (hoo.alloc _) ⟨w12.heap.size, 0, none⟩ 1 1 [.int .i64 xn, .int .i64 yn] rfl rfl (fun j u hj => by rw [addr_add0]; exact cell_new j u (by simpa using hj)) (fun u hu => by simp only [List.mem_cons, List.not_mem_nil, or_false] at hu; rcases hu with rfl | rfl <;> rfl) (by unfold maxLen; omega) (by omega) (by have := HX12.out.st.kept.size; simp; omega) ?_
                     intro v' w8 hown' hgrow _
                     have HO8 := Lib.hid (SpOwn.snoc (l := l) (x := (xn, yn)) hown')
                     have HS8 := Lib.hid ((HX12.out.st.below (below_al w12 _)).grown hgrow (fun g hg => (hoo.lt g hg).1) hq3)
                     clear hown' hgrow))
                  | fail)
                have r6 := (HRD.out w8 HS8.out.kept).2.2.1
                have r3 := (HRD.out w8 HS8.out.kept).2.1
                unfold begF0 pt at r6
                unfold exactF0 pt at r3
                go_wp2_with fail
                refine (D9.out w8 HS8.out).mono ?_
                rintro e _ ⟨rfl, rfl⟩
                go_wp2_with fail
                refine (D10.out w8 HS8.out).mono ?_
                rintro e w9 ⟨rfl, hrd9, hkp9⟩
                have HS9 := Lib.hid (HS8.out.kp hkp9 hrd9)
                have HO9 := Lib.hid (show SpOwn w9 w3.heap.size _ (l ++ [(xn, yn)]) from own_same HO8.out (fun g hg hl _ => hkp9.block g hl (by have := HS8.out.hq; omega) (by have := HS8.out.hq; omega)))
                clear hrd9 hkp9
                go_wp2_with fail
                go_roundw
                case rel => exact ⟨l ++ [(xn, yn)], yp + 1, f, true, true, true, _, rfl, rfl, by omega, by simp; omega, fun _ => by simp; omega, Lib.hid (fun _ => ⟨rfl, by omega, HR.out⟩), Lib.hid (fun h => by cases h), HS9, HMN, Lib.hid (by have := HWN.out; simpa using this), HO9⟩
                case measure =>
                  rw [hlen, show lenOfV _ = (l ++ [(xn, yn)]).length from HO9.out.len]
                  simp; omega
              case false =>
                clear HW
                go_upto_region 17 with (first
                  | (at_builtin; go_loud (
                     refine wpList_append_own _ rfl _ _ 22 rfl w3.heap.size 35 i0 (.agg #[.int .i64 0, .int .i64 0]) 2 16 Tryz.underlying22 j1 j2 j3 j4 rfl (by decide) u2 l.length (l.flatMap spC) rfl (hoo.alloc _) ⟨w12.heap.size, 0, none⟩ 1 1 [.int .i64 xn, .int .i64 yn] rfl rfl (fun j u hj => by rw [addr_add0]; exact cell_new j u (by simpa using hj)) (fun u hu => by simp only [List.mem_cons, List.not_mem_nil, or_false] at hu; rcases hu with rfl | rfl <;> rfl) (by unfold maxLen; omega) (by omega) (by have := HX12.out.st.kept.size; simp; omega) ?_
                     intro v' w8 hown' hgrow _
                     have HO8 := Lib.hid (SpOwn.snoc (l := l) (x := (xn, yn)) hown')
                     have HS8 := Lib.hid ((HX12.out.st.below (below_al w12 _)).grown hgrow (fun g hg => (hoo.lt g hg).1) hq3)
                     clear hown' hgrow))
                  | fail)
                have r6 := (HRD.out w8 HS8.out.kept).2.2.1
                have r3 := (HRD.out w8 HS8.out.kept).2.1
                unfold begF0 pt at r6
                unfold exactF0 pt at r3
                go_wp2_with fail
                refine (D9.out w8 HS8.out).mono ?_
                rintro e _ ⟨rfl, rfl⟩
                go_wp2_with fail
                refine (D10.out w8 HS8.out).mono ?_
                rintro e w9 ⟨rfl, hrd9, hkp9⟩
                have HS9 := Lib.hid (HS8.out.kp hkp9 hrd9)
                have HO9 := Lib.hid (show SpOwn w9 w3.heap.size _ (l ++ [(xn, yn)]) from own_same HO8.out (fun g hg hl _ => hkp9.block g hl (by have := HS8.out.hq; omega) (by have := HS8.out.hq; omega)))
                clear hrd9 hkp9
                go_wp2_with fail
                go_roundw
                case rel => exact ⟨l ++ [(xn, yn)], yp + 1, f, true, true, dw, _, rfl, rfl, by omega, by simp; omega, fun _ => by simp; omega, Lib.hid (fun _ => ⟨rfl, by omega, HR.out⟩), Lib.hid (fun h => by cases h), HS9, HMN, Lib.hid (by have := HWN.out; simpa using this), HO9⟩
                case measure =>
                  rw [hlen, show lenOfV _ = (l ++ [(xn, yn)]).length from HO9.out.len]
                  simp; omega
            case false =>
              rw [if_neg (by simp)] at hc
              simp only [Prod.mk.injEq] at hc
              have HR := Lib.hid (show RL = l ++ [(xn, yn)] ∧ rp = yp ∧ rok = (true && decide (yp = s.size)) from ⟨hc.1.symm, hc.2.1.symm, hc.2.2.symm⟩)
              clear hc
              obtain ⟨c0, c1, z0, z1⟩ := HX12.out.cells
              have hoo := HX12.out.own
              obtain ⟨j1, j2, j3, j4⟩ := HI.out
              obtain ⟨dw, hdw⟩ : ∃ b, decide (yn < xn) = b := ⟨_, rfl⟩
              have HWN : Hid ((wb || dw) = wrongL (l ++ [(xn, yn)])) := Lib.hid (by rw [Rd.wrongL_snoc, ← HW.out, ← hdw])
              have HMN : Hid (max (max m xn) yn = mostL (l ++ [(xn, yn)])) := Lib.hid (by rw [Rd.mostL_snoc, ← HM.out])
              have hb9 := fun (W : World) (h : RdSt w3 W Bz qm s yp true (max (max m xn) yn)) => begins_rd 44 (by decide) W h.rd (by omega)
              rw [hcm] at hb9
              unfold pt at hb9
              have D9 := Lib.hid hb9
              clear hb9
              clear hcm
              cases wb
              case true =>
                go_upto_region 17 with (first
                  | (at_builtin; go_loud (
                     refine wpList_append_own _ rfl _ _ 22 rfl w3.heap.size 35 i0 (.agg #[.int .i64 0, .int .i64 0]) 2 16 Tryz.underlying22 j1 j2 j3 j4 rfl (by decide) u2 l.length (l.flatMap spC) rfl (hoo.alloc _) ⟨w12.heap.size, 0, none⟩ 1 1 [.int .i64 xn, .int .i64 yn] rfl rfl (fun j u hj => by rw [addr_add0]; exact cell_new j u (by simpa using hj)) (fun u hu => by simp only [List.mem_cons, List.not_mem_nil, or_false] at hu; rcases hu with rfl | rfl <;> rfl) (by unfold maxLen; omega) (by omega) (by have := HX12.out.st.kept.size; simp; omega) ?_
                     intro v' w8 hown' hgrow _
                     have HO8 := Lib.hid (SpOwn.snoc (l := l) (x := (xn, yn)) hown')
                     have HS8 := Lib.hid ((HX12.out.st.below (below_al w12 _)).grown hgrow (fun g hg => (hoo.lt g hg).1) hq3)
                     clear hown' hgrow))
                  | fail)
                have r6 := (HRD.out w8 HS8.out.kept).2.2.1
                have r3 := (HRD.out w8 HS8.out.kept).2.1
                unfold begF0 pt at r6
                unfold exactF0 pt at r3
                go_wp2_with fail
                refine (D9.out w8 HS8.out).mono ?_
                rintro e _ ⟨rfl, rfl⟩
                go_wp2_with fail
                go_roundw
                case rel => exact ⟨l ++ [(xn, yn)], yp, 0, true, false, true, _, rfl, rfl, by omega, by simp; omega, (fun h => by cases h), Lib.hid (fun h => by cases h), Lib.hid (fun _ => HR.out), HS8, HMN, Lib.hid (by have := HWN.out; simpa using this), HO8⟩
                case measure =>
                  rw [hlen, show lenOfV _ = (l ++ [(xn, yn)]).length from HO8.out.len]
                  simp; omega
              case false =>
                clear HW
                go_upto_region 17 with (first
                  | (at_builtin; go_loud (
                     refine wpList_append_own _ rfl _ _ 22 rfl w3.heap.size 35 i0 (.agg #[.int .i64 0, .int .i64 0]) 2 16 Tryz.underlying22 j1 j2 j3 j4 rfl (by decide) u2 l.length (l.flatMap spC) rfl (hoo.alloc _) ⟨w12.heap.size, 0, none⟩ 1 1 [.int .i64 xn, .int .i64 yn] rfl rfl (fun j u hj => by rw [addr_add0]; exact cell_new j u (by simpa using hj)) (fun u hu => by simp only [List.mem_cons, List.not_mem_nil, or_false] at hu; rcases hu with rfl | rfl <;> rfl) (by unfold maxLen; omega) (by omega) (by have := HX12.out.st.kept.size; simp; omega) ?_
                     intro v' w8 hown' hgrow _
                     have HO8 := Lib.hid (SpOwn.snoc (l := l) (x := (xn, yn)) hown')
                     have HS8 := Lib.hid ((HX12.out.st.below (below_al w12 _)).grown hgrow (fun g hg => (hoo.lt g hg).1) hq3)
                     clear hown' hgrow))
                  | fail)
                have r6 := (HRD.out w8 HS8.out.kept).2.2.1
                have r3 := (HRD.out w8 HS8.out.kept).2.1
                unfold begF0 pt at r6
                unfold exactF0 pt at r3
                go_wp2_with fail
                refine (D9.out w8 HS8.out).mono ?_
                rintro e _ ⟨rfl, rfl⟩
                go_wp2_with fail
                go_roundw
                case rel => exact ⟨l ++ [(xn, yn)], yp, 0, true, false, dw, _, rfl, rfl, by omega, by simp; omega, (fun h => by cases h), Lib.hid (fun h => by cases h), Lib.hid (fun _ => HR.out), HS8, HMN, Lib.hid (by have := HWN.out; simpa using this), HO8⟩
                case measure =>
                  rw [hlen, show lenOfV _ = (l ++ [(xn, yn)]).length from HO8.out.len]
                  simp; omega
end Go.Proofs.YtaghhndcimjjgaaGreatDoor

/- Sets: end, ends, keeps of the reference. -/
namespace Sp
/-- the end with a number -/
def endV (F T : Nat → Int) (k : Nat) : Int := if k % 2 = 0 then F (k / 2) else T (k / 2) + 1
def endsN (F T : Nat → Int) (n : Nat) : List Int := (List.range n).map (endV F T)
theorem endsN_len (F T : Nat → Int) (n : Nat) : (endsN F T n).length = n := by unfold endsN; simp
theorem endsN_get {F T : Nat → Int} {n i : Nat} (h : i < n) : (endsN F T n)[i]? = some (endV F T i) := by
  unfold endsN
  rw [List.getElem?_map, List.getElem?_range h]
  rfl
theorem endsN_drop {F T : Nat → Int} {n i : Nat} (h : i < n) : (endsN F T n).drop i = endV F T i :: (endsN F T n).drop (i + 1) := by
  have hl : i < (endsN F T n).length := by rw [endsN_len]; exact h
  rw [List.drop_eq_getElem_cons hl]
  congr 1
  have := endsN_get (F := F) (T := T) h
  rw [List.getElem?_eq_getElem hl] at this
  exact Option.some.inj this
theorem endsN_end {F T : Nat → Int} {n i : Nat} (h : n ≤ i) : (endsN F T n).drop i = [] := List.drop_eq_nil_of_le (by rw [endsN_len]; exact h)
theorem endsOf_append (a b : List (Int × Int)) : endsOf (a ++ b) = endsOf a ++ endsOf b := by
  induction a with
  | nil => rfl
  | cons x a ih => rw [List.cons_append, endsOf, endsOf, ih]; rfl
theorem endsN_of (F T : Nat → Int) : ∀ n, endsN F T (2 * n) = endsOf (spl F T n)
  | 0 => rfl
  | n + 1 => by
    rw [spl_succ, endsOf_append, ← endsN_of F T n]
    unfold endsN
    rw [show 2 * (n + 1) = 2 * n + 1 + 1 by omega, List.range_succ, List.range_succ, List.map_append, List.map_append, List.append_assoc]
    congr 1
    have e1 : endV F T (2 * n) = F n := by unfold endV; rw [if_pos (by omega), show 2 * n / 2 = n by omega]
    have e2 : endV F T (2 * n + 1) = T n + 1 := by unfold endV; rw [if_neg (by omega), show (2 * n + 1) / 2 = n by omega]
    simp [e1, e2, endsOf]
theorem mg_nil1 (f : Nat) (b : List Int) (h : b.length ≤ f) : mg f [] b = b := by
  induction f generalizing b with
  | zero => rw [List.length_eq_zero_iff.1 (by omega : b.length = 0)]; rfl
  | succ f ih =>
    cases b with
    | nil => rfl
    | cons y b => rw [mg, ih b (by simpa using h)]
end Sp
namespace Go.Proofs.YtaghhndcimjjgaaGreatDoor
open Go.RowKit Go.BigFrame
open Sp (chkS chkL spl mem Norm inB endV endsN mg)

set_option maxHeartbeats 1000000 in
theorem end_any (k : Nat) (a : Option Addr) (n c : Nat) (F T : Nat → Int) (w : World) (hr : Rows2 w a n F T) (hk : k < 2 * n) (hn : n ≤ 1000) (ht : ∀ i, i < n → 0 ≤ T i ∧ T i ≤ 1000000000000) :
    Calls Tryz.prog 114 #[.slice a n c, .int .i64 k] w fun e w' => e = .returned (.int .i64 (endV F T k)) ∧ w = w' := by
  obtain ⟨b, off, rfl, _, hc⟩ := hr.here (by omega)
  have hk2 : k / 2 < n := by omega
  obtain ⟨p0, p1⟩ := hc _ hk2
  obtain ⟨t0, t1⟩ := ht _ hk2
  have r1 : (k : Int).tmod 2 = ((k % 2 : Nat) : Int) := by rw [Int.tmod_eq_emod_of_nonneg (by omega)]; omega
  have r2 : (k : Int).tdiv 2 = ((k / 2 : Nat) : Int) := by rw [Int.tdiv_eq_ediv_of_nonneg (by omega)]; omega
  unfold endV
  rcases (show k % 2 = 0 ∨ k % 2 = 1 by omega) with h | h
  · rw [if_pos h]
    rw [h] at r1
    clear hc h
    generalize k / 2 = j at r2 hk2 p0 p1 t0 t1 ⊢
    go_enter Tryz.func114, Tryz.ntmps114
    go_wp2_with fail
    go_ret
    exact ⟨rfl, rfl⟩
  · rw [if_neg (by omega)]
    rw [h] at r1
    clear hc h
    generalize k / 2 = j at r2 hk2 p0 p1 t0 t1 ⊢
    generalize T j = t at p1 t0 t1 ⊢
    go_enter Tryz.func114, Tryz.ntmps114
    go_wp2_with fail
    go_ret
    exact ⟨rfl, rfl⟩
/-- how the reference keeps: 1, 2, 3 -/
def keepB (how : Nat) (x y : Bool) : Bool := if how = 1 then x || y else if how = 2 then x && y else x && !y
theorem keeps_any (how : Nat) (h : how = 1 ∨ how = 2 ∨ how = 3) (x y : Bool) (w : World) :
    Calls Tryz.prog 89 #[.int .i64 how, .bool x, .bool y] w fun e w' => e = .returned (.bool (keepB how x y)) ∧ w = w' := by
  rcases h with rfl | rfl | rfl <;> cases x <;> cases y <;>
  · go_enter Tryz.func89, Tryz.ntmps89
    go_wp2_with fail
    go_ret
    exact ⟨rfl, rfl⟩
def intC (x : Int) : List Value := [.int .i64 x]
def IntOwn (w : World) (base : Nat) (v : Value) (l : List Int) : Prop := w.ownsRow base 3 1 v l.length (l.flatMap intC)
theorem IntOwn.below {w w' : World} {base : Nat} {v : Value} {l : List Int} (h : IntOwn w base v l) (hb : Below w.heap.size w w') : IntOwn w' base v l := ownsRow_below h hb
theorem IntOwn.nil (w : World) (base : Nat) : IntOwn w base (.slice none 0 0) [] := World.ownsRow_nil _ _ _ _
theorem IntOwn.lt {w : World} {base : Nat} {v : Value} {l : List Int} (h : IntOwn w base v l) : ∀ b, v.ownBlock = some b → base ≤ b ∧ b < w.heap.size := fun b e => World.ownsRow.lt h b e
theorem IntOwn.snoc {w' : World} {base : Nat} {v : Value} {l : List Int} {x : Int} (h : w'.ownsRow base 3 1 v (l.length + 1) (l.flatMap intC ++ [.int .i64 x])) : IntOwn w' base v (l ++ [x]) := by
  unfold IntOwn
  rw [List.length_append, List.flatMap_append]
  exact h
theorem intC_get (l : List Int) : ∀ (i : Nat) (x : Int), l[i]? = some x → (l.flatMap intC)[i]? = some (Value.int .i64 x) := by
  induction l with
  | nil => intro i x h; simp at h
  | cons y l ih =>
    intro i x h
    cases i with
    | zero => injection h with h; subst h; rfl
    | succ i => exact ih i x (by simpa using h)
/-- a row of one's own: its value and its cells -/
theorem IntOwn.open {w : World} {base : Nat} {v : Value} {l : List Int} (h : IntOwn w base v l) : ∃ a c, v = .slice a l.length c ∧ ∀ i x, l[i]? = some x → ∃ b, a = some ⟨b, 0, none⟩ ∧ base ≤ b ∧ b < w.heap.size ∧ w.cell? ⟨b, i, none⟩ = some (.int .i64 x) := by
  rcases h.2 with ⟨e, h0⟩ | ⟨g, cap, cur, e, hb, hg, hn, hm, hs, ht⟩
  · refine ⟨none, 0, by rw [e, h0], fun i x hx => ?_⟩
    have := (List.getElem?_eq_some_iff.1 hx).1
    omega
  · refine ⟨_, cap, e, fun i x hx => ⟨g, rfl, hb, lt_of_block hg, ?_⟩⟩
    have k0 := h.cells (g := g) (by rw [e]; rfl) i _ (intC_get l i x hx)
    rwa [addr_add0] at k0
theorem intC_one : ∀ (x : Int), ∀ v ∈ intC x, v.oneCell' = true := fun x v hv => by
  simp only [intC, List.mem_cons, List.not_mem_nil, or_false] at hv
  rcases hv with rfl
  rfl
set_option maxHeartbeats 4000000 in
set_option maxRecDepth 100000 in
theorem ends_any (a1 : Option Addr) (n1 k1 : Nat) (F1 T1 : Nat → Int) (a2 : Option Addr) (n2 k2 : Nat) (F2 T2 : Nat → Int) (w : World) (h1 : Rows2 w a1 n1 F1 T1) (h2 : Rows2 w a2 n2 F2 T2) (g1 : chkS F1 T1 n1 = 0) (g2 : chkS F2 T2 n2 = 0) :
    Calls Tryz.prog 88 #[.slice a1 n1 k1, .slice a2 n2 k2] w fun e w' => (∃ v, e = .returned v ∧ IntOwn w' w.heap.size v (mg (2 * n1 + 2 * n2) (endsN F1 T1 (2 * n1)) (endsN F2 T2 (2 * n2)))) ∧ Below w.heap.size w w' := by
  have m1 : n1 ≤ 1000 := (Sp.chkS_zero g1).1
  have m2 : n2 ≤ 1000 := (Sp.chkS_zero g2).1
  have ht1 : ∀ i, i < n1 → 0 ≤ T1 i ∧ T1 i ≤ 1000000000000 := fun i hi => ((Sp.chkS_zero g1).2.2 i hi).2.1
  have ht2 : ∀ i, i < n2 → 0 ≤ T2 i ∧ T2 i ≤ 1000000000000 := fun i hi => ((Sp.chkS_zero g2).2.2 i hi).2.1
  have DA := Lib.hid (fun (W : World) (k : Nat) (hb : Below w.heap.size w W) hk => end_any k a1 n1 k1 F1 T1 W (h1.below hb (Nat.le_refl _)) hk m1 ht1)
  have DB := Lib.hid (fun (W : World) (k : Nat) (hb : Below w.heap.size w W) hk => end_any k a2 n2 k2 F2 T2 W (h2.below hb (Nat.le_refl _)) hk m2 ht2)
  obtain ⟨TT, hTT⟩ : ∃ TT, mg (2 * n1 + 2 * n2) (endsN F1 T1 (2 * n1)) (endsN F2 T2 (2 * n2)) = TT := ⟨_, rfl⟩
  rw [hTT]
  have HT := Lib.hid hTT
  obtain ⟨i0, hi0, hy0, hy1, hy2⟩ := info_parts (show (Tryz.prog.info? 3).map (fun i => (i.zero, i.size, i.bytes)) = some (some (.int .i64 0), 1, 8) by kernel_rfl)
  have HI := Lib.hid (And.intro hi0 (And.intro hy0 (And.intro hy1 hy2)))
  clear hi0 hy0 hy1 hy2 hTT h1 h2 g1 g2 ht1 ht2
  have hn1 : (n1 : Int) ≤ 1000 := by omega
  have hn2 : (n2 : Int) ≤ 1000 := by omega
  go_enter Tryz.func88, Tryz.ntmps88
  go_wp2_with fail
  go_loopw [5, 6, 7] (fun v iv kv wr => ∃ (i k f : Nat) (out : List Int), iv = .int .i64 i ∧ kv = .int .i64 k ∧ i ≤ 2 * n1 ∧ k ≤ 2 * n2 ∧ (2 * n1 - i) + (2 * n2 - k) ≤ f ∧ out.length ≤ i + k ∧ Hid (Below w.heap.size w wr) ∧ Hid (IntOwn wr w.heap.size v out) ∧ Hid (out ++ mg f ((endsN F1 T1 (2 * n1)).drop i) ((endsN F2 T2 (2 * n2)).drop k) = TT)) (fun _ iv kv _ => (2 * n1 - (intOf iv).toNat) + (2 * n2 - (intOf kv).toNat))
  case atStart => exact ⟨0, 0, 2 * n1 + 2 * n2, [], rfl, rfl, by omega, by omega, by omega, by simp, Lib.hid (Below.refl _ _), Lib.hid (IntOwn.nil _ _), HT⟩
  case round =>
    obtain ⟨i, k, f, out, rfl, rfl, hi, hk, hf, hol, HB, HO, HC⟩ := hrel
    have hsz := HB.out.size
    have hI : (i : Int) ≤ 2 * n1 := by omega
    have hK : (k : Int) ≤ 2 * n2 := by omega
    have q1 : wrap64 (2 * (n1 : Int)) = 2 * n1 := by unfold wrap64; omega
    have q2 : wrap64 (2 * (n2 : Int)) = 2 * n2 := by unfold wrap64; omega
    obtain ⟨j1, j2, j3, j4⟩ := HI.out
    have ho := HO.out
    by_cases e1 : i < 2 * n1
    case neg =>
      have t1 : decide ((i : Int) < 2 * (n1 : Int)) = false := by rw [decide_eq_false_iff_not]; omega
      by_cases e2 : k < 2 * n2
      case neg =>
        have t2 : decide ((k : Int) < 2 * (n2 : Int)) = false := by rw [decide_eq_false_iff_not]; omega
        have e : out = TT := by
          have := HC.out
          rw [Sp.endsN_end (show 2 * n1 ≤ i by omega), Sp.endsN_end (show 2 * n2 ≤ k by omega)] at this
          rw [← this]
          cases f <;> simp [mg]
        go_wp2_with fail
        go_ret
        exact ⟨⟨_, rfl, by rw [← e]; exact HO.out⟩, HB.out⟩
      case pos =>
        have t2 : decide ((k : Int) < 2 * (n2 : Int)) = true := by rw [decide_eq_true_eq]; omega
        have t3 : ((k : Int) == 2 * (n2 : Int)) = false := by rw [beq_eq_false_iff_ne]; omega
        obtain ⟨f, rfl⟩ : ∃ f', f = f' + 1 := ⟨f - 1, by omega⟩
        have HC2 : Hid ((out ++ [endV F2 T2 k]) ++ mg f ((endsN F1 T1 (2 * n1)).drop i) ((endsN F2 T2 (2 * n2)).drop (k + 1)) = TT) := Lib.hid (by
          have := HC.out
          rw [Sp.endsN_end (show 2 * n1 ≤ i by omega), Sp.endsN_drop e2, mg] at this
          rw [Sp.endsN_end (show 2 * n1 ≤ i by omega), List.append_assoc]
          exact this)
        clear HC
        go_wp2_with fail
        refine (DB.out wr k HB.out (by omega)).mono ?_
        rintro e _ ⟨rfl, rfl⟩
        go_wp2_with (first
          | (at_builtin; go_loud (
             refine wpList_append_own _ rfl _ _ 108 rfl w.heap.size 3 i0 (.int .i64 0) 1 8 Tryz.underlying108 j1 j2 j3 j4 rfl (by decide) u5 out.length (out.flatMap intC) rfl (ho.below (below_al wr _)) ⟨wr.heap.size, 0, none⟩ 1 1 [.int .i64 (endV F2 T2 k)] rfl rfl (fun j u hj => by rw [addr_add0]; exact cell_new j u (by simpa using hj)) (fun u hu => by simp only [List.mem_cons, List.not_mem_nil, or_false] at hu; rcases hu with rfl; rfl) (by unfold maxLen; omega) (by omega) (by simp; omega) ?_
             intro v' w3 hown' hgrow _
             have HO3 := Lib.hid (IntOwn.snoc (l := out) (x := (endV F2 T2 k)) hown')
             have HB3 := Lib.hid ((HB.out.alloc hsz _).grown hgrow (by simp; omega) (fun b hb => by have := ho.lt b hb; omega))
             clear hown' hgrow))
          | fail)
        go_roundw
        case rel => exact ⟨i, k + 1, f, out ++ [(endV F2 T2 k)], rfl, by go_num, by omega, by omega, by omega, by simp; omega, HB3, HO3, HC2⟩
        case measure => simp [intOf]; omega
    case pos =>
      have t1 : decide ((i : Int) < 2 * (n1 : Int)) = true := by rw [decide_eq_true_eq]; omega
      by_cases e2 : k < 2 * n2
      case neg =>
        have t2 : decide ((k : Int) < 2 * (n2 : Int)) = false := by rw [decide_eq_false_iff_not]; omega
        have t3 : ((k : Int) == 2 * (n2 : Int)) = true := by rw [beq_iff_eq]; omega
        obtain ⟨f, rfl⟩ : ∃ f', f = f' + 1 := ⟨f - 1, by omega⟩
        have HC2 : Hid ((out ++ [endV F1 T1 i]) ++ mg f ((endsN F1 T1 (2 * n1)).drop (i + 1)) ((endsN F2 T2 (2 * n2)).drop k) = TT) := Lib.hid (by
          have := HC.out
          rw [Sp.endsN_end (show 2 * n2 ≤ k by omega), Sp.endsN_drop e1, mg] at this
          rw [Sp.endsN_end (show 2 * n2 ≤ k by omega), List.append_assoc]
          exact this)
        clear HC
        go_wp2_with fail
        refine (DA.out wr i HB.out (by omega)).mono ?_
        rintro e _ ⟨rfl, rfl⟩
        go_wp2_with (first
          | (at_builtin; go_loud (
             refine wpList_append_own _ rfl _ _ 108 rfl w.heap.size 3 i0 (.int .i64 0) 1 8 Tryz.underlying108 j1 j2 j3 j4 rfl (by decide) u5 out.length (out.flatMap intC) rfl (ho.below (below_al wr _)) ⟨wr.heap.size, 0, none⟩ 1 1 [.int .i64 (endV F1 T1 i)] rfl rfl (fun j u hj => by rw [addr_add0]; exact cell_new j u (by simpa using hj)) (fun u hu => by simp only [List.mem_cons, List.not_mem_nil, or_false] at hu; rcases hu with rfl; rfl) (by unfold maxLen; omega) (by omega) (by simp; omega) ?_
             intro v' w3 hown' hgrow _
             have HO3 := Lib.hid (IntOwn.snoc (l := out) (x := (endV F1 T1 i)) hown')
             have HB3 := Lib.hid ((HB.out.alloc hsz _).grown hgrow (by simp; omega) (fun b hb => by have := ho.lt b hb; omega))
             clear hown' hgrow))
          | fail)
        go_roundw
        case rel => exact ⟨i + 1, k, f, out ++ [(endV F1 T1 i)], by go_num, rfl, by omega, by omega, by omega, by simp; omega, HB3, HO3, HC2⟩
        case measure => simp [intOf]; omega
      case pos =>
        have t2 : decide ((k : Int) < 2 * (n2 : Int)) = true := by rw [decide_eq_true_eq]; omega
        have t3 : ((k : Int) == 2 * (n2 : Int)) = false := by rw [beq_eq_false_iff_ne]; omega
        obtain ⟨f, rfl⟩ : ∃ f', f = f' + 1 := ⟨f - 1, by omega⟩
        have hcc := HC.out
        rw [Sp.endsN_drop e1, Sp.endsN_drop e2, mg, ← Sp.endsN_drop e1, ← Sp.endsN_drop e2] at hcc
        clear HC
        by_cases e3 : endV F1 T1 i ≤ endV F2 T2 k
        case pos =>
          have t4 : decide (endV F1 T1 i ≤ endV F2 T2 k) = true := by simpa using e3
          rw [if_pos e3] at hcc
          have HC2 : Hid ((out ++ [endV F1 T1 i]) ++ mg f ((endsN F1 T1 (2 * n1)).drop (i + 1)) ((endsN F2 T2 (2 * n2)).drop k) = TT) := Lib.hid (by rw [List.append_assoc]; exact hcc)
          clear hcc e3
          go_wp2_with fail
          refine (DA.out wr i HB.out (by omega)).mono ?_
          rintro e _ ⟨rfl, rfl⟩
          go_wp2_with fail
          refine (DB.out wr k HB.out (by omega)).mono ?_
          rintro e _ ⟨rfl, rfl⟩
          go_wp2_with fail
          refine (DA.out wr i HB.out (by omega)).mono ?_
          rintro e _ ⟨rfl, rfl⟩
          go_wp2_with (first
            | (at_builtin; go_loud (
               refine wpList_append_own _ rfl _ _ 108 rfl w.heap.size 3 i0 (.int .i64 0) 1 8 Tryz.underlying108 j1 j2 j3 j4 rfl (by decide) u5 out.length (out.flatMap intC) rfl (ho.below (below_al wr _)) ⟨wr.heap.size, 0, none⟩ 1 1 [.int .i64 (endV F1 T1 i)] rfl rfl (fun j u hj => by rw [addr_add0]; exact cell_new j u (by simpa using hj)) (fun u hu => by simp only [List.mem_cons, List.not_mem_nil, or_false] at hu; rcases hu with rfl; rfl) (by unfold maxLen; omega) (by omega) (by simp; omega) ?_
               intro v' w3 hown' hgrow _
               have HO3 := Lib.hid (IntOwn.snoc (l := out) (x := (endV F1 T1 i)) hown')
               have HB3 := Lib.hid ((HB.out.alloc hsz _).grown hgrow (by simp; omega) (fun b hb => by have := ho.lt b hb; omega))
               clear hown' hgrow))
            | fail)
          go_roundw
          case rel => exact ⟨i + 1, k, f, out ++ [(endV F1 T1 i)], by go_num, rfl, by omega, by omega, by omega, by simp; omega, HB3, HO3, HC2⟩
          case measure => simp [intOf]; omega
        case neg =>
          have t4 : decide (endV F1 T1 i ≤ endV F2 T2 k) = false := by simpa using e3
          rw [if_neg e3] at hcc
          have HC2 : Hid ((out ++ [endV F2 T2 k]) ++ mg f ((endsN F1 T1 (2 * n1)).drop i) ((endsN F2 T2 (2 * n2)).drop (k + 1)) = TT) := Lib.hid (by rw [List.append_assoc]; exact hcc)
          clear hcc e3
          go_wp2_with fail
          refine (DA.out wr i HB.out (by omega)).mono ?_
          rintro e _ ⟨rfl, rfl⟩
          go_wp2_with fail
          refine (DB.out wr k HB.out (by omega)).mono ?_
          rintro e _ ⟨rfl, rfl⟩
          go_wp2_with fail
          refine (DB.out wr k HB.out (by omega)).mono ?_
          rintro e _ ⟨rfl, rfl⟩
          go_wp2_with (first
            | (at_builtin; go_loud (
               refine wpList_append_own _ rfl _ _ 108 rfl w.heap.size 3 i0 (.int .i64 0) 1 8 Tryz.underlying108 j1 j2 j3 j4 rfl (by decide) u5 out.length (out.flatMap intC) rfl (ho.below (below_al wr _)) ⟨wr.heap.size, 0, none⟩ 1 1 [.int .i64 (endV F2 T2 k)] rfl rfl (fun j u hj => by rw [addr_add0]; exact cell_new j u (by simpa using hj)) (fun u hu => by simp only [List.mem_cons, List.not_mem_nil, or_false] at hu; rcases hu with rfl; rfl) (by unfold maxLen; omega) (by omega) (by simp; omega) ?_
               intro v' w3 hown' hgrow _
               have HO3 := Lib.hid (IntOwn.snoc (l := out) (x := (endV F2 T2 k)) hown')
               have HB3 := Lib.hid ((HB.out.alloc hsz _).grown hgrow (by simp; omega) (fun b hb => by have := ho.lt b hb; omega))
               clear hown' hgrow))
            | fail)
          go_roundw
          case rel => exact ⟨i, k + 1, f, out ++ [(endV F2 T2 k)], rfl, by go_num, by omega, by omega, by omega, by simp; omega, HB3, HO3, HC2⟩
          case measure => simp [intOf]; omega
end Go.Proofs.YtaghhndcimjjgaaGreatDoor

/- Sets: what the reference makes of two sets. (printed by wip/gen_eq.py) -/
namespace Sp
theorem combF_one (keep : Int → Bool) (out : List (Int × Int)) : ∀ (L : List Int), L.length ≤ 1 → combF keep out L = out
  | [], _ => rfl
  | [_], _ => rfl
  | _ :: _ :: _, h => by simp at h
theorem combF_two (keep : Int → Bool) (out : List (Int × Int)) (p q : Int) (r : List Int) : combF keep out (p :: q :: r) = combF keep (if p = q ∨ keep p = false then out else addP out p q) (q :: r) := by rw [combF]
theorem drop_at {α : Type} {l : List α} {i : Nat} {x : α} (h : l[i]? = some x) : l.drop i = x :: l.drop (i + 1) := by
  obtain ⟨hi, e⟩ := List.getElem?_eq_some_iff.1 h
  rw [List.drop_eq_getElem_cons hi, e]
theorem mg_len : ∀ (f : Nat) (a b : List Int), (mg f a b).length ≤ f
  | 0, _, _ => Nat.le_refl _
  | f + 1, [], [] => Nat.zero_le _
  | f + 1, [], y :: b => by rw [mg, List.length_cons]; have := mg_len f [] b; omega
  | f + 1, x :: a, [] => by rw [mg, List.length_cons]; have := mg_len f a []; omega
  | f + 1, x :: a, y :: b => by
    rw [mg]
    split
    · rw [List.length_cons]; have := mg_len f a (y :: b); omega
    · rw [List.length_cons]; have := mg_len f (x :: a) b; omega
theorem ends_of : ∀ {l : List (Int × Int)} {z : Int}, z ∈ endsOf l → ∃ x, x ∈ l ∧ (z = x.1 ∨ z = x.2 + 1)
  | [], z, h => by cases h
  | y :: l, z, h => by
    rw [endsOf] at h
    rcases List.mem_cons.1 h with rfl | h
    · exact ⟨y, List.mem_cons_self .., Or.inl rfl⟩
    · rcases List.mem_cons.1 h with rfl | h
      · exact ⟨y, List.mem_cons_self .., Or.inr rfl⟩
      · obtain ⟨x, hx, e⟩ := ends_of h
        exact ⟨x, List.mem_cons_of_mem _ hx, e⟩
theorem ends_small {F T : Nat → Int} {n : Nat} (h : chkS F T n = 0) {z : Int} (hz : z ∈ endsOf (spl F T n)) : 0 ≤ z ∧ z ≤ 1000000000001 := by
  obtain ⟨x, hx, e⟩ := ends_of hz
  obtain ⟨i, hi, rfl⟩ := spl_mem hx
  obtain ⟨a, b, _⟩ := (chkS_zero h).2.2 i hi
  simp only at e
  omega
end Sp
namespace Go.Proofs.YtaghhndcimjjgaaGreatDoor
open Go.RowKit Go.BigFrame
open Sp (chkS chkL spl mem Norm inB combF addP mg endsOf)

def keepF (how : Nat) (F1 T1 : Nat → Int) (n1 : Nat) (F2 T2 : Nat → Int) (n2 : Nat) (p : Int) : Bool := keepB how (inB (spl F1 T1 n1) p) (inB (spl F2 T2 n2) p)
set_option maxHeartbeats 8000000 in
set_option maxRecDepth 100000 in
theorem combined_any (how : Nat) (hh : how = 1 ∨ how = 2 ∨ how = 3) (a1 : Option Addr) (n1 k1 : Nat) (F1 T1 : Nat → Int) (a2 : Option Addr) (n2 k2 : Nat) (F2 T2 : Nat → Int) (w : World) (h1 : Rows2 w a1 n1 F1 T1) (h2 : Rows2 w a2 n2 F2 T2) (g1 : chkS F1 T1 n1 = 0) (g2 : chkS F2 T2 n2 = 0) :
    Calls Tryz.prog 53 #[.slice a1 n1 k1, .slice a2 n2 k2, .int .i64 how] w fun e w' => (∃ v, e = .returned v ∧ SpOwn w' w.heap.size v (combF (keepF how F1 T1 n1 F2 T2 n2) [] (mg (2 * n1 + 2 * n2) (endsOf (spl F1 T1 n1)) (endsOf (spl F2 T2 n2))))) ∧ Below w.heap.size w w' := by
  have m1 : n1 ≤ 1000 := (Sp.chkS_zero g1).1
  have m2 : n2 ≤ 1000 := (Sp.chkS_zero g2).1
  have hE := ends_any a1 n1 k1 F1 T1 a2 n2 k2 F2 T2 w h1 h2 g1 g2
  rw [Sp.endsN_of, Sp.endsN_of] at hE
  have D1 := Lib.hid hE
  have DI1 := Lib.hid (fun (p : Int) (W : World) (hb : Below w.heap.size w W) => in_any p a1 n1 k1 F1 T1 W (h1.below hb (Nat.le_refl _)) (by omega))
  have DI2 := Lib.hid (fun (p : Int) (W : World) (hb : Below w.heap.size w W) => in_any p a2 n2 k2 F2 T2 W (h2.below hb (Nat.le_refl _)) (by omega))
  have DK := Lib.hid (fun (x y : Bool) (W : World) => keeps_any how hh x y W)
  have hM : ∀ x, x ∈ mg (2 * n1 + 2 * n2) (endsOf (spl F1 T1 n1)) (endsOf (spl F2 T2 n2)) → 0 ≤ x ∧ x ≤ 1000000000001 := fun x hx => by
    rcases (Sp.mg_mem _ _ _ x (by rw [Sp.ends_len, Sp.ends_len, Sp.spl_len, Sp.spl_len]; omega)).1 hx with h | h
    · exact Sp.ends_small g1 h
    · exact Sp.ends_small g2 h
  have hLl : (mg (2 * n1 + 2 * n2) (endsOf (spl F1 T1 n1)) (endsOf (spl F2 T2 n2))).length ≤ 4000 := Nat.le_trans (Sp.mg_len _ _ _) (by omega)
  have HM := Lib.hid hM
  generalize mg (2 * n1 + 2 * n2) (endsOf (spl F1 T1 n1)) (endsOf (spl F2 T2 n2)) = L at D1 HM hLl ⊢
  have HKF := Lib.hid (show ∀ p, keepF how F1 T1 n1 F2 T2 n2 p = keepB how (inB (spl F1 T1 n1) p) (inB (spl F2 T2 n2) p) from fun _ => rfl)
  generalize keepF how F1 T1 n1 F2 T2 n2 = kp at HKF ⊢
  obtain ⟨TT, hTT⟩ : ∃ TT, combF kp [] L = TT := ⟨_, rfl⟩
  rw [hTT]
  have HT := Lib.hid hTT
  obtain ⟨i0, hi0, hy0, hy1, hy2⟩ := info_parts (show (Tryz.prog.info? 35).map (fun i => (i.zero, i.size, i.bytes)) = some (some (.agg #[.int .i64 0, .int .i64 0]), 2, 16) by kernel_rfl)
  have HI := Lib.hid (And.intro hi0 (And.intro hy0 (And.intro hy1 hy2)))
  clear hE hM hTT hi0 hy0 hy1 hy2 h1 h2 g1 g2 hh
  go_enter Tryz.func53, Tryz.ntmps53
  go_wp2_with fail
  refine D1.out.mono ?_
  rintro e w1 ⟨⟨vl, rfl, hol⟩, hb1⟩
  obtain ⟨aL, cL, rfl, hcL⟩ := hol.open
  have HB1 := Lib.hid hb1
  have HCL := Lib.hid hcL
  have hsz1 := HB1.out.size
  obtain ⟨n, hn⟩ : ∃ n, L.length = n := ⟨_, rfl⟩
  rw [hn] at hLl ⊢
  have HN := Lib.hid hn
  clear hb1 hcL hol D1 hn
  go_wp2_with fail
  go_loopw [8, 9] (fun v iv wr => ∃ (i : Nat) (out : List (Int × Int)), iv = .int .i64 i ∧ i ≤ n ∧ out.length ≤ i ∧ Hid (Below w1.heap.size w1 wr) ∧ Hid (SpOwn wr w1.heap.size v out) ∧ Hid (combF kp out (L.drop i) = TT)) (fun _ iv _ => n - (intOf iv).toNat)
  case atStart => exact ⟨0, [], rfl, by omega, by simp, Lib.hid (Below.refl _ _), Lib.hid (SpOwn.nil _ _), HT⟩
  case round =>
    obtain ⟨i, out, rfl, hi, hol, HB, HO, HC⟩ := hrel
    have hsz := HB.out.size
    have hi4 : (i : Int) ≤ 4000 := by omega
    by_cases hlt : i + 1 < n
    case neg =>
      have t1 : decide ((i : Int) + 1 < (n : Int)) = false := by rw [decide_eq_false_iff_not]; omega
      have t1' : decide (i + 1 < n) = false := by simpa using hlt
      have HX := Lib.hid (show out = TT by
        have := HC.out
        rwa [Sp.combF_one _ _ _ (by rw [List.length_drop, HN.out]; omega)] at this)
      clear hlt HC
      go_wp2_with fail
      go_ret
      exact ⟨⟨_, rfl, by rw [← HX.out]; exact HO.out.weaken hsz1⟩, HB1.out.trans (HB.out.mono hsz1)⟩
    case pos =>
    have t1 : decide ((i : Int) + 1 < (n : Int)) = true := by rw [decide_eq_true_eq]; omega
    have t1' : decide (i + 1 < n) = true := by simpa using hlt
    obtain ⟨p, hp⟩ : ∃ p, L[i]? = some p := ⟨_, List.getElem?_eq_getElem (by rw [HN.out]; omega)⟩
    obtain ⟨q, hq⟩ : ∃ q, L[i + 1]? = some q := ⟨_, List.getElem?_eq_getElem (by rw [HN.out]; omega)⟩
    obtain ⟨hp0, hp1⟩ := HM.out p (List.mem_of_getElem? hp)
    obtain ⟨hq0, hq1⟩ := HM.out q (List.mem_of_getElem? hq)
    obtain ⟨bL, rfl, hbl, hbs, cp0⟩ := HCL.out i p hp
    obtain ⟨bL', hbe, _, _, cq0⟩ := HCL.out (i + 1) q hq
    injection hbe with hbe
    injection hbe with hbe
    subst hbe
    have hcc := HC.out
    rw [Sp.drop_at hp, Sp.drop_at hq, Sp.combF_two, ← Sp.drop_at hq] at hcc
    have HC2 := Lib.hid hcc
    have cp := below_cell HB.out cp0
    have cq := below_cell HB.out cq0
    clear hcc hp hq HC cp0 cq0
    obtain ⟨vo, hvo⟩ : ∃ v, u8 = v := ⟨_, rfl⟩
    rw [hvo] at HO ⊢
    clear hvo
    by_cases hpq : p = q
    case pos =>
      have t2 : (p == q) = true := by simpa using hpq
      rw [if_pos (Or.inl hpq)] at HC2
      clear hpq
      go_wp2_with fail
      go_quiet (fail)
      go_wp2
      go_roundw
      case rel => exact ⟨i + 1, out, by go_num, by omega, by omega, Lib.hid (below_drewN HB.out _), Lib.hid (HO.out.below (below_drewN (Below.refl _ _) _)), HC2⟩
      case measure => simp [intOf]; omega
    case neg =>
    have t2 : (p == q) = false := by simpa using hpq
    have hk := HKF.out p
    obtain ⟨b1, hb1⟩ : ∃ b, inB (spl F1 T1 n1) p = b := ⟨_, rfl⟩
    obtain ⟨b2, hb2⟩ : ∃ b, inB (spl F2 T2 n2) p = b := ⟨_, rfl⟩
    obtain ⟨bk, hbk⟩ : ∃ b, keepB how b1 b2 = b := ⟨_, rfl⟩
    rw [hb1, hb2, hbk] at hk
    have D1 := DI1.out p
    rw [hb1] at D1
    have D2 := DI2.out p
    rw [hb2] at D2
    have D3 := DK.out b1 b2
    rw [hbk] at D3
    have DA := Lib.hid (fun (X : Ext wr) => D1 X.1 (X.down (HB1.out.trans (HB.out.mono hsz1)) (Nat.le_trans hsz1 hsz)))
    have DB := Lib.hid (fun (X : Ext wr) => D2 X.1 (X.down (HB1.out.trans (HB.out.mono hsz1)) (Nat.le_trans hsz1 hsz)))
    have DC := Lib.hid (fun (X : Ext wr) => D3 X.1)
    have HPQ := Lib.hid hpq
    have HBK := Lib.hid hk
    have EP := Ext.ex cp
    have EQ := Ext.ex cq
    have HBE := Lib.hid (fun X : Ext wr => below_step HB.out X.2)
    have HOE := Lib.hid (fun X : Ext wr => HO.out.below X.2)
    clear hk hb1 hb2 hbk D1 D2 D3 hpq cp cq
    go_wp2_with fail
    refine ext_wp fun X0 => ?_
    refine wp_region_ext X0 (by kernel_rfl) (by kernel_rfl) ?_
    repeat (first
      | go_big_quiet_step ((first
        | (go_at_call 33; with_reducible exact Ext.calls _ (DA.out _))
        | (go_at_call 33; with_reducible exact Ext.calls _ (DB.out _))
        | (go_at_call 89; with_reducible exact Ext.same _ (DC.out _)))))
    refine wpQuiet_nil ?_
    intro _ hw'
    obtain ⟨Y, rfl⟩ := hw'
    have cp := EP Y
    have cq := EQ Y
    have HBW := Lib.hid (HBE.out Y)
    have HOW := Lib.hid (HOE.out Y)
    clear EP EQ HBE HOE DA DB DC
    generalize Y.1 = W at cp cq HBW HOW ⊢
    clear Y X0 HB HO
    cases bk with
    | false =>
      have HC3 := Lib.hid (show combF kp out (L.drop (i + 1)) = TT by
        have := HC2.out
        rwa [if_pos (Or.inr HBK.out)] at this)
      go_wp2_with fail
      go_roundw
      case rel => exact ⟨i + 1, out, by go_num, by omega, by omega, HBW, HOW, HC3⟩
      case measure => simp [intOf]; omega
    | true =>
    have HC3 := Lib.hid (show combF kp (addP out p q) (L.drop (i + 1)) = TT by
      have := HC2.out
      rwa [if_neg (fun h => h.elim HPQ.out (fun e => by rw [HBK.out] at e; cases e))] at this)
    clear HC2 HBK HPQ
    rcases Sp.snoc_cases out with rfl | ⟨o, z, rfl⟩
    case inl =>
      obtain ⟨ao, co, hvo, _⟩ := HOW.out.rows
      change vo = .slice ao 0 co at hvo
      subst hvo
      go_wp2_with fail
      go_quiet (fail)
      have HBW := Lib.hid (below_drewN HBW.out nq)
      have HOW := Lib.hid (HOW.out.below (below_drewN (Below.refl W.heap.size W) nq))
      have cp := below_cell (below_drewN (Below.refl W.heap.size W) nq) cp
      have cq := below_cell (below_drewN (Below.refl W.heap.size W) nq) cq
      generalize W.drewN nq = W at HBW HOW cp cq ⊢
      go_upto_region 10 with fail
      obtain ⟨j1, j2, j3, j4⟩ := HI.out
      have HLN := Lib.hid (show (([] : List (Int × Int))).length = 0 from rfl)
      have HOX := Lib.hid (show W.ownsRow w1.heap.size 35 2 (.slice ao (0) co) (0) ((([] : List (Int × Int))).flatMap spC) from by have := HOW.out; unfold SpOwn at this; rw [HLN.out] at this; exact this)
      have hsW := HBW.out.size
      have S1 : ∀ X : ExtO (fun b => (Value.slice ao (0) co).ownBlock = some b) W, X.1.cell? ⟨bL, i, none⟩ = some (.int .i64 p) := ExtO.ex (fun e => by have := (HOX.out.lt bL e).1; omega) cp
      have S2 : ∀ X : ExtO (fun b => (Value.slice ao (0) co).ownBlock = some b) W, X.1.cell? ⟨bL, i + 1, none⟩ = some (.int .i64 q) := ExtO.ex (fun e => by have := (HOX.out.lt bL e).1; omega) cq
      clear cp cq t1 t1' t2
      refine held_start (C := fun w' => ∃ Z : ExtO (fun b => (Value.slice ao (0) co).ownBlock = some b) W, w' = Z.1) (by kernel_rfl) ?_
      obtain ⟨Y0, hY0, hy0⟩ : ∃ Z : ExtO (fun b => (Value.slice ao (0) co).ownBlock = some b) W, ({ W with drawn := W.drawn + 1 } : World) = Z.1 ∧ Below W.heap.size W Z.1 := ⟨⟨{ W with drawn := W.drawn + 1 }, ⟨rfl, rfl, rfl, Nat.le_refl _, fun _ _ _ => rfl⟩⟩, rfl, ⟨rfl, rfl, rfl, Nat.le_refl _, fun _ _ => rfl⟩⟩
      rw [hY0]
      have HVY := Lib.hid hy0
      clear hY0 hy0
      refine held_quiet (by kernel_rfl) (fun _ _ d _ _ h => by cases d <;> exact h) ⟨Y0, rfl⟩ [0, 1, 2, 3, 4, 5, 6, 7, 8, 9, 10, 11] 3 _ _ (by kernel_rfl) ?_
      change wpQuiet _ _ _ _ (_ :: _ :: _ :: _ :: _ :: _ :: _ :: _ :: _ :: _ :: _ :: _ :: []) _
      repeat go_big_quiet_step (fail)
      refine wpQuiet_nil ?_
      refine held_do (i := 12) _ rfl (by kernel_rfl) rfl (fun K hK => ?_)
      go_simp
      obtain ⟨Wb, hWb, hwb1, hwb2, hwq⟩ := alloc_block Y0.1 #[.int .i64 p, .int .i64 (q - 1)] 35
      rw [hWb]
      have hvz := below_step HVY.out hwb1
      obtain ⟨Zb, rfl⟩ : ∃ Z : ExtO (fun b => (Value.slice ao (0) co).ownBlock = some b) W, Wb = Z.1 := ⟨⟨Wb, Kept.of_below hvz⟩, rfl⟩
      have HVZ := Lib.hid hvz
      have HWQ := Lib.hid hwq
      refine hK _ _ ⟨Zb, rfl⟩ ?_
      clear hWb hwb1 hwb2 hwq hvz hK K
      refine held_do (i := 13) _ rfl (by kernel_rfl) rfl (fun K hK => ?_)
      have HOZ := Lib.hid (ownsRow_below HOX.out HVZ.out)
      refine wp_append_lies Zb.1 (.tmp 77) (.tmp 89) 22 rfl w1.heap.size 35 i0 (.agg #[.int .i64 0, .int .i64 0]) 2 16 Tryz.underlying22 j1 j2 j3 j4 rfl (by decide) (.slice ao (0) co) (0) ((([] : List (Int × Int))).flatMap spC) rfl HOZ.out ⟨Y0.1.heap.size, 0, none⟩ 1 1 [.int .i64 p, .int .i64 (q - 1)] rfl rfl (fun j u hu => by rw [addr_add0]; exact block_cell HWQ.out (by simpa using hu)) (fun u hu => by simp only [List.mem_cons, List.not_mem_nil, or_false] at hu; rcases hu with rfl | rfl <;> rfl) (by omega) (by unfold maxLen; omega) (by omega) (Nat.le_trans hsW HVZ.out.size) _ rfl (fun g6 cap6 w6 hown6 hg6 hat6 hlt6 => ?_)
      have HB6 := Lib.hid ((below_step HBW.out HVZ.out).grown hg6 (Nat.le_trans hsW HVZ.out.size) (fun b hb => (HOX.out.lt b hb).1))
      obtain ⟨Z6, hZ6⟩ : ∃ Z : ExtO (fun b => (Value.slice ao (0) co).ownBlock = some b) W, w6 = Z.1 := ⟨⟨w6, Zb.2.grown hg6 (fun q hq _ => hq)⟩, rfl⟩
      rw [hZ6] at hown6 HB6 ⊢
      have HO6 := Lib.hid (SpOwn.snoc (l := ([] : List (Int × Int))) (x := (p, q - 1)) (by rw [HLN.out]; exact hown6))
      refine hK _ _ ⟨Z6, rfl⟩ ?_
      clear hg6 hat6 hlt6 hown6 hZ6 hK K w6
      simp only [Act.put, List.setIfInBounds_toArray, List.set_cons_zero, List.set_cons_succ]
      refine held_quiet (by kernel_rfl) (fun _ _ d _ _ h => by cases d <;> exact h) ⟨Z6, rfl⟩ [14] 0 _ _ (by kernel_rfl) ?_
      change wpQuiet _ _ _ _ (_ :: []) _
      go_big_quiet_step (fail)
      refine wpQuiet_nil ?_
      refine wpAnyH_done (by kernel_rfl) ?_ _
      go_wp2_with fail
      go_roundw
      case rel => exact ⟨i + 1, (([] : List (Int × Int))) ++ [(p, q - 1)], by go_num, by omega, by rw [List.length_append, List.length_singleton]; omega, HB6, HO6, HC3⟩
      case measure => simp [intOf]; omega
    case inr =>
      obtain ⟨g, co, he⟩ := own_open HOW.out (by rw [List.length_append]; show 0 < o.length + 1; omega)
      obtain ⟨m, hm⟩ : ∃ m, o.length = m := ⟨_, rfl⟩
      have hlen2 : (o ++ [z]).length = m + 1 := by rw [List.length_append, hm]; rfl
      rw [hlen2] at he
      have hm4 : m + 1 ≤ 4000 := by rw [hlen2] at hol; omega
      subst he
      have hm0 : (0 : Int) ≤ (m : Int) := by omega
      have s0 : decide ((0 : Int) < (m : Int) + 1) = true := by rw [decide_eq_true_eq]; omega
      have hgz : ((o ++ [z]).flatMap spC)[m * 2 + 1]? = some (.int .i64 z.2) := (flatSp_get (o ++ [z]) m z (by rw [← hm, List.getElem?_append_right (Nat.le_refl _), Nat.sub_self]; rfl)).2
      have cz : W.cell? ⟨g, m * 2 + 1, none⟩ = some (.int .i64 z.2) := by
        have := HOW.out.cells (g := g) rfl (m * 2 + 1) _ hgz
        rwa [addr_add0] at this
      clear hgz
      rw [Sp.addP_snoc] at HC3
      obtain ⟨zf, zt⟩ := z
      simp only at HC3 cz
      have hix : ((m + 1 : Nat) : Int) - 1 = (m : Int) := by omega
      have hg1 := (HOW.out.lt g rfl).1
      by_cases hj : zt = p - 1
      case pos =>
        have s1 : (zt == p - 1) = true := by simpa using hj
        rw [if_pos hj] at HC3
        clear hj
        go_wp2_with fail
        go_quiet (fail)
        have HBW := Lib.hid (below_drewN HBW.out nq)
        have HOW := Lib.hid (HOW.out.below (below_drewN (Below.refl W.heap.size W) nq))
        have cq := below_cell (below_drewN (Below.refl W.heap.size W) nq) cq
        have cz := below_cell (below_drewN (Below.refl W.heap.size W) nq) cz
        generalize W.drewN nq = W at HBW HOW cq cz ⊢
        have hm1 : (m : Int) < (m : Int) + 1 := by omega
        have fz : W.frozen? ⟨g, m * 2 + 1, none⟩ = false := HOW.out.free _
        obtain ⟨hS1, hS2⟩ := HOW.out.setLast (q - 1) hm
        have HS1 := Lib.hid hS1
        have HS2 := Lib.hid (Kept.below (B := w1.heap.size) HBW.out hS2 HBW.out.size (fun k hk e => by omega))
        clear hS1 hS2
        go_wp2_with fail
        go_roundw
        case rel => exact ⟨i + 1, o ++ [(zf, q - 1)], by go_num, by omega, by simp at hol ⊢; omega, HS2, HS1, HC3⟩
        case measure => simp [intOf]; omega
      case neg =>
        have s1 : (zt == p - 1) = false := by simpa using hj
        rw [if_neg hj] at HC3
        clear hj
        go_wp2_with fail
        go_quiet (fail)
        have HBW := Lib.hid (below_drewN HBW.out nq)
        have HOW := Lib.hid (HOW.out.below (below_drewN (Below.refl W.heap.size W) nq))
        have cp := below_cell (below_drewN (Below.refl W.heap.size W) nq) cp
        have cq := below_cell (below_drewN (Below.refl W.heap.size W) nq) cq
        generalize W.drewN nq = W at HBW HOW cp cq ⊢
        clear cz
        go_upto_region 10 with fail
        obtain ⟨j1, j2, j3, j4⟩ := HI.out
        have HLN := Lib.hid (show (o ++ [(zf, zt)]).length = m + 1 from hlen2)
        have HOX := Lib.hid (show W.ownsRow w1.heap.size 35 2 (.slice (some ⟨g, 0, none⟩) (m + 1) co) (m + 1) ((o ++ [(zf, zt)]).flatMap spC) from by have := HOW.out; unfold SpOwn at this; rw [HLN.out] at this; exact this)
        have hsW := HBW.out.size
        have S1 : ∀ X : ExtO (fun b => (Value.slice (some ⟨g, 0, none⟩) (m + 1) co).ownBlock = some b) W, X.1.cell? ⟨bL, i, none⟩ = some (.int .i64 p) := ExtO.ex (fun e => by have := (HOX.out.lt bL e).1; omega) cp
        have S2 : ∀ X : ExtO (fun b => (Value.slice (some ⟨g, 0, none⟩) (m + 1) co).ownBlock = some b) W, X.1.cell? ⟨bL, i + 1, none⟩ = some (.int .i64 q) := ExtO.ex (fun e => by have := (HOX.out.lt bL e).1; omega) cq
        clear cp cq t1 t1' t2
        refine held_start (C := fun w' => ∃ Z : ExtO (fun b => (Value.slice (some ⟨g, 0, none⟩) (m + 1) co).ownBlock = some b) W, w' = Z.1) (by kernel_rfl) ?_
        obtain ⟨Y0, hY0, hy0⟩ : ∃ Z : ExtO (fun b => (Value.slice (some ⟨g, 0, none⟩) (m + 1) co).ownBlock = some b) W, ({ W with drawn := W.drawn + 1 } : World) = Z.1 ∧ Below W.heap.size W Z.1 := ⟨⟨{ W with drawn := W.drawn + 1 }, ⟨rfl, rfl, rfl, Nat.le_refl _, fun _ _ _ => rfl⟩⟩, rfl, ⟨rfl, rfl, rfl, Nat.le_refl _, fun _ _ => rfl⟩⟩
        rw [hY0]
        have HVY := Lib.hid hy0
        clear hY0 hy0
        refine held_quiet (by kernel_rfl) (fun _ _ d _ _ h => by cases d <;> exact h) ⟨Y0, rfl⟩ [0, 1, 2, 3, 4, 5, 6, 7, 8, 9, 10, 11] 3 _ _ (by kernel_rfl) ?_
        change wpQuiet _ _ _ _ (_ :: _ :: _ :: _ :: _ :: _ :: _ :: _ :: _ :: _ :: _ :: _ :: []) _
        repeat go_big_quiet_step (fail)
        refine wpQuiet_nil ?_
        refine held_do (i := 12) _ rfl (by kernel_rfl) rfl (fun K hK => ?_)
        go_simp
        obtain ⟨Wb, hWb, hwb1, hwb2, hwq⟩ := alloc_block Y0.1 #[.int .i64 p, .int .i64 (q - 1)] 35
        rw [hWb]
        have hvz := below_step HVY.out hwb1
        obtain ⟨Zb, rfl⟩ : ∃ Z : ExtO (fun b => (Value.slice (some ⟨g, 0, none⟩) (m + 1) co).ownBlock = some b) W, Wb = Z.1 := ⟨⟨Wb, Kept.of_below hvz⟩, rfl⟩
        have HVZ := Lib.hid hvz
        have HWQ := Lib.hid hwq
        refine hK _ _ ⟨Zb, rfl⟩ ?_
        clear hWb hwb1 hwb2 hwq hvz hK K
        refine held_do (i := 13) _ rfl (by kernel_rfl) rfl (fun K hK => ?_)
        have HOZ := Lib.hid (ownsRow_below HOX.out HVZ.out)
        refine wp_append_lies Zb.1 (.tmp 77) (.tmp 89) 22 rfl w1.heap.size 35 i0 (.agg #[.int .i64 0, .int .i64 0]) 2 16 Tryz.underlying22 j1 j2 j3 j4 rfl (by decide) (.slice (some ⟨g, 0, none⟩) (m + 1) co) (m + 1) ((o ++ [(zf, zt)]).flatMap spC) rfl HOZ.out ⟨Y0.1.heap.size, 0, none⟩ 1 1 [.int .i64 p, .int .i64 (q - 1)] rfl rfl (fun j u hu => by rw [addr_add0]; exact block_cell HWQ.out (by simpa using hu)) (fun u hu => by simp only [List.mem_cons, List.not_mem_nil, or_false] at hu; rcases hu with rfl | rfl <;> rfl) (by omega) (by unfold maxLen; omega) (by omega) (Nat.le_trans hsW HVZ.out.size) _ rfl (fun g6 cap6 w6 hown6 hg6 hat6 hlt6 => ?_)
        have HB6 := Lib.hid ((below_step HBW.out HVZ.out).grown hg6 (Nat.le_trans hsW HVZ.out.size) (fun b hb => (HOX.out.lt b hb).1))
        obtain ⟨Z6, hZ6⟩ : ∃ Z : ExtO (fun b => (Value.slice (some ⟨g, 0, none⟩) (m + 1) co).ownBlock = some b) W, w6 = Z.1 := ⟨⟨w6, Zb.2.grown hg6 (fun q hq _ => hq)⟩, rfl⟩
        rw [hZ6] at hown6 HB6 ⊢
        have HO6 := Lib.hid (SpOwn.snoc (l := o ++ [(zf, zt)]) (x := (p, q - 1)) (by rw [HLN.out]; exact hown6))
        refine hK _ _ ⟨Z6, rfl⟩ ?_
        clear hg6 hat6 hlt6 hown6 hZ6 hK K w6
        simp only [Act.put, List.setIfInBounds_toArray, List.set_cons_zero, List.set_cons_succ]
        refine held_quiet (by kernel_rfl) (fun _ _ d _ _ h => by cases d <;> exact h) ⟨Z6, rfl⟩ [14] 0 _ _ (by kernel_rfl) ?_
        change wpQuiet _ _ _ _ (_ :: []) _
        go_big_quiet_step (fail)
        refine wpQuiet_nil ?_
        refine wpAnyH_done (by kernel_rfl) ?_ _
        go_wp2_with fail
        go_roundw
        case rel => exact ⟨i + 1, (o ++ [(zf, zt)]) ++ [(p, q - 1)], by go_num, by omega, by rw [List.length_append, List.length_singleton]; omega, HB6, HO6, HC3⟩
        case measure => simp [intOf]; omega
end Go.Proofs.YtaghhndcimjjgaaGreatDoor

/- Sets: spans in order (reference). -/
namespace Go.Proofs.YtaghhndcimjjgaaGreatDoor
open Go.RowKit Go.BigFrame
open Sp (chkS spl mem Norm)

theorem spl_congr {F T F' T' : Nat → Int} {n : Nat} (h : ∀ i, i < n → F i = F' i ∧ T i = T' i) : spl F T n = spl F' T' n := by
  apply List.ext_getElem?
  intro i
  by_cases hi : i < n
  · rw [Sp.spl_get hi, Sp.spl_get hi, (h i hi).1, (h i hi).2]
  · rw [List.getElem?_eq_none (by rw [Sp.spl_len]; omega), List.getElem?_eq_none (by rw [Sp.spl_len]; omega)]
theorem sp_at {l : List (Int × Int)} {i : Nat} {x : Int × Int} (h : l[i]? = some x) : spF l i = x.1 ∧ spT l i = x.2 := by
  unfold spF spT
  rw [List.getD_eq_getElem?_getD, h]
  exact ⟨rfl, rfl⟩
theorem rows_to {w : World} {a : Option Addr} {n : Nat} {F T : Nat → Int} (h : Rows2 w a n F T) : Rows2 w a n (spF (spl F T n)) (spT (spl F T n)) :=
  ⟨fun hl => by
    obtain ⟨b, off, rfl, hb, hc⟩ := h.here hl
    exact ⟨b, off, rfl, hb, fun i hi => by
      obtain ⟨e1, e2⟩ := sp_at (Sp.spl_get (F := F) (T := T) hi)
      rw [e1, e2]
      exact hc i hi⟩⟩
/-- a row from its h-th element on -/
theorem rows_drop {w : World} {b off n h : Nat} {F T : Nat → Int} (hr : Rows2 w (some ⟨b, off, none⟩) n F T) (hh : h ≤ n) : Rows2 w (some ⟨b, off + h * 2, none⟩) (n - h) (fun i => F (h + i)) (fun i => T (h + i)) :=
  ⟨fun hl => by
    obtain ⟨b', off', e, hb, hc⟩ := hr.here (by omega)
    injection e with e
    injection e with e1 e2
    subst e1 e2
    exact ⟨b, off + h * 2, rfl, hb, fun i hi => by
      have := hc (h + i) (by omega)
      rw [show off + h * 2 + i * 2 = off + (h + i) * 2 by omega]
      exact this⟩⟩
theorem rows_take {w : World} {a : Option Addr} {n h : Nat} {F T : Nat → Int} (hr : Rows2 w a n F T) (hh : h ≤ n) : Rows2 w a h F T :=
  ⟨fun hl => by
    obtain ⟨b', off', e, hb, hc⟩ := hr.here (by omega)
    exact ⟨b', off', e, hb, fun i hi => hc i (by omega)⟩⟩
theorem spl_two (F T : Nat → Int) {n h : Nat} (hh : h ≤ n) : spl F T n = spl F T h ++ spl (fun i => F (h + i)) (fun i => T (h + i)) (n - h) := by
  apply List.ext_getElem?
  intro i
  by_cases hi : i < h
  · rw [List.getElem?_append_left (by rw [Sp.spl_len]; exact hi), Sp.spl_get (by omega), Sp.spl_get hi]
  · rw [List.getElem?_append_right (by rw [Sp.spl_len]; omega), Sp.spl_len]
    by_cases h2 : i < n
    · rw [Sp.spl_get h2, Sp.spl_get (by omega), show h + (i - h) = i by omega]
    · rw [List.getElem?_eq_none (by rw [Sp.spl_len]; omega), List.getElem?_eq_none (by rw [Sp.spl_len]; omega)]
theorem addr_addN (b off j : Nat) : (⟨b, off, none⟩ : Addr).add j = ⟨b, off + j, none⟩ := by
  unfold Addr.add
  split <;> simp_all
/-- two rows in order, merged -/
def mrg : Nat → List (Int × Int) → List (Int × Int) → List (Int × Int)
  | 0, _, _ => []
  | _ + 1, [], [] => []
  | f + 1, [], y :: b => y :: mrg f [] b
  | f + 1, x :: a, [] => x :: mrg f a []
  | f + 1, x :: a, y :: b => if x.1 ≤ y.1 then x :: mrg f a (y :: b) else y :: mrg f (x :: a) b
theorem mrg_perm : ∀ (f : Nat) (a b : List (Int × Int)), a.length + b.length ≤ f → (mrg f a b).Perm (a ++ b)
  | 0, a, b, h => by
    have e1 : a = [] := List.length_eq_zero_iff.1 (by omega)
    have e2 : b = [] := List.length_eq_zero_iff.1 (by omega)
    subst e1 e2
    exact List.Perm.refl _
  | f + 1, [], [], _ => List.Perm.refl _
  | f + 1, [], y :: b, h => by
    rw [mrg]
    exact (mrg_perm f [] b (by simp at h ⊢; omega)).cons y
  | f + 1, x :: a, [], h => by
    rw [mrg]
    exact (mrg_perm f a [] (by simp at h ⊢; omega)).cons x
  | f + 1, x :: a, y :: b, h => by
    rw [mrg]
    split
    · exact (mrg_perm f a (y :: b) (by simp at h ⊢; omega)).cons x
    · exact ((mrg_perm f (x :: a) b (by simp at h ⊢; omega)).cons y).trans (List.perm_middle.symm)
theorem mrg_sorted : ∀ (f : Nat) (a b : List (Int × Int)), a.length + b.length ≤ f → a.Pairwise (fun x y => x.1 ≤ y.1) → b.Pairwise (fun x y => x.1 ≤ y.1) → (mrg f a b).Pairwise (fun x y => x.1 ≤ y.1)
  | 0, _, _, _, _, _ => List.Pairwise.nil
  | f + 1, [], [], _, _, _ => List.Pairwise.nil
  | f + 1, [], y :: b, h, ha, hb => by
    rw [mrg]
    obtain ⟨b1, b2⟩ := List.pairwise_cons.1 hb
    have hl : ([] : List (Int × Int)).length + b.length ≤ f := by simp at h ⊢; omega
    exact List.Pairwise.cons (fun z hz => b1 z (by simpa using (mrg_perm f [] b hl).mem_iff.1 hz)) (mrg_sorted f [] b hl ha b2)
  | f + 1, x :: a, [], h, ha, hb => by
    rw [mrg]
    obtain ⟨a1, a2⟩ := List.pairwise_cons.1 ha
    have hl : a.length + ([] : List (Int × Int)).length ≤ f := by simp at h ⊢; omega
    exact List.Pairwise.cons (fun z hz => a1 z (by simpa using (mrg_perm f a [] hl).mem_iff.1 hz)) (mrg_sorted f a [] hl a2 hb)
  | f + 1, x :: a, y :: b, h, ha, hb => by
    obtain ⟨a1, a2⟩ := List.pairwise_cons.1 ha
    obtain ⟨b1, b2⟩ := List.pairwise_cons.1 hb
    rw [mrg]
    split
    · rename_i hle
      have hl : a.length + (y :: b).length ≤ f := by simp at h ⊢; omega
      refine List.Pairwise.cons (fun z hz => ?_) (mrg_sorted f a (y :: b) hl a2 hb)
      rcases List.mem_append.1 ((mrg_perm f a (y :: b) hl).mem_iff.1 hz) with g | g
      · exact a1 z g
      · rcases List.mem_cons.1 g with rfl | g
        · exact hle
        · exact Int.le_trans hle (b1 z g)
    · rename_i hle
      have hl : (x :: a).length + b.length ≤ f := by simp at h ⊢; omega
      refine List.Pairwise.cons (fun z hz => ?_) (mrg_sorted f (x :: a) b hl ha b2)
      rcases List.mem_append.1 ((mrg_perm f (x :: a) b hl).mem_iff.1 hz) with g | g
      · rcases List.mem_cons.1 g with rfl | g
        · omega
        · have := a1 z g; omega
      · exact b1 z g
def slLen : Value → Nat
  | .slice _ n _ => n
  | _ => 0
set_option maxRecDepth 100000 in
/-- a row without its first one -/
theorem slice_tail {w : World} {b off m c : Nat} {x : Int × Int} {xs : List (Int × Int)} (hm : xs.length = m) (hc : m + 1 ≤ c) (hr : Rows2 w (some ⟨b, off, none⟩) (m + 1) (spF (x :: xs)) (spT (x :: xs))) :
    Rows2 w (if c = 1 then some ⟨b, off, none⟩ else some ⟨b, off + 2, none⟩) m (spF xs) (spT xs) := by
  split
  · exact ⟨fun h => by omega⟩
  · have := rows_drop (h := 1) hr (by omega)
    rw [Nat.add_sub_cancel] at this
    refine ⟨fun hl => ?_⟩
    obtain ⟨b', off', e, hb, hcl⟩ := this.here hl
    refine ⟨b', off', e, hb, fun i hi => ?_⟩
    have e1 : spF (x :: xs) (1 + i) = spF xs i := by unfold spF; rw [Nat.add_comm]; rfl
    have e2 : spT (x :: xs) (1 + i) = spT xs i := by unfold spT; rw [Nat.add_comm]; rfl
    rw [← e1, ← e2]
    exact hcl i hi
theorem row_head {w : World} {b off m : Nat} {x : Int × Int} {xs : List (Int × Int)} (hr : Rows2 w (some ⟨b, off, none⟩) (m + 1) (spF (x :: xs)) (spT (x :: xs))) : w.cell? ⟨b, off, none⟩ = some (.int .i64 x.1) ∧ w.cell? ⟨b, off + 1, none⟩ = some (.int .i64 x.2) := by
  obtain ⟨b', off', e, hb, hcl⟩ := hr.here (by omega)
  injection e with e
  injection e with e1 e2
  subst e1 e2
  have := hcl 0 (by omega)
  rw [Nat.zero_mul, Nat.add_zero] at this
  exact this
theorem mrg_ends (f : Nat) : mrg f [] [] = [] := by cases f <;> rfl
/-- a row that is read: length, room, cells -/
def InOrd (w' : World) (l : List (Int × Int)) (n : Nat) (v : Value) : Prop := ∃ a c u, v = .slice a n c ∧ n ≤ c ∧ Rows2 w' a n (spF u) (spT u) ∧ u.length = n ∧ u.Perm l ∧ u.Pairwise (fun x y => x.1 ≤ y.1)
theorem InOrd.below {w w' : World} {l : List (Int × Int)} {n : Nat} {v : Value} (h : InOrd w l n v) (hb : Below w.heap.size w w') : InOrd w' l n v := by
  obtain ⟨a, c, u, h1, h2, h3, h4⟩ := h
  exact ⟨a, c, u, h1, h2, h3.below hb (Nat.le_refl _), h4⟩
theorem pair_small {l : List (Int × Int)} (h : l.length < 2) : l.Pairwise (fun x y => x.1 ≤ y.1) := by
  match l, h with
  | [], _ => exact List.Pairwise.nil
  | [x], _ => exact List.pairwise_singleton _ _
set_option maxHeartbeats 4000000 in
set_option maxRecDepth 100000 in
theorem inOrder_any : ∀ (k n : Nat), n ≤ k → ∀ (a : Option Addr) (c : Nat) (F T : Nat → Int) (w : World), Rows2 w a n F T → n ≤ c → n ≤ 1000000 →
    Calls Tryz.prog 45 #[.slice a n c] w fun e w' => (∃ v, e = .returned v ∧ InOrd w' (spl F T n) n v) ∧ Below w.heap.size w w' := by
  intro k
  induction k with
  | zero =>
    intro n hn a c F T w hr hc hm
    obtain rfl : n = 0 := by omega
    go_enter Tryz.func45, Tryz.ntmps45
    go_wp2_with fail
    go_ret
    exact ⟨⟨_, rfl, a, c, _, rfl, hc, rows_to hr, Sp.spl_len _ _ _, List.Perm.refl _, pair_small (by rw [Sp.spl_len]; omega)⟩, Below.refl _ _⟩
  | succ k ih =>
    intro n hn a c F T w hr hc hm
    by_cases hsm : n < 2
    case pos =>
      have t1 : decide ((n : Int) < 2) = true := by rw [decide_eq_true_eq]; omega
      have t1' : decide (n < 2) = true := by simpa using hsm
      have HSM := Lib.hid hsm
      clear hsm
      go_enter Tryz.func45, Tryz.ntmps45
      go_wp2_with fail
      go_ret
      exact ⟨⟨_, rfl, a, c, _, rfl, hc, rows_to hr, Sp.spl_len _ _ _, List.Perm.refl _, pair_small (by rw [Sp.spl_len]; exact HSM.out)⟩, Below.refl _ _⟩
    case neg =>
    have t1 : decide ((n : Int) < 2) = false := by rw [decide_eq_false_iff_not]; omega
    have t1' : decide (n < 2) = false := by simpa using hsm
    obtain ⟨b, off, rfl, hb, hcl⟩ := hr.here (by omega)
    obtain ⟨h, hh⟩ : ∃ h, n / 2 = h := ⟨_, rfl⟩
    have hh1 : h ≤ k := by omega
    have hh2 : n - h ≤ k := by omega
    have hh3 : (n : Int) / 2 = (h : Int) := by omega
    have hh4 : h ≤ n := by omega
    have HD1 := Lib.hid (fun (W : World) (hb : Below w.heap.size w W) => ih h hh1 (some ⟨b, off, none⟩) c F T W ((rows_take hr hh4).below hb (Nat.le_refl _)) (by omega) (by omega))
    have HD2 := Lib.hid (fun (W : World) (hb : Below w.heap.size w W) => ih (n - h) hh2 (some ⟨b, off + h * 2, none⟩) (c - h) (fun i => F (h + i)) (fun i => T (h + i)) W ((rows_drop hr hh4).below hb (Nat.le_refl _)) (by omega) (by omega))
    have HL := Lib.hid (spl_two F T hh4)
    have hel : Tryz.prog.elem 22 = 35 := by kernel_rfl
    have hso := Tryz.sizeOf35
    have hcz : ¬ c = 0 := by omega
    have hch : ¬ c = h := by omega
    have hsl1 : ∀ W : World, (Instr.slice 22 (.slice (some ⟨b, off, none⟩) n c) none (some (.int .i64 (h : Int))) none).run Tryz.prog W = .ok (.slice (some ⟨b, off, none⟩) h c) W := fun W => by
      rw [run_slice_h (w := W) 22 _ n c Tryz.underlying22 .i64 (h : Int) (by omega) (by omega), hel, hso]
      simp [sliced, Result.andThen, hcz]
      rfl
    have hsl2 : ∀ W : World, (Instr.slice 22 (.slice (some ⟨b, off, none⟩) n c) (some (.int .i64 (h : Int))) none none).run Tryz.prog W = .ok (.slice (some ⟨b, off + h * 2, none⟩) (n - h) (c - h)) W := fun W => by
      rw [run_slice_l (w := W) 22 _ n c Tryz.underlying22 .i64 (h : Int) (by omega) (by omega), hel, hso]
      simp [sliced, Result.andThen, hch, addr_addN]
    have hsl3 : ∀ W : World, (Instr.slice 22 (.slice (some ⟨b, off, none⟩) n c) none (some (.int .i64 ((n : Int) / 2))) none).run Tryz.prog W = .ok (.slice (some ⟨b, off, none⟩) h c) W := by rw [hh3]; exact hsl1
    have hsl4 : ∀ W : World, (Instr.slice 22 (.slice (some ⟨b, off, none⟩) n c) (some (.int .i64 ((n : Int) / 2))) none none).run Tryz.prog W = .ok (.slice (some ⟨b, off + h * 2, none⟩) (n - h) (c - h)) W := by rw [hh3]; exact hsl2
    have hwr : IntKind.i64.wrap (h : Int) = (h : Int) := by rw [IntKind.wrap_i64]; omega
    clear ih hr hcl hh
    go_enter Tryz.func45, Tryz.ntmps45
    go_upto_region 3 with fail
    go_cut [3, 4] (fun v1 v2 wx => InOrd wx (spl F T h) h v1 ∧ InOrd wx (spl (fun i => F (h + i)) (fun i => T (h + i)) (n - h)) (n - h) v2 ∧ Below w.heap.size w wx)
    case first =>
      go_region_with (first
        | (go_at_call_of 45 (Value.slice (some ⟨b, off, none⟩) h c); refine (HD1.out _ ?_).mono ?_; exact (Below.refl _ _).drew; rintro e w1 ⟨⟨v1, rfl, h1⟩, hb1⟩)
        | (go_at_call_of 45 (Value.slice (some ⟨b, off + h * 2, none⟩) (n - h) (c - h)); refine (HD2.out _ ?_).mono ?_; exact below_step (Below.refl _ _).drew hb1; rintro e w2 ⟨⟨v2, rfl, h2⟩, hb2⟩))
      go_wp2_with fail
      go_meet
      exact ⟨h1.below hb2, h2, below_step (below_step (Below.refl _ _).drew hb1) hb2⟩
    case rest =>
    obtain ⟨h1, h2, hbx⟩ := hcut
    obtain ⟨aa, ca, ua, rfl, hca, ra, la, pa, sa⟩ := h1
    obtain ⟨ab, cb, ub, rfl, hcb, rb, lb, pb, sb⟩ := h2
    have HFIN := Lib.hid (show (mrg n ua ub).length = n ∧ (mrg n ua ub).Perm (spl F T n) ∧ (mrg n ua ub).Pairwise (fun x y => x.1 ≤ y.1) from by
      have hll : ua.length + ub.length ≤ n := by omega
      have hp := mrg_perm n ua ub hll
      refine ⟨?_, ?_, mrg_sorted n ua ub hll sa sb⟩
      · rw [hp.length_eq, List.length_append]; omega
      · rw [HL.out]
        exact hp.trans (pa.append pb))
    obtain ⟨TT, hTT⟩ : ∃ TT, mrg n ua ub = TT := ⟨_, rfl⟩
    rw [hTT] at HFIN
    have HT := Lib.hid hTT
    have HBX := Lib.hid hbx
    rw [← la] at hca ra
    rw [← lb] at hcb rb
    have HRA := Lib.hid ra
    have HRB := Lib.hid rb
    obtain ⟨i0, hi0, hy0, hy1, hy2⟩ := info_parts (show (Tryz.prog.info? 35).map (fun i => (i.zero, i.size, i.bytes)) = some (some (.agg #[.int .i64 0, .int .i64 0]), 2, 16) by kernel_rfl)
    have HI := Lib.hid (And.intro hi0 (And.intro hy0 (And.intro hy1 hy2)))
    have hnn : ua.length + ub.length = n := by omega
    rw [← lb, ← la]
    clear HD1 HD2 hsl1 hsl2 hsl3 hsl4 hel hso hcz hch hwr ra rb pa pb sa sb hTT hbx hi0 hy0 hy1 hy2 HL hh1 hh2 hh3 hh4 la lb t1 t1' hn hc hb
    go_wp2_with fail
    go_loopw [3, 4, 5] (fun av bv ov wr => ∃ (xs ys out : List (Int × Int)) (f : Nat) (aA aB : Option Addr) (cA cB : Nat), av = .slice aA xs.length cA ∧ bv = .slice aB ys.length cB ∧ xs.length ≤ cA ∧ ys.length ≤ cB ∧ xs.length + ys.length ≤ f ∧ out.length + (xs.length + ys.length) = n ∧ Hid (Rows2 wc aA xs.length (spF xs) (spT xs)) ∧ Hid (Rows2 wc aB ys.length (spF ys) (spT ys)) ∧ Hid (Below wc.heap.size wc wr) ∧ Hid (SpOwn wr wc.heap.size ov out) ∧ Hid (out ++ mrg f xs ys = TT)) (fun av bv _ _ => slLen av + slLen bv)
    case atStart => exact ⟨ua, ub, [], n, aa, ab, ca, cb, rfl, rfl, hca, hcb, by omega, by simp; omega, HRA, HRB, Lib.hid (Below.refl _ _), Lib.hid (SpOwn.nil _ _), HT⟩
    case round =>
      obtain ⟨xs, ys, out, f, aA, aB, cA, cB, rfl, rfl, hcA, hcB, hf, hon, RA, RB, HB, HO, HC⟩ := hrel
      clear HRA HRB HT
      have HNN := Lib.hid hnn
      clear hnn
      have hsz := HB.out.size
      obtain ⟨vo, hvo⟩ : ∃ v, u5 = v := ⟨_, rfl⟩
      rw [hvo] at HO ⊢
      clear hvo
      cases xs with
      | nil =>
        cases ys with
        | nil =>
          have HX := Lib.hid (show out = TT by have := HC.out; rwa [mrg_ends, List.append_nil] at this)
          have hol : out.length = n := by simp at hon; omega
          have hsm2 : out.length ≤ 1000000 := by omega
          obtain ⟨ao, co, hvo, hco, hro, _⟩ := HO.out.rows
          subst hvo
          have HRO := Lib.hid hro
          clear hro HO HC RA RB
          go_wp2_with fail
          go_ret
          refine ⟨⟨_, rfl, ao, co, out, by rw [hol]; rfl, by omega, by rw [← hol]; exact HRO.out, hol, by rw [HX.out]; exact HFIN.out.2.1, by rw [HX.out]; exact HFIN.out.2.2⟩, HBX.out.trans (HB.out.mono HBX.out.size)⟩
        | cons y ys =>
          obtain ⟨mB, hmB⟩ : ∃ m, ys.length = m := ⟨_, rfl⟩
          rw [List.length_cons, hmB] at hcB hf hon RB ⊢
          have HmB := Lib.hid hmB
          obtain ⟨bB, oB, eB, _, _⟩ := RB.out.here (by omega)
          subst eB
          have tB1 : ((((mB + 1 : Nat)) : Int) == 0) = false := by rw [beq_eq_false_iff_ne]; omega
          have tB2 : ((mB : Int) + 1 == 0) = false := by rw [beq_eq_false_iff_ne]; omega
          have tB3 : decide ((0 : Int) < (mB : Int) + 1) = true := by rw [decide_eq_true_eq]; omega
          have tB4 : decide ((0 : Int) < (((mB + 1 : Nat)) : Int)) = true := by rw [decide_eq_true_eq]; omega
          obtain ⟨f, rfl⟩ : ∃ f', f = f' + 1 := ⟨f - 1, by omega⟩
          have HC2 : Hid ((out ++ [y]) ++ mrg f [] ys = TT) := Lib.hid (by have := HC.out; rw [mrg] at this; rw [List.append_assoc]; exact this)
          clear HC
          have hrN := slice_tail (c := cB) (x := y) (xs := ys) HmB.out (by omega) RB.out
          have HRN := Lib.hid hrN
          obtain ⟨c0, c1⟩ := row_head RB.out
          have c0 := below_cell HB.out c0
          have c1 := below_cell HB.out c1
          obtain ⟨xf, xt⟩ := y
          simp only at c0 c1 HC2
          have HON := Lib.hid hon
          have hob : out.length ≤ 1000000 := by omega
          clear hrN hon  hmB
          obtain ⟨j1, j2, j3, j4⟩ := HI.out
          have ho := HO.out
          go_wp2_with fail
          go_quiet (fail)
          have HB := Lib.hid (below_drewN HB.out nq)
          have c0 := below_cell (below_drewN (Below.refl wr.heap.size wr) nq) c0
          have c1 := below_cell (below_drewN (Below.refl wr.heap.size wr) nq) c1
          have ho := ho.below (below_drewN (Below.refl wr.heap.size wr) nq)
          generalize wr.drewN nq = W at HB c0 c1 ho ⊢
          go_wp2_with (first
            | (at_builtin; go_loud (
               refine wpList_append_own _ rfl _ _ 22 rfl wc.heap.size 35 i0 (.agg #[.int .i64 0, .int .i64 0]) 2 16 Tryz.underlying22 j1 j2 j3 j4 rfl (by decide) vo out.length (out.flatMap spC) rfl (ho.alloc _) ⟨W.heap.size, 0, none⟩ 1 1 [.int .i64 xf, .int .i64 xt] rfl rfl (fun j u hj => by rw [addr_add0]; exact cell_new j u (by simpa using hj)) (fun u hu => by simp only [List.mem_cons, List.not_mem_nil, or_false] at hu; rcases hu with rfl | rfl <;> rfl) (by unfold maxLen; omega) (by omega) (by have := HB.out.size; simp; omega) ?_
               intro v' w3 hown' hgrow _
               have HO3 := Lib.hid (SpOwn.snoc (l := out) (x := (xf, xt)) hown')
               have HB3 := Lib.hid ((HB.out.alloc HB.out.size _).grown hgrow (by have := HB.out.size; simp; omega) (fun b hb => by have := ho.lt b hb; omega))
               clear hown' hgrow))
            | fail)
          go_roundw
          case rel => exact ⟨[], ys, out ++ [(xf, xt)], f, aA, (if cB = 1 then some ⟨bB, oB, none⟩ else some ⟨bB, oB + 2, none⟩), cA, cB - 1, by rfl, by rw [HmB.out], by simp, by rw [HmB.out]; omega, by rw [HmB.out]; simp at hf ⊢; omega, by have := HON.out; have := HmB.out; simp at *; omega, RA, Lib.hid (by rw [HmB.out]; exact HRN.out), HB3, HO3, HC2⟩
          case measure => simp [slLen]
      | cons x xs =>
        obtain ⟨mA, hmA⟩ : ∃ m, xs.length = m := ⟨_, rfl⟩
        rw [List.length_cons, hmA] at hcA hf hon RA ⊢
        have HmA := Lib.hid hmA
        obtain ⟨bA, oA, eA, _, _⟩ := RA.out.here (by omega)
        subst eA
        have tA1 : ((((mA + 1 : Nat)) : Int) == 0) = false := by rw [beq_eq_false_iff_ne]; omega
        have tA2 : ((mA : Int) + 1 == 0) = false := by rw [beq_eq_false_iff_ne]; omega
        have tA3 : decide ((0 : Int) < (mA : Int) + 1) = true := by rw [decide_eq_true_eq]; omega
        have tA4 : decide ((0 : Int) < (((mA + 1 : Nat)) : Int)) = true := by rw [decide_eq_true_eq]; omega
        cases ys with
        | nil =>
          obtain ⟨f, rfl⟩ : ∃ f', f = f' + 1 := ⟨f - 1, by omega⟩
          have HC2 : Hid ((out ++ [x]) ++ mrg f xs [] = TT) := Lib.hid (by have := HC.out; rw [mrg] at this; rw [List.append_assoc]; exact this)
          clear HC
          have hrN := slice_tail (c := cA) (x := x) (xs := xs) HmA.out (by omega) RA.out
          have HRN := Lib.hid hrN
          obtain ⟨c0, c1⟩ := row_head RA.out
          have c0 := below_cell HB.out c0
          have c1 := below_cell HB.out c1
          obtain ⟨xf, xt⟩ := x
          simp only at c0 c1 HC2
          have HON := Lib.hid hon
          have hob : out.length ≤ 1000000 := by omega
          clear hrN hon hmA 
          obtain ⟨j1, j2, j3, j4⟩ := HI.out
          have ho := HO.out
          go_wp2_with fail
          go_quiet (fail)
          have HB := Lib.hid (below_drewN HB.out nq)
          have c0 := below_cell (below_drewN (Below.refl wr.heap.size wr) nq) c0
          have c1 := below_cell (below_drewN (Below.refl wr.heap.size wr) nq) c1
          have ho := ho.below (below_drewN (Below.refl wr.heap.size wr) nq)
          generalize wr.drewN nq = W at HB c0 c1 ho ⊢
          go_wp2_with (first
            | (at_builtin; go_loud (
               refine wpList_append_own _ rfl _ _ 22 rfl wc.heap.size 35 i0 (.agg #[.int .i64 0, .int .i64 0]) 2 16 Tryz.underlying22 j1 j2 j3 j4 rfl (by decide) vo out.length (out.flatMap spC) rfl (ho.alloc _) ⟨W.heap.size, 0, none⟩ 1 1 [.int .i64 xf, .int .i64 xt] rfl rfl (fun j u hj => by rw [addr_add0]; exact cell_new j u (by simpa using hj)) (fun u hu => by simp only [List.mem_cons, List.not_mem_nil, or_false] at hu; rcases hu with rfl | rfl <;> rfl) (by unfold maxLen; omega) (by omega) (by have := HB.out.size; simp; omega) ?_
               intro v' w3 hown' hgrow _
               have HO3 := Lib.hid (SpOwn.snoc (l := out) (x := (xf, xt)) hown')
               have HB3 := Lib.hid ((HB.out.alloc HB.out.size _).grown hgrow (by have := HB.out.size; simp; omega) (fun b hb => by have := ho.lt b hb; omega))
               clear hown' hgrow))
            | fail)
          go_roundw
          case rel => exact ⟨xs, [], out ++ [(xf, xt)], f, (if cA = 1 then some ⟨bA, oA, none⟩ else some ⟨bA, oA + 2, none⟩), aB, cA - 1, cB, by rw [HmA.out], by rfl, by rw [HmA.out]; omega, by simp, by rw [HmA.out]; simp at hf ⊢; omega, by have := HON.out; have := HmA.out; simp at this ⊢; simp at *; omega, Lib.hid (by rw [HmA.out]; exact HRN.out), RB, HB3, HO3, HC2⟩
          case measure => simp [slLen]
        | cons y ys =>
          obtain ⟨mB, hmB⟩ : ∃ m, ys.length = m := ⟨_, rfl⟩
          rw [List.length_cons, hmB] at hcB hf hon RB ⊢
          have HmB := Lib.hid hmB
          obtain ⟨bB, oB, eB, _, _⟩ := RB.out.here (by omega)
          subst eB
          have tB1 : ((((mB + 1 : Nat)) : Int) == 0) = false := by rw [beq_eq_false_iff_ne]; omega
          have tB2 : ((mB : Int) + 1 == 0) = false := by rw [beq_eq_false_iff_ne]; omega
          have tB3 : decide ((0 : Int) < (mB : Int) + 1) = true := by rw [decide_eq_true_eq]; omega
          have tB4 : decide ((0 : Int) < (((mB + 1 : Nat)) : Int)) = true := by rw [decide_eq_true_eq]; omega
          obtain ⟨f, rfl⟩ : ∃ f', f = f' + 1 := ⟨f - 1, by omega⟩
          have hcc := HC.out
          rw [mrg] at hcc
          by_cases hle : x.1 ≤ y.1
          case pos =>
            rw [if_pos hle] at hcc
            have HC2 : Hid ((out ++ [x]) ++ mrg f xs (y :: ys) = TT) := Lib.hid (by rw [List.append_assoc]; exact hcc)
            clear hcc HC
            have hrN := slice_tail (c := cA) (x := x) (xs := xs) HmA.out (by omega) RA.out
            have HRN := Lib.hid hrN
            obtain ⟨c0, c1⟩ := row_head RA.out
            have c0 := below_cell HB.out c0
            have c1 := below_cell HB.out c1
            obtain ⟨xf, xt⟩ := x
            simp only at c0 c1 HC2
            have HON := Lib.hid hon
            have hob : out.length ≤ 1000000 := by omega
            clear hrN hon hmA hmB
            obtain ⟨j1, j2, j3, j4⟩ := HI.out
            have ho := HO.out
            have d0 := below_cell HB.out (row_head RB.out).1
            obtain ⟨yf, yt⟩ := y
            simp only at d0 hle HC2
            have t4 : decide (xf ≤ yf) = true := by simpa using hle
            clear hle
            go_wp2_with fail
            go_quiet (fail)
            have HB := Lib.hid (below_drewN HB.out nq)
            have c0 := below_cell (below_drewN (Below.refl wr.heap.size wr) nq) c0
            have c1 := below_cell (below_drewN (Below.refl wr.heap.size wr) nq) c1
            have ho := ho.below (below_drewN (Below.refl wr.heap.size wr) nq)
            generalize wr.drewN nq = W at HB c0 c1 ho ⊢
            go_wp2_with (first
              | (at_builtin; go_loud (
                 refine wpList_append_own _ rfl _ _ 22 rfl wc.heap.size 35 i0 (.agg #[.int .i64 0, .int .i64 0]) 2 16 Tryz.underlying22 j1 j2 j3 j4 rfl (by decide) vo out.length (out.flatMap spC) rfl (ho.alloc _) ⟨W.heap.size, 0, none⟩ 1 1 [.int .i64 xf, .int .i64 xt] rfl rfl (fun j u hj => by rw [addr_add0]; exact cell_new j u (by simpa using hj)) (fun u hu => by simp only [List.mem_cons, List.not_mem_nil, or_false] at hu; rcases hu with rfl | rfl <;> rfl) (by unfold maxLen; omega) (by omega) (by have := HB.out.size; simp; omega) ?_
                 intro v' w3 hown' hgrow _
                 have HO3 := Lib.hid (SpOwn.snoc (l := out) (x := (xf, xt)) hown')
                 have HB3 := Lib.hid ((HB.out.alloc HB.out.size _).grown hgrow (by have := HB.out.size; simp; omega) (fun b hb => by have := ho.lt b hb; omega))
                 clear hown' hgrow))
              | fail)
            go_roundw
            case rel => exact ⟨xs, (yf, yt) :: ys, out ++ [(xf, xt)], f, (if cA = 1 then some ⟨bA, oA, none⟩ else some ⟨bA, oA + 2, none⟩), some ⟨bB, oB, none⟩, cA - 1, cB, by rw [HmA.out], by rw [List.length_cons, HmB.out], by rw [HmA.out]; omega, by rw [List.length_cons, HmB.out]; omega, by rw [List.length_cons, HmA.out, HmB.out]; omega, by have := HON.out; have := HmA.out; simp at this ⊢; have := HmB.out; simp at *; omega, Lib.hid (by rw [HmA.out]; exact HRN.out), Lib.hid (by rw [List.length_cons, HmB.out]; exact RB.out), HB3, HO3, HC2⟩
            case measure => simp [slLen]
          case neg =>
            rw [if_neg hle] at hcc
            have HC2 : Hid ((out ++ [y]) ++ mrg f (x :: xs) ys = TT) := Lib.hid (by rw [List.append_assoc]; exact hcc)
            clear hcc HC
            have hrN := slice_tail (c := cB) (x := y) (xs := ys) HmB.out (by omega) RB.out
            have HRN := Lib.hid hrN
            obtain ⟨c0, c1⟩ := row_head RB.out
            have c0 := below_cell HB.out c0
            have c1 := below_cell HB.out c1
            obtain ⟨xf, xt⟩ := y
            simp only at c0 c1 HC2
            have HON := Lib.hid hon
            have hob : out.length ≤ 1000000 := by omega
            clear hrN hon hmA hmB
            obtain ⟨j1, j2, j3, j4⟩ := HI.out
            have ho := HO.out
            have d0 := below_cell HB.out (row_head RA.out).1
            obtain ⟨yf, yt⟩ := x
            simp only at d0 hle HC2
            have t4 : decide (yf ≤ xf) = false := by simpa using hle
            clear hle
            go_wp2_with fail
            go_quiet (fail)
            have HB := Lib.hid (below_drewN HB.out nq)
            have c0 := below_cell (below_drewN (Below.refl wr.heap.size wr) nq) c0
            have c1 := below_cell (below_drewN (Below.refl wr.heap.size wr) nq) c1
            have ho := ho.below (below_drewN (Below.refl wr.heap.size wr) nq)
            generalize wr.drewN nq = W at HB c0 c1 ho ⊢
            go_wp2_with (first
              | (at_builtin; go_loud (
                 refine wpList_append_own _ rfl _ _ 22 rfl wc.heap.size 35 i0 (.agg #[.int .i64 0, .int .i64 0]) 2 16 Tryz.underlying22 j1 j2 j3 j4 rfl (by decide) vo out.length (out.flatMap spC) rfl (ho.alloc _) ⟨W.heap.size, 0, none⟩ 1 1 [.int .i64 xf, .int .i64 xt] rfl rfl (fun j u hj => by rw [addr_add0]; exact cell_new j u (by simpa using hj)) (fun u hu => by simp only [List.mem_cons, List.not_mem_nil, or_false] at hu; rcases hu with rfl | rfl <;> rfl) (by unfold maxLen; omega) (by omega) (by have := HB.out.size; simp; omega) ?_
                 intro v' w3 hown' hgrow _
                 have HO3 := Lib.hid (SpOwn.snoc (l := out) (x := (xf, xt)) hown')
                 have HB3 := Lib.hid ((HB.out.alloc HB.out.size _).grown hgrow (by have := HB.out.size; simp; omega) (fun b hb => by have := ho.lt b hb; omega))
                 clear hown' hgrow))
              | fail)
            go_roundw
            case rel => exact ⟨(yf, yt) :: xs, ys, out ++ [(xf, xt)], f, some ⟨bA, oA, none⟩, (if cB = 1 then some ⟨bB, oB, none⟩ else some ⟨bB, oB + 2, none⟩), cA, cB - 1, by rw [List.length_cons, HmA.out], by rw [HmB.out], by rw [List.length_cons, HmA.out]; omega, by rw [HmB.out]; omega, by rw [List.length_cons, HmA.out, HmB.out]; omega, by have := HON.out; have := HmB.out; have := HmA.out; simp at *; omega, Lib.hid (by rw [List.length_cons, HmA.out]; exact RA.out), Lib.hid (by rw [HmB.out]; exact HRN.out), HB3, HO3, HC2⟩
            case measure => simp [slLen]
end Go.Proofs.YtaghhndcimjjgaaGreatDoor

/- Sets: ReadSpans of the reference. (printed by wip/gen_ez.py) -/
namespace Go.Proofs.YtaghhndcimjjgaaGreatDoor
open Go.RowKit Go.BigFrame
open Sp (chkS spl mem Norm joinStep joinAll)
open Rd (numS rd1 rdAll rdStart mostL wrongL nfL readR begAt)

def numTk : Rd.Tok := Rd.numT 0 9999999999999 13
theorem runNumS (s : ByteArray) (p : Nat) : Rd.runT s numTk p = ((numS s p).2.2, (numS s p).1, Rd.numOk 0 true (numS s p)) := by
  unfold Rd.runT numTk Rd.numT numS
  simp
theorem numR_any (s : ByteArray) (p : Nat) (hs : s.size ≤ 1000000) (hp : p ≤ s.size) (w : World) (hg : Glo w) :
    Calls Tryz.prog 44 #[.agg #[.int .i64 2, .string ⟨#[]⟩, .int .i64 0, .int .i64 9999999999999, .int .i64 13], .string s, .int .i64 p] w fun e w' => (∃ v : Int, e = .returned (.tuple #[.int .i64 (numS s p).2.2, .int .i64 v, .bool (Rd.numOk 0 true (numS s p))]) ∧ (Rd.numOk 0 true (numS s p) = true → v = (numS s p).1)) ∧ Below w.heap.size w w' := by
  refine (run_any numTk (Or.inr (Or.inl ⟨rfl, Or.inl rfl, by show (0 : Int) ≤ 9999999999999; omega, by show (9999999999999 : Int) ≤ 9999999999999; omega, by show 13 ≤ 13; omega⟩)) s p hs hp w hg).mono ?_
  rintro e w' ⟨v, h1, h2, h3⟩
  rw [runNumS] at h1 h2
  exact ⟨⟨v, h1, h2⟩, h3⟩
theorem rdAll_len (s : ByteArray) : ∀ (f p : Nat) (l : List (Int × Int)), p ≤ s.size → l.length ≤ p → (rdAll s f p l).1.length ≤ s.size + 1
  | 0, p, l, hp, hl => by show l.length ≤ _; omega
  | f + 1, p, l, hp, hl => by
    have h1 := Rd.rd1_place (s := s) hp
    rw [rdAll]
    split
    · rename_i hc
      have h2 := (Rd.begAt_true hc.2).2.1
      exact rdAll_len s f _ _ (by omega) (by rw [List.length_append, List.length_singleton]; omega)
    · show (l ++ [(rd1 s p).1]).length ≤ _
      rw [List.length_append, List.length_singleton]
      omega
set_option maxHeartbeats 8000000 in
set_option maxRecDepth 100000 in
theorem rReadSpans_any (s : ByteArray) (w : World) (hs : s.size ≤ 9223372036854775807) (hg : Glo w) : Calls Tryz.prog 25 #[.string s] w (ReadRet s w) := by
  unfold ReadRet
  by_cases hbig : 40000 < s.size
  case pos =>
    rw [readR_big hbig]
    have t1 : decide ((40000 : Int) < (s.size : Int)) = true := by rw [decide_eq_true_eq]; omega
    have t1' : decide (40000 < s.size) = true := by simpa using hbig
    clear hbig
    go_enter Tryz.func25, Tryz.ntmps25
    go_wp2_with fail
    go_ret3
    exact ⟨⟨_, rfl, SpOwn.nil _ _⟩, Below.refl _ _⟩
  case neg =>
  have t1 : decide ((40000 : Int) < (s.size : Int)) = false := by rw [decide_eq_false_iff_not]; omega
  have t1' : decide (40000 < s.size) = false := by simpa using hbig
  have HBIG := Lib.hid hbig
  have hs4 : s.size ≤ 40000 := by omega
  clear hbig hs
  obtain ⟨⟨RL, rp, rok⟩, hR⟩ : ∃ R, rdStart s = R := ⟨_, rfl⟩
  have HRS := Lib.hid hR
  have HVALS := Lib.hid (show ∀ x, x ∈ RL → (0 ≤ x.1 ∧ x.1 ≤ 9999999999999) ∧ 0 ≤ x.2 ∧ x.2 ≤ 9999999999999 from by have := start_vals s; rw [hR] at this; exact this)
  obtain ⟨i0, hi0, hy0, hy1, hy2⟩ := info_parts (show (Tryz.prog.info? 35).map (fun i => (i.zero, i.size, i.bytes)) = some (some (.agg #[.int .i64 0, .int .i64 0]), 2, 16) by kernel_rfl)
  have HI := Lib.hid (And.intro hi0 (And.intro hy0 (And.intro hy1 hy2)))
  have DN := Lib.hid (fun (W : World) (_ : Below w.heap.size w W) => (show Calls Tryz.prog 43 #[.int .i64 0, .int .i64 9999999999999, .int .i64 13] W fun e w' => e = .returned (.agg #[.int .i64 2, .string ⟨#[]⟩, .int .i64 0, .int .i64 9999999999999, .int .i64 13]) ∧ Below W.heap.size W w' from num_any 0 9999999999999 13 W))
  have DR := Lib.hid (fun (p : Nat) (hp : p ≤ s.size) (W : World) (hb : Below w.heap.size w W) => numR_any s p (by omega) hp W (hg.below hb))
  obtain ⟨tz, htz⟩ : ∃ b, decide (s.size = 0) = b := ⟨_, rfl⟩
  have hz1 : (s.toList == []) = tz := by
    rw [← htz, ByteArray.toList_eq, Bool.eq_iff_iff, beq_iff_eq, decide_eq_true_eq]
    exact ⟨fun h => by have := congrArg List.length h; simpa using this, fun h => List.length_eq_zero_iff.1 (by simpa using h)⟩
  have HTZ := Lib.hid htz
  clear hR hi0 hy0 hy1 hy2 htz hg
  go_enter Tryz.func25, Tryz.ntmps25
  go_wp2_with fail
  refine (DN.out _ (Below.refl _ _)).mono ?_
  rintro e w0 ⟨rfl, hb0⟩
  have HB0 := Lib.hid hb0
  clear hb0 DN
  go_upto_region 5 with fail
  obtain ⟨w1, hV1, hbV1, hsV1, hcV1⟩ := alloc_cells w0 #[.int .i64 2, .string ⟨#[]⟩, .int .i64 0, .int .i64 9999999999999, .int .i64 13] 71
  rw [hV1]
  have HB1 := Lib.hid (below_step HB0.out hbV1)
  have HCT := Lib.hid hcV1
  obtain ⟨qt, hqt⟩ : ∃ x, w0.heap.size = x := ⟨_, rfl⟩
  rw [hqt] at HCT ⊢
  clear hV1 hbV1 hsV1 hcV1 hqt HB0
  go_cut [5, 7] (fun v iv wx => v = .slice none 0 0 ∧ iv = .int .i64 0 ∧ wx = w1)
  case first =>
    go_wp2_with fail
    go_meet
    exact ⟨rfl, rfl, rfl⟩
  case rest =>
  obtain ⟨rfl, rfl, hwc⟩ := hcut
  rw [hwc]
  clear hwc
  refine ‹∀ (a : Act) (w : World), Code.wp _ _ _ a w → _› _ _ ?_
  go_cut [5] (fun v wx => Hid (Below w1.heap.size w1 wx) ∧ Hid (SpOwn wx w1.heap.size v RL) ∧ Hid (rok = true))
  case first =>
    go_wp2_with fail
    go_loopw [5, 7] (fun v iv wr => ∃ (l : List (Int × Int)) (p f : Nat), iv = .int .i64 p ∧ p ≤ s.size ∧ l.length ≤ p ∧ s.size < p + f ∧ Hid (tz = false → rdAll s f p l = (RL, rp, rok)) ∧ Hid (tz = true → l = []) ∧ Hid (Below w1.heap.size w1 wr) ∧ Hid (SpOwn wr w1.heap.size v l)) (fun _ iv _ => s.size + 1 - (intOf iv).toNat)
    case atStart => exact ⟨[], 0, s.size + 1, rfl, by omega, by simp, by omega, Lib.hid (fun h => by
      have h2 : ¬ s.size = 0 := by have := HTZ.out; rw [h] at this; simpa using this
      rw [← HRS.out]; unfold rdStart; rw [if_neg h2]), Lib.hid (fun _ => rfl), Lib.hid (Below.refl _ _), Lib.hid (SpOwn.nil _ _)⟩
    case round =>
      obtain ⟨l, p, f, rfl, hp, hl, hf, HK, HK2, HB, HO⟩ := hrel
      have hsz := HB.out.size
      cases tz
      case true =>
        have HF := Lib.hid (show RL = l ∧ rok = true by
          have h2 : s.size = 0 := by have := HTZ.out; simpa using this
          have h3 := HRS.out
          unfold rdStart at h3
          rw [if_pos h2] at h3
          simp only [Prod.mk.injEq] at h3
          exact ⟨by rw [HK2.out rfl, h3.1], h3.2.2.symm⟩)
        clear HTZ HK HK2
        go_wp2_with fail
        go_meet
        exact ⟨HB, Lib.hid (by rw [HF.out.1]; exact HO.out), Lib.hid HF.out.2⟩
      case false =>
      have hrd := HK.out rfl
      have c0 := below_cell HB.out (HCT.out 0 _ rfl)
      have c1 := below_cell HB.out (HCT.out 1 _ rfl)
      have c2 := below_cell HB.out (HCT.out 2 _ rfl)
      have c3 := below_cell HB.out (HCT.out 3 _ rfl)
      have c4 := below_cell HB.out (HCT.out 4 _ rfl)
      obtain ⟨f, rfl⟩ : ∃ f', f = f' + 1 := ⟨f - 1, by omega⟩
      obtain ⟨⟨xn, xk, xp⟩, hx⟩ : ∃ x, numS s p = x := ⟨_, rfl⟩
      have hxv := Rd.num_val s p
      have hxg := Rd.num_ge s p
      have hxi := Rd.num_in hp
      have hN := DR.out p hp wr (HB1.out.trans (HB.out.mono HB1.out.size))
      rw [hx] at hxv hxg hxi hN
      simp only at hxv hxg hxi hN
      obtain ⟨hx0, hx1⟩ := hxv
      obtain ⟨k1, hk1⟩ : ∃ k, Rd.numOk 0 true (xn, xk, xp) = k := ⟨_, rfl⟩
      rw [hk1] at hN
      have D1 := Lib.hid hN
      have HX1 := Lib.hid hx
      rw [rdAll] at hrd
      have HC := Lib.hid hrd
      clear hrd HK HK2 hx hN HTZ
      go_wp2_with fail
      refine D1.out.mono ?_
      rintro e w2 ⟨⟨v2, rfl, hv2⟩, hb2⟩
      have HB2 := Lib.hid (below_step HB.out hb2)
      have HO2 := Lib.hid (HO.out.below hb2)
      clear hb2 D1 HB HO c0 c1 c2 c3 c4 hsz
      cases k1
      case false =>
        have HR := Lib.hid (show rp = xp ∧ rok = false by
          have hr1 : rd1 s p = ((xn, xn), xp, false) := by unfold rd1; rw [HX1.out]; simp only; rw [hk1, if_neg (by simp)]
          have := HC.out
          rw [hr1] at this
          simp only at this
          rw [if_neg (by simp)] at this
          simp only [Prod.mk.injEq] at this
          exact ⟨this.2.1.symm, this.2.2.symm⟩)
        have HRR := Lib.hid (readR_bad HBIG.out (by rw [HRS.out]; exact HR.out.2))
        clear hv2 hk1
        go_wp2_with fail
        go_ret3
        rw [HRR.out, HRS.out]
        show (∃ v, _ = Ending.returned (.tuple #[v, .int .i64 (rp : Int), .int .i64 6]) ∧ SpOwn _ _ v []) ∧ _
        rw [HR.out.1]
        exact ⟨⟨_, rfl, SpOwn.nil _ _⟩, HB1.out.trans (HB2.out.mono HB1.out.size)⟩
      case true =>
      rw [hv2 rfl]
      clear hv2
      by_cases hlt : xp < s.size
      case neg =>
        have t3 : decide ((xp : Int) < (s.size : Int)) = false := by rw [decide_eq_false_iff_not]; omega
        have t3' : decide (xp < s.size) = false := by simpa using hlt
        have HR1 := Lib.hid (show rd1 s p = ((xn, xn), xp, true) by
          unfold rd1; rw [HX1.out]; simp only; rw [hk1, if_pos rfl, if_neg (by unfold begAt; simp [hlt])])
        clear HX1 hk1
        have hcc := HC.out
        rw [HR1.out] at hcc
        simp only at hcc
        clear HC HR1
        obtain ⟨j1, j2, j3, j4⟩ := HI.out
        have ho := HO2.out
        have hsW := HB2.out.size
        have tE : (((xp : Nat) : Int) == (s.size : Int)) = true := by rw [beq_iff_eq]; omega
        have HR := Lib.hid (show RL = l ++ [(xn, xn)] ∧ rok = true by
          rw [if_neg (by unfold begAt; simp; omega)] at hcc
          simp only [Prod.mk.injEq] at hcc
          exact ⟨hcc.1.symm, by rw [← hcc.2.2]; simp; omega⟩)
        clear hcc
        go_wp2_with (first
          | (at_builtin; go_loud (
             refine wpList_append_own _ rfl _ _ 22 rfl w1.heap.size 35 i0 (.agg #[.int .i64 0, .int .i64 0]) 2 16 Tryz.underlying22 j1 j2 j3 j4 rfl (by decide) u5 l.length (l.flatMap spC) rfl (ho.alloc _) ⟨w2.heap.size, 0, none⟩ 1 1 [.int .i64 xn, .int .i64 xn] rfl rfl (fun j u hj => by rw [addr_add0]; exact cell_new j u (by simpa using hj)) (fun u hu => by simp only [List.mem_cons, List.not_mem_nil, or_false] at hu; rcases hu with rfl | rfl <;> rfl) (by unfold maxLen; omega) (by omega) (by simp; omega) ?_
             intro v' w8 hown' hgrow _
             have HO8 := Lib.hid (SpOwn.snoc (l := l) (x := (xn, xn)) hown')
             have HB8 := Lib.hid ((HB2.out.alloc hsW _).grown hgrow (by simp; omega) (fun b hb => by have := ho.lt b hb; omega))
             clear hown' hgrow))
          | fail)
        go_meet
        exact ⟨HB8, Lib.hid (by rw [HR.out.1]; exact HO8.out), Lib.hid HR.out.2⟩
      case pos =>
      have t3 : decide ((xp : Int) < (s.size : Int)) = true := by rw [decide_eq_true_eq]; omega
      have t3' : decide (xp < s.size) = true := by simpa using hlt
      by_cases hc45 : (s[xp]'hlt).toNat = 45
      case neg =>
        have e45 : (((s[xp]'hlt).toNat : Int) == 45) = false := by rw [beq_eq_false_iff_ne]; omega
        have HR1 := Lib.hid (show rd1 s p = ((xn, xn), xp, true) by
          unfold rd1; rw [HX1.out]; simp only; rw [hk1, if_pos rfl, if_neg (by unfold begAt; rw [Rd.byte_lt hlt]; simp; omega)])
        clear HX1 hk1 hc45
        have hcc := HC.out
        rw [HR1.out] at hcc
        simp only at hcc
        clear HC HR1
        obtain ⟨j1, j2, j3, j4⟩ := HI.out
        have ho := HO2.out
        have hsW := HB2.out.size
        by_cases hc44 : (s[xp]'hlt).toNat = 44
        case pos =>
          have tE : (((xp : Nat) : Int) == (s.size : Int)) = false := by rw [beq_eq_false_iff_ne]; omega
          have HR := Lib.hid (show rdAll s f (xp + 1) (l ++ [(xn, xn)]) = (RL, rp, rok) by
            rwa [if_pos (by unfold begAt; rw [Rd.byte_lt hlt]; simp [hlt, hc44])] at hcc)
          have e44 : (((s[xp]'hlt).toNat : Int) != 44) = false := by rw [hc44]; rfl
          clear hcc hc44
          go_wp2_with (first
            | (at_builtin; go_loud (
               refine wpList_append_own _ rfl _ _ 22 rfl w1.heap.size 35 i0 (.agg #[.int .i64 0, .int .i64 0]) 2 16 Tryz.underlying22 j1 j2 j3 j4 rfl (by decide) u5 l.length (l.flatMap spC) rfl (ho.alloc _) ⟨w2.heap.size, 0, none⟩ 1 1 [.int .i64 xn, .int .i64 xn] rfl rfl (fun j u hj => by rw [addr_add0]; exact cell_new j u (by simpa using hj)) (fun u hu => by simp only [List.mem_cons, List.not_mem_nil, or_false] at hu; rcases hu with rfl | rfl <;> rfl) (by unfold maxLen; omega) (by omega) (by simp; omega) ?_
               intro v' w8 hown' hgrow _
               have HO8 := Lib.hid (SpOwn.snoc (l := l) (x := (xn, xn)) hown')
               have HB8 := Lib.hid ((HB2.out.alloc hsW _).grown hgrow (by simp; omega) (fun b hb => by have := ho.lt b hb; omega))
               clear hown' hgrow))
            | fail)
          go_roundw
          case rel => exact ⟨l ++ [(xn, xn)], xp + 1, f, by go_num, by omega, by simp; omega, by omega, Lib.hid (fun _ => HR.out), Lib.hid (fun h => by cases h), HB8, HO8⟩
          case measure => simp [intOf]; omega
        case neg =>
          have tE : (((xp : Nat) : Int) == (s.size : Int)) = false := by rw [beq_eq_false_iff_ne]; omega
          have HR := Lib.hid (show rp = xp ∧ rok = false by
            rw [if_neg (by unfold begAt; rw [Rd.byte_lt hlt]; simp; omega)] at hcc
            simp only [Prod.mk.injEq] at hcc
            exact ⟨hcc.2.1.symm, by rw [← hcc.2.2]; simp; omega⟩)
          have HRR := Lib.hid (readR_bad HBIG.out (by rw [HRS.out]; exact HR.out.2))
          have e44 : (((s[xp]'hlt).toNat : Int) != 44) = true := by rw [bne_iff_ne]; omega
          clear hcc hc44
          go_wp2_with (first
            | (at_builtin; go_loud (
               refine wpList_append_own _ rfl _ _ 22 rfl w1.heap.size 35 i0 (.agg #[.int .i64 0, .int .i64 0]) 2 16 Tryz.underlying22 j1 j2 j3 j4 rfl (by decide) u5 l.length (l.flatMap spC) rfl (ho.alloc _) ⟨w2.heap.size, 0, none⟩ 1 1 [.int .i64 xn, .int .i64 xn] rfl rfl (fun j u hj => by rw [addr_add0]; exact cell_new j u (by simpa using hj)) (fun u hu => by simp only [List.mem_cons, List.not_mem_nil, or_false] at hu; rcases hu with rfl | rfl <;> rfl) (by unfold maxLen; omega) (by omega) (by simp; omega) ?_
               intro v' w8 hown' hgrow _
               have HO8 := Lib.hid (SpOwn.snoc (l := l) (x := (xn, xn)) hown')
               have HB8 := Lib.hid ((HB2.out.alloc hsW _).grown hgrow (by simp; omega) (fun b hb => by have := ho.lt b hb; omega))
               clear hown' hgrow))
            | fail)
          go_ret3
          rw [HRR.out, HRS.out]
          show (∃ v, _ = Ending.returned (.tuple #[v, .int .i64 (rp : Int), .int .i64 6]) ∧ SpOwn _ _ v []) ∧ _
          rw [HR.out.1]
          exact ⟨⟨_, rfl, SpOwn.nil _ _⟩, HB1.out.trans (HB8.out.mono HB1.out.size)⟩
      case pos =>
      have e45 : (((s[xp]'hlt).toNat : Int) == 45) = true := by rw [hc45]; rfl
      obtain ⟨⟨yn, yk, yp⟩, hy⟩ : ∃ x, numS s (xp + 1) = x := ⟨_, rfl⟩
      have hyv := Rd.num_val s (xp + 1)
      have hyg := Rd.num_ge s (xp + 1)
      have hyi := Rd.num_in (s := s) (p := xp + 1) (by omega)
      have hN := DR.out (xp + 1) (by omega) w2 (HB1.out.trans (HB2.out.mono HB1.out.size))
      rw [hy] at hyv hyg hyi hN
      simp only at hyv hyg hyi hN
      obtain ⟨hy0, hy1⟩ := hyv
      obtain ⟨k2, hk2⟩ : ∃ k, Rd.numOk 0 true (yn, yk, yp) = k := ⟨_, rfl⟩
      rw [hk2] at hN
      have hxp1 : ((xp + 1 : Nat) : Int) = (xp : Int) + 1 := by omega
      rw [hxp1] at hN
      have D2 := Lib.hid hN
      have HR0 := Lib.hid (show rd1 s p = ((xn, yn), yp, k2) by
        unfold rd1; rw [HX1.out]; simp only; rw [hk1, if_pos rfl, if_pos (by unfold begAt; rw [Rd.byte_lt hlt]; simp [hlt, hc45]), hy]; simp only; rw [hk2])
      have c0 := below_cell HB2.out (HCT.out 0 _ rfl)
      have c1 := below_cell HB2.out (HCT.out 1 _ rfl)
      have c2 := below_cell HB2.out (HCT.out 2 _ rfl)
      have c3 := below_cell HB2.out (HCT.out 3 _ rfl)
      have c4 := below_cell HB2.out (HCT.out 4 _ rfl)
      clear HX1 hk1 hc45 hy hk2 hN hxp1
      go_wp2_with fail
      refine D2.out.mono ?_
      rintro e w3 ⟨⟨v3, rfl, hv3⟩, hb3⟩
      have HB3 := Lib.hid (below_step HB2.out hb3)
      have HO3 := Lib.hid (HO2.out.below hb3)
      clear hb3 D2 HB2 HO2 c0 c1 c2 c3 c4 t3 t3' e45
      cases k2
      case false =>
        have HR := Lib.hid (show rp = yp ∧ rok = false by
          have := HC.out
          rw [HR0.out] at this
          simp only at this
          rw [if_neg (by simp)] at this
          simp only [Prod.mk.injEq] at this
          exact ⟨this.2.1.symm, this.2.2.symm⟩)
        have HRR := Lib.hid (readR_bad HBIG.out (by rw [HRS.out]; exact HR.out.2))
        clear hv3 HC
        go_wp2_with fail
        go_ret3
        rw [HRR.out, HRS.out]
        show (∃ v, _ = Ending.returned (.tuple #[v, .int .i64 (rp : Int), .int .i64 6]) ∧ SpOwn _ _ v []) ∧ _
        rw [HR.out.1]
        exact ⟨⟨_, rfl, SpOwn.nil _ _⟩, HB1.out.trans (HB3.out.mono HB1.out.size)⟩
      case true =>
      rw [hv3 rfl]
      clear hv3
      have HR1 := HR0
      clear HR0
      have hcc := HC.out
      rw [HR1.out] at hcc
      simp only at hcc
      clear HC HR1
      obtain ⟨j1, j2, j3, j4⟩ := HI.out
      have ho := HO3.out
      have hsW := HB3.out.size
      by_cases hly : yp < s.size
      case neg =>
        have tE : (((yp : Nat) : Int) == (s.size : Int)) = true := by rw [beq_iff_eq]; omega
        have HR := Lib.hid (show RL = l ++ [(xn, yn)] ∧ rok = true by
          rw [if_neg (by unfold begAt; simp; omega)] at hcc
          simp only [Prod.mk.injEq] at hcc
          exact ⟨hcc.1.symm, by rw [← hcc.2.2]; simp; omega⟩)
        clear hcc
        go_wp2_with (first
          | (at_builtin; go_loud (
             refine wpList_append_own _ rfl _ _ 22 rfl w1.heap.size 35 i0 (.agg #[.int .i64 0, .int .i64 0]) 2 16 Tryz.underlying22 j1 j2 j3 j4 rfl (by decide) u5 l.length (l.flatMap spC) rfl (ho.alloc _) ⟨w3.heap.size, 0, none⟩ 1 1 [.int .i64 xn, .int .i64 yn] rfl rfl (fun j u hj => by rw [addr_add0]; exact cell_new j u (by simpa using hj)) (fun u hu => by simp only [List.mem_cons, List.not_mem_nil, or_false] at hu; rcases hu with rfl | rfl <;> rfl) (by unfold maxLen; omega) (by omega) (by simp; omega) ?_
             intro v' w8 hown' hgrow _
             have HO8 := Lib.hid (SpOwn.snoc (l := l) (x := (xn, yn)) hown')
             have HB8 := Lib.hid ((HB3.out.alloc hsW _).grown hgrow (by simp; omega) (fun b hb => by have := ho.lt b hb; omega))
             clear hown' hgrow))
          | fail)
        go_meet
        exact ⟨HB8, Lib.hid (by rw [HR.out.1]; exact HO8.out), Lib.hid HR.out.2⟩
      case pos =>
      by_cases hc44 : (s[yp]'hly).toNat = 44
      case pos =>
        have tE : (((yp : Nat) : Int) == (s.size : Int)) = false := by rw [beq_eq_false_iff_ne]; omega
        have HR := Lib.hid (show rdAll s f (yp + 1) (l ++ [(xn, yn)]) = (RL, rp, rok) by
          rwa [if_pos (by unfold begAt; rw [Rd.byte_lt hly]; simp [hly, hc44])] at hcc)
        have e44 : (((s[yp]'hly).toNat : Int) != 44) = false := by rw [hc44]; rfl
        clear hcc hc44
        go_wp2_with (first
          | (at_builtin; go_loud (
             refine wpList_append_own _ rfl _ _ 22 rfl w1.heap.size 35 i0 (.agg #[.int .i64 0, .int .i64 0]) 2 16 Tryz.underlying22 j1 j2 j3 j4 rfl (by decide) u5 l.length (l.flatMap spC) rfl (ho.alloc _) ⟨w3.heap.size, 0, none⟩ 1 1 [.int .i64 xn, .int .i64 yn] rfl rfl (fun j u hj => by rw [addr_add0]; exact cell_new j u (by simpa using hj)) (fun u hu => by simp only [List.mem_cons, List.not_mem_nil, or_false] at hu; rcases hu with rfl | rfl <;> rfl) (by unfold maxLen; omega) (by omega) (by simp; omega) ?_
             intro v' w8 hown' hgrow _
             have HO8 := Lib.hid (SpOwn.snoc (l := l) (x := (xn, yn)) hown')
             have HB8 := Lib.hid ((HB3.out.alloc hsW _).grown hgrow (by simp; omega) (fun b hb => by have := ho.lt b hb; omega))
             clear hown' hgrow))
          | fail)
        go_roundw
        case rel => exact ⟨l ++ [(xn, yn)], yp + 1, f, by go_num, by omega, by simp; omega, by omega, Lib.hid (fun _ => HR.out), Lib.hid (fun h => by cases h), HB8, HO8⟩
        case measure => simp [intOf]; omega
      case neg =>
        have tE : (((yp : Nat) : Int) == (s.size : Int)) = false := by rw [beq_eq_false_iff_ne]; omega
        have HR := Lib.hid (show rp = yp ∧ rok = false by
          rw [if_neg (by unfold begAt; rw [Rd.byte_lt hly]; simp; omega)] at hcc
          simp only [Prod.mk.injEq] at hcc
          exact ⟨hcc.2.1.symm, by rw [← hcc.2.2]; simp; omega⟩)
        have HRR := Lib.hid (readR_bad HBIG.out (by rw [HRS.out]; exact HR.out.2))
        have e44 : (((s[yp]'hly).toNat : Int) != 44) = true := by rw [bne_iff_ne]; omega
        clear hcc hc44
        go_wp2_with (first
          | (at_builtin; go_loud (
             refine wpList_append_own _ rfl _ _ 22 rfl w1.heap.size 35 i0 (.agg #[.int .i64 0, .int .i64 0]) 2 16 Tryz.underlying22 j1 j2 j3 j4 rfl (by decide) u5 l.length (l.flatMap spC) rfl (ho.alloc _) ⟨w3.heap.size, 0, none⟩ 1 1 [.int .i64 xn, .int .i64 yn] rfl rfl (fun j u hj => by rw [addr_add0]; exact cell_new j u (by simpa using hj)) (fun u hu => by simp only [List.mem_cons, List.not_mem_nil, or_false] at hu; rcases hu with rfl | rfl <;> rfl) (by unfold maxLen; omega) (by omega) (by simp; omega) ?_
             intro v' w8 hown' hgrow _
             have HO8 := Lib.hid (SpOwn.snoc (l := l) (x := (xn, yn)) hown')
             have HB8 := Lib.hid ((HB3.out.alloc hsW _).grown hgrow (by simp; omega) (fun b hb => by have := ho.lt b hb; omega))
             clear hown' hgrow))
          | fail)
        go_ret3
        rw [HRR.out, HRS.out]
        show (∃ v, _ = Ending.returned (.tuple #[v, .int .i64 (rp : Int), .int .i64 6]) ∧ SpOwn _ _ v []) ∧ _
        rw [HR.out.1]
        exact ⟨⟨_, rfl, SpOwn.nil _ _⟩, HB1.out.trans (HB8.out.mono HB1.out.size)⟩
  case rest =>
  obtain ⟨HBX, HOX, HROK⟩ := hcut
  refine ‹∀ (a : Act) (w : World), Code.wp _ _ _ a w → _› _ _ ?_
  clear HCT HTZ hz1 DR t1 t1'
  have HL1 := Lib.hid (show RL.length ≤ 40001 from by
    have h2 := HRS.out
    unfold rdStart at h2
    split at h2
    · simp only [Prod.mk.injEq] at h2
      rw [← h2.1]
      simp
    · have h3 := rdAll_len s (s.size + 1) 0 [] (Nat.zero_le _) (Nat.le_refl _)
      rw [h2] at h3
      simp only at h3
      omega)
  obtain ⟨a, c, hva, hac, hra, _⟩ := HOX.out.rows
  obtain ⟨v5, hv5⟩ : ∃ v, u5 = v := ⟨_, rfl⟩
  rw [hv5] at hva HOX ⊢
  subst hva
  obtain ⟨n, hn⟩ : ∃ n, RL.length = n := ⟨_, rfl⟩
  have hn4 := HL1.out
  rw [hn] at hra hac hn4 ⊢
  have HN := Lib.hid hn
  have HRA := Lib.hid hra
  have HBW := Lib.hid (HB1.out.trans (HBX.out.mono HB1.out.size))
  have HAC := Lib.hid hac
  clear hra hn hv5 hac HBX HB1 HL1 HOX
  go_wp2_with fail
  go_loopw [79] (fun iv wr => ∃ (i : Nat), iv = .int .i64 i ∧ i ≤ n ∧ Hid (Below wc.heap.size wc wr) ∧ Hid (∀ j, j < i → spF RL j ≤ 1000000000000 ∧ spT RL j ≤ 1000000000000)) (fun iv _ => n - (intOf iv).toNat)
  case atStart => exact ⟨0, rfl, by omega, Lib.hid (Below.refl _ _), Lib.hid (fun j hj => by omega)⟩
  case round =>
    obtain ⟨i, rfl, hi, HB, HM⟩ := hrel
    have hsz := HB.out.size
    by_cases hlt : i < n
    case pos =>
      have t1 : decide ((i : Int) < (n : Int)) = true := by rw [decide_eq_true_eq]; omega
      have t1' : decide (i < n) = true := by simpa using hlt
      obtain ⟨b, off, rfl, hbl, hc⟩ := (HRA.out.below HB.out (Nat.le_refl _)).here (by omega)
      obtain ⟨p0, p1⟩ := hc i hlt
      have hgl : RL[i]? = some (RL[i]'(by rw [HN.out]; exact hlt)) := List.getElem?_eq_getElem _
      obtain ⟨x, hx⟩ : ∃ x, RL[i]'(by rw [HN.out]; exact hlt) = x := ⟨_, rfl⟩
      rw [hx] at hgl
      obtain ⟨e1, e2⟩ := sp_at hgl
      have HE := Lib.hid (And.intro e1 e2)
      rw [e1] at p0
      rw [e2] at p1
      obtain ⟨f, t⟩ := x
      simp only at p0 p1 HE
      have HG := Lib.hid (List.mem_of_getElem? hgl)
      clear hc hgl hx e1 e2
      go_upto_region 21 with fail
      obtain ⟨V, hV, hbV, hsV, hcV⟩ := alloc_cells wr #[.int .i64 f, .int .i64 t] 35
      rw [hV]
      have m0 := hcV 0 _ rfl
      have m1 := hcV 1 _ rfl
      have HBV := Lib.hid (below_step HB.out hbV)
      obtain ⟨qb, hqb⟩ : ∃ q, wr.heap.size = q := ⟨_, rfl⟩
      rw [hqb] at m0 m1 ⊢
      clear hV hbV hsV hcV p0 p1 HB hqb
      by_cases hf : 1000000000000 < f
      case pos =>
        have s1 : decide ((1000000000000 : Int) < f) = true := by rw [decide_eq_true_eq]; exact hf
        have HRR := Lib.hid (readR_most HBIG.out (by rw [HRS.out]; exact HROK.out) (by rw [HRS.out]; exact (Rd.mostL_gt 1000000000000 (by omega) RL).2 ⟨_, HG.out, Or.inl hf⟩))
        clear hf
        go_wp2_with fail
        go_ret3
        rw [HRR.out]
        exact ⟨⟨_, rfl, SpOwn.nil _ _⟩, HBW.out.trans (HBV.out.mono HBW.out.size)⟩
      case neg =>
      have s1 : decide ((1000000000000 : Int) < f) = false := by rw [decide_eq_false_iff_not]; exact hf
      by_cases ht : 1000000000000 < t
      case pos =>
        have s2 : decide ((1000000000000 : Int) < t) = true := by rw [decide_eq_true_eq]; exact ht
        have HRR := Lib.hid (readR_most HBIG.out (by rw [HRS.out]; exact HROK.out) (by rw [HRS.out]; exact (Rd.mostL_gt 1000000000000 (by omega) RL).2 ⟨_, HG.out, Or.inr ht⟩))
        clear hf ht
        go_wp2_with fail
        go_ret3
        rw [HRR.out]
        exact ⟨⟨_, rfl, SpOwn.nil _ _⟩, HBW.out.trans (HBV.out.mono HBW.out.size)⟩
      case neg =>
      have s2 : decide ((1000000000000 : Int) < t) = false := by rw [decide_eq_false_iff_not]; exact ht
      have HM2 := Lib.hid (show ∀ j, j < i + 1 → spF RL j ≤ 1000000000000 ∧ spT RL j ≤ 1000000000000 from fun j hj => by
        by_cases e : j = i
        · subst e
          rw [HE.out.1, HE.out.2]
          omega
        · exact HM.out j (by omega))
      clear hf ht
      go_wp2_with fail
      go_roundw
      case rel => exact ⟨i + 1, by go_num, by omega, HBV, HM2⟩
      case measure => simp [intOf]; omega
    case neg =>
    have t1 : decide ((i : Int) < (n : Int)) = false := by rw [decide_eq_false_iff_not]; omega
    have t1' : decide (i < n) = false := by simpa using hlt
    have HMF := Lib.hid (show ¬ 1000000000000 < mostL RL from fun h => by
      obtain ⟨x, hx, e⟩ := (Rd.mostL_gt 1000000000000 (by omega) RL).1 h
      obtain ⟨j, hj, ej⟩ := List.getElem_of_mem hx
      have h1 := HM.out j (by rw [HN.out] at hj; omega)
      have h2 := sp_at (show RL[j]? = some x by rw [List.getElem?_eq_getElem hj, ej])
      rw [h2.1, h2.2] at h1
      omega)
    have HRA2 := Lib.hid (HRA.out.below HB.out (Nat.le_refl _))
    have HBW2 := Lib.hid (HBW.out.trans (HB.out.mono HBW.out.size))
    clear HM HRA HBW HB hsz
    obtain ⟨w4, hw4⟩ : ∃ x, wr = x := ⟨_, rfl⟩
    rw [hw4] at HRA2 HBW2 ⊢
    clear hw4
    go_wp2_with fail
    go_loopw [94] (fun iv wr => ∃ (i : Nat), iv = .int .i64 i ∧ i ≤ n ∧ Hid (Below w4.heap.size w4 wr) ∧ Hid (∀ j, j < i → spF RL j ≤ spT RL j)) (fun iv _ => n - (intOf iv).toNat)
    case atStart => exact ⟨0, rfl, by omega, Lib.hid (Below.refl _ _), Lib.hid (fun j hj => by omega)⟩
    case round =>
      obtain ⟨i, rfl, hi, HB, HM⟩ := hrel
      have hsz := HB.out.size
      by_cases hlt : i < n
      case pos =>
        have t1 : decide ((i : Int) < (n : Int)) = true := by rw [decide_eq_true_eq]; omega
        have t1' : decide (i < n) = true := by simpa using hlt
        obtain ⟨b, off, rfl, hbl, hc⟩ := (HRA2.out.below HB.out (Nat.le_refl _)).here (by omega)
        obtain ⟨p0, p1⟩ := hc i hlt
        have hgl : RL[i]? = some (RL[i]'(by rw [HN.out]; exact hlt)) := List.getElem?_eq_getElem _
        obtain ⟨x, hx⟩ : ∃ x, RL[i]'(by rw [HN.out]; exact hlt) = x := ⟨_, rfl⟩
        rw [hx] at hgl
        obtain ⟨e1, e2⟩ := sp_at hgl
        have HE := Lib.hid (And.intro e1 e2)
        rw [e1] at p0
        rw [e2] at p1
        obtain ⟨f, t⟩ := x
        simp only at p0 p1 HE
        have HG := Lib.hid (List.mem_of_getElem? hgl)
        clear hc hgl hx e1 e2
        go_upto_region 27 with fail
        obtain ⟨V, hV, hbV, hsV, hcV⟩ := alloc_cells wr #[.int .i64 f, .int .i64 t] 35
        rw [hV]
        have m0 := hcV 0 _ rfl
        have m1 := hcV 1 _ rfl
        have HBV := Lib.hid (below_step HB.out hbV)
        obtain ⟨qb, hqb⟩ : ∃ q, wr.heap.size = q := ⟨_, rfl⟩
        rw [hqb] at m0 m1 ⊢
        clear hV hbV hsV hcV p0 p1 HB hqb
        by_cases hf : t < f
        case pos =>
          have s1 : decide (t < f) = true := by rw [decide_eq_true_eq]; exact hf
          have HRR := Lib.hid (readR_wrong HBIG.out (by rw [HRS.out]; exact HROK.out) (by rw [HRS.out]; show ¬ 1000000000000 < mostL RL; have := HMF.out; omega) (by rw [HRS.out]; exact (Rd.wrongL_iff RL).2 ⟨_, HG.out, hf⟩))
          clear hf
          go_wp2_with fail
          go_ret3
          rw [HRR.out]
          exact ⟨⟨_, rfl, SpOwn.nil _ _⟩, HBW2.out.trans (HBV.out.mono HBW2.out.size)⟩
        case neg =>
        have s1 : decide (t < f) = false := by rw [decide_eq_false_iff_not]; exact hf
        have HM2 := Lib.hid (show ∀ j, j < i + 1 → spF RL j ≤ spT RL j from fun j hj => by
          by_cases e : j = i
          · subst e
            rw [HE.out.1, HE.out.2]
            omega
          · exact HM.out j (by omega))
        clear hf
        go_wp2_with fail
        go_roundw
        case rel => exact ⟨i + 1, by go_num, by omega, HBV, HM2⟩
        case measure => simp [intOf]; omega
      case neg =>
      have t1 : decide ((i : Int) < (n : Int)) = false := by rw [decide_eq_false_iff_not]; omega
      have t1' : decide (i < n) = false := by simpa using hlt
      have HWF := Lib.hid (show wrongL RL = false from by
        cases hw : wrongL RL with
        | false => rfl
        | true =>
          obtain ⟨x, hx, e⟩ := (Rd.wrongL_iff RL).1 hw
          obtain ⟨j, hj, ej⟩ := List.getElem_of_mem hx
          have h1 := HM.out j (by rw [HN.out] at hj; omega)
          have h2 := sp_at (show RL[j]? = some x by rw [List.getElem?_eq_getElem hj, ej])
          rw [h2.1, h2.2] at h1
          omega)
      have HBW3 := Lib.hid (HBW2.out.trans (HB.out.mono HBW2.out.size))
      have hIO := inOrder_any n n (Nat.le_refl _) a c (spF RL) (spT RL) wr (HRA2.out.below HB.out (Nat.le_refl _)) HAC.out (by omega)
      rw [show spl (spF RL) (spT RL) n = RL by rw [← HN.out]; exact spl_of RL] at hIO
      have DIO := Lib.hid hIO
      have HRR := Lib.hid (readR_ok HBIG.out (by rw [HRS.out]; exact HROK.out) (by rw [HRS.out]; show ¬ 1000000000000 < mostL RL; have := HMF.out; omega) (by rw [HRS.out]; exact HWF.out))
      clear HM HRA2 HBW2 HB hsz hIO HBIG HROK HMF
      go_wp2_with fail
      refine DIO.out.mono ?_
      rintro e w2 ⟨⟨v6, rfl, a2, c2, l', rfl, hc2, hr2, hl2, hp2, hs2⟩, hb2⟩
      have hJ := Sp.join_all (l := l') (fun x hx => by
        rcases Int.lt_or_le x.2 x.1 with g | g
        · have := (Rd.wrongL_iff RL).2 ⟨x, hp2.mem_iff.1 hx, g⟩
          rw [HWF.out] at this
          cases this
        · exact g) hs2
      have HJ := Lib.hid (show joinAll l' = nfL RL from Rd.nfL_unique HWF.out hJ.1 (fun n => by
        rw [hJ.2 n]
        exact ⟨fun ⟨x, hx, h⟩ => ⟨x, hp2.mem_iff.1 hx, h⟩, fun ⟨x, hx, h⟩ => ⟨x, hp2.mem_iff.2 hx, h⟩⟩))
      have HF2 := Lib.hid (fun y (hy : y ∈ l') => HVALS.out y (hp2.mem_iff.1 hy))
      have HR := Lib.hid hr2
      have HLN := Lib.hid hl2
      have HB2 := Lib.hid (below_step HBW3.out hb2)
      clear hJ hr2 hl2 hp2 hs2 hb2 hc2 DIO HBW3 HVALS HWF HN
      go_wp2_with fail
      go_loopw [16, 107] (fun v iv wr => ∃ (i : Nat) (out : List (Int × Int)), iv = .int .i64 i ∧ i ≤ n ∧ out.length ≤ i ∧ Hid (Below w2.heap.size w2 wr) ∧ Hid (SpOwn wr w2.heap.size v out) ∧ Hid (out = (l'.take i).foldl joinStep []) ∧ Hid (∀ y, y ∈ out → 0 ≤ y.2 ∧ y.2 ≤ 10000000000000)) (fun _ iv _ => n - (intOf iv).toNat)
      case atStart => exact ⟨0, [], rfl, by omega, by simp, Lib.hid (Below.refl _ _), Lib.hid (SpOwn.nil _ _), Lib.hid rfl, Lib.hid (fun y hy => by cases hy)⟩
      case round =>
        obtain ⟨i, out, rfl, hi, hol, HB, HO, HE, HM⟩ := hrel
        have hsz := HB.out.size
        by_cases hlt : i < n
        case neg =>
          have t1 : decide ((i : Int) < (n : Int)) = false := by rw [decide_eq_false_iff_not]; omega
          have t1' : decide (i < n) = false := by simpa using hlt
          have HX := Lib.hid (show out = nfL RL by rw [HE.out, List.take_of_length_le (by rw [HLN.out]; omega), ← HJ.out]; rfl)
          obtain ⟨ao, co, hvo, _⟩ := HO.out.rows
          obtain ⟨vo, hvo2⟩ : ∃ v, u16 = v := ⟨_, rfl⟩
          rw [hvo2] at hvo HO ⊢
          subst hvo
          have HB9 := Lib.hid (HB2.out.trans (HB.out.mono HB2.out.size))
          have HO9 := Lib.hid (HO.out.weaken HB2.out.size)
          clear hlt HE HM hvo2 HB HO
          by_cases hbg : 1000 < out.length
          case pos =>
            have u1 : decide ((1000 : Int) < (out.length : Int)) = true := by rw [decide_eq_true_eq]; omega
            have u1' : decide (1000 < out.length) = true := by simpa using hbg
            have HBG := Lib.hid hbg
            clear hbg
            go_wp2_with fail
            go_ret3
            rw [HRR.out, HRS.out]
            show (∃ v, _ = Ending.returned (.tuple #[v, .int .i64 ((0 : Nat) : Int), .int .i64 (sizedE (nfL RL).length)]) ∧ SpOwn _ _ v (sizedL (nfL RL))) ∧ _
            rw [← HX.out]
            unfold sizedE sizedL
            rw [if_pos HBG.out, if_pos HBG.out]
            exact ⟨⟨_, rfl, SpOwn.nil _ _⟩, HB9.out⟩
          case neg =>
            have u1 : decide ((1000 : Int) < (out.length : Int)) = false := by rw [decide_eq_false_iff_not]; omega
            have u1' : decide (1000 < out.length) = false := by simpa using hbg
            have HBG := Lib.hid hbg
            clear hbg
            go_wp2_with fail
            go_ret3
            rw [HRR.out, HRS.out]
            show (∃ v, _ = Ending.returned (.tuple #[v, .int .i64 ((0 : Nat) : Int), .int .i64 (sizedE (nfL RL).length)]) ∧ SpOwn _ _ v (sizedL (nfL RL))) ∧ _
            rw [← HX.out]
            unfold sizedE sizedL
            rw [if_neg HBG.out, if_neg HBG.out]
            exact ⟨⟨_, rfl, HO9.out⟩, HB9.out⟩
        case pos =>
        have t1 : decide ((i : Int) < (n : Int)) = true := by rw [decide_eq_true_eq]; omega
        have t1' : decide (i < n) = true := by simpa using hlt
        obtain ⟨b, off, rfl, hbl, hc⟩ := (HR.out.below HB.out (Nat.le_refl _)).here (by omega)
        obtain ⟨p0, p1⟩ := hc i hlt
        have hgl : l'[i]? = some (l'[i]'(by rw [HLN.out]; exact hlt)) := List.getElem?_eq_getElem _
        obtain ⟨x, hx⟩ : ∃ x, l'[i]'(by rw [HLN.out]; exact hlt) = x := ⟨_, rfl⟩
        rw [hx] at hgl
        obtain ⟨hF, hT⟩ := sp_at hgl
        rw [hF] at p0
        rw [hT] at p1
        obtain ⟨⟨f0, f1⟩, t0, t1y⟩ := HF2.out x (List.mem_of_getElem? hgl)
        have t1x : x.2 ≤ 10000000000000 := by omega
        clear t1y
        have HE2 := Lib.hid (show (l'.take (i + 1)).foldl joinStep [] = joinStep out x by rw [List.take_add_one, List.foldl_append, ← HE.out, hgl]; rfl)
        clear hc hgl hx hF hT HE
        obtain ⟨f, t⟩ := x
        simp only at p0 p1 f0 f1 t0 t1x
        go_upto_region 34 with fail
        obtain ⟨V, hV, hbV, hsV, hcV⟩ := alloc_cells wr #[.int .i64 f, .int .i64 t] 35
        rw [hV]
        have m0 := hcV 0 _ rfl
        have m1 := hcV 1 _ rfl
        have HBV := Lib.hid (below_step HB.out hbV)
        have HOV := Lib.hid (HO.out.below hbV)
        have hnq := fun g (hg : u16.ownBlock = some g) => (show g ≠ wr.heap.size by have := (HO.out.lt g hg).2; omega)
        obtain ⟨qb, hqb⟩ : ∃ q, wr.heap.size = q := ⟨_, rfl⟩
        rw [hqb] at m0 m1 hnq ⊢
        clear hV hbV hsV hcV p0 p1 HB HO hqb
        rcases Sp.snoc_cases out with rfl | ⟨o, z, rfl⟩
        case inl =>
          obtain ⟨ao, co, rfl, _⟩ := HOV.out.rows
          go_wp2_with fail
          go_quiet (fail)
          have HBW := Lib.hid (below_drewN HBV.out nq)
          have HOW := Lib.hid (HOV.out.below (below_drewN (Below.refl V.heap.size V) nq))
          have m0 := below_cell (below_drewN (Below.refl V.heap.size V) nq) m0
          have m1 := below_cell (below_drewN (Below.refl V.heap.size V) nq) m1
          generalize V.drewN nq = W at HBW HOW m0 m1 ⊢
          have hbx := HBW.out.size
          obtain ⟨j1, j2, j3, j4⟩ := HI.out
          have ho := HOW.out
          go_upto_region 38 with (first
            | (at_builtin; go_loud (
               refine wpList_append_own _ rfl _ _ 22 rfl w2.heap.size 35 i0 (.agg #[.int .i64 0, .int .i64 0]) 2 16 Tryz.underlying22 j1 j2 j3 j4 rfl (by decide) _ ([] : List (Int × Int)).length (([] : List (Int × Int)).flatMap spC) rfl (ho.alloc _) ⟨W.heap.size, 0, none⟩ 1 1 [.int .i64 f, .int .i64 t] rfl rfl (fun j u hj => by rw [addr_add0]; exact cell_new j u (by simpa using hj)) (fun u hu => by simp only [List.mem_cons, List.not_mem_nil, or_false] at hu; rcases hu with rfl | rfl <;> rfl) (by unfold maxLen; omega) (by omega) (by simp; omega) ?_
               intro v' w3 hown' hgrow _
               have HO3 := Lib.hid (SpOwn.snoc (l := ([] : List (Int × Int))) (x := (f, t)) hown')
               have HG3 := Lib.hid hgrow
               have hb3 := (HBW.out.alloc hbx _).grown HG3.out (by simp; omega) (fun b hb => by have := ho.lt b hb; omega)
               have HB3 := Lib.hid hb3
               clear hown' hgrow hb3))
            | fail)
          go_wp2_with fail
          go_roundw
          case rel => exact ⟨i + 1, [(f, t)], by go_num, by omega, by simp, HB3, HO3, Lib.hid HE2.out.symm, Lib.hid (fun y hy => by rw [List.mem_singleton.1 hy]; exact ⟨t0, t1x⟩)⟩
          case measure => simp [intOf]; omega
        case inr =>
          obtain ⟨g, co, he⟩ := own_open HOV.out (by rw [List.length_append]; show 0 < o.length + 1; omega)
          obtain ⟨m, hm⟩ : ∃ m, o.length = m := ⟨_, rfl⟩
          have hlen2 : (o ++ [z]).length = m + 1 := by rw [List.length_append, hm]; rfl
          rw [hlen2] at he hol
          subst he
          have hz := HM.out z (List.mem_append_right _ (List.mem_cons_self ..))
          have hix : ((m + 1 : Nat) : Int) - 1 = (m : Int) := by omega
          have hm0 : (0 : Int) ≤ (m : Int) := by omega
          have s1 : decide ((0 : Int) < (m : Int) + 1) = true := by rw [decide_eq_true_eq]; omega
          have hgz : ((o ++ [z]).flatMap spC)[m * 2 + 1]? = some (.int .i64 z.2) := (flatSp_get (o ++ [z]) m z (by rw [← hm, List.getElem?_append_right (Nat.le_refl _), Nat.sub_self]; rfl)).2
          have cz : V.cell? ⟨g, m * 2 + 1, none⟩ = some (.int .i64 z.2) := by
            have := HOV.out.cells (g := g) rfl (m * 2 + 1) _ hgz
            rwa [addr_add0] at this
          have hgq := hnq g rfl
          have HGZ := Lib.hid hgz
          clear hgz hnq
          rw [Sp.joinStep_snoc] at HE2
          obtain ⟨zf, zt⟩ := z
          simp only at HE2 cz hz
          by_cases hj : f ≤ zt + 1
          case pos =>
            have s2 : decide (f ≤ zt + 1) = true := by simpa using hj
            rw [if_pos hj] at HE2
            clear hj
            go_wp2_with fail
            go_quiet (fail)
            have HBW := Lib.hid (below_drewN HBV.out nq)
            have HOW := Lib.hid (HOV.out.below (below_drewN (Below.refl V.heap.size V) nq))
            have m1 := below_cell (below_drewN (Below.refl V.heap.size V) nq) m1
            have cz := below_cell (below_drewN (Below.refl V.heap.size V) nq) cz
            generalize V.drewN nq = W at HBW HOW m1 cz ⊢
            have hbx := HBW.out.size
            have hm1 : (m : Int) < (m : Int) + 1 := by omega
            have fz : W.frozen? ⟨g, m * 2 + 1, none⟩ = false := HOW.out.free _
            go_upto_region 36 with fail
            go_region
            obtain ⟨hS1, hS2⟩ := HOW.out.setLast (max zt t) hm
            have HS1 := Lib.hid hS1
            have HS2 := Lib.hid (Kept.below (B := w2.heap.size) HBW.out hS2 HBW.out.size (fun k hk e => by have := (HOW.out.lt g rfl).1; omega))
            clear hS1 hS2
            go_wp2_with fail
            go_roundw
            case rel => exact ⟨i + 1, o ++ [(zf, max zt t)], by go_num, by omega, by simp; omega, Lib.hid HS2.out.drew, Lib.hid (HS1.out.below (Below.refl _ _).drew), Lib.hid HE2.out.symm, Lib.hid (fun y hy => by
              rcases List.mem_append.1 hy with hy | hy
              · exact HM.out y (List.mem_append_left _ hy)
              · rw [List.mem_singleton.1 hy]
                show 0 ≤ max zt t ∧ max zt t ≤ _
                omega)⟩
            case measure => simp [intOf]; omega
          case neg =>
            have s2 : decide (f ≤ zt + 1) = false := by simpa using hj
            rw [if_neg hj] at HE2
            clear hj
            go_wp2_with fail
            go_quiet (fail)
            have HBW := Lib.hid (below_drewN HBV.out nq)
            have HOW := Lib.hid (HOV.out.below (below_drewN (Below.refl V.heap.size V) nq))
            have m0 := below_cell (below_drewN (Below.refl V.heap.size V) nq) m0
            have m1 := below_cell (below_drewN (Below.refl V.heap.size V) nq) m1
            generalize V.drewN nq = W at HBW HOW m0 m1 ⊢
            have hbx := HBW.out.size
            have hll : (o ++ [(zf, zt)]).length = m + 1 := hlen2
            obtain ⟨j1, j2, j3, j4⟩ := HI.out
            have ho := HOW.out
            go_upto_region 38 with (first
              | (at_builtin; go_loud (
                 refine wpList_append_own _ rfl _ _ 22 rfl w2.heap.size 35 i0 (.agg #[.int .i64 0, .int .i64 0]) 2 16 Tryz.underlying22 j1 j2 j3 j4 rfl (by decide) _ (o ++ [(zf, zt)]).length ((o ++ [(zf, zt)]).flatMap spC) rfl (ho.alloc _) ⟨W.heap.size, 0, none⟩ 1 1 [.int .i64 f, .int .i64 t] rfl rfl (fun j u hj => by rw [addr_add0]; exact cell_new j u (by simpa using hj)) (fun u hu => by simp only [List.mem_cons, List.not_mem_nil, or_false] at hu; rcases hu with rfl | rfl <;> rfl) (by unfold maxLen; omega) (by omega) (by simp; omega) ?_
                 intro v' w3 hown' hgrow _
                 have HO3 := Lib.hid (SpOwn.snoc (l := (o ++ [(zf, zt)])) (x := (f, t)) hown')
                 have HG3 := Lib.hid hgrow
                 have hb3 := (HBW.out.alloc hbx _).grown HG3.out (by simp; omega) (fun b hb => by have := ho.lt b hb; omega)
                 have HB3 := Lib.hid hb3
                 clear hown' hgrow hb3))
              | fail)
            go_wp2_with fail
            go_roundw
            case rel => exact ⟨i + 1, (o ++ [(zf, zt)]) ++ [(f, t)], by go_num, by omega, by simp; omega, HB3, HO3, Lib.hid HE2.out.symm, Lib.hid (fun y hy => by
              rcases List.mem_append.1 hy with hy | hy
              · exact HM.out y hy
              · rw [List.mem_singleton.1 hy]; exact ⟨t0, t1x⟩)⟩
            case measure => simp [intOf]; omega
end Go.Proofs.YtaghhndcimjjgaaGreatDoor

/- Sets: two rows of spans are equal (the library's Equal at spans). -/
namespace Go.Proofs.YtaghhndcimjjgaaGreatDoor
open Go.RowKit Go.BigFrame
open Sp (spl mem)

def eqS (f t f' t' : Int) : Bool := decide (f = f') && decide (t = t')
set_option maxHeartbeats 2000000 in
theorem eqSpan (d e d' e' : Int) (w : World) :
    (Op.equalIn 10000 35 (.agg #[.int .i64 d, .int .i64 e]) (.agg #[.int .i64 d', .int .i64 e'])).run Tryz.prog w = .ok (eqS d e d' e') w := by
  have u3 := Tryz.underlying3
  have a3 := Tryz.isAgg3
  have z3 := Tryz.sizeOf3
  have hS : Tryz.prog.underlying 35 = some (.struct (Tryz.prog.fieldsOf 35)) := by kernel_rfl
  have hp : Tryz.prog.stoodInHeld 35 = false := by kernel_rfl
  unfold eqS
  rw [show (10000 : Nat) = 9999 + 1 from rfl, run_equalIn_agg w 9999 35 _ _ hS hp]
  simp only [Program.fieldsOf, Tryz.underlying35]
  have h4 : (d == d') = decide (d = d') := rfl
  have h5 : (e == e') = decide (e = e') := rfl
  generalize decide (d = d') = b4 at h4 ⊢
  generalize decide (e = e') = b5 at h5 ⊢
  cases b4 <;> cases b5 <;> go_simp
theorem spl_ext {F1 T1 F2 T2 : Nat → Int} {n : Nat} (h : ∀ i, i < n → eqS (F1 i) (T1 i) (F2 i) (T2 i) = true) : spl F1 T1 n = spl F2 T2 n := by
  apply List.ext_getElem?
  intro i
  by_cases hi : i < n
  · have := h i hi
    unfold eqS at this
    simp only [Bool.and_eq_true, decide_eq_true_eq] at this
    rw [Sp.spl_get hi, Sp.spl_get hi, this.1, this.2]
  · rw [List.getElem?_eq_none (by rw [Sp.spl_len]; omega), List.getElem?_eq_none (by rw [Sp.spl_len]; omega)]
theorem spl_ne {F1 T1 F2 T2 : Nat → Int} {n1 n2 k : Nat} (h1 : k < n1) (h2 : k < n2) (h : eqS (F1 k) (T1 k) (F2 k) (T2 k) = false) : spl F1 T1 n1 ≠ spl F2 T2 n2 := fun e => by
  have e1 := Sp.spl_get (F := F1) (T := T1) h1
  rw [e, Sp.spl_get h2] at e1
  injection e1 with e1
  injection e1 with e1 e2
  unfold eqS at h
  rw [e1, e2] at h
  simp at h
set_option maxHeartbeats 2000000 in
set_option maxRecDepth 100000 in
theorem equalSp_any (a1 : Option Addr) (n1 k1 : Nat) (F1 T1 : Nat → Int) (a2 : Option Addr) (n2 k2 : Nat) (F2 T2 : Nat → Int) (w : World) (h1 : Rows2 w a1 n1 F1 T1) (h2 : Rows2 w a2 n2 F2 T2) (hl : n1 ≤ 1000000000000) (hl' : n2 ≤ 1000000000000) :
    Calls Tryz.prog 20 #[.slice a1 n1 k1, .slice a2 n2 k2] w fun e w' => e = .returned (.bool (decide (spl F1 T1 n1 = spl F2 T2 n2))) ∧ ∃ m, w' = w.drewN m := by
  by_cases hn : n1 = n2
  · subst hn
    have hneq : ((n1 : Int) != (n1 : Int)) = false := by simp
    have HR := Lib.hid h1
    have HQ := Lib.hid h2
    clear h1 h2
    go_enter Tryz.func20, Tryz.ntmps20
    go_wp2_with fail
    go_loopw [13] (fun iv wr => ∃ (k : Nat), iv = .int .i64 k ∧ k ≤ n1 ∧ (∃ m, wr = w.drewN m) ∧ Hid (∀ i, i < k → eqS (F1 i) (T1 i) (F2 i) (T2 i) = true)) (fun iv _ => n1 - (intOf iv).toNat)
    case atStart => exact ⟨0, rfl, by omega, ⟨0, rfl⟩, Lib.hid (fun i hi => by omega)⟩
    case round =>
      obtain ⟨k, rfl, hk, ⟨m, rfl⟩, HE⟩ := hrel
      by_cases hlt : k < n1
      · have t1 : decide ((k : Int) < (n1 : Int)) = true := by rw [decide_eq_true_eq]; omega
        have t1' : decide (k < n1) = true := by simpa using hlt
        have t2 : (k : Int) < (n1 : Int) := by omega
        obtain ⟨b1, o1, rfl, hb1, hc1⟩ := HR.out.here (by omega)
        obtain ⟨b2, o2, rfl, hb2, hc2⟩ := HQ.out.here (by omega)
        obtain ⟨e0, e1⟩ := hc1 k hlt
        obtain ⟨f0, f1⟩ := hc2 k hlt
        clear hc1 hc2
        have hgd : Tryz.prog.eqGuardType Tryz.prog.depth 35 = false := by kernel_rfl
        have hq : ∀ W, (Op.equalIn 10000 35 (.agg #[.int .i64 (F1 k), .int .i64 (T1 k)]) (.agg #[.int .i64 (F2 k), .int .i64 (T2 k)])).run Tryz.prog W = .ok (eqS (F1 k) (T1 k) (F2 k) (T2 k)) W := fun W => eqSpan _ _ _ _ W
        cases hb : eqS (F1 k) (T1 k) (F2 k) (T2 k)
        · rw [hb] at hq
          have HF : Hid (spl F1 T1 n1 ≠ spl F2 T2 n1) := Lib.hid (spl_ne hlt hlt hb)
          clear hb
          go_wp2_with fail
          go_quiet (fail)
          go_wp2_with fail
          go_ret
          exact ⟨ret_bool (decide_eq_false HF.out).symm, m + nq, by rw [World.drewN_drewN]⟩
        · rw [hb] at hq
          have HE2 : Hid (∀ i, i < k + 1 → eqS (F1 i) (T1 i) (F2 i) (T2 i) = true) := Lib.hid (fun i hi => by
            by_cases e : i = k
            · subst e; exact hb
            · exact HE.out i (by omega))
          clear hb
          go_wp2_with fail
          go_quiet (fail)
          go_wp2_with fail
          go_roundw
          case rel => exact ⟨k + 1, by go_num, by omega, ⟨_, rfl⟩, HE2⟩
          case measure => simp [intOf]; omega
      · have t1 : decide ((k : Int) < (n1 : Int)) = false := by rw [decide_eq_false_iff_not]; omega
        have t1' : decide (k < n1) = false := by simpa using hlt
        have HF : Hid (spl F1 T1 n1 = spl F2 T2 n1) := Lib.hid (spl_ext fun i hi => HE.out i (by omega))
        clear hlt
        go_wp2_with fail
        go_ret
        exact ⟨ret_bool (decide_eq_true HF.out).symm, _, rfl⟩
  · have hneq : ((n1 : Int) != (n2 : Int)) = true := by rw [bne_iff_ne]; omega
    have HF := Lib.hid (show spl F1 T1 n1 ≠ spl F2 T2 n2 from fun e => hn (by have := congrArg List.length e; rwa [Sp.spl_len, Sp.spl_len] at this))
    go_enter Tryz.func20, Tryz.ntmps20
    go_wp2_with fail
    go_ret
    exact ⟨ret_bool (decide_eq_false HF.out).symm, 0, rfl⟩
end Go.Proofs.YtaghhndcimjjgaaGreatDoor

/- The walk of the law of reading spans. -/
namespace Go.Proofs.YtaghhndcimjjgaaGreatDoor
open Go.RowKit Go.BigFrame
open Rd (readR)

set_option maxHeartbeats 2000000 in
set_option maxRecDepth 100000 in
theorem readSpans_law (s : ByteArray) (w : World) (hs : s.size ≤ 9223372036854775807) (hg : Glo w) :
    Calls Tryz.prog 5 #[.string s] w fun e w' => e = .returned (.bool true) ∧ Below w.heap.size w w' := by
  have D1 := Lib.hid (readSpans_any s w hs)
  have D2 := Lib.hid (fun W (h : Below w.heap.size w W) => rReadSpans_any s W hs (hg.below h))
  have D5 := Lib.hid (fun W => told_any W)
  unfold ReadRet at D1 D2
  have hlen : (readR s).1.length ≤ 1000 := by
    unfold readR
    split
    · exact Nat.zero_le _
    · split
      · exact Nat.zero_le _
      · split
        · exact Nat.zero_le _
        · split
          · exact Nat.zero_le _
          · split
            · exact Nat.zero_le _
            · rename_i h; exact Nat.le_of_not_lt h
  generalize readR s = R at D1 D2 hlen
  obtain ⟨l, q, er⟩ := R
  simp only at D1 D2 hlen
  clear hg
  go_enter Tryz.func5, Tryz.ntmps5
  go_wp2_with fail
  refine D1.out.mono ?_
  rintro e w1 ⟨⟨v1, rfl, ho1⟩, hb1⟩
  have HB1 := Lib.hid hb1
  have HO1 := Lib.hid ho1
  clear hb1 ho1
  go_wp2_with fail
  refine (D2.out w1 HB1.out).mono ?_
  rintro e w2 ⟨⟨v2, rfl, ho2⟩, hb2⟩
  have HB2 := Lib.hid (HB1.out.trans (hb2.mono HB1.out.size))
  obtain ⟨a1, c1, rfl, _, hr1, _⟩ := (HO1.out.below hb2).rows
  obtain ⟨a2, c2, rfl, _, hr2, _⟩ := ho2.rows
  have hE := equalSp_any a1 l.length c1 (spF l) (spT l) a2 l.length c2 (spF l) (spT l) w2 hr1 hr2 (by omega) (by omega)
  rw [decide_eq_true rfl] at hE
  have DE := Lib.hid hE
  clear ho2 hb2 hr1 hr2 hE D1 D2
  go_wp2_with fail
  refine DE.out.mono ?_
  rintro e w3 ⟨rfl, m, hm⟩
  have HB3 := Lib.hid (show Below w.heap.size w w3 by rw [hm]; exact below_drewN HB2.out _)
  clear hm DE
  go_wp2_with (go_at_call 23; refine (D5.out _).mono ?_; rintro e w5 ⟨rfl, hb5⟩)
  go_ret
  exact ⟨rfl, HB3.out.trans (hb5.mono HB3.out.size)⟩
end Go.Proofs.YtaghhndcimjjgaaGreatDoor
