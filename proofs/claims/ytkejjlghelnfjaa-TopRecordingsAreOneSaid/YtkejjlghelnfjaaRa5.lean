/- Several texts of this claim in one. -/
import Derived.Test.YtkejjlghelnfjaaRa3
import Derived.Test.YtkejjlghelnfjaaRa4
import Derived.Test.YtkejjlghelnfjaaRa2
import Derived.Test.YtkejjlghelnfjaaRows
import Derived.ProofKit
import Derived.OpenShut
import Derived.Lib.SmallJoins
import Derived.Carry
import Derived.ChangeMaps5
/- What wants contracts that the first shelf text lacked. -/

namespace Go.Proofs.Ytkejjlghelnfjaa
open Go.RowKit Go.BigFrame
open Tr (inR)
open Ft (Mt)
theorem whereCmp_any (s : Sm) (n : Int) (w : World) : Calls Try.prog 86 #[smV s, .int .i64 n] w fun e w' => e = .returned (.int .i64 (Lib.compareInt s.tm n)) ∧ Below w.heap.size w w' := by
  have D := Lib.hid (fun W => Try.cmp_Compare_int s.tm n W)
  unfold smV
  generalize Lib.compareInt s.tm n = r at *
  go_enter Try.func86, Try.ntmps86
  go_wp2_with fail
  refine (D.out _).mono ?_
  rintro e w1 ⟨rfl, hw⟩
  have HB := Lib.hid (show Below w.heap.size w w1 from hw ▸ below_al w _)
  clear hw
  go_wp2_with fail
  go_ret
  exact ⟨rfl, HB.out⟩
set_option maxHeartbeats 4000000 in
set_option maxRecDepth 100000 in
theorem searchS_any (a : Option Addr) (l : List Sm) (c : Nat) (x start : Int) (w : World) (hr : Rw smC 7 w a l) (ho : SmOk start l) (hl : l.length ≤ 20000) :
    Calls Try.prog 85 #[.slice a l.length c, .int .i64 x, .func (.func 86) #[] #[]] w fun e w' => e = .returned (.tuple #[.int .i64 (lbS l x), .bool (foundS l x)]) ∧ Below w.heap.size w w' := by
  have HR := Lib.hid hr
  have HO := Lib.hid ho
  have DZ := Lib.hid (fun (s : Sm) (W : World) => whereCmp_any s x W)
  have crun : ∀ (args : Array Value) (W : World), Sem.run Try.prog (callFunc 86 args) W = .ok (.enter 86 args) W := fun _ _ => by kernel_rfl
  obtain ⟨n, hn⟩ : ∃ n, l.length = n := ⟨_, rfl⟩
  have HN := Lib.hid hn
  rw [hn] at hl ⊢
  clear hr ho hn
  unfold smV at DZ
  go_enter Try.func85, Try.ntmps85
  go_wp2_with fail
  go_loopw [9, 10] (fun iv jv wr => ∃ (i j : Nat), iv = .int .i64 i ∧ jv = .int .i64 j ∧ i ≤ j ∧ j ≤ n ∧ Hid ((∀ s : Sm, 0 < i → l[i - 1]? = some s → s.tm < x) ∧ (∀ s : Sm, l[j]? = some s → x ≤ s.tm)) ∧ ∃ X : Ext w, wr = X.1) (fun iv jv _ => (intOf jv).toNat - (intOf iv).toNat)
  case atStart => exact ⟨0, n, rfl, rfl, by omega, by omega, Lib.hid ⟨fun s h => by omega, fun s h => by rw [List.getElem?_eq_none (by rw [HN.out]; exact Nat.le_refl _)] at h; cases h⟩, ⟨w, Below.refl _ _⟩, rfl⟩
  case round =>
    obtain ⟨i, j, rfl, rfl, hij, hj, HE, X, rfl⟩ := hrel
    by_cases hlt : i < j
    · have t1 : decide ((i : Int) < (j : Int)) = true := by rw [decide_eq_true_eq]; omega
      have t1' : decide (i < j) = true := by simpa using hlt
      obtain ⟨k, hk⟩ : ∃ k : Nat, (i + j) / 2 = k := ⟨_, rfl⟩
      have ek : ((i : Int) + (j : Int)) / 2 = (k : Int) := by omega
      have hki : i ≤ k := by omega
      have hkj : k < j := by omega
      have hkn : k < n := by omega
      have hb1 : (i : Int) ≤ 20000 := by omega
      have hb2 : (j : Int) ≤ 20000 := by omega
      have hb3 : (k : Int) ≤ 20000 := by omega
      obtain ⟨s, hx⟩ : ∃ s, l[k]? = some s := ⟨_, List.getElem?_eq_getElem (by rw [HN.out]; exact hkn)⟩
      have HX := Lib.hid (HR.out.below X.2)
      obtain ⟨ba, oa, rfl, hba, hc⟩ := HX.out.at hx
      have c0 : X.1.cell? ⟨ba, oa + k * 7, none⟩ = some (.int .i64 s.tm) := hc 0 _ rfl
      have c1 := hc 1 _ rfl
      have c2 := hc 2 _ rfl
      have c3 := hc 3 _ rfl
      have c4 := hc 4 _ rfl
      have c5 := hc 5 _ rfl
      have c6 := hc 6 _ rfl
      have D := Lib.hid (DZ.out s)
      have t3 := cmpI_lt s.tm x
      have HHX := Lib.hid hx
      generalize Lib.compareInt s.tm x = cv at D t3
      clear hk hc hx
      by_cases hs : s.tm < x
      · rw [decide_eq_true hs] at t3
        have HH := Lib.hid (show (∀ z : Sm, 0 < k + 1 → l[k + 1 - 1]? = some z → z.tm < x) ∧ (∀ z : Sm, l[j]? = some z → x ≤ z.tm) from ⟨fun z _ hz => by
          rw [Nat.add_sub_cancel, HHX.out] at hz
          injection hz with hz
          subst hz
          exact hs, HE.out.2⟩)
        clear hs HE
        go_wp2_with fail
        refine (D.out _).mono ?_
        rintro e w1 ⟨rfl, hb⟩
        obtain ⟨Z, rfl⟩ : ∃ Z : Ext w, w1 = Z.1 := ⟨⟨w1, below_step X.2 hb⟩, rfl⟩
        clear hb
        go_wp2_with fail
        go_roundw
        case rel => exact ⟨k + 1, j, by go_num, rfl, by omega, hj, HH, Z, rfl⟩
        case measure => simp [intOf]; omega
      · rw [decide_eq_false hs] at t3
        have HH := Lib.hid (show (∀ z : Sm, 0 < i → l[i - 1]? = some z → z.tm < x) ∧ (∀ z : Sm, l[k]? = some z → x ≤ z.tm) from ⟨HE.out.1, fun z hz => by
          rw [HHX.out] at hz
          injection hz with hz
          subst hz
          omega⟩)
        clear hs HE
        go_wp2_with fail
        refine (D.out _).mono ?_
        rintro e w1 ⟨rfl, hb⟩
        obtain ⟨Z, rfl⟩ : ∃ Z : Ext w, w1 = Z.1 := ⟨⟨w1, below_step X.2 hb⟩, rfl⟩
        clear hb
        go_wp2_with fail
        go_roundw
        case rel => exact ⟨i, k, rfl, rfl, hki, by omega, HH, Z, rfl⟩
        case measure => simp [intOf]; omega
    · have t1 : decide ((i : Int) < (j : Int)) = false := by rw [decide_eq_false_iff_not]; omega
      have t1' : decide (i < j) = false := by simpa using hlt
      obtain rfl : i = j := by omega
      have HL := Lib.hid (lbS_halved HO.out (by rw [HN.out]; exact hj) HE.out.1 HE.out.2)
      clear HE hlt hij
      by_cases hin : i < n
      · have t2 : decide ((i : Int) < (n : Int)) = true := by rw [decide_eq_true_eq]; omega
        have t2' : decide (i < n) = true := by simpa using hin
        obtain ⟨s, hx⟩ : ∃ s, l[i]? = some s := ⟨_, List.getElem?_eq_getElem (by rw [HN.out]; exact hin)⟩
        have HX := Lib.hid (HR.out.below X.2)
        obtain ⟨ba, oa, rfl, hba, hc⟩ := HX.out.at hx
        have c0 : X.1.cell? ⟨ba, oa + i * 7, none⟩ = some (.int .i64 s.tm) := hc 0 _ rfl
        have c1 := hc 1 _ rfl
        have c2 := hc 2 _ rfl
        have c3 := hc 3 _ rfl
        have c4 := hc 4 _ rfl
        have c5 := hc 5 _ rfl
        have c6 := hc 6 _ rfl
        have D := Lib.hid (DZ.out s)
        have t3 := cmpI_eq s.tm x
        have HF := Lib.hid (show foundS l x = decide (s.tm = x) by unfold foundS; rw [HL.out, hx])
        generalize Lib.compareInt s.tm x = cv at D t3
        generalize decide (s.tm = x) = bf at t3 HF
        clear hc hx
        go_wp2_with fail
        refine (D.out _).mono ?_
        rintro e w1 ⟨rfl, hb⟩
        have HB := Lib.hid (below_step X.2 hb)
        clear hb
        go_wp2_with fail
        go_ret2
        exact ⟨by rw [HL.out, HF.out]; rfl, HB.out⟩
      · have t2 : decide ((i : Int) < (n : Int)) = false := by rw [decide_eq_false_iff_not]; omega
        have t2' : decide (i < n) = false := by simpa using hin
        have HF := Lib.hid (show foundS l x = false by unfold foundS; rw [HL.out, List.getElem?_eq_none (by rw [HN.out]; omega)])
        have HX := Lib.hid X.2
        clear hin
        go_wp2_with fail
        go_ret2
        exact ⟨by rw [HL.out, HF.out]; rfl, HX.out⟩
set_option maxHeartbeats 1000000 in
theorem between_any (p q part whole : Int) (w : World) (hp : -100000000 ≤ p ∧ p ≤ 100000000) (hq : -100000000 ≤ q ∧ q ≤ 100000000) (h0 : 0 ≤ part) (h1 : part ≤ whole) (h2 : 1 ≤ whole) (h3 : whole ≤ 1000000) :
    Calls Try.prog 90 #[.int .i64 p, .int .i64 q, .int .i64 part, .int .i64 whole] w fun e w' => e = .returned (.int .i64 (betw p q part whole)) ∧ Below w.heap.size w w' := by
  have D := Lib.hid (fun W => scale_any (q - p) part whole 4 W (by omega) (by omega) (by omega) (by omega))
  have hn := sc_near (a := q - p) (num := part) (den := whole) (by omega) (by omega) h0 h1 h2 h3
  unfold betw
  unfold scRet at D
  generalize Sc.sc (q - p) part whole 4 = r at *
  obtain ⟨r1, r2⟩ := r
  simp only at *
  obtain ⟨hn1, hn2⟩ := hn
  obtain ⟨hp1, hp2⟩ := hp
  obtain ⟨hq1, hq2⟩ := hq
  clear h0 h1 h2 h3
  go_enter Try.func90, Try.ntmps90
  go_wp2_with fail
  refine (D.out _).mono ?_
  rintro e w1 ⟨rfl, hb⟩
  have HB := Lib.hid hb
  clear hb D
  go_wp2_with fail
  go_ret
  exact ⟨rfl, HB.out⟩
set_option maxHeartbeats 8000000 in
set_option maxRecDepth 100000 in
theorem amid_any (p q : Sm) (n : Int) (w : World) (h : Btw p q n) : Calls Try.prog 87 #[smV p, smV q, .int .i64 n] w fun e w' => e = .returned (smV (amidS p q n)) ∧ Below w.heap.size w w' := by
  obtain ⟨px, py, pz⟩ := range_xyz h.rp
  obtain ⟨qx, qy, qz⟩ := range_xyz h.rq
  have hb := h.h0
  have hc := h.h1
  have hd := h.h2
  have he := h.h3
  have hf := h.h4
  have DX := Lib.hid (fun W => between_any p.x q.x (n - p.tm) (q.tm - p.tm) W px qx (by omega) (by omega) (by omega) (by omega))
  have DY := Lib.hid (fun W => between_any p.y q.y (n - p.tm) (q.tm - p.tm) W py qy (by omega) (by omega) (by omega) (by omega))
  have DZ := Lib.hid (fun W => between_any p.z q.z (n - p.tm) (q.tm - p.tm) W pz qz (by omega) (by omega) (by omega) (by omega))
  obtain ⟨tx, htx⟩ : ∃ t, betw p.x q.x (n - p.tm) (q.tm - p.tm) = t := ⟨_, rfl⟩
  obtain ⟨ty, hty⟩ : ∃ t, betw p.y q.y (n - p.tm) (q.tm - p.tm) = t := ⟨_, rfl⟩
  obtain ⟨tz, htz⟩ : ∃ t, betw p.z q.z (n - p.tm) (q.tm - p.tm) = t := ⟨_, rfl⟩
  have HV : Hid (amidS p q n = ⟨n, tx, ty, tz, p.pu, p.po, p.st⟩) := Lib.hid (by unfold amidS; rw [htx, hty, htz])
  rw [HV.out]
  rw [htx] at DX
  rw [hty] at DY
  rw [htz] at DZ
  have HI := smSize
  obtain ⟨V0, hV0, hb0, hs0, hl0⟩ := alloc_sm w p
  obtain ⟨V1, hV1, hb1, hs1, hl1⟩ := alloc_sm V0 q
  obtain ⟨V2, hV2, hb2, hs2, hl2⟩ := alloc_sm V1 sm0
  rw [hs0] at hl1
  rw [hs1, hs0] at hl2
  unfold sm0 at hV2
  have HP := Lib.hid ((hl0.below hb1).below hb2)
  have HQ := Lib.hid (hl1.below hb2)
  have HR := Lib.hid hl2
  have HV0 := Lib.hid hV0
  have HV1 := Lib.hid hV1
  have HV2 := Lib.hid hV2
  have HB := Lib.hid (below_step (below_step hb0 hb1) hb2)
  have HS := Lib.hid (show w.heap.size + 3 = V2.heap.size by omega)
  obtain ⟨p0, p1, p2, p3, p4, p5, p6⟩ := HP.out.cell
  obtain ⟨q0, q1, q2, q3, q4, q5, q6⟩ := HQ.out.cell
  have P0 := Ext.ex p0
  have P1 := Ext.ex p1
  have P2 := Ext.ex p2
  have P3 := Ext.ex p3
  have P4 := Ext.ex p4
  have P5 := Ext.ex p5
  have P6 := Ext.ex p6
  have Q0 := Ext.ex q0
  have Q1 := Ext.ex q1
  have Q2 := Ext.ex q2
  have Q3 := Ext.ex q3
  have Q4 := Ext.ex q4
  have Q5 := Ext.ex q5
  have Q6 := Ext.ex q6
  clear hV0 hb0 hs0 hl0 hV1 hb1 hs1 hl1 hV2 hb2 hs2 hl2 htx hty htz px py pz qx qy qz h p0 p1 p2 p3 p4 p5 p6 q0 q1 q2 q3 q4 q5 q6 HV
  unfold smV
  go_enter Try.func87, Try.ntmps87
  go_upto_region 1 with (fail)
  simp only at HV2
  rw [HV0.out, HV1.out, HV2.out]
  refine ext_wp fun X => ?_
  refine wp_region_ext (W := V2) _ (by kernel_rfl) (by kernel_rfl) ?_
  repeat go_big_quiet_step (fail)
  refine wpQuiet_nil ?_
  rintro _ ⟨Y, rfl⟩
  obtain ⟨V3, hV3, hb3, hs3, hl3⟩ := alloc_sm Y.1 p
  have HV3 := Lib.hid hV3
  have HY := Lib.hid (And.intro HS.out Y.2.size)
  obtain ⟨G, hG⟩ : ∃ G, Y.1.heap.size = G := ⟨_, rfl⟩
  clear hV3
  go_upto_region 3 with (fail)
  rw [HV3.out]
  rw [hG] at hl3
  have HGR := Lib.hid hG
  have HRP := Lib.hid (And.intro (HP.out.below (below_step Y.2 hb3)) (And.intro (HQ.out.below (below_step Y.2 hb3)) (And.intro (HR.out.below (below_step Y.2 hb3)) hl3)))
  have HNE := Lib.hid (show ¬ (w.heap.size = G ∨ w.heap.size = w.heap.size + 2) ∧ ¬ (w.heap.size + 1 = G ∨ w.heap.size + 1 = w.heap.size + 2) ∧ ¬ G = w.heap.size + 2 ∧ w.heap.size ≤ G from by have := HY.out; omega)
  have HB3 := Lib.hid (below_step (below_step HB.out Y.2) hb3)
  clear hb3 hs3 hl3 hG HV3 HP HQ HR HY
  clear P0 P1 P2 P3 P4 P5 P6
  clear Q0 Q1 Q2 Q3 Q4 Q5 Q6
  obtain ⟨p0, p1, p2, p3, p4, p5, p6⟩ := HRP.out.1.cell
  obtain ⟨q0, q1, q2, q3, q4, q5, q6⟩ := HRP.out.2.1.cell
  have P1 := ExtO.ex (O := fun b => b = G ∨ b = w.heap.size + 2) HNE.out.1 p1
  have P2 := ExtO.ex (O := fun b => b = G ∨ b = w.heap.size + 2) HNE.out.1 p2
  have P3 := ExtO.ex (O := fun b => b = G ∨ b = w.heap.size + 2) HNE.out.1 p3
  have Q1 := ExtO.ex (O := fun b => b = G ∨ b = w.heap.size + 2) HNE.out.2.1 q1
  have Q2 := ExtO.ex (O := fun b => b = G ∨ b = w.heap.size + 2) HNE.out.2.1 q2
  have Q3 := ExtO.ex (O := fun b => b = G ∨ b = w.heap.size + 2) HNE.out.2.1 q3
  clear p0 p1 p2 p3 p4 p5 p6 q0 q1 q2 q3 q4 q5 q6
  refine held_start (C := fun w' => ∃ Z : ExtO (fun b => b = G ∨ b = w.heap.size + 2) V3, w' = Z.1) (by kernel_rfl) ?_
  obtain ⟨Z0, hZ0⟩ : ∃ Z : ExtO (fun b => b = G ∨ b = w.heap.size + 2) V3, ({ V3 with drawn := V3.drawn + 1 } : World) = Z.1 := ⟨⟨{ V3 with drawn := V3.drawn + 1 }, ⟨rfl, rfl, rfl, Nat.le_refl _, fun _ _ _ => rfl⟩⟩, rfl⟩
  have HBX : Hid (SmB Z0.1 G p ∧ SmB Z0.1 (w.heap.size + 2) sm0) := Lib.hid (hZ0 ▸ ⟨HRP.out.2.2.2.below ⟨rfl, rfl, rfl, Nat.le_refl _, fun _ _ => rfl⟩, HRP.out.2.2.1.below ⟨rfl, rfl, rfl, Nat.le_refl _, fun _ _ => rfl⟩⟩)
  rw [hZ0]
  clear hZ0 HRP
  refine held_quiet (by kernel_rfl) (fun _ _ d _ _ h => by cases d <;> exact h) ⟨Z0, rfl⟩ [0, 1, 2, 3, 4, 5, 6, 8, 9, 10, 11, 12, 13, 15, 16, 17, 18, 19, 20, 22] 10 _ _ (by kernel_rfl) ?_
  change wpQuiet _ _ _ _ (_ :: _ :: _ :: _ :: _ :: _ :: _ :: _ :: _ :: _ :: _ :: _ :: _ :: _ :: _ :: _ :: _ :: _ :: _ :: _ :: []) _
  repeat go_big_quiet_step (fail)
  refine wpQuiet_nil ?_
  refine held_do (i := 7) _ rfl (by kernel_rfl) rfl (fun K hK => ?_)
  go_simp
  refine (DX.out _).mono ?_
  rintro e w1 ⟨rfl, hb⟩
  obtain ⟨Z1, rfl⟩ : ∃ Z : ExtO (fun b => b = G ∨ b = w.heap.size + 2) V3, w1 = Z.1 := ⟨⟨w1, Z0.2.trans (Kept.of_below hb)⟩, rfl⟩
  have HBX : Hid (SmB Z1.1 G p ∧ SmB Z1.1 (w.heap.size + 2) sm0) := Lib.hid (⟨HBX.out.1.below hb, HBX.out.2.below hb⟩)
  refine hK _ _ ⟨Z1, rfl⟩ ?_
  clear hK K hb
  try simp only [Act.put, List.setIfInBounds_toArray, List.set_cons_zero, List.set_cons_succ]
  refine held_do (i := 14) _ rfl (by kernel_rfl) rfl (fun K hK => ?_)
  go_simp
  refine (DY.out _).mono ?_
  rintro e w2 ⟨rfl, hb⟩
  obtain ⟨Z2, rfl⟩ : ∃ Z : ExtO (fun b => b = G ∨ b = w.heap.size + 2) V3, w2 = Z.1 := ⟨⟨w2, Z1.2.trans (Kept.of_below hb)⟩, rfl⟩
  have HBX : Hid (SmB Z2.1 G p ∧ SmB Z2.1 (w.heap.size + 2) sm0) := Lib.hid (⟨HBX.out.1.below hb, HBX.out.2.below hb⟩)
  refine hK _ _ ⟨Z2, rfl⟩ ?_
  clear hK K hb
  try simp only [Act.put, List.setIfInBounds_toArray, List.set_cons_zero, List.set_cons_succ]
  refine held_do (i := 21) _ rfl (by kernel_rfl) rfl (fun K hK => ?_)
  go_simp
  refine (DZ.out _).mono ?_
  rintro e w3 ⟨rfl, hb⟩
  obtain ⟨Z3, rfl⟩ : ∃ Z : ExtO (fun b => b = G ∨ b = w.heap.size + 2) V3, w3 = Z.1 := ⟨⟨w3, Z2.2.trans (Kept.of_below hb)⟩, rfl⟩
  have HBX : Hid (SmB Z3.1 G p ∧ SmB Z3.1 (w.heap.size + 2) sm0) := Lib.hid (⟨HBX.out.1.below hb, HBX.out.2.below hb⟩)
  refine hK _ _ ⟨Z3, rfl⟩ ?_
  clear hK K hb
  try simp only [Act.put, List.setIfInBounds_toArray, List.set_cons_zero, List.set_cons_succ]
  obtain ⟨g0, g1, g2, g3, g4, g5, g6⟩ := HBX.out.1.cell
  have f0 := HBX.out.1.free 0
  refine held_do (i := 23) _ rfl (by kernel_rfl) rfl (fun K hK => ?_)
  go_simp
  obtain ⟨Z4, hZ⟩ : ∃ Z : ExtO (fun b => b = G ∨ b = w.heap.size + 2) V3, Z3.1.setCell ⟨G, 0, none⟩ (.int .i64 n) = Z.1 := ⟨⟨_, Z3.2.trans (keep_set (Or.inl rfl))⟩, rfl⟩
  have HBX : Hid (SmB Z4.1 G { p with tm := n } ∧ SmB Z4.1 (w.heap.size + 2) sm0) := Lib.hid (hZ ▸ ⟨HBX.out.1.set0 n, HBX.out.2.kept (O := fun b => b = G) (keep_set rfl) (fun e => HNE.out.2.2.1 e.symm)⟩)
  rw [hZ]
  refine hK _ _ ⟨Z4, rfl⟩ ?_
  clear hK K hZ g0 g1 g2 g3 g4 g5 g6 f0
  try simp only [Act.put, List.setIfInBounds_toArray, List.set_cons_zero, List.set_cons_succ]
  refine held_quiet (by kernel_rfl) (fun _ _ d _ _ h => by cases d <;> exact h) ⟨Z4, rfl⟩ [24] 5 _ _ (by kernel_rfl) ?_
  change wpQuiet _ _ _ _ (_ :: []) _
  repeat go_big_quiet_step (fail)
  refine wpQuiet_nil ?_
  obtain ⟨g0, g1, g2, g3, g4, g5, g6⟩ := HBX.out.1.cell
  have f1 := HBX.out.1.free 1
  refine held_do (i := 25) _ rfl (by kernel_rfl) rfl (fun K hK => ?_)
  go_simp
  obtain ⟨Z5, hZ⟩ : ∃ Z : ExtO (fun b => b = G ∨ b = w.heap.size + 2) V3, Z4.1.setCell ⟨G, 1, none⟩ (.int .i64 tx) = Z.1 := ⟨⟨_, Z4.2.trans (keep_set (Or.inl rfl))⟩, rfl⟩
  have HBX : Hid (SmB Z5.1 G { { p with tm := n } with x := tx } ∧ SmB Z5.1 (w.heap.size + 2) sm0) := Lib.hid (hZ ▸ ⟨HBX.out.1.set1 tx, HBX.out.2.kept (O := fun b => b = G) (keep_set rfl) (fun e => HNE.out.2.2.1 e.symm)⟩)
  rw [hZ]
  refine hK _ _ ⟨Z5, rfl⟩ ?_
  clear hK K hZ g0 g1 g2 g3 g4 g5 g6 f1
  try simp only [Act.put, List.setIfInBounds_toArray, List.set_cons_zero, List.set_cons_succ]
  refine held_quiet (by kernel_rfl) (fun _ _ d _ _ h => by cases d <;> exact h) ⟨Z5, rfl⟩ [26] 3 _ _ (by kernel_rfl) ?_
  change wpQuiet _ _ _ _ (_ :: []) _
  repeat go_big_quiet_step (fail)
  refine wpQuiet_nil ?_
  obtain ⟨g0, g1, g2, g3, g4, g5, g6⟩ := HBX.out.1.cell
  have f2 := HBX.out.1.free 2
  refine held_do (i := 27) _ rfl (by kernel_rfl) rfl (fun K hK => ?_)
  go_simp
  obtain ⟨Z6, hZ⟩ : ∃ Z : ExtO (fun b => b = G ∨ b = w.heap.size + 2) V3, Z5.1.setCell ⟨G, 2, none⟩ (.int .i64 ty) = Z.1 := ⟨⟨_, Z5.2.trans (keep_set (Or.inl rfl))⟩, rfl⟩
  have HBX : Hid (SmB Z6.1 G { { { p with tm := n } with x := tx } with y := ty } ∧ SmB Z6.1 (w.heap.size + 2) sm0) := Lib.hid (hZ ▸ ⟨HBX.out.1.set2 ty, HBX.out.2.kept (O := fun b => b = G) (keep_set rfl) (fun e => HNE.out.2.2.1 e.symm)⟩)
  rw [hZ]
  refine hK _ _ ⟨Z6, rfl⟩ ?_
  clear hK K hZ g0 g1 g2 g3 g4 g5 g6 f2
  try simp only [Act.put, List.setIfInBounds_toArray, List.set_cons_zero, List.set_cons_succ]
  refine held_quiet (by kernel_rfl) (fun _ _ d _ _ h => by cases d <;> exact h) ⟨Z6, rfl⟩ [28] 1 _ _ (by kernel_rfl) ?_
  change wpQuiet _ _ _ _ (_ :: []) _
  repeat go_big_quiet_step (fail)
  refine wpQuiet_nil ?_
  obtain ⟨g0, g1, g2, g3, g4, g5, g6⟩ := HBX.out.1.cell
  have f3 := HBX.out.1.free 3
  refine held_do (i := 29) _ rfl (by kernel_rfl) rfl (fun K hK => ?_)
  go_simp
  obtain ⟨Z7, hZ⟩ : ∃ Z : ExtO (fun b => b = G ∨ b = w.heap.size + 2) V3, Z6.1.setCell ⟨G, 3, none⟩ (.int .i64 tz) = Z.1 := ⟨⟨_, Z6.2.trans (keep_set (Or.inl rfl))⟩, rfl⟩
  have HBX : Hid (SmB Z7.1 G { { { { p with tm := n } with x := tx } with y := ty } with z := tz } ∧ SmB Z7.1 (w.heap.size + 2) sm0) := Lib.hid (hZ ▸ ⟨HBX.out.1.set3 tz, HBX.out.2.kept (O := fun b => b = G) (keep_set rfl) (fun e => HNE.out.2.2.1 e.symm)⟩)
  rw [hZ]
  refine hK _ _ ⟨Z7, rfl⟩ ?_
  clear hK K hZ g0 g1 g2 g3 g4 g5 g6 f3
  try simp only [Act.put, List.setIfInBounds_toArray, List.set_cons_zero, List.set_cons_succ]
  refine wpAnyH_done (by kernel_rfl) ?_ _
  obtain ⟨g0, g1, g2, g3, g4, g5, g6⟩ := HBX.out.1.cell
  obtain ⟨r0, r1, r2, r3, r4, r5, r6⟩ := HBX.out.2.cell
  have fr := HBX.out.2.free
  have f0 := fr 0
  have f1 := fr 1
  have f2 := fr 2
  have f3 := fr 3
  have f4 := fr 4
  have f5 := fr 5
  have f6 := fr 6
  try simp only at g0 g1 g2 g3 g4 g5 g6
  unfold sm0 at r0 r1 r2 r3 r4 r5 r6
  try simp only at r0 r1 r2 r3 r4 r5 r6
  clear fr
  obtain ⟨WE, hWE, hWB, hWK⟩ := HBX.out.2.store ⟨n, tx, ty, tz, p.pu, p.po, p.st⟩
  have HWE := Lib.hid hWE
  have HWB := Lib.hid (And.intro hWB (show Below w.heap.size w WE from Kept.below HB3.out (Z7.2.trans (hWK (fun b => b = G ∨ b = w.heap.size + 2) (Or.inr rfl))) HB3.out.size (fun k hk e => by have := HNE.out; omega)))
  clear hWE hWB hWK
  go_wp2_with fail
  try simp only at HWE
  rw [HWE.out]
  exact bodyPost_ret (v := _) (results_cell_row Try.results87 _ _ (w.heap.size + 2) _ _ _ _ rfl HWB.out.1 Try.underlying37 rfl HI.out) rfl ⟨rfl, HWB.out.2⟩
set_option maxHeartbeats 8000000 in
set_option maxRecDepth 100000 in
theorem where_any (A : Acv) (a b c : Option Addr) (ca cb cc : Nat) (n : Int) (w : World) (h : Rw smC 7 w a A.sm) (ho : SmOk A.start A.sm) (hl : A.sm.length ≤ 20000) (hne : 0 < A.sm.length) (h0 : 0 ≤ n) (h1 : n ≤ spanS A.sm) :
    Calls Try.prog 67 #[actV A a b c ca cb cc, .int .i64 n] w fun e w' => e = .returned (smV (whereS A.sm n)) ∧ Below w.heap.size w w' := by
  obtain ⟨q, hq, hw⟩ := where_cases ho hne h0 h1
  have HI := smSize
  have DS := fun (W : World) (hb : Below w.heap.size w W) => searchS_any a A.sm ca n A.start W (h.below hb) ho hl
  unfold actV at *
  have hki := (List.getElem?_eq_some_iff.1 hq).1
  have HLI : Hid (∀ i : Nat, i ≤ A.sm.length → (∀ s : Sm, 0 < i → A.sm[i - 1]? = some s → s.tm < n) → (∀ s : Sm, A.sm[i]? = some s → n ≤ s.tm) → lbS A.sm n = i) := Lib.hid (fun i hi h1 h2 => lbS_halved ho hi h1 h2)
  have HLAST := Lib.hid (show ∀ s : Sm, A.sm[A.sm.length - 1]? = some s → n ≤ s.tm from fun s hs => by rw [spanS_last hs] at h1; exact h1)
  obtain ⟨k, hk⟩ : ∃ k, lbS A.sm n = k := ⟨_, rfl⟩
  obtain ⟨m, hm⟩ : ∃ m, A.sm.length = m := ⟨_, rfl⟩
  have HN := Lib.hid hm
  have HK := Lib.hid hk
  rw [hm] at hl hki HLI HLAST ⊢
  rw [hk] at hq hw hki HLI DS
  rw [hm] at DS
  obtain ⟨ba, oa, rfl, hba, hc⟩ := h.at hq
  have HROW := Lib.hid h
  have q0 : w.cell? ⟨ba, oa + k * 7, none⟩ = some (.int .i64 q.tm) := hc 0 _ rfl
  have q1 := hc 1 _ rfl
  have q2 := hc 2 _ rfl
  have q3 := hc 3 _ rfl
  have q4 := hc 4 _ rfl
  have q5 := hc 5 _ rfl
  have q6 := hc 6 _ rfl
  generalize A.lp.length = m2 at *
  generalize A.tg.length = m3 at *
  obtain ⟨V0, hV0, hb0, hs0, hl0⟩ := alloc_cells w #[.string A.name, .int .i64 A.sport, .int .i64 A.start, .slice (some ⟨ba, oa, none⟩) m ca, .slice b m2 cb, .slice c m3 cc] 26
  obtain ⟨V1, hV1, hb1, hs1, hl1⟩ := alloc_sm V0 sm0
  rw [hs0] at hl1
  unfold sm0 at hV1
  have B3 := ExtO.ex (O := fun b => b = w.heap.size + 1) (show ¬ w.heap.size = w.heap.size + 1 by omega) (below_cell hb1 (hl0 3 _ rfl))
  have hbq : ¬ ba = w.heap.size + 1 := by omega
  have Q0 := ExtO.ex (O := fun b => b = w.heap.size + 1) hbq (below_cell hb1 (below_cell hb0 q0))
  have Q1 := ExtO.ex (O := fun b => b = w.heap.size + 1) hbq (below_cell hb1 (below_cell hb0 q1))
  have Q2 := ExtO.ex (O := fun b => b = w.heap.size + 1) hbq (below_cell hb1 (below_cell hb0 q2))
  have Q3 := ExtO.ex (O := fun b => b = w.heap.size + 1) hbq (below_cell hb1 (below_cell hb0 q3))
  have Q4 := ExtO.ex (O := fun b => b = w.heap.size + 1) hbq (below_cell hb1 (below_cell hb0 q4))
  have Q5 := ExtO.ex (O := fun b => b = w.heap.size + 1) hbq (below_cell hb1 (below_cell hb0 q5))
  have Q6 := ExtO.ex (O := fun b => b = w.heap.size + 1) hbq (below_cell hb1 (below_cell hb0 q6))
  have HBQ := Lib.hid hbq
  have HR := Lib.hid hl1
  have HB := Lib.hid (below_step hb0 hb1)
  have HB0 := Lib.hid hb0
  have HB1 := Lib.hid hb1
  have HV0 := Lib.hid hV0
  have HV1 := Lib.hid hV1
  have hkb : (k : Int) ≤ 20000 := by omega
  have hmb : (m : Int) ≤ 20000 := by omega
  have DS := Lib.hid (fun (W : World) (hb : Below V1.heap.size V1 W) => DS W (below_step (below_step hb0 hb1) hb))
  clear hq hc q0 q1 q2 q3 q4 q5 q6 h hV0 hb0 hs0 hl0 hV1 hb1 hs1 hl1 hk hm hbq
  rcases hw with ⟨he, hv, hf⟩ | ⟨he, hf, j, p, rfl, hp, hbt, hv⟩
  · rw [hv]
    rw [hf] at DS
    clear hv hf he
    unfold smV
    go_enter Try.func67, Try.ntmps67
    go_upto_region 1 with (fail)
    rw [HV0.out, HV1.out]
    refine ext_wp fun X => ?_
    have B3x := B3 ⟨X.1, Kept.of_below X.2⟩
    go_wp2_with fail
    refine (DS.out X.1 X.2).mono ?_
    rintro e w1 ⟨rfl, hb⟩
    obtain ⟨Y, rfl⟩ : ∃ Y : Ext V1, w1 = Y.1 := ⟨⟨w1, below_step X.2 hb⟩, rfl⟩
    clear hb B3x
    have HRZ : Hid (SmB Y.1 (w.heap.size + 1) sm0) := Lib.hid (HR.out.below Y.2)
    obtain ⟨r0, r1, r2, r3, r4, r5, r6⟩ := HRZ.out.cell
    have fr := HRZ.out.free
    have f0 := fr 0
    have f1 := fr 1
    have f2 := fr 2
    have f3 := fr 3
    have f4 := fr 4
    have f5 := fr 5
    have f6 := fr 6
    unfold sm0 at r0 r1 r2 r3 r4 r5 r6
    try simp only at r0 r1 r2 r3 r4 r5 r6
    clear fr
    obtain ⟨WE, hWE, hWB, hWK⟩ := HRZ.out.store q
    have HWE := Lib.hid hWE
    have HWB := Lib.hid (And.intro hWB (show Below w.heap.size w WE from Kept.below (below_step HB.out Y.2) (hWK (fun b => b = w.heap.size + 1) rfl) (below_step HB.out Y.2).size (fun k hk e => by omega)))
    have B3z := B3 ⟨Y.1, Kept.of_below Y.2⟩
    have Q0z := Q0 ⟨Y.1, Kept.of_below Y.2⟩
    have Q1z := Q1 ⟨Y.1, Kept.of_below Y.2⟩
    have Q2z := Q2 ⟨Y.1, Kept.of_below Y.2⟩
    have Q3z := Q3 ⟨Y.1, Kept.of_below Y.2⟩
    have Q4z := Q4 ⟨Y.1, Kept.of_below Y.2⟩
    have Q5z := Q5 ⟨Y.1, Kept.of_below Y.2⟩
    have Q6z := Q6 ⟨Y.1, Kept.of_below Y.2⟩
    clear hWE hWB hWK B3 Q0 Q1 Q2 Q3 Q4 Q5 Q6
    go_wp2_with fail
    rw [HWE.out]
    exact bodyPost_ret (v := _) (results_cell_row Try.results67 _ _ (w.heap.size + 1) _ _ _ _ rfl HWB.out.1 Try.underlying37 rfl HI.out) rfl ⟨rfl, HWB.out.2⟩
  · rw [hv]
    rw [hf] at DS
    have hcp := HROW.out.on hp
    have p0 : w.cell? ⟨ba, oa + j * 7, none⟩ = some (.int .i64 p.tm) := hcp 0 _ rfl
    have p1 := hcp 1 _ rfl
    have p2 := hcp 2 _ rfl
    have p3 := hcp 3 _ rfl
    have p4 := hcp 4 _ rfl
    have p5 := hcp 5 _ rfl
    have p6 := hcp 6 _ rfl
    have P0 := ExtO.ex (O := fun b => b = w.heap.size + 1) HBQ.out (below_cell HB1.out (below_cell HB0.out p0))
    have P1 := ExtO.ex (O := fun b => b = w.heap.size + 1) HBQ.out (below_cell HB1.out (below_cell HB0.out p1))
    have P2 := ExtO.ex (O := fun b => b = w.heap.size + 1) HBQ.out (below_cell HB1.out (below_cell HB0.out p2))
    have P3 := ExtO.ex (O := fun b => b = w.heap.size + 1) HBQ.out (below_cell HB1.out (below_cell HB0.out p3))
    have P4 := ExtO.ex (O := fun b => b = w.heap.size + 1) HBQ.out (below_cell HB1.out (below_cell HB0.out p4))
    have P5 := ExtO.ex (O := fun b => b = w.heap.size + 1) HBQ.out (below_cell HB1.out (below_cell HB0.out p5))
    have P6 := ExtO.ex (O := fun b => b = w.heap.size + 1) HBQ.out (below_cell HB1.out (below_cell HB0.out p6))
    have DA := Lib.hid (fun W => amid_any p q n W hbt)
    have hwr : IntKind.i64.wrap ((j : Int) + 1 - 1) = (j : Int) := by rw [IntKind.wrap_i64]; omega
    have hsub : (j : Int) + 1 - 1 = (j : Int) := by omega
    have hjm : j < m := by omega
    generalize amidS p q n = am at *
    obtain ⟨am1, am2, am3, am4, am5, am6, am7⟩ := am
    clear hv hf he hp hbt hcp p0 p1 p2 p3 p4 p5 p6
    unfold smV at *
    simp only at *
    go_enter Try.func67, Try.ntmps67
    go_upto_region 1 with (fail)
    rw [HV0.out, HV1.out]
    refine ext_wp fun X => ?_
    have B3x := B3 ⟨X.1, Kept.of_below X.2⟩
    go_wp2_with fail
    refine (DS.out X.1 X.2).mono ?_
    rintro e w1 ⟨rfl, hb⟩
    obtain ⟨Y, rfl⟩ : ∃ Y : Ext V1, w1 = Y.1 := ⟨⟨w1, below_step X.2 hb⟩, rfl⟩
    clear hb B3x
    go_wp2_with fail
    have HRZ0 : Hid (SmB Y.1 (w.heap.size + 1) sm0) := Lib.hid (HR.out.below Y.2)
    have HBZ := Lib.hid (below_step HB.out Y.2)
    obtain ⟨V3, hV3⟩ : ∃ V, Y.1 = V := ⟨_, rfl⟩
    have HV31 := Lib.hid (show Kept (fun b => b = w.heap.size + 1) V1 V3 from hV3 ▸ Kept.of_below Y.2)
    have B3z := ExtO.re HV31.out B3
    have P0z := ExtO.re HV31.out P0
    have P1z := ExtO.re HV31.out P1
    have P2z := ExtO.re HV31.out P2
    have P3z := ExtO.re HV31.out P3
    have P4z := ExtO.re HV31.out P4
    have P5z := ExtO.re HV31.out P5
    have P6z := ExtO.re HV31.out P6
    have Q0z := ExtO.re HV31.out Q0
    have Q1z := ExtO.re HV31.out Q1
    have Q2z := ExtO.re HV31.out Q2
    have Q3z := ExtO.re HV31.out Q3
    have Q4z := ExtO.re HV31.out Q4
    have Q5z := ExtO.re HV31.out Q5
    have Q6z := ExtO.re HV31.out Q6
    rw [hV3] at HRZ0 HBZ
    rw [hV3]
    clear hV3 B3 P0 P1 P2 P3 P4 P5 P6 Q0 Q1 Q2 Q3 Q4 Q5 Q6
    refine held_start (C := fun w' => ∃ Z : ExtO (fun b => b = w.heap.size + 1) V3, w' = Z.1) (by kernel_rfl) ?_
    obtain ⟨Z0, hZ0⟩ : ∃ Z : ExtO (fun b => b = w.heap.size + 1) V3, ({ V3 with drawn := V3.drawn + 1 } : World) = Z.1 := ⟨⟨{ V3 with drawn := V3.drawn + 1 }, ⟨rfl, rfl, rfl, Nat.le_refl _, fun _ _ _ => rfl⟩⟩, rfl⟩
    have HRZ1 : Hid (SmB Z0.1 (w.heap.size + 1) sm0) := Lib.hid (hZ0 ▸ HRZ0.out.below ⟨rfl, rfl, rfl, Nat.le_refl _, fun _ _ => rfl⟩)
    rw [hZ0]
    clear hZ0
    refine held_quiet (by kernel_rfl) (fun _ _ d _ _ h => by cases d <;> exact h) ⟨Z0, rfl⟩ [0, 1, 2, 3, 4, 5, 6, 7, 8, 9, 10, 11] 2 _ _ (by kernel_rfl) ?_
    change wpQuiet _ _ _ _ (_ :: _ :: _ :: _ :: _ :: _ :: _ :: _ :: _ :: _ :: _ :: _ :: []) _
    repeat go_big_quiet_step (fail)
    refine wpQuiet_nil ?_
    refine held_do (i := 12) _ rfl (by kernel_rfl) rfl (fun K hK => ?_)
    go_simp
    refine (DA.out _).mono ?_
    rintro e w3 ⟨rfl, hb⟩
    obtain ⟨Z3, rfl⟩ : ∃ Z : ExtO (fun b => b = w.heap.size + 1) V3, w3 = Z.1 := ⟨⟨w3, Z0.2.trans (Kept.of_below hb)⟩, rfl⟩
    have HRZ : Hid (SmB Z3.1 (w.heap.size + 1) sm0) := Lib.hid (HRZ1.out.below hb)
    refine hK _ _ ⟨Z3, rfl⟩ ?_
    clear hK K hb
    try simp only [Act.put, List.setIfInBounds_toArray, List.set_cons_zero, List.set_cons_succ]
    obtain ⟨r0, r1, r2, r3, r4, r5, r6⟩ := HRZ.out.cell
    have fr := HRZ.out.free
    have f0 := fr 0
    have f1 := fr 1
    have f2 := fr 2
    have f3 := fr 3
    have f4 := fr 4
    have f5 := fr 5
    have f6 := fr 6
    unfold sm0 at r0 r1 r2 r3 r4 r5 r6
    try simp only at r0 r1 r2 r3 r4 r5 r6
    clear fr
    obtain ⟨WE, hWE, hWB, hWK⟩ := HRZ.out.store ⟨am1, am2, am3, am4, am5, am6, am7⟩
    have HWE := Lib.hid hWE
    have HKE := Lib.hid (Z3.2.trans (hWK (fun b => b = w.heap.size + 1) rfl))
    have HWB := Lib.hid (And.intro hWB (show Below w.heap.size w WE from Kept.below HBZ.out HKE.out HBZ.out.size (fun k hk e => by omega)))
    clear hWE hWB hWK
    refine held_do (i := 13) _ rfl (by kernel_rfl) rfl (fun K hK => ?_)
    go_simp
    rw [HWE.out]
    refine hK _ _ ⟨⟨WE, HKE.out⟩, rfl⟩ ?_
    clear hK K
    try simp only [Act.put, List.setIfInBounds_toArray, List.set_cons_zero, List.set_cons_succ]
    refine wpAnyH_done (by kernel_rfl) ?_ _
    go_wp2_with fail
    exact bodyPost_ret (v := _) (results_cell_row Try.results67 _ _ (w.heap.size + 1) _ _ _ _ rfl HWB.out.1 Try.underlying37 rfl HI.out) rfl ⟨rfl, HWB.out.2⟩
set_option maxHeartbeats 4000000 in
set_option maxRecDepth 100000 in
theorem better_any (m o : Mt) (w : World) (hm : MtOk m) (ho : MtOk o) : Calls Try.prog 41 #[mtV m, mtV o] w fun e w' => e = .returned (.bool (Ft.better m o)) ∧ Below w.heap.size w w' := by
  obtain ⟨k1, k2⟩ := hm.mul ho
  obtain ⟨k3, k4⟩ := ho.mul hm
  have s1 := hm.s1
  have s2 := hm.s2
  have s3 := ho.s1
  have s4 := ho.s2
  have m1 := hm.m1
  have m2 := hm.m2
  have m3 := ho.m1
  have m4 := ho.m2
  have C1 := Lib.hid (fun W => Try.cmp_Compare_int (m.sum * o.many) (o.sum * m.many) W)
  have C2 := Lib.hid (fun W => Try.cmp_Compare_int o.many m.many W)
  have C3 := Lib.hid (fun W => Try.cmp_Compare_int (Ft.absI m.shift) (Ft.absI o.shift) W)
  have C4 := Lib.hid (fun W => Try.cmp_Compare_int o.shift m.shift W)
  have HV := betV_neg m o
  have HVV : Hid (betV m o = orL [Lib.compareInt (m.sum * o.many) (o.sum * m.many), Lib.compareInt o.many m.many, Lib.compareInt (Ft.absI m.shift) (Ft.absI o.shift), Lib.compareInt o.shift m.shift]) := Lib.hid rfl
  generalize Lib.compareInt (m.sum * o.many) (o.sum * m.many) = c1 at *
  generalize Lib.compareInt o.many m.many = c2 at *
  generalize Lib.compareInt (Ft.absI m.shift) (Ft.absI o.shift) = c3 at *
  generalize Lib.compareInt o.shift m.shift = c4 at *
  generalize betV m o = bv at *
  generalize Ft.better m o = bb at *
  unfold Ft.absI at C3
  obtain ⟨V0, hV0, hb0, hs0, hl0⟩ := alloc_cells w #[.int .i64 m.shift, .int .i64 m.many, .int .i64 m.sum] 39
  obtain ⟨V1, hV1, hb1, hs1, hl1⟩ := alloc_cells V0 #[.int .i64 o.shift, .int .i64 o.many, .int .i64 o.sum] 39
  rw [hs0] at hl1
  have G0 := Ext.ex (below_cell hb1 (hl0 0 _ rfl))
  have G1 := Ext.ex (below_cell hb1 (hl0 1 _ rfl))
  have G2 := Ext.ex (below_cell hb1 (hl0 2 _ rfl))
  have F0 := Ext.ex (hl1 0 _ rfl)
  have F1 := Ext.ex (hl1 1 _ rfl)
  have F2 := Ext.ex (hl1 2 _ rfl)
  have HV0 := Lib.hid hV0
  have HV1 := Lib.hid hV1
  have HB := Lib.hid (below_step hb0 hb1)
  have HS := Lib.hid (show w.heap.size ≤ V1.heap.size by omega)
  clear hV0 hV1 hb0 hb1 hs0 hs1 hl0 hl1 hm ho
  unfold mtV
  go_enter Try.func41, Try.ntmps41
  go_upto_region 1 with (fail)
  rw [HV0.out, HV1.out]
  refine held_start (C := fun w' => ∃ Z : Ext V1, w' = Z.1) (by kernel_rfl) ?_
  obtain ⟨Z0, hZ0⟩ : ∃ Z : Ext V1, ({ V1 with drawn := V1.drawn + 1 } : World) = Z.1 := ⟨⟨{ V1 with drawn := V1.drawn + 1 }, ⟨rfl, rfl, rfl, Nat.le_refl _, fun _ _ => rfl⟩⟩, rfl⟩
  rw [hZ0]
  clear hZ0
  refine held_quiet3 (by kernel_rfl) (fun _ _ d _ _ h => by cases d <;> exact h) ⟨Z0, rfl⟩ [0, 1, 2, 3, 4, 5, 6, 7, 8, 9, 11, 12, 13, 14, 16, 17, 18, 19, 20, 22, 23, 24, 25, 26, 29, 30, 31, 32, 21, 27] 8 _ _ (by kernel_rfl) ?_
  change wpQuiet _ _ _ _ (_ :: _ :: _ :: _ :: _ :: _ :: _ :: _ :: _ :: _ :: _ :: _ :: _ :: _ :: _ :: _ :: _ :: _ :: _ :: _ :: _ :: _ :: _ :: _ :: _ :: _ :: _ :: _ :: _ :: _ :: []) _
  repeat go_big_quiet_step (fail)
  refine wpQuiet_nil ?_
  refine held_do (i := 10) _ rfl (by kernel_rfl) rfl (fun K hK => ?_)
  go_simp
  refine (C1.out _).mono ?_
  rintro e w1 ⟨rfl, rfl⟩
  refine hK _ _ ⟨Z0, rfl⟩ ?_
  clear hK K
  try simp only [Act.put, List.setIfInBounds_toArray, List.set_cons_zero, List.set_cons_succ]
  refine held_do (i := 15) _ rfl (by kernel_rfl) rfl (fun K hK => ?_)
  go_simp
  refine (C2.out _).mono ?_
  rintro e w1 ⟨rfl, rfl⟩
  refine hK _ _ ⟨Z0, rfl⟩ ?_
  clear hK K
  try simp only [Act.put, List.setIfInBounds_toArray, List.set_cons_zero, List.set_cons_succ]
  refine held_do (i := 28) _ rfl (by kernel_rfl) rfl (fun K hK => ?_)
  go_simp
  refine (C3.out _).mono ?_
  rintro e w1 ⟨rfl, rfl⟩
  refine hK _ _ ⟨Z0, rfl⟩ ?_
  clear hK K
  try simp only [Act.put, List.setIfInBounds_toArray, List.set_cons_zero, List.set_cons_succ]
  refine held_do (i := 33) _ rfl (by kernel_rfl) rfl (fun K hK => ?_)
  go_simp
  refine (C4.out _).mono ?_
  rintro e w1 ⟨rfl, rfl⟩
  refine hK _ _ ⟨Z0, rfl⟩ ?_
  clear hK K
  try simp only [Act.put, List.setIfInBounds_toArray, List.set_cons_zero, List.set_cons_succ]
  refine held_do (i := 34) _ rfl (by kernel_rfl) rfl (fun K hK => ?_)
  go_simp
  obtain ⟨Wb, hWb, hwb1, hwb2, hwq⟩ := alloc_cells Z0.1 #[.int .i64 c1, .int .i64 c2, .int .i64 c3, .int .i64 c4] 3
  rw [hWb]
  obtain ⟨Z1, rfl⟩ : ∃ Z : Ext V1, Wb = Z.1 := ⟨⟨Wb, below_step Z0.2 hwb1⟩, rfl⟩
  have DO := Lib.hid (orInt_any [c1, c2, c3, c4] Z0.1.heap.size 4 Z1.1 (by simp) (fun i v hv => hwq i _ (by
    match i, hv with
    | 0, h => injection h with h; subst h; rfl
    | 1, h => injection h with h; subst h; rfl
    | 2, h => injection h with h; subst h; rfl
    | 3, h => injection h with h; subst h; rfl
    | n + 4, h => simp at h)))
  rw [← HVV.out] at DO
  refine hK _ _ ⟨Z1, rfl⟩ ?_
  clear hK K hWb hwb1 hwb2 hwq
  try simp only [Act.put, List.setIfInBounds_toArray, List.set_cons_zero, List.set_cons_succ]
  refine held_do (i := 35) _ rfl (by kernel_rfl) rfl (fun K hK => ?_)
  go_simp
  refine DO.out.mono ?_
  rintro e w1 ⟨rfl, rfl⟩
  refine hK _ _ ⟨Z1, rfl⟩ ?_
  clear hK K DO
  try simp only [Act.put, List.setIfInBounds_toArray, List.set_cons_zero, List.set_cons_succ]
  refine held_quiet (by kernel_rfl) (fun _ _ d _ _ h => by cases d <;> exact h) ⟨Z1, rfl⟩ [36, 37] 0 _ _ (by kernel_rfl) ?_
  change wpQuiet _ _ _ _ (_ :: _ :: []) _
  repeat go_big_quiet_step (fail)
  refine wpQuiet_nil ?_
  refine wpAnyH_done (by kernel_rfl) ?_ _
  go_wp2_with fail
  go_ret
  exact ⟨rfl, Z1.down HB.out HS.out⟩
set_option maxHeartbeats 16000000 in
set_option maxRecDepth 100000 in
theorem shifted_any (A B : Acv) (a b c a' b' c' : Option Addr) (ca cb cc ca' cb' cc' : Nat) (shift : Int) (w : World) (hA : Rw smC 7 w a A.sm) (hB : Rw smC 7 w a' B.sm) (oA : FitOk A) (oB : FitOk B) (h1 : -3600 ≤ shift) (h2 : shift ≤ 3600) :
    Calls Try.prog 40 #[actV A a b c ca cb cc, actV B a' b' c' ca' cb' cc', .int .i64 shift] w fun e w' => e = .returned (mtV (shiftedF A B shift)) ∧ Below w.heap.size w w' := by
  have HI := mtSize
  have DSP := fun (W : World) (hb : Below w.heap.size w W) => span_any A a b c ca cb cc W (hA.below hb) (by have := oA.n; omega)
  have DW := fun (n : Int) (W : World) (hb : Below w.heap.size w W) (hne : 0 < A.sm.length) (h0 : 0 ≤ n) (h1 : n ≤ spanS A.sm) => where_any A a b c ca cb cc n W (hA.below hb) oA.sm (by have := oA.n; omega) hne h0 h1
  have HOA := Lib.hid oA
  have HOB := Lib.hid oB
  have HROW := Lib.hid hB
  have hna := oA.n
  have hnb := oB.n
  have sa1 := oA.st1
  have sa2 := oA.st2
  have sb1 := oB.st1
  have sb2 := oB.st2
  have HFIN : Hid (shiftedF A B shift = mtFold A B.start shift (B.sm.take B.sm.length)) := Lib.hid (by rw [List.take_length]; rfl)
  have HAT := Lib.hid (fun k (hk : k ≤ B.sm.length) => mtFold_at A B.start shift B.sm k hk)
  unfold actV at *
  obtain ⟨na, hna0⟩ : ∃ n, A.sm.length = n := ⟨_, rfl⟩
  obtain ⟨nb, hnb0⟩ : ∃ n, B.sm.length = n := ⟨_, rfl⟩
  have HNA := Lib.hid hna0
  have HNB := Lib.hid hnb0
  have HSTEP0 := Lib.hid (fun (m : Mt) (s : Sm) (h : na = 0) => show mtStep A B.start shift m s = m from if_pos (hna0.trans h))
  have HSTEP1 := Lib.hid (fun (m : Mt) (s : Sm) (h : na ≠ 0) => show mtStep A B.start shift m s = if inR (secOf A B.start shift s) 0 (spanS A.sm) = true then ⟨m.shift, m.many + 1, m.sum + dist2 s (whereS A.sm (secOf A B.start shift s))⟩ else m from if_neg (by rw [hna0]; exact h))
  have HNEAR := Lib.hid (fun (n : Int) (hne : 0 < A.sm.length) (h0 : 0 ≤ n) (h1 : n ≤ spanS A.sm) => where_near oA hne h0 h1)
  rw [hna0] at hna DSP DW HNEAR ⊢
  rw [hnb0] at hnb HFIN HAT ⊢
  obtain ⟨sp, hsp⟩ : ∃ s, spanS A.sm = s := ⟨_, rfl⟩
  rw [hsp] at DSP DW HSTEP1 HNEAR
  generalize A.lp.length = m2 at *
  generalize A.tg.length = m3 at *
  generalize B.lp.length = m2' at *
  generalize B.tg.length = m3' at *
  obtain ⟨V0, hV0, hb0, hs0, hl0⟩ := alloc_cells w #[.string A.name, .int .i64 A.sport, .int .i64 A.start, .slice a na ca, .slice b m2 cb, .slice c m3 cc] 26
  obtain ⟨V1, hV1, hb1, hs1, hl1⟩ := alloc_cells V0 #[.string B.name, .int .i64 B.sport, .int .i64 B.start, .slice a' nb ca', .slice b' m2' cb', .slice c' m3' cc'] 26
  obtain ⟨V2, hV2, hb2, hs2, hl2⟩ := alloc_mt V1 ⟨0, 0, 0⟩
  obtain ⟨V3, hV3, hb3, hs3, hl3⟩ := alloc_mt V2 ⟨shift, 0, 0⟩
  rw [hs0] at hl1
  rw [hs1, hs0] at hl2
  obtain ⟨G, hG⟩ : ∃ G, V2.heap.size = G := ⟨_, rfl⟩
  rw [hG] at hl3
  have hg1 : w.heap.size + 3 = G := by omega
  have HG1 := Lib.hid hg1
  have A0 := ExtO.ex (O := fun b => b = G) (show ¬ w.heap.size = G by omega) (below_cell hb3 (below_cell hb2 (below_cell hb1 (hl0 0 _ rfl))))
  have A1 := ExtO.ex (O := fun b => b = G) (show ¬ w.heap.size = G by omega) (below_cell hb3 (below_cell hb2 (below_cell hb1 (hl0 1 _ rfl))))
  have A2 := ExtO.ex (O := fun b => b = G) (show ¬ w.heap.size = G by omega) (below_cell hb3 (below_cell hb2 (below_cell hb1 (hl0 2 _ rfl))))
  have A3 := ExtO.ex (O := fun b => b = G) (show ¬ w.heap.size = G by omega) (below_cell hb3 (below_cell hb2 (below_cell hb1 (hl0 3 _ rfl))))
  have A4 := ExtO.ex (O := fun b => b = G) (show ¬ w.heap.size = G by omega) (below_cell hb3 (below_cell hb2 (below_cell hb1 (hl0 4 _ rfl))))
  have A5 := ExtO.ex (O := fun b => b = G) (show ¬ w.heap.size = G by omega) (below_cell hb3 (below_cell hb2 (below_cell hb1 (hl0 5 _ rfl))))
  have B2 := ExtO.ex (O := fun b => b = G) (show ¬ w.heap.size + 1 = G by omega) (below_cell hb3 (below_cell hb2 (hl1 2 _ rfl)))
  have B3 := ExtO.ex (O := fun b => b = G) (show ¬ w.heap.size + 1 = G by omega) (below_cell hb3 (below_cell hb2 (hl1 3 _ rfl)))
  have HR := Lib.hid (hl2.below hb3)
  have HG := Lib.hid hl3
  have HB := Lib.hid (below_step (below_step (below_step hb0 hb1) hb2) hb3)
  have HBW := Lib.hid (fun (X : ExtO (fun b => b = G) V3) => show Below w.heap.size w X.1 from Kept.below HB.out X.2 HB.out.size (fun k hk e => by have := HG1.out; omega))
  have DSP := Lib.hid (fun (X : ExtO (fun b => b = G) V3) => DSP X.1 (HBW.out X))
  have DW := Lib.hid (fun (n : Int) (X : ExtO (fun b => b = G) V3) => DW n X.1 (HBW.out X))
  have HV0 := Lib.hid hV0
  have HV1 := Lib.hid hV1
  have HV2 := Lib.hid hV2
  have HV3 := Lib.hid hV3
  have HGG := Lib.hid hG
  clear hV0 hb0 hs0 hl0 hV1 hb1 hs1 hl1 hV2 hb2 hs2 hl2 hV3 hb3 hs3 hl3 hg1 hG hA hB oA oB hna0 hnb0 hsp
  simp only at HV2 HV3
  go_enter Try.func40, Try.ntmps40
  go_upto_region 1 with (fail)
  rw [HV0.out, HV1.out, HV2.out]
  go_upto_region 2 with (fail)
  rw [HV3.out, HGG.out]
  obtain ⟨X0, hX0⟩ : ∃ X : ExtO (fun b => b = G) V3, V3 = X.1 := ⟨⟨V3, Kept.refl _ _⟩, rfl⟩
  have HGX : Hid (MtB X0.1 G ⟨shift, 0, 0⟩) := Lib.hid (hX0 ▸ HG.out)
  rw [hX0]
  clear hX0 HG
  have B3x := B3 X0
  go_wp2_with fail
  clear B3x
  go_loopw [17] (fun iv wr => ∃ (k : Nat) (m : Mt), iv = .int .i64 k ∧ k ≤ nb ∧ Hid (m = mtFold A B.start shift (B.sm.take k)) ∧ ∃ X : ExtO (fun b => b = G) V3, wr = X.1 ∧ Hid (MtB X.1 G m)) (fun iv _ => nb - (intOf iv).toNat)
  case atStart => exact ⟨0, ⟨shift, 0, 0⟩, rfl, by omega, Lib.hid rfl, X0, rfl, HGX⟩
  case round =>
    clear HGX
    obtain ⟨k, m, rfl, hk, HM, X, rfl, HGX⟩ := hrel
    by_cases hlt : k < nb
    · have t2 : decide ((k : Int) < (nb : Int)) = true := by rw [decide_eq_true_eq]; omega
      have t2' : decide (k < nb) = true := by simpa using hlt
      obtain ⟨s, hx⟩ : ∃ s, B.sm[k]? = some s := ⟨_, List.getElem?_eq_getElem (by rw [HNB.out]; exact hlt)⟩
      obtain ⟨bb, ob, rfl, hbb, hc⟩ := (HROW.out.below (HBW.out X)).at hx
      have HBB := Lib.hid (show ¬ bb = G from by
        obtain ⟨b2, o2, e2, hb2, _⟩ := HROW.out.at hx
        injection e2 with e2
        injection e2 with e2 _
        have := HG1.out
        omega)
      have c0 : X.1.cell? ⟨bb, ob + k * 7, none⟩ = some (.int .i64 s.tm) := hc 0 _ rfl
      have c1 := hc 1 _ rfl
      have c2 := hc 2 _ rfl
      have c3 := hc 3 _ rfl
      have c4 := hc 4 _ rfl
      have c5 := hc 5 _ rfl
      have c6 := hc 6 _ rfl
      have hat := HAT.out k hk
      rw [← HM.out] at hat
      have m1 := hat.m1
      have m2_ := hat.m2
      have u1 := hat.u1
      have u2 := hat.u2
      have hs1 := HOB.out.sm.nonneg hx
      obtain ⟨hs2, _, hrg⟩ := HOB.out.sm.upto k s hx
      obtain ⟨⟨sx1, sx2⟩, ⟨sy1, sy2⟩, _⟩ := range_xyz hrg
      have HNX := Lib.hid (show mtFold A B.start shift (B.sm.take (k + 1)) = mtStep A B.start shift m s by rw [mtFold_succ hx, ← HM.out])
      obtain ⟨W1, hW1, hwb1, hws1, hwl1⟩ := alloc_sm X.1 s
      obtain ⟨S, hS⟩ : ∃ S, X.1.heap.size = S := ⟨_, rfl⟩
      rw [hS] at hwl1
      have HSG := Lib.hid (show ¬ S = G from by have := HGX.out.lt; omega)
      obtain ⟨X1, hX1⟩ : ∃ Z : ExtO (fun b => b = G) V3, W1 = Z.1 := ⟨⟨W1, X.2.trans (Kept.of_below hwb1)⟩, rfl⟩
      have HGX1 : Hid (MtB X1.1 G m) := Lib.hid (hX1 ▸ HGX.out.below hwb1)
      have HSX1 : Hid (SmB X1.1 S s) := Lib.hid (hX1 ▸ hwl1)
      have HW1 := Lib.hid (hW1.trans hX1)
      have HSS := Lib.hid hS
      obtain ⟨s0, s1_, s2_, s3, s4, s5, s6⟩ := HSX1.out.cell
      have hk20 : nb ≤ 400 := hnb
      have hse : secOf A B.start shift s = B.start + s.tm - shift - A.start := rfl
      have HSEC := Lib.hid hse
      clear hc hx hat hW1 hwb1 hws1 hwl1 hX1 hS hrg hse HM HGX
      have B2x := B2 X1
      have A2x := A2 X1
      have A0x := A0 X1
      have A1x := A1 X1
      have A3x := A3 X1
      have A4x := A4 X1
      have A5x := A5 X1
      obtain rfl | hne : na = 0 ∨ na ≠ 0 := by omega
      · have HN2 := Lib.hid (HNX.out.trans (HSTEP0.out m s rfl))
        go_upto_region 5 with (fail)
        rw [HW1.out, HSS.out]
        go_wp2_with fail
        go_roundw
        case rel => exact ⟨k + 1, m, by go_num, by omega, Lib.hid HN2.out.symm, X1, rfl, HGX1⟩
        case measure => simp [intOf]; omega
      have hnz : ((na : Int) == 0) = false := by rw [beq_eq_false_iff_ne]; omega
      have hnz' : (na == 0) = false := by rw [beq_eq_false_iff_ne]; omega
      have HN2 := Lib.hid (HNX.out.trans (HSTEP1.out m s hne))
      have DI := Lib.hid (fun W => tin_any (secOf A B.start shift s) 0 sp W)
      have HIN := Lib.hid (fun (h : inR (secOf A B.start shift s) 0 sp = true) => inR_iff.1 h)
      have HNE := Lib.hid hne
      generalize hsec : secOf A B.start shift s = sec at *
      have HSE2 := HSEC
      have DI' : Hid (∀ W, Calls Try.prog 19 #[.int .i64 (B.start + s.tm - shift - A.start), .int .i64 0, .int .i64 sp] W fun e w' => e = .returned (.bool (inR sec 0 sp)) ∧ W = w') := Lib.hid (by rw [← HSE2.out]; exact DI.out)
      generalize inR sec 0 sp = bi at *
      clear hsec hne HNX HSEC
      cases bi
      · have HN3 := Lib.hid (HN2.out.trans (if_neg (by simp)))
        clear HN2
        go_upto_region 5 with (fail)
        rw [HW1.out, HSS.out]
        go_wp2_with fail
        refine (DSP.out X1).mono ?_
        rintro e w1 ⟨rfl, hb⟩
        have HGX2 : Hid (MtB w1 G m) := Lib.hid (HGX1.out.below hb)
        obtain ⟨X2, rfl⟩ : ∃ X : ExtO (fun b => b = G) V3, w1 = X.1 := ⟨⟨w1, X1.2.trans (Kept.of_below hb)⟩, rfl⟩
        clear hb
        go_wp2_with fail
        refine (DI'.out _).mono ?_
        rintro e w1 ⟨rfl, rfl⟩
        go_wp2_with fail
        go_roundw
        case rel => exact ⟨k + 1, m, by go_num, by omega, Lib.hid HN3.out.symm, X2, rfl, HGX2⟩
        case measure => simp [intOf]; omega
      · have HN3 := Lib.hid (HN2.out.trans (if_pos rfl))
        obtain ⟨hi1, hi2⟩ := HIN.out rfl
        obtain ⟨⟨tx1, tx2⟩, ⟨ty1, ty2⟩⟩ := HNEAR.out sec (by have := HNE.out; omega) hi1 hi2
        have DWX := Lib.hid (fun X => DW.out sec X (by have := HNE.out; omega) hi1 hi2)
        generalize whereS A.sm sec = t at *
        have hse3 : B.start + s.tm - shift - A.start = sec := HSE2.out.symm
        have hdx1 : -400000001 ≤ s.x - t.x := by omega
        have hdx2 : s.x - t.x ≤ 400000001 := by omega
        have hdy1 : -400000001 ≤ s.y - t.y := by omega
        have hdy2 : s.y - t.y ≤ 400000001 := by omega
        have n1 := sq_nonneg (s.x - t.x)
        have n2 := sq_nonneg (s.y - t.y)
        have n3 := sq_le hdx1 hdx2
        have n4 := sq_le hdy1 hdy2
        have HD2 := Lib.hid (show dist2 s t = min ((s.x - t.x) * (s.x - t.x) + (s.y - t.y) * (s.y - t.y)) 1000000000000 from rfl)
        have DWX' : Hid (∀ X : ExtO (fun b => b = G) V3, Calls Try.prog 67 #[.agg #[.string A.name, .int .i64 A.sport, .int .i64 A.start, .slice a na ca, .slice b m2 cb, .slice c m3 cc], .int .i64 (B.start + s.tm - shift - A.start)] X.1 fun e w' => e = .returned (smV t) ∧ Below X.1.heap.size X.1 w') := Lib.hid (by rw [hse3]; exact DWX.out)
        clear HN2 hse3 HIN HNEAR DW DWX
        go_upto_region 5 with (fail)
        rw [HW1.out, HSS.out]
        go_wp2_with fail
        refine (DSP.out X1).mono ?_
        rintro e w1 ⟨rfl, hb⟩
        have HGX2 : Hid (MtB w1 G m) := Lib.hid (HGX1.out.below hb)
        have HSX2 : Hid (SmB w1 S s) := Lib.hid (HSX1.out.below hb)
        obtain ⟨X2, rfl⟩ : ∃ X : ExtO (fun b => b = G) V3, w1 = X.1 := ⟨⟨w1, X1.2.trans (Kept.of_below hb)⟩, rfl⟩
        clear hb A0x A1x A2x A3x A4x A5x B2x s0 s1_ s2_ s3 s4 s5 s6
        have A0x := A0 X2
        have A1x := A1 X2
        have A2x := A2 X2
        have A3x := A3 X2
        have A4x := A4 X2
        have A5x := A5 X2
        go_wp2_with fail
        refine (DI'.out _).mono ?_
        rintro e w1 ⟨rfl, rfl⟩
        go_wp2_with fail
        refine (DWX'.out X2).mono ?_
        rintro e w1 ⟨rfl, hb⟩
        have HGX3 : Hid (MtB w1 G m) := Lib.hid (HGX2.out.below hb)
        have HSX3 : Hid (SmB w1 S s) := Lib.hid (HSX2.out.below hb)
        obtain ⟨X3, rfl⟩ : ∃ X : ExtO (fun b => b = G) V3, w1 = X.1 := ⟨⟨w1, X2.2.trans (Kept.of_below hb)⟩, rfl⟩
        clear hb A0x A1x A2x A3x A4x A5x
        obtain ⟨W4, hW4, hwb4, hws4, hwl4⟩ := alloc_sm X3.1 t
        obtain ⟨T, hT⟩ : ∃ T, X3.1.heap.size = T := ⟨_, rfl⟩
        rw [hT] at hwl4
        have HTG := Lib.hid (show ¬ T = G from by have := HGX3.out.lt; omega)
        have HGX4 : Hid (MtB W4 G m) := Lib.hid (HGX3.out.below hwb4)
        have HSX4 : Hid (SmB W4 S s) := Lib.hid (HSX3.out.below hwb4)
        have HTX4 : Hid (SmB W4 T t) := Lib.hid hwl4
        have HX4 := Lib.hid (show Kept (fun b => b = G) V3 W4 from X3.2.trans (Kept.of_below hwb4))
        have HW4 := Lib.hid hW4
        have HTT := Lib.hid hT
        unfold smV
        clear hW4 hwb4 hws4 hwl4 hT
        go_upto_region 8 with (fail)
        rw [HW4.out, HTT.out]
        obtain ⟨g0, g1, g2⟩ := HGX4.out.cell
        have f1 := HGX4.out.free 1
        obtain ⟨W5, hW5⟩ : ∃ W, W4.setCell ⟨G, 1, none⟩ (.int .i64 (m.many + 1)) = W := ⟨_, rfl⟩
        have HGX5 : Hid (MtB W5 G { m with many := m.many + 1 }) := Lib.hid (hW5 ▸ HGX4.out.set1 (m.many + 1))
        have HK5 := Lib.hid (show Kept (fun b => b = G) W4 W5 from hW5 ▸ keep_set rfl)
        have HW5 := Lib.hid hW5
        clear hW5
        go_upto_region 9 with (fail)
        rw [HW5.out]
        clear g0 g1 g2 f1
        obtain ⟨g0, g1, g2⟩ := HGX5.out.cell
        have f2 := HGX5.out.free 2
        obtain ⟨s0, s1_, s2_, s3, s4, s5, s6⟩ := (HSX4.out.kept HK5.out HSG.out).cell
        obtain ⟨t0, t1, t2_, t3, t4, t5, t6⟩ := (HTX4.out.kept HK5.out HTG.out).cell
        try simp only at g0 g1 g2
        obtain ⟨W6, hW6⟩ : ∃ W, W5.setCell ⟨G, 2, none⟩ (.int .i64 (m.sum + min ((s.x - t.x) * (s.x - t.x) + (s.y - t.y) * (s.y - t.y)) 1000000000000)) = W := ⟨_, rfl⟩
        have HGX6 : Hid (MtB W6 G ⟨m.shift, m.many + 1, m.sum + dist2 s t⟩) := Lib.hid (by rw [HD2.out]; exact hW6 ▸ HGX5.out.set2 _)
        have HK6 := Lib.hid (show Kept (fun b => b = G) V3 W6 from (HX4.out.trans HK5.out).trans (hW6 ▸ keep_set rfl))
        have HW6 := Lib.hid hW6
        clear hW6 s0 s3 s4 s5 s6 t0 t3 t4 t5 t6 g0
        go_wp2_with fail
        rw [HW6.out]
        go_roundw
        case rel => exact ⟨k + 1, _, by go_num, by omega, Lib.hid HN3.out.symm, ⟨W6, HK6.out⟩, rfl, HGX6⟩
        case measure => simp [intOf]; omega
    · have t2 : decide ((k : Int) < (nb : Int)) = false := by rw [decide_eq_false_iff_not]; omega
      have t2' : decide (k < nb) = false := by simpa using hlt
      have hkn : k = nb := by omega
      have HV := Lib.hid (show shiftedF A B shift = m by rw [HFIN.out, HM.out, hkn])
      clear hkn HM hlt hk HAT
      have HRX : Hid (MtB X.1 (w.heap.size + 2) ⟨0, 0, 0⟩) := Lib.hid (HR.out.kept X.2 (fun e => by have := HG1.out; omega))
      obtain ⟨g0, g1, g2⟩ := HGX.out.cell
      obtain ⟨r0, r1, r2⟩ := HRX.out.cell
      have f0 := HRX.out.free 0
      have f1 := HRX.out.free 1
      have f2 := HRX.out.free 2
      obtain ⟨WE, hWE, hWB, hWK⟩ := HRX.out.store m
      have HWE := Lib.hid hWE
      have HWB := Lib.hid (And.intro hWB (show Below w.heap.size w WE from Kept.below (HBW.out X) (hWK (fun b => b = w.heap.size + 2) rfl) (HBW.out X).size (fun k hk e => by omega)))
      try simp only at g0 g1 g2 r0 r1 r2
      clear hWE hWB hWK
      go_wp2_with fail
      try simp only at HWE
      rw [HWE.out]
      exact bodyPost_ret (v := _) (results_cell_row Try.results40 _ _ (w.heap.size + 2) _ _ _ _ rfl HWB.out.1 Try.underlying39 rfl HI.out) rfl ⟨by rw [HV.out]; rfl, HWB.out.2⟩
set_option maxHeartbeats 16000000 in
set_option maxRecDepth 100000 in
theorem fit_any (A B : Acv) (a b c a' b' c' : Option Addr) (ca cb cc ca' cb' cc' : Nat) (most least : Int) (w : World) (hA : Rw smC 7 w a A.sm) (hB : Rw smC 7 w a' B.sm) (oA : FitOk A) (oB : FitOk B) (h1 : 0 ≤ most) (h2 : most ≤ 3600) (_h3 : 1 ≤ least) (_h4 : least ≤ 400) :
    Calls Try.prog 28 #[actV A a b c ca cb cc, actV B a' b' c' ca' cb' cc', .int .i64 most, .int .i64 least] w fun e w' => e = .returned (.tuple #[mtV ((Ft.fitM (shiftedF A B) most least).getD mt0), .bool (Ft.fitM (shiftedF A B) most least).isSome]) ∧ Below w.heap.size w w' := by
  have HI := mtSize
  have DSH := fun (s : Int) (W : World) (hb : Below w.heap.size w W) (h1 : -3600 ≤ s) (h2 : s ≤ 3600) => shifted_any A B a b c a' b' c' ca cb cc ca' cb' cc' s W (hA.below hb) (hB.below hb) oA oB h1 h2
  have HMT := Lib.hid (fun (s : Int) (h1 : -3600 ≤ s) (h2 : s ≤ 3600) => (shiftedF_at A B s).ok oB.n h1 h2)
  have HST := Lib.hid (fitF_start (shiftedF A B) most least)
  generalize Ft.fitM (shiftedF A B) most least = E at *
  unfold actV at *
  generalize shiftedF A B = D at *
  generalize A.sm.length = na at *
  generalize A.lp.length = m2 at *
  generalize A.tg.length = m3 at *
  generalize B.sm.length = nb at *
  generalize B.lp.length = m2' at *
  generalize B.tg.length = m3' at *
  obtain ⟨V0, hV0, hb0, hs0, hl0⟩ := alloc_cells w #[.string A.name, .int .i64 A.sport, .int .i64 A.start, .slice a na ca, .slice b m2 cb, .slice c m3 cc] 26
  obtain ⟨V1, hV1, hb1, hs1, hl1⟩ := alloc_cells V0 #[.string B.name, .int .i64 B.sport, .int .i64 B.start, .slice a' nb ca', .slice b' m2' cb', .slice c' m3' cc'] 26
  obtain ⟨V2, hV2, hb2, hs2, hl2⟩ := alloc_mt V1 mt0
  rw [hs0] at hl1
  rw [hs1, hs0] at hl2
  unfold mt0 at hV2
  obtain ⟨G, hG⟩ : ∃ G, w.heap.size + 2 = G := ⟨_, rfl⟩
  rw [show w.heap.size + 1 + 1 = G by omega] at hl2
  have hg1 : w.heap.size + 2 = G := hG
  have HB := Lib.hid (below_step (below_step hb0 hb1) hb2)
  have HGX0 : Hid (MtB V2 G mt0) := Lib.hid hl2
  have A0 := ExtO.ex (O := fun b => b = G) (show ¬ w.heap.size = G by omega) (below_cell hb2 (below_cell hb1 (hl0 0 _ rfl)))
  have A1 := ExtO.ex (O := fun b => b = G) (show ¬ w.heap.size = G by omega) (below_cell hb2 (below_cell hb1 (hl0 1 _ rfl)))
  have A2 := ExtO.ex (O := fun b => b = G) (show ¬ w.heap.size = G by omega) (below_cell hb2 (below_cell hb1 (hl0 2 _ rfl)))
  have A3 := ExtO.ex (O := fun b => b = G) (show ¬ w.heap.size = G by omega) (below_cell hb2 (below_cell hb1 (hl0 3 _ rfl)))
  have A4 := ExtO.ex (O := fun b => b = G) (show ¬ w.heap.size = G by omega) (below_cell hb2 (below_cell hb1 (hl0 4 _ rfl)))
  have A5 := ExtO.ex (O := fun b => b = G) (show ¬ w.heap.size = G by omega) (below_cell hb2 (below_cell hb1 (hl0 5 _ rfl)))
  have B0 := ExtO.ex (O := fun b => b = G) (show ¬ w.heap.size + 1 = G by omega) (below_cell hb2 (hl1 0 _ rfl))
  have B1 := ExtO.ex (O := fun b => b = G) (show ¬ w.heap.size + 1 = G by omega) (below_cell hb2 (hl1 1 _ rfl))
  have B2 := ExtO.ex (O := fun b => b = G) (show ¬ w.heap.size + 1 = G by omega) (below_cell hb2 (hl1 2 _ rfl))
  have B3 := ExtO.ex (O := fun b => b = G) (show ¬ w.heap.size + 1 = G by omega) (below_cell hb2 (hl1 3 _ rfl))
  have B4 := ExtO.ex (O := fun b => b = G) (show ¬ w.heap.size + 1 = G by omega) (below_cell hb2 (hl1 4 _ rfl))
  have B5 := ExtO.ex (O := fun b => b = G) (show ¬ w.heap.size + 1 = G by omega) (below_cell hb2 (hl1 5 _ rfl))
  have HG1 := Lib.hid hg1
  have HBW := Lib.hid (fun (X : ExtO (fun b => b = G) V2) => show Below w.heap.size w X.1 from Kept.below HB.out X.2 HB.out.size (fun k hk e => by have := HG1.out; omega))
  have DSH := Lib.hid (fun (s : Int) (X : ExtO (fun b => b = G) V2) => DSH s X.1 (HBW.out X))
  have HV0 := Lib.hid hV0
  have HV1 := Lib.hid hV1
  have HV2 := Lib.hid hV2
  clear hG
  clear hV0 hb0 hs0 hl0 hV1 hb1 hs1 hl1 hV2 hb2 hs2 hl2 hg1 hA hB oA oB
  simp only at HV2
  unfold mtV at DSH
  go_enter Try.func28, Try.ntmps28
  go_upto_region 1 with (fail)
  rw [HV0.out, HV1.out, HV2.out]
  rw [show w.heap.size + 1 + 1 = G from HG1.out]
  go_wp2_with fail
  go_loopw [9, 10] (fun okv sv wr => ∃ (bo : Option Mt) (s : Int), okv = .bool bo.isSome ∧ sv = .int .i64 s ∧ -most ≤ s ∧ s ≤ most + 1 ∧ Hid (E = Ft.fitF D least (most + 1 - s).toNat s bo) ∧ Hid (∀ b, bo = some b → MtOk b) ∧ ∃ X : ExtO (fun b => b = G) V2, wr = X.1 ∧ Hid (MtB X.1 G (bo.getD mt0))) (fun _ sv _ => (most + 1 - intOf sv).toNat)
  case atStart => exact ⟨none, -most, rfl, rfl, by omega, by omega, HST, Lib.hid (fun b h => by cases h), ⟨V2, Kept.refl _ _⟩, rfl, HGX0⟩
  case round =>
    clear HST HGX0
    obtain ⟨bo, s, rfl, rfl, hs1, hs2, HE, HBO, X, rfl, HGX⟩ := hrel
    by_cases hle : s ≤ most
    · have t1 : decide (s ≤ most) = true := decide_eq_true hle
      have hm := HMT.out s (by omega) (by omega)
      have HE2 := Lib.hid (fitF_go hle HE.out)
      have DX := Lib.hid (DSH.out s X (by omega) (by omega))
      have HM := Lib.hid hm
      have hm2 := hm.m2
      have hm1 := hm.m1
      clear HE hm
      generalize D s = m at *
      have A0x := A0 X
      have A1x := A1 X
      have A2x := A2 X
      have A3x := A3 X
      have A4x := A4 X
      have A5x := A5 X
      have B0x := B0 X
      have B1x := B1 X
      have B2x := B2 X
      have B3x := B3 X
      have B4x := B4 X
      have B5x := B5 X
      by_cases hml : least ≤ m.many
      case neg =>
        have d1 : decide (least ≤ m.many) = false := decide_eq_false hml
        have HE3 : Hid (E = Ft.fitF D least (most + 1 - (s + 1)).toNat (s + 1) bo) := Lib.hid (by rw [HE2.out, take_less hml])
        clear hml HE2
        go_wp2_with fail
        refine DX.out.mono ?_
        rintro e w1 ⟨rfl, hb⟩
        have HGX1 : Hid (MtB w1 G (bo.getD mt0)) := Lib.hid (HGX.out.below hb)
        obtain ⟨X1, rfl⟩ : ∃ X : ExtO (fun b => b = G) V2, w1 = X.1 := ⟨⟨w1, X.2.trans (Kept.of_below hb)⟩, rfl⟩
        clear hb A0x A1x A2x A3x A4x A5x B0x B1x B2x B3x B4x B5x HGX
        obtain ⟨W2, hW2, hwb2, hws2, hwl2⟩ := alloc_mt X1.1 m
        obtain ⟨T, hT⟩ : ∃ T, X1.1.heap.size = T := ⟨_, rfl⟩
        rw [hT] at hwl2
        have HTG := Lib.hid (show ¬ T = G from by have := HGX1.out.lt; omega)
        have HGX2 : Hid (MtB W2 G (bo.getD mt0)) := Lib.hid (HGX1.out.below hwb2)
        have HTX2 : Hid (MtB W2 T m) := Lib.hid hwl2
        have HW2 := Lib.hid hW2
        have HTT := Lib.hid hT
        obtain ⟨X2, hX2⟩ : ∃ Z : ExtO (fun b => b = G) V2, W2 = Z.1 := ⟨⟨W2, X1.2.trans (Kept.of_below hwb2)⟩, rfl⟩
        clear hW2 hwb2 hws2 hwl2 hT
        go_upto_region 5 with (fail)
        rw [HW2.out, HTT.out, hX2]
        rw [hX2] at HGX2 HTX2
        clear hX2
        obtain ⟨t0, t1', t2⟩ := HTX2.out.cell
        obtain ⟨g0, g1, g2⟩ := HGX2.out.cell
        try simp only [Option.getD_none, Option.getD_some] at g0 g1 g2
        go_wp2_with fail
        go_roundw
        case rel => exact ⟨bo, s + 1, rfl, rfl, by omega, by omega, HE3, HBO, X2, rfl, HGX2⟩
        case measure => simp [intOf]; omega
      have d1 : decide (least ≤ m.many) = true := decide_eq_true hml
      cases bo
      case none =>
        have HE3 : Hid (E = Ft.fitF D least (most + 1 - (s + 1)).toNat (s + 1) (some m)) := Lib.hid (by rw [HE2.out, take_none hml])
        clear hml HE2
        go_wp2_with fail
        refine DX.out.mono ?_
        rintro e w1 ⟨rfl, hb⟩
        have HGX1 : Hid (MtB w1 G (Option.getD none mt0)) := Lib.hid (HGX.out.below hb)
        obtain ⟨X1, rfl⟩ : ∃ X : ExtO (fun b => b = G) V2, w1 = X.1 := ⟨⟨w1, X.2.trans (Kept.of_below hb)⟩, rfl⟩
        clear hb A0x A1x A2x A3x A4x A5x B0x B1x B2x B3x B4x B5x HGX
        obtain ⟨W2, hW2, hwb2, hws2, hwl2⟩ := alloc_mt X1.1 m
        obtain ⟨T, hT⟩ : ∃ T, X1.1.heap.size = T := ⟨_, rfl⟩
        rw [hT] at hwl2
        have HTG := Lib.hid (show ¬ T = G from by have := HGX1.out.lt; omega)
        have HGX2 : Hid (MtB W2 G (Option.getD none mt0)) := Lib.hid (HGX1.out.below hwb2)
        have HTX2 : Hid (MtB W2 T m) := Lib.hid hwl2
        have HW2 := Lib.hid hW2
        have HTT := Lib.hid hT
        obtain ⟨X2, hX2⟩ : ∃ Z : ExtO (fun b => b = G) V2, W2 = Z.1 := ⟨⟨W2, X1.2.trans (Kept.of_below hwb2)⟩, rfl⟩
        clear hW2 hwb2 hws2 hwl2 hT
        go_upto_region 5 with (fail)
        rw [HW2.out, HTT.out, hX2]
        rw [hX2] at HGX2 HTX2
        clear hX2
        obtain ⟨t0, t1', t2⟩ := HTX2.out.cell
        obtain ⟨g0, g1, g2⟩ := HGX2.out.cell
        try simp only [Option.getD_none] at g0 g1 g2
        go_upto_region 6 with (fail)
        clear t0 t1' t2 g0 g1 g2
        obtain ⟨t0, t1', t2⟩ := HTX2.out.cell
        obtain ⟨g0, g1, g2⟩ := HGX2.out.cell
        have f0 := HGX2.out.free 0
        have f1 := HGX2.out.free 1
        have f2 := HGX2.out.free 2
        obtain ⟨WE, hWE, hWB, hWK⟩ := HGX2.out.store m
        have HWE := Lib.hid hWE
        have HWB : Hid (MtB WE G ((some m).getD mt0)) := Lib.hid hWB
        have HWK := Lib.hid (X2.2.trans (hWK (fun b => b = G) rfl))
        have HMO : Hid (∀ b, some m = some b → MtOk b) := Lib.hid (fun b h => by injection h with h; subst h; exact HM.out)
        clear hWE hWB hWK
        try simp only [Option.getD_none] at g0 g1 g2
        go_wp2_with fail
        rw [HWE.out]
        go_roundw
        case rel => exact ⟨some m, s + 1, rfl, rfl, by omega, by omega, HE3, HMO, ⟨WE, HWK.out⟩, rfl, HWB⟩
        case measure => simp [intOf]; omega
      case some bb =>
        have DB := Lib.hid (fun W => better_any m bb W HM.out (HBO.out bb rfl))
        have HE2 := Lib.hid (HE2.out.trans (by rw [take_some hml]))
        generalize Ft.better m bb = bt at *
        unfold mtV at DB
        clear hml
        cases bt
        · have HE3 : Hid (E = Ft.fitF D least (most + 1 - (s + 1)).toNat (s + 1) (some bb)) := Lib.hid HE2.out
          clear HE2
          go_wp2_with fail
          refine DX.out.mono ?_
          rintro e w1 ⟨rfl, hb⟩
          have HGX1 : Hid (MtB w1 G ((some bb).getD mt0)) := Lib.hid (HGX.out.below hb)
          obtain ⟨X1, rfl⟩ : ∃ X : ExtO (fun b => b = G) V2, w1 = X.1 := ⟨⟨w1, X.2.trans (Kept.of_below hb)⟩, rfl⟩
          clear hb A0x A1x A2x A3x A4x A5x B0x B1x B2x B3x B4x B5x HGX
          obtain ⟨W2, hW2, hwb2, hws2, hwl2⟩ := alloc_mt X1.1 m
          obtain ⟨T, hT⟩ : ∃ T, X1.1.heap.size = T := ⟨_, rfl⟩
          rw [hT] at hwl2
          have HTG := Lib.hid (show ¬ T = G from by have := HGX1.out.lt; omega)
          have HGX2 : Hid (MtB W2 G ((some bb).getD mt0)) := Lib.hid (HGX1.out.below hwb2)
          have HTX2 : Hid (MtB W2 T m) := Lib.hid hwl2
          have HW2 := Lib.hid hW2
          have HTT := Lib.hid hT
          obtain ⟨X2, hX2⟩ : ∃ Z : ExtO (fun b => b = G) V2, W2 = Z.1 := ⟨⟨W2, X1.2.trans (Kept.of_below hwb2)⟩, rfl⟩
          clear hW2 hwb2 hws2 hwl2 hT
          go_upto_region 5 with (fail)
          rw [HW2.out, HTT.out, hX2]
          rw [hX2] at HGX2 HTX2
          clear hX2
          obtain ⟨t0, t1', t2⟩ := HTX2.out.cell
          obtain ⟨g0, g1, g2⟩ := HGX2.out.cell
          try simp only [Option.getD_some] at g0 g1 g2
          go_wp2_with fail
          refine (DB.out _).mono ?_
          rintro e w3 ⟨rfl, hb⟩
          have HGX3 : Hid (MtB w3 G ((some bb).getD mt0)) := Lib.hid (HGX2.out.below hb)
          obtain ⟨X3, rfl⟩ : ∃ X : ExtO (fun b => b = G) V2, w3 = X.1 := ⟨⟨w3, X2.2.trans (Kept.of_below hb)⟩, rfl⟩
          clear hb t0 t1' t2 g0 g1 g2
          go_wp2_with fail
          go_roundw
          case rel => exact ⟨some bb, s + 1, rfl, rfl, by omega, by omega, HE3, HBO, X3, rfl, HGX3⟩
          case measure => simp [intOf]; omega
        · have HE3 : Hid (E = Ft.fitF D least (most + 1 - (s + 1)).toNat (s + 1) (some m)) := Lib.hid HE2.out
          clear HE2
          go_wp2_with fail
          refine DX.out.mono ?_
          rintro e w1 ⟨rfl, hb⟩
          have HGX1 : Hid (MtB w1 G ((some bb).getD mt0)) := Lib.hid (HGX.out.below hb)
          obtain ⟨X1, rfl⟩ : ∃ X : ExtO (fun b => b = G) V2, w1 = X.1 := ⟨⟨w1, X.2.trans (Kept.of_below hb)⟩, rfl⟩
          clear hb A0x A1x A2x A3x A4x A5x B0x B1x B2x B3x B4x B5x HGX
          obtain ⟨W2, hW2, hwb2, hws2, hwl2⟩ := alloc_mt X1.1 m
          obtain ⟨T, hT⟩ : ∃ T, X1.1.heap.size = T := ⟨_, rfl⟩
          rw [hT] at hwl2
          have HTG := Lib.hid (show ¬ T = G from by have := HGX1.out.lt; omega)
          have HGX2 : Hid (MtB W2 G ((some bb).getD mt0)) := Lib.hid (HGX1.out.below hwb2)
          have HTX2 : Hid (MtB W2 T m) := Lib.hid hwl2
          have HW2 := Lib.hid hW2
          have HTT := Lib.hid hT
          obtain ⟨X2, hX2⟩ : ∃ Z : ExtO (fun b => b = G) V2, W2 = Z.1 := ⟨⟨W2, X1.2.trans (Kept.of_below hwb2)⟩, rfl⟩
          clear hW2 hwb2 hws2 hwl2 hT
          go_upto_region 5 with (fail)
          rw [HW2.out, HTT.out, hX2]
          rw [hX2] at HGX2 HTX2
          clear hX2
          obtain ⟨t0, t1', t2⟩ := HTX2.out.cell
          obtain ⟨g0, g1, g2⟩ := HGX2.out.cell
          try simp only [Option.getD_some] at g0 g1 g2
          go_wp2_with fail
          refine (DB.out _).mono ?_
          rintro e w3 ⟨rfl, hb⟩
          have HGX3 : Hid (MtB w3 G ((some bb).getD mt0)) := Lib.hid (HGX2.out.below hb)
          have HTX3 : Hid (MtB w3 T m) := Lib.hid (HTX2.out.below hb)
          obtain ⟨X3, rfl⟩ : ∃ X : ExtO (fun b => b = G) V2, w3 = X.1 := ⟨⟨w3, X2.2.trans (Kept.of_below hb)⟩, rfl⟩
          clear hb t0 t1' t2 g0 g1 g2
          go_upto_region 6 with (fail)
          obtain ⟨t0, t1', t2⟩ := HTX3.out.cell
          obtain ⟨g0, g1, g2⟩ := HGX3.out.cell
          have f0 := HGX3.out.free 0
          have f1 := HGX3.out.free 1
          have f2 := HGX3.out.free 2
          obtain ⟨WE, hWE, hWB, hWK⟩ := HGX3.out.store m
          have HWE := Lib.hid hWE
          have HWB : Hid (MtB WE G ((some m).getD mt0)) := Lib.hid hWB
          have HWK := Lib.hid (X3.2.trans (hWK (fun b => b = G) rfl))
          have HMO : Hid (∀ b, some m = some b → MtOk b) := Lib.hid (fun b h => by injection h with h; subst h; exact HM.out)
          clear hWE hWB hWK
          try simp only [Option.getD_some] at g0 g1 g2
          go_wp2_with fail
          rw [HWE.out]
          go_roundw
          case rel => exact ⟨some m, s + 1, rfl, rfl, by omega, by omega, HE3, HMO, ⟨WE, HWK.out⟩, rfl, HWB⟩
          case measure => simp [intOf]; omega
    · have t1 : decide (s ≤ most) = false := decide_eq_false hle
      have HF := Lib.hid (fitF_end hle HE.out)
      obtain ⟨m, hm⟩ : ∃ m, bo.getD mt0 = m := ⟨_, rfl⟩
      have HFM := Lib.hid (show E.getD mt0 = m by rw [HF.out, hm])
      rw [hm] at HGX
      obtain ⟨g0, g1, g2⟩ := HGX.out.cell
      clear HE hle hm
      have f0 := HGX.out.free 0
      have f1 := HGX.out.free 1
      have f2 := HGX.out.free 2
      obtain ⟨WE, hWE, hWB, hWK⟩ := HGX.out.store m
      have HWL := Lib.hid (show Below w.heap.size w WE from Kept.below (HBW.out X) (hWK (fun b => b = G) rfl) (HBW.out X).size (fun k hk e => by have := HG1.out; omega))
      have HWE := Lib.hid hWE
      obtain ⟨q0, q1, q2⟩ := hWB.cell
      clear hWE hWB hWK
      go_wp2_with fail
      rw [HWE.out]
      exact bodyPost_ret (v := .tuple #[.agg #[.int .i64 m.shift, .int .i64 m.many, .int .i64 m.sum], .bool bo.isSome]) (by simp [results, Try.results28, go_sem, q0, q1, q2]) rfl ⟨by rw [HFM.out, HF.out]; rfl, HWL.out⟩
set_option maxHeartbeats 16000000 in
set_option maxRecDepth 100000 in
theorem Fit_any (A B : Acv) (a b c a' b' c' : Option Addr) (ca cb cc ca' cb' cc' : Nat) (most least : Int) (w : World) (hA : ActIn w A a b c) (hB : ActIn w B a' b' c') :
    Calls Try.prog 9 #[actV A a b c ca cb cc, actV B a' b' c' ca' cb' cc', .int .i64 most, .int .i64 least] w fun e w' => FitRet A B most least w e w' := by
  have HI := mtSize
  have DA := fun (W : World) (hb : Below w.heap.size w W) => check_any A a b c ca cb cc W (hA.below hb)
  have DB := fun (W : World) (hb : Below w.heap.size w W) => check_any B a' b' c' ca' cb' cc' W (hB.below hb)
  have DF := fun (W : World) (hb : Below w.heap.size w W) (h1 : chkA A = 0) (h2 : chkA B = 0) (h3 : A.sm.length ≤ 400) (h4 : B.sm.length ≤ 400) (h5 : bndE most least = 0) => fit_any A B a b c a' b' c' ca cb cc ca' cb' cc' most least W (hA.sm.below hb) (hB.sm.below hb) (fitOk_of h1 h3) (fitOk_of h2 h4) (bndE_zero h5).1.1 (bndE_zero h5).1.2 (bndE_zero h5).2.1 (bndE_zero h5).2.2
  have DBN := Lib.hid (fun W => checkFit_any most least W)
  have HV : Hid (fitE A B most least = if chkA A ≠ 0 then chkA A else if chkA B ≠ 0 then chkA B else if 400 < A.sm.length ∨ 400 < B.sm.length then 3 else bndE most least) := Lib.hid rfl
  have HO : Hid (fitO A B most least = if fitE A B most least = 0 then Ft.fitM (shiftedF A B) most least else none) := Lib.hid rfl
  have HBAD := Lib.hid (fun (er : Int) (w' : World) (he : fitE A B most least = er) (h0 : er ≠ 0) (hb : Below w.heap.size w w') => FitRet.bad he h0 hb)
  have HGOOD : Hid (∀ (m : Mt) (bl : Bool) (w' : World), fitE A B most least = 0 → (Ft.fitM (shiftedF A B) most least).getD mt0 = m → (Ft.fitM (shiftedF A B) most least).isSome = bl → Below w.heap.size w w' → FitRet A B most least w (.returned (.tuple #[.agg #[.int .i64 m.shift, .int .i64 m.many, .int .i64 m.sum], .bool bl, .int .i64 0])) w') := Lib.hid (fun m bl w' h0 h1 h2 hb => by
    unfold FitRet
    rw [HO.out, if_pos h0, h1, h2, h0]
    exact ⟨rfl, hb⟩)
  unfold ChkG at DA DB
  generalize Ft.fitM (shiftedF A B) most least = E at *
  generalize fitE A B most least = fe at *
  have HBN := Lib.hid (fun h : bndE most least ≠ 0 => bndE_ne h)
  generalize bndE most least = be at *
  generalize chkA A = eA at *
  generalize chkA B = eB at *
  have hna := hA.nsm
  have hnb := hB.nsm
  unfold actV at *
  generalize A.sm.length = na at *
  generalize A.lp.length = m2 at *
  generalize A.tg.length = m3 at *
  generalize B.sm.length = nb at *
  generalize B.lp.length = m2' at *
  generalize B.tg.length = m3' at *
  obtain ⟨V0, hV0, hb0, hs0, hl0⟩ := alloc_cells w #[.string A.name, .int .i64 A.sport, .int .i64 A.start, .slice a na ca, .slice b m2 cb, .slice c m3 cc] 26
  obtain ⟨V1, hV1, hb1, hs1, hl1⟩ := alloc_cells V0 #[.string B.name, .int .i64 B.sport, .int .i64 B.start, .slice a' nb ca', .slice b' m2' cb', .slice c' m3' cc'] 26
  obtain ⟨V2, hV2, hb2, hs2, hl2⟩ := alloc_mt V1 mt0
  rw [hs0] at hl1
  rw [hs1, hs0] at hl2
  unfold mt0 at hV2
  have A0 := Ext.ex (below_cell hb2 (below_cell hb1 (hl0 0 _ rfl)))
  have A1 := Ext.ex (below_cell hb2 (below_cell hb1 (hl0 1 _ rfl)))
  have A2 := Ext.ex (below_cell hb2 (below_cell hb1 (hl0 2 _ rfl)))
  have A3 := Ext.ex (below_cell hb2 (below_cell hb1 (hl0 3 _ rfl)))
  have A4 := Ext.ex (below_cell hb2 (below_cell hb1 (hl0 4 _ rfl)))
  have A5 := Ext.ex (below_cell hb2 (below_cell hb1 (hl0 5 _ rfl)))
  have B0 := Ext.ex (below_cell hb2 (hl1 0 _ rfl))
  have B1 := Ext.ex (below_cell hb2 (hl1 1 _ rfl))
  have B2 := Ext.ex (below_cell hb2 (hl1 2 _ rfl))
  have B3 := Ext.ex (below_cell hb2 (hl1 3 _ rfl))
  have B4 := Ext.ex (below_cell hb2 (hl1 4 _ rfl))
  have B5 := Ext.ex (below_cell hb2 (hl1 5 _ rfl))
  have HB := Lib.hid (below_step (below_step hb0 hb1) hb2)
  have HR : Hid (MtB V2 (w.heap.size + 2) mt0) := Lib.hid hl2
  have DA := Lib.hid (fun (X : Ext V2) => X.calls (DA X.1 (below_step (below_step (below_step hb0 hb1) hb2) X.2)))
  have DB := Lib.hid (fun (X : Ext V2) => X.calls (DB X.1 (below_step (below_step (below_step hb0 hb1) hb2) X.2)))
  have DF := Lib.hid (fun (X : Ext V2) => DF X.1 (below_step (below_step (below_step hb0 hb1) hb2) X.2))
  have HEND := Lib.hid (fun (X : Ext V2) (m : Mt) => show ∃ WE, ((X.1.setCell ⟨w.heap.size + 2, 0, none⟩ (.int .i64 m.shift)).setCell ⟨w.heap.size + 2, 1, none⟩ (.int .i64 m.many)).setCell ⟨w.heap.size + 2, 2, none⟩ (.int .i64 m.sum) = WE ∧ MtB WE (w.heap.size + 2) m ∧ Below w.heap.size w WE from by
    obtain ⟨WE, h1, h2, h3⟩ := (HR.out.below X.2).store m
    exact ⟨WE, h1, h2, Kept.below (below_step HB.out X.2) (h3 (fun b => b = w.heap.size + 2) rfl) (below_step HB.out X.2).size (fun k hk e => by omega)⟩)
  have HV0 := Lib.hid hV0
  have HV1 := Lib.hid hV1
  have HV2 := Lib.hid hV2
  clear hV0 hb0 hs0 hl0 hV1 hb1 hs1 hl1 hV2 hb2 hs2 hl2 hA hB HO
  simp only at HV2
  unfold mtV at DF
  have HOR : Hid (orL [eA, eB] = if eA ≠ 0 then eA else eB) := Lib.hid (orL_two eA eB)
  obtain ⟨er, her⟩ : ∃ er, orL [eA, eB] = er := ⟨_, rfl⟩
  have HER := Lib.hid her
  clear her
  by_cases h0 : er = 0
  case neg =>
    have b0 := bneT h0
    have HF := Lib.hid (show fe = er from by
      have e := HER.out.symm.trans HOR.out
      rw [e] at h0 ⊢
      exact HV.out.trans (bad_two h0))
    have H0 := Lib.hid h0
    clear h0 HV HOR
    go_enter Try.func9, Try.ntmps9
    go_upto_region 1 with (fail)
    rw [HV0.out, HV1.out, HV2.out]
    refine ext_wp fun X => ?_
    refine held_start (C := fun w' => ∃ Z : Ext V2, w' = Z.1) (by kernel_rfl) ?_
    obtain ⟨Z0, hZ0⟩ : ∃ Z : Ext V2, ({ X.1 with drawn := X.1.drawn + 1 } : World) = Z.1 := ⟨⟨{ X.1 with drawn := X.1.drawn + 1 }, below_step X.2 ⟨rfl, rfl, rfl, Nat.le_refl _, fun _ _ => rfl⟩⟩, rfl⟩
    rw [hZ0]
    clear hZ0
    refine held_quiet (by kernel_rfl) (fun _ _ d _ _ h => by cases d <;> exact h) ⟨Z0, rfl⟩ [0, 2] 5 _ _ (by kernel_rfl) ?_
    change wpQuiet _ _ _ _ (_ :: _ :: []) _
    repeat go_big_quiet_step (fail)
    refine wpQuiet_nil ?_
    refine held_do (i := 1) _ rfl (by kernel_rfl) rfl (fun K hK => ?_)
    go_simp
    refine (DA.out Z0).mono ?_
    rintro e w1 ⟨rfl, Z1, rfl⟩
    refine hK _ _ ⟨Z1, rfl⟩ ?_
    clear hK K
    try simp only [Act.put, List.setIfInBounds_toArray, List.set_cons_zero, List.set_cons_succ]
    refine held_do (i := 3) _ rfl (by kernel_rfl) rfl (fun K hK => ?_)
    go_simp
    refine (DB.out Z1).mono ?_
    rintro e w1 ⟨rfl, Z2, rfl⟩
    refine hK _ _ ⟨Z2, rfl⟩ ?_
    clear hK K
    try simp only [Act.put, List.setIfInBounds_toArray, List.set_cons_zero, List.set_cons_succ]
    refine held_do (i := 4) _ rfl (by kernel_rfl) rfl (fun K hK => ?_)
    go_simp
    obtain ⟨Wb, hWb, hwb1, hwb2, hwq⟩ := alloc_cells Z2.1 #[.int .i64 eA, .int .i64 eB] 28
    rw [hWb]
    obtain ⟨Z3, rfl⟩ : ∃ Z : Ext V2, Wb = Z.1 := ⟨⟨Wb, below_step Z2.2 hwb1⟩, rfl⟩
    have DO := Lib.hid (orE_any [eA, eB] Z2.1.heap.size 2 Z3.1 (by simp) (fun i v hv => hwq i _ (by
      match i, hv with
      | 0, h => injection h with h; subst h; rfl
      | 1, h => injection h with h; subst h; rfl
      | n + 2, h => simp at h)))
    rw [HER.out] at DO
    refine hK _ _ ⟨Z3, rfl⟩ ?_
    clear hK K hWb hwb1 hwb2 hwq
    try simp only [Act.put, List.setIfInBounds_toArray, List.set_cons_zero, List.set_cons_succ]
    refine held_do (i := 5) _ rfl (by kernel_rfl) rfl (fun K hK => ?_)
    go_simp
    refine DO.out.mono ?_
    rintro e w1 ⟨rfl, rfl⟩
    refine hK _ _ ⟨Z3, rfl⟩ ?_
    clear hK K DO
    try simp only [Act.put, List.setIfInBounds_toArray, List.set_cons_zero, List.set_cons_succ]
    refine held_quiet (by kernel_rfl) (fun _ _ d _ _ h => by cases d <;> exact h) ⟨Z3, rfl⟩ [6] 0 _ _ (by kernel_rfl) ?_
    change wpQuiet _ _ _ _ (_ :: []) _
    repeat go_big_quiet_step (fail)
    refine wpQuiet_nil ?_
    refine wpAnyH_done (by kernel_rfl) ?_ _
    obtain ⟨r0, r1, r2⟩ := (HR.out.below Z3.2).cell
    have f0 := (HR.out.below Z3.2).free 0
    have f1 := (HR.out.below Z3.2).free 1
    have f2 := (HR.out.below Z3.2).free 2
    obtain ⟨WE, hWE, hWB, hWL⟩ := HEND.out Z3 mt0
    obtain ⟨q0, q1, q2⟩ := hWB.cell
    have HWE := Lib.hid hWE
    have HWL := Lib.hid hWL
    unfold mt0 at r0 r1 r2 HWE q0 q1 q2
    try simp only at r0 r1 r2 HWE q0 q1 q2
    clear hWE hWB hWL
    go_wp2_with fail
    rw [HWE.out]
    exact bodyPost_ret (v := .tuple #[.agg #[.int .i64 0, .int .i64 0, .int .i64 0], .bool false, .int .i64 er]) (by simp [results, Try.results9, go_sem, q0, q1, q2]) rfl (HBAD.out er WE HF.out H0.out HWL.out)
  subst h0
  have HZ := Lib.hid (show eA = 0 ∧ eB = 0 from zero_two (HOR.out.symm.trans HER.out))
  have HV := Lib.hid (HV.out.trans ((if_neg (fun z => z HZ.out.1)).trans (if_neg (fun z => z HZ.out.2))))
  by_cases g0 : 400 < na
  case pos =>
    have q0 : decide ((400 : Int) < (na : Int)) = true := by rw [decide_eq_true_eq]; omega
    have q0' : decide (400 < na) = true := by rw [decide_eq_true_eq]; omega
    have HF := Lib.hid (HV.out.trans (if_pos (by omega)))
    clear g0 HV
    go_enter Try.func9, Try.ntmps9
    go_upto_region 1 with (fail)
    rw [HV0.out, HV1.out, HV2.out]
    refine ext_wp fun X => ?_
    refine held_start (C := fun w' => ∃ Z : Ext V2, w' = Z.1) (by kernel_rfl) ?_
    obtain ⟨Z0, hZ0⟩ : ∃ Z : Ext V2, ({ X.1 with drawn := X.1.drawn + 1 } : World) = Z.1 := ⟨⟨{ X.1 with drawn := X.1.drawn + 1 }, below_step X.2 ⟨rfl, rfl, rfl, Nat.le_refl _, fun _ _ => rfl⟩⟩, rfl⟩
    rw [hZ0]
    clear hZ0
    refine held_quiet (by kernel_rfl) (fun _ _ d _ _ h => by cases d <;> exact h) ⟨Z0, rfl⟩ [0, 2] 5 _ _ (by kernel_rfl) ?_
    change wpQuiet _ _ _ _ (_ :: _ :: []) _
    repeat go_big_quiet_step (fail)
    refine wpQuiet_nil ?_
    refine held_do (i := 1) _ rfl (by kernel_rfl) rfl (fun K hK => ?_)
    go_simp
    refine (DA.out Z0).mono ?_
    rintro e w1 ⟨rfl, Z1, rfl⟩
    refine hK _ _ ⟨Z1, rfl⟩ ?_
    clear hK K
    try simp only [Act.put, List.setIfInBounds_toArray, List.set_cons_zero, List.set_cons_succ]
    refine held_do (i := 3) _ rfl (by kernel_rfl) rfl (fun K hK => ?_)
    go_simp
    refine (DB.out Z1).mono ?_
    rintro e w1 ⟨rfl, Z2, rfl⟩
    refine hK _ _ ⟨Z2, rfl⟩ ?_
    clear hK K
    try simp only [Act.put, List.setIfInBounds_toArray, List.set_cons_zero, List.set_cons_succ]
    refine held_do (i := 4) _ rfl (by kernel_rfl) rfl (fun K hK => ?_)
    go_simp
    obtain ⟨Wb, hWb, hwb1, hwb2, hwq⟩ := alloc_cells Z2.1 #[.int .i64 eA, .int .i64 eB] 28
    rw [hWb]
    obtain ⟨Z3, rfl⟩ : ∃ Z : Ext V2, Wb = Z.1 := ⟨⟨Wb, below_step Z2.2 hwb1⟩, rfl⟩
    have DO := Lib.hid (orE_any [eA, eB] Z2.1.heap.size 2 Z3.1 (by simp) (fun i v hv => hwq i _ (by
      match i, hv with
      | 0, h => injection h with h; subst h; rfl
      | 1, h => injection h with h; subst h; rfl
      | n + 2, h => simp at h)))
    rw [HER.out] at DO
    refine hK _ _ ⟨Z3, rfl⟩ ?_
    clear hK K hWb hwb1 hwb2 hwq
    try simp only [Act.put, List.setIfInBounds_toArray, List.set_cons_zero, List.set_cons_succ]
    refine held_do (i := 5) _ rfl (by kernel_rfl) rfl (fun K hK => ?_)
    go_simp
    refine DO.out.mono ?_
    rintro e w1 ⟨rfl, rfl⟩
    refine hK _ _ ⟨Z3, rfl⟩ ?_
    clear hK K DO
    try simp only [Act.put, List.setIfInBounds_toArray, List.set_cons_zero, List.set_cons_succ]
    refine held_quiet (by kernel_rfl) (fun _ _ d _ _ h => by cases d <;> exact h) ⟨Z3, rfl⟩ [6] 0 _ _ (by kernel_rfl) ?_
    change wpQuiet _ _ _ _ (_ :: []) _
    repeat go_big_quiet_step (fail)
    refine wpQuiet_nil ?_
    refine wpAnyH_done (by kernel_rfl) ?_ _
    obtain ⟨r0, r1, r2⟩ := (HR.out.below Z3.2).cell
    have f0 := (HR.out.below Z3.2).free 0
    have f1 := (HR.out.below Z3.2).free 1
    have f2 := (HR.out.below Z3.2).free 2
    obtain ⟨WE, hWE, hWB, hWL⟩ := HEND.out Z3 mt0
    obtain ⟨q0, q1, q2⟩ := hWB.cell
    have HWE := Lib.hid hWE
    have HWL := Lib.hid hWL
    unfold mt0 at r0 r1 r2 HWE q0 q1 q2
    try simp only at r0 r1 r2 HWE q0 q1 q2
    clear hWE hWB hWL
    go_wp2_with fail
    rw [HWE.out]
    exact bodyPost_ret (v := .tuple #[.agg #[.int .i64 0, .int .i64 0, .int .i64 0], .bool false, .int .i64 3]) (by simp [results, Try.results9, go_sem, q0, q1, q2]) rfl (HBAD.out 3 WE HF.out (by decide) HWL.out)
  have q0 : decide ((400 : Int) < (na : Int)) = false := by rw [decide_eq_false_iff_not]; omega
  have q0' : decide (400 < na) = false := by rw [decide_eq_false_iff_not]; omega
  by_cases g1 : 400 < nb
  case pos =>
    have q1 : decide ((400 : Int) < (nb : Int)) = true := by rw [decide_eq_true_eq]; omega
    have q1' : decide (400 < nb) = true := by rw [decide_eq_true_eq]; omega
    have HF := Lib.hid (HV.out.trans (if_pos (by omega)))
    clear g0 g1 HV
    go_enter Try.func9, Try.ntmps9
    go_upto_region 1 with (fail)
    rw [HV0.out, HV1.out, HV2.out]
    refine ext_wp fun X => ?_
    refine held_start (C := fun w' => ∃ Z : Ext V2, w' = Z.1) (by kernel_rfl) ?_
    obtain ⟨Z0, hZ0⟩ : ∃ Z : Ext V2, ({ X.1 with drawn := X.1.drawn + 1 } : World) = Z.1 := ⟨⟨{ X.1 with drawn := X.1.drawn + 1 }, below_step X.2 ⟨rfl, rfl, rfl, Nat.le_refl _, fun _ _ => rfl⟩⟩, rfl⟩
    rw [hZ0]
    clear hZ0
    refine held_quiet (by kernel_rfl) (fun _ _ d _ _ h => by cases d <;> exact h) ⟨Z0, rfl⟩ [0, 2] 5 _ _ (by kernel_rfl) ?_
    change wpQuiet _ _ _ _ (_ :: _ :: []) _
    repeat go_big_quiet_step (fail)
    refine wpQuiet_nil ?_
    refine held_do (i := 1) _ rfl (by kernel_rfl) rfl (fun K hK => ?_)
    go_simp
    refine (DA.out Z0).mono ?_
    rintro e w1 ⟨rfl, Z1, rfl⟩
    refine hK _ _ ⟨Z1, rfl⟩ ?_
    clear hK K
    try simp only [Act.put, List.setIfInBounds_toArray, List.set_cons_zero, List.set_cons_succ]
    refine held_do (i := 3) _ rfl (by kernel_rfl) rfl (fun K hK => ?_)
    go_simp
    refine (DB.out Z1).mono ?_
    rintro e w1 ⟨rfl, Z2, rfl⟩
    refine hK _ _ ⟨Z2, rfl⟩ ?_
    clear hK K
    try simp only [Act.put, List.setIfInBounds_toArray, List.set_cons_zero, List.set_cons_succ]
    refine held_do (i := 4) _ rfl (by kernel_rfl) rfl (fun K hK => ?_)
    go_simp
    obtain ⟨Wb, hWb, hwb1, hwb2, hwq⟩ := alloc_cells Z2.1 #[.int .i64 eA, .int .i64 eB] 28
    rw [hWb]
    obtain ⟨Z3, rfl⟩ : ∃ Z : Ext V2, Wb = Z.1 := ⟨⟨Wb, below_step Z2.2 hwb1⟩, rfl⟩
    have DO := Lib.hid (orE_any [eA, eB] Z2.1.heap.size 2 Z3.1 (by simp) (fun i v hv => hwq i _ (by
      match i, hv with
      | 0, h => injection h with h; subst h; rfl
      | 1, h => injection h with h; subst h; rfl
      | n + 2, h => simp at h)))
    rw [HER.out] at DO
    refine hK _ _ ⟨Z3, rfl⟩ ?_
    clear hK K hWb hwb1 hwb2 hwq
    try simp only [Act.put, List.setIfInBounds_toArray, List.set_cons_zero, List.set_cons_succ]
    refine held_do (i := 5) _ rfl (by kernel_rfl) rfl (fun K hK => ?_)
    go_simp
    refine DO.out.mono ?_
    rintro e w1 ⟨rfl, rfl⟩
    refine hK _ _ ⟨Z3, rfl⟩ ?_
    clear hK K DO
    try simp only [Act.put, List.setIfInBounds_toArray, List.set_cons_zero, List.set_cons_succ]
    refine held_quiet (by kernel_rfl) (fun _ _ d _ _ h => by cases d <;> exact h) ⟨Z3, rfl⟩ [6] 0 _ _ (by kernel_rfl) ?_
    change wpQuiet _ _ _ _ (_ :: []) _
    repeat go_big_quiet_step (fail)
    refine wpQuiet_nil ?_
    refine wpAnyH_done (by kernel_rfl) ?_ _
    obtain ⟨r0, r1, r2⟩ := (HR.out.below Z3.2).cell
    have f0 := (HR.out.below Z3.2).free 0
    have f1 := (HR.out.below Z3.2).free 1
    have f2 := (HR.out.below Z3.2).free 2
    obtain ⟨WE, hWE, hWB, hWL⟩ := HEND.out Z3 mt0
    obtain ⟨q0, q1, q2⟩ := hWB.cell
    have HWE := Lib.hid hWE
    have HWL := Lib.hid hWL
    unfold mt0 at r0 r1 r2 HWE q0 q1 q2
    try simp only at r0 r1 r2 HWE q0 q1 q2
    clear hWE hWB hWL
    go_wp2_with fail
    rw [HWE.out]
    exact bodyPost_ret (v := .tuple #[.agg #[.int .i64 0, .int .i64 0, .int .i64 0], .bool false, .int .i64 3]) (by simp [results, Try.results9, go_sem, q0, q1, q2]) rfl (HBAD.out 3 WE HF.out (by decide) HWL.out)
  have q1 : decide ((400 : Int) < (nb : Int)) = false := by rw [decide_eq_false_iff_not]; omega
  have q1' : decide (400 < nb) = false := by rw [decide_eq_false_iff_not]; omega
  have HV := Lib.hid (HV.out.trans (if_neg (by omega)))
  by_cases h5 : be = 0
  case neg =>
    have b5 := bneT h5
    have HF := Lib.hid (HV.out.trans (HBN.out h5))
    have H0 := Lib.hid h5
    have HNB := Lib.hid (HBN.out h5)
    clear h5 HV g0 g1
    go_enter Try.func9, Try.ntmps9
    go_upto_region 1 with (fail)
    rw [HV0.out, HV1.out, HV2.out]
    refine ext_wp fun X => ?_
    refine held_start (C := fun w' => ∃ Z : Ext V2, w' = Z.1) (by kernel_rfl) ?_
    obtain ⟨Z0, hZ0⟩ : ∃ Z : Ext V2, ({ X.1 with drawn := X.1.drawn + 1 } : World) = Z.1 := ⟨⟨{ X.1 with drawn := X.1.drawn + 1 }, below_step X.2 ⟨rfl, rfl, rfl, Nat.le_refl _, fun _ _ => rfl⟩⟩, rfl⟩
    rw [hZ0]
    clear hZ0
    refine held_quiet (by kernel_rfl) (fun _ _ d _ _ h => by cases d <;> exact h) ⟨Z0, rfl⟩ [0, 2] 5 _ _ (by kernel_rfl) ?_
    change wpQuiet _ _ _ _ (_ :: _ :: []) _
    repeat go_big_quiet_step (fail)
    refine wpQuiet_nil ?_
    refine held_do (i := 1) _ rfl (by kernel_rfl) rfl (fun K hK => ?_)
    go_simp
    refine (DA.out Z0).mono ?_
    rintro e w1 ⟨rfl, Z1, rfl⟩
    refine hK _ _ ⟨Z1, rfl⟩ ?_
    clear hK K
    try simp only [Act.put, List.setIfInBounds_toArray, List.set_cons_zero, List.set_cons_succ]
    refine held_do (i := 3) _ rfl (by kernel_rfl) rfl (fun K hK => ?_)
    go_simp
    refine (DB.out Z1).mono ?_
    rintro e w1 ⟨rfl, Z2, rfl⟩
    refine hK _ _ ⟨Z2, rfl⟩ ?_
    clear hK K
    try simp only [Act.put, List.setIfInBounds_toArray, List.set_cons_zero, List.set_cons_succ]
    refine held_do (i := 4) _ rfl (by kernel_rfl) rfl (fun K hK => ?_)
    go_simp
    obtain ⟨Wb, hWb, hwb1, hwb2, hwq⟩ := alloc_cells Z2.1 #[.int .i64 eA, .int .i64 eB] 28
    rw [hWb]
    obtain ⟨Z3, rfl⟩ : ∃ Z : Ext V2, Wb = Z.1 := ⟨⟨Wb, below_step Z2.2 hwb1⟩, rfl⟩
    have DO := Lib.hid (orE_any [eA, eB] Z2.1.heap.size 2 Z3.1 (by simp) (fun i v hv => hwq i _ (by
      match i, hv with
      | 0, h => injection h with h; subst h; rfl
      | 1, h => injection h with h; subst h; rfl
      | n + 2, h => simp at h)))
    rw [HER.out] at DO
    refine hK _ _ ⟨Z3, rfl⟩ ?_
    clear hK K hWb hwb1 hwb2 hwq
    try simp only [Act.put, List.setIfInBounds_toArray, List.set_cons_zero, List.set_cons_succ]
    refine held_do (i := 5) _ rfl (by kernel_rfl) rfl (fun K hK => ?_)
    go_simp
    refine DO.out.mono ?_
    rintro e w1 ⟨rfl, rfl⟩
    refine hK _ _ ⟨Z3, rfl⟩ ?_
    clear hK K DO
    try simp only [Act.put, List.setIfInBounds_toArray, List.set_cons_zero, List.set_cons_succ]
    refine held_quiet (by kernel_rfl) (fun _ _ d _ _ h => by cases d <;> exact h) ⟨Z3, rfl⟩ [6] 0 _ _ (by kernel_rfl) ?_
    change wpQuiet _ _ _ _ (_ :: []) _
    repeat go_big_quiet_step (fail)
    refine wpQuiet_nil ?_
    refine wpAnyH_done (by kernel_rfl) ?_ _
    go_wp2_with fail
    refine (DBN.out _).mono ?_
    rintro e w1 ⟨rfl, hb⟩
    obtain ⟨Z4, rfl⟩ : ∃ Z : Ext V2, w1 = Z.1 := ⟨⟨w1, below_step Z3.2 hb⟩, rfl⟩
    clear hb
    obtain ⟨r0, r1, r2⟩ := (HR.out.below Z4.2).cell
    have f0 := (HR.out.below Z4.2).free 0
    have f1 := (HR.out.below Z4.2).free 1
    have f2 := (HR.out.below Z4.2).free 2
    obtain ⟨WE, hWE, hWB, hWL⟩ := HEND.out Z4 mt0
    obtain ⟨q0, q1, q2⟩ := hWB.cell
    have HWE := Lib.hid hWE
    have HWL := Lib.hid hWL
    unfold mt0 at r0 r1 r2 HWE q0 q1 q2
    try simp only at r0 r1 r2 HWE q0 q1 q2
    clear hWE hWB hWL
    go_wp2_with fail
    rw [HWE.out]
    exact bodyPost_ret (v := .tuple #[.agg #[.int .i64 0, .int .i64 0, .int .i64 0], .bool false, .int .i64 be]) (by simp [results, Try.results9, go_sem, q0, q1, q2]) rfl (HBAD.out be WE (HF.out.trans HNB.out.symm) H0.out HWL.out)
  have HF := Lib.hid (HV.out.trans h5)
  have DFX := Lib.hid (fun X => DF.out X HZ.out.1 HZ.out.2 (by omega) (by omega) h5)
  obtain ⟨m, hm⟩ : ∃ m, E.getD mt0 = m := ⟨_, rfl⟩
  obtain ⟨bl, hbl⟩ : ∃ b, E.isSome = b := ⟨_, rfl⟩
  rw [hm, hbl] at DFX
  have HM := Lib.hid hm
  have HBL := Lib.hid hbl
  subst h5
  clear HV g0 g1 hm hbl DF
  go_enter Try.func9, Try.ntmps9
  go_upto_region 1 with (fail)
  rw [HV0.out, HV1.out, HV2.out]
  refine ext_wp fun X => ?_
  refine held_start (C := fun w' => ∃ Z : Ext V2, w' = Z.1) (by kernel_rfl) ?_
  obtain ⟨Z0, hZ0⟩ : ∃ Z : Ext V2, ({ X.1 with drawn := X.1.drawn + 1 } : World) = Z.1 := ⟨⟨{ X.1 with drawn := X.1.drawn + 1 }, below_step X.2 ⟨rfl, rfl, rfl, Nat.le_refl _, fun _ _ => rfl⟩⟩, rfl⟩
  rw [hZ0]
  clear hZ0
  refine held_quiet (by kernel_rfl) (fun _ _ d _ _ h => by cases d <;> exact h) ⟨Z0, rfl⟩ [0, 2] 5 _ _ (by kernel_rfl) ?_
  change wpQuiet _ _ _ _ (_ :: _ :: []) _
  repeat go_big_quiet_step (fail)
  refine wpQuiet_nil ?_
  refine held_do (i := 1) _ rfl (by kernel_rfl) rfl (fun K hK => ?_)
  go_simp
  refine (DA.out Z0).mono ?_
  rintro e w1 ⟨rfl, Z1, rfl⟩
  refine hK _ _ ⟨Z1, rfl⟩ ?_
  clear hK K
  try simp only [Act.put, List.setIfInBounds_toArray, List.set_cons_zero, List.set_cons_succ]
  refine held_do (i := 3) _ rfl (by kernel_rfl) rfl (fun K hK => ?_)
  go_simp
  refine (DB.out Z1).mono ?_
  rintro e w1 ⟨rfl, Z2, rfl⟩
  refine hK _ _ ⟨Z2, rfl⟩ ?_
  clear hK K
  try simp only [Act.put, List.setIfInBounds_toArray, List.set_cons_zero, List.set_cons_succ]
  refine held_do (i := 4) _ rfl (by kernel_rfl) rfl (fun K hK => ?_)
  go_simp
  obtain ⟨Wb, hWb, hwb1, hwb2, hwq⟩ := alloc_cells Z2.1 #[.int .i64 eA, .int .i64 eB] 28
  rw [hWb]
  obtain ⟨Z3, rfl⟩ : ∃ Z : Ext V2, Wb = Z.1 := ⟨⟨Wb, below_step Z2.2 hwb1⟩, rfl⟩
  have DO := Lib.hid (orE_any [eA, eB] Z2.1.heap.size 2 Z3.1 (by simp) (fun i v hv => hwq i _ (by
    match i, hv with
    | 0, h => injection h with h; subst h; rfl
    | 1, h => injection h with h; subst h; rfl
    | n + 2, h => simp at h)))
  rw [HER.out] at DO
  refine hK _ _ ⟨Z3, rfl⟩ ?_
  clear hK K hWb hwb1 hwb2 hwq
  try simp only [Act.put, List.setIfInBounds_toArray, List.set_cons_zero, List.set_cons_succ]
  refine held_do (i := 5) _ rfl (by kernel_rfl) rfl (fun K hK => ?_)
  go_simp
  refine DO.out.mono ?_
  rintro e w1 ⟨rfl, rfl⟩
  refine hK _ _ ⟨Z3, rfl⟩ ?_
  clear hK K DO
  try simp only [Act.put, List.setIfInBounds_toArray, List.set_cons_zero, List.set_cons_succ]
  refine held_quiet (by kernel_rfl) (fun _ _ d _ _ h => by cases d <;> exact h) ⟨Z3, rfl⟩ [6] 0 _ _ (by kernel_rfl) ?_
  change wpQuiet _ _ _ _ (_ :: []) _
  repeat go_big_quiet_step (fail)
  refine wpQuiet_nil ?_
  refine wpAnyH_done (by kernel_rfl) ?_ _
  go_wp2_with fail
  refine (DBN.out _).mono ?_
  rintro e w1 ⟨rfl, hb⟩
  obtain ⟨Z4, rfl⟩ : ∃ Z : Ext V2, w1 = Z.1 := ⟨⟨w1, below_step Z3.2 hb⟩, rfl⟩
  clear hb
  go_wp2_with fail
  refine (DFX.out Z4).mono ?_
  rintro e w1 ⟨rfl, hb⟩
  obtain ⟨Z5, rfl⟩ : ∃ Z : Ext V2, w1 = Z.1 := ⟨⟨w1, below_step Z4.2 hb⟩, rfl⟩
  clear hb
  obtain ⟨W6, hW6, hwb6, hws6, hwl6⟩ := alloc_mt Z5.1 m
  have HW6 := Lib.hid hW6
  obtain ⟨Z6, hZ6⟩ : ∃ Z : Ext V2, W6 = Z.1 := ⟨⟨W6, below_step Z5.2 hwb6⟩, rfl⟩
  rw [hZ6] at hwl6
  obtain ⟨t0, t1', t2⟩ := hwl6.cell
  clear hW6 hwb6 hws6 hwl6
  go_upto_region 10 with (fail)
  rw [HW6.out, hZ6]
  clear hZ6
  obtain ⟨r0, r1, r2⟩ := (HR.out.below Z6.2).cell
  have f0 := (HR.out.below Z6.2).free 0
  have f1 := (HR.out.below Z6.2).free 1
  have f2 := (HR.out.below Z6.2).free 2
  obtain ⟨WE, hWE, hWB, hWL⟩ := HEND.out Z6 m
  obtain ⟨q0, q1, q2⟩ := hWB.cell
  have HWE := Lib.hid hWE
  have HWL := Lib.hid hWL
  unfold mt0 at r0 r1 r2
  try simp only at r0 r1 r2
  clear hWE hWB hWL
  go_wp2_with fail
  rw [HWE.out]
  exact bodyPost_ret (v := .tuple #[.agg #[.int .i64 m.shift, .int .i64 m.many, .int .i64 m.sum], .bool bl, .int .i64 0]) (by simp [results, Try.results9, go_sem, q0, q1, q2]) rfl (HGOOD.out m bl WE HF.out HM.out HBL.out HWL.out)
end Go.Proofs.Ytkejjlghelnfjaa

/- TopRecordingsAreOne: the walk. -/
namespace Go.Proofs.Ytkejjlghelnfjaa
open Go.RowKit Go.BigFrame
open Tr (inR)
open Ft (Mt)

set_option maxHeartbeats 100000000 in
set_option maxRecDepth 100000 in
theorem recs_law (A : Acv) (a b c : Option Addr) (ca cb cc : Nat) (M : List Bool) (mp : Option Addr) (mc : Nat) (shift : Int) (w : World) (h : ActIn w A a b c) (hm : Rw bC 1 w mp M) :
    Calls Try.prog 3 #[actV A a b c ca cb cc, .slice mp M.length mc, .int .i64 shift] w fun e w' => e = .returned (.bool true) ∧ Below w.heap.size w w' := by
  obtain ⟨V0, hV0, hb0, hs0, ha0⟩ := alloc_ac w A.name A.sport A.start (.slice a A.sm.length ca) (.slice b A.lp.length cb) (.slice c A.tg.length cc)
  have HB := Lib.hid hb0
  have HIN := Lib.hid (h.below HB.out)
  have HM := Lib.hid (hm.below HB.out)
  have HS0 := Lib.hid hs0
  have HA0 := Lib.hid ha0
  have DT := Lib.hid (fun W => hTold_any W)
  have DC := Lib.hid (fun X : Ext V0 => show Calls Try.prog 4 #[.agg #[.string A.name, .int .i64 A.sport, .int .i64 A.start, .slice a A.sm.length ca, .slice b A.lp.length cb, .slice c A.tg.length cc]] X.1 fun e w' => e = .returned (.int .i64 (chkA A)) ∧ Below X.1.heap.size X.1 w' from by
    have h := check_any A a b c ca cb cc X.1 (HIN.out.below X.2)
    unfold ChkG actV at h
    exact h)
  obtain ⟨g0, g1, g2, g3, g4, g5⟩ := ha0.cell
  have G0 := Ext.ex g0
  have G1 := Ext.ex g1
  have G2 := Ext.ex g2
  have G3 := Ext.ex g3
  have G4 := Ext.ex g4
  have G5 := Ext.ex g5
  unfold actV
  clear h hm hb0 ha0 hs0 g0 g1 g2 g3 g4 g5
  obtain ⟨n, hn⟩ : ∃ n, A.sm.length = n := ⟨_, rfl⟩
  obtain ⟨ml, hml2⟩ : ∃ n, M.length = n := ⟨_, rfl⟩
  rw [hn] at G3 DC hV0 ⊢
  rw [hml2]
  have HN := Lib.hid hn
  have HML := Lib.hid hml2
  clear hn hml2
  go_enter Try.func3, Try.ntmps3
  go_upto_region 1 with (fail)
  refine ext_wp (W := V0) fun X0 => ?_
  clear hV0
  obtain ⟨er, her⟩ : ∃ er, chkA A = er := ⟨_, rfl⟩
  rw [her] at DC
  by_cases h0 : er = 0
  case neg =>
    have t1 := bneT h0
    go_wp2_with fail
    refine (DC.out X0).mono ?_
    rintro e Y1 ⟨rfl, hb1⟩
    obtain ⟨X1, rfl⟩ : ∃ Z : Ext V0, Y1 = Z.1 := ⟨⟨Y1, below_step X0.2 hb1⟩, rfl⟩
    clear hb1
    go_wp2_with fail
    refine (DT.out _).mono ?_
    rintro e Y2 ⟨rfl, hb2⟩
    have HB2 := Lib.hid (below_step (below_step HB.out X1.2) hb2)
    clear hb2
    go_wp2_with fail
    go_ret
    exact ⟨rfl, HB2.out⟩
  subst h0
  have HOK := Lib.hid (chkA_zero.1 her)
  clear her
  have hnn : n ≤ 20000 := by have := HOK.out.nsm; rw [HN.out] at this; exact this
  by_cases hn2 : n < 2
  · have t1 : decide ((n : Int) < 2) = true := by rw [decide_eq_true_eq]; omega
    have t1' : decide (n < 2) = true := by simpa using hn2
    go_wp2_with fail
    refine (DC.out X0).mono ?_
    rintro e Y1 ⟨rfl, hb1⟩
    obtain ⟨X1, rfl⟩ : ∃ Z : Ext V0, Y1 = Z.1 := ⟨⟨Y1, below_step X0.2 hb1⟩, rfl⟩
    clear hb1
    go_wp2_with fail
    refine (DT.out _).mono ?_
    rintro e Y2 ⟨rfl, hb2⟩
    have HB2 := Lib.hid (below_step (below_step HB.out X1.2) hb2)
    clear hb2
    go_wp2_with fail
    go_ret
    exact ⟨rfl, HB2.out⟩
  have t1 : decide ((n : Int) < 2) = false := by rw [decide_eq_false_iff_not]; omega
  have t1' : decide (n < 2) = false := by simpa using hn2
  by_cases hsr : shift < 0 ∨ 1000 < shift
  · rcases (show (shift < 0 ∧ shift ≤ 1000) ∨ (¬ shift < 0 ∧ 1000 < shift) by omega) with ⟨hs1, hs2⟩ | ⟨hs1, hs2⟩
    · have t2 : decide (shift < 0) = true := by rw [decide_eq_true_eq]; exact hs1
      go_wp2_with fail
      refine (DC.out X0).mono ?_
      rintro e Y1 ⟨rfl, hb1⟩
      obtain ⟨X1, rfl⟩ : ∃ Z : Ext V0, Y1 = Z.1 := ⟨⟨Y1, below_step X0.2 hb1⟩, rfl⟩
      clear hb1
      go_wp2_with fail
      refine (DT.out _).mono ?_
      rintro e Y2 ⟨rfl, hb2⟩
      have HB2 := Lib.hid (below_step (below_step HB.out X1.2) hb2)
      clear hb2
      go_wp2_with fail
      go_ret
      exact ⟨rfl, HB2.out⟩
    · have t2 : decide (shift < 0) = false := by rw [decide_eq_false_iff_not]; exact hs1
      have t3 : decide ((1000 : Int) < shift) = true := by rw [decide_eq_true_eq]; exact hs2
      go_wp2_with fail
      refine (DC.out X0).mono ?_
      rintro e Y1 ⟨rfl, hb1⟩
      obtain ⟨X1, rfl⟩ : ∃ Z : Ext V0, Y1 = Z.1 := ⟨⟨Y1, below_step X0.2 hb1⟩, rfl⟩
      clear hb1
      go_wp2_with fail
      refine (DT.out _).mono ?_
      rintro e Y2 ⟨rfl, hb2⟩
      have HB2 := Lib.hid (below_step (below_step HB.out X1.2) hb2)
      clear hb2
      go_wp2_with fail
      go_ret
      exact ⟨rfl, HB2.out⟩
  have hs1 : 0 ≤ shift := by omega
  have hs2 : shift ≤ 1000 := by omega
  have t2 : decide (shift < 0) = false := by rw [decide_eq_false_iff_not]; omega
  have t3 : decide ((1000 : Int) < shift) = false := by rw [decide_eq_false_iff_not]; omega
  have t4 : (2 : Int) ≤ (n : Int) := by omega
  clear hsr hn2
  go_wp2_with fail
  refine (DC.out X0).mono ?_
  rintro e Y1 ⟨rfl, hb1⟩
  obtain ⟨X1, rfl⟩ : ∃ Z : Ext V0, Y1 = Z.1 := ⟨⟨Y1, below_step X0.2 hb1⟩, rfl⟩
  clear hb1
  obtain ⟨V2, hV2, hb2, hs2', hl2⟩ := alloc_cells X1.1 #[.int .i64 0] 3
  obtain ⟨V3, hV3, hb3, hs3, hl3⟩ := alloc_cells V2 #[] 3
  have HTW := Lib.hid (show TwoI V3 V0.heap.size (.slice (some ⟨X1.1.heap.size, 0, none⟩) 1 1) (.slice (some ⟨V2.heap.size, 0, none⟩) 0 0) [0] [] from by
    have o1 := World.ownsRow_lit (base := V0.heap.size) (e := 3) (size := 1) X1.1 #[.int .i64 0] 1 X1.2.size (by decide) rfl
    have o2 := World.ownsRow_lit (base := V0.heap.size) (e := 3) (size := 1) V2 #[] 0 (by have := X1.2.size; omega) (by decide) rfl
    rw [hV2] at o1
    rw [hV3] at o2
    exact ⟨Own.below (C := iC) o1 hb3, o2, fun g e1 e2 => by
      have e1 : X1.1.heap.size = g := Option.some.inj e1
      have e2 : V2.heap.size = g := Option.some.inj e2
      omega⟩)
  obtain ⟨X3, hX3⟩ : ∃ Z : Ext V0, V3 = Z.1 := ⟨⟨V3, below_step (below_step X1.2 hb2) hb3⟩, rfl⟩
  rw [hX3] at HTW hV3
  have HS2 := Lib.hid hs2'
  clear hb2 hb3 hs3 hl2 hl3 hX3 hs2'
  go_wp2_with fail
  go_loopw [7, 8, 42] (fun v1 v2 iv wr => ∃ k : Nat, iv = .int .i64 k ∧ k ≤ n ∧ ∃ ks1 ks2, Hid (Divd k ks1 ks2 ∧ (k = 0 → ks1 = [0] ∧ ks2 = [])) ∧ Hid (TwoI wr V0.heap.size v1 v2 ks1 ks2) ∧ ∃ X : Ext V0, wr = X.1) (fun _ _ iv _ => n - (intOf iv).toNat)
  case atStart => exact ⟨0, rfl, by omega, [0], [], Lib.hid ⟨divd_start, fun _ => ⟨rfl, rfl⟩⟩, HTW, X3, rfl⟩
  case round =>
    clear X3 hV3 hV2 HS2 HTW X0
    obtain ⟨k, rfl, hk, ks1, ks2, HD, HT2, X, rfl⟩ := hrel
    by_cases hlt : k < n
    · have u1 : decide ((k : Int) < (n : Int)) = true := by rw [decide_eq_true_eq]; omega
      have u1' : decide (k < n) = true := by simpa using hlt
      have hkx : (k : Int) ≤ 20000 := by omega
      by_cases hk0 : k = 0
      · have u2 : ((k : Int) == 0) = true := by simp [hk0]
        have HD1 := Lib.hid (show Divd (k + 1) ks1 ks2 ∧ (k + 1 = 0 → ks1 = [0] ∧ ks2 = []) from by
          obtain ⟨d, hd⟩ := HD.out
          obtain ⟨e1, e2⟩ := hd hk0
          subst hk0
          exact ⟨divd_one d e1 e2, fun h => by omega⟩)
        clear hk0
        go_wp2_with fail
        go_roundw
        case rel => exact ⟨k + 1, by go_num, by omega, ks1, ks2, HD1, HT2, X, rfl⟩
        case measure => simp [intOf]; omega
      · have u2 : ((k : Int) == 0) = false := by simp; omega
        have hkp : 0 < k := by omega
        obtain ⟨V7, hV7, hb7, hs7, hl7⟩ := alloc_cells X.1 #[.int .i64 k] 3
        have i7 := hl7 0 _ rfl
        have HT7 := Lib.hid (HT2.out.below hb7)
        have H7 := Lib.hid (below_step X.2 hb7)
        have HL1 := Lib.hid (show (ks1.map Int.ofNat).length ≤ 1000000 ∧ (ks2.map Int.ofNat).length ≤ 1000000 from by
          have := HD.out.1.n1
          have := HD.out.1.n2
          rw [List.length_map, List.length_map]
          omega)
        have HLEFT := Lib.hid (show Divd (k + 1) (ks1 ++ [k]) ks2 from HD.out.1.left hkp)
        have HRIGHT := Lib.hid (show Divd (k + 1) ks1 (ks2 ++ [k]) from HD.out.1.right hkp)
        clear hb7 hs7 hl7 hk0
        by_cases hkm : k < ml
        · have u3 : decide ((k : Int) < (ml : Int)) = true := by rw [decide_eq_true_eq]; omega
          have u3' : decide (k < ml) = true := by simpa using hkm
          obtain ⟨x, hx⟩ : ∃ x, M[k]? = some x := ⟨_, List.getElem?_eq_getElem (by rw [HML.out]; exact hkm)⟩
          obtain ⟨b3, o3, rfl, hb3, hd⟩ := (HM.out.below X.2).at hx
          have e0 : X.1.cell? ⟨b3, o3 + k, none⟩ = some (.bool x) := by have := hd 0 _ rfl; simpa using this
          clear hx hd hb3
          cases x
          · go_wp2_with (at_builtin; refine append_I rfl _ _ rfl rfl HT7.out.o2 (p := (k : Int)) rfl i7 HL1.out.2 H7.out.size (fun g' c2 w8 ho8 hg8 hor => ?_))
            have H8 := Lib.hid (Kept.below (O := fun b => V0.heap.size ≤ b) H7.out (grown_ext HT7.out.o2 hg8) H7.out.size (fun k hk e => by omega))
            have HT8 := Lib.hid (by have q := HT7.out.right rfl ho8 hg8 hor; rw [List.length_map] at q; exact q)
            clear ho8 hg8 hor hV7
            go_wp2_with fail
            go_roundw
            case rel => exact ⟨k + 1, by go_num, by omega, ks1, ks2 ++ [k], Lib.hid ⟨HRIGHT.out, fun h => by omega⟩, HT8, ⟨w8, H8.out⟩, rfl⟩
            case measure => simp [intOf]; omega
          · go_wp2_with (at_builtin; refine append_I rfl _ _ rfl rfl HT7.out.o1 (p := (k : Int)) rfl i7 HL1.out.1 H7.out.size (fun g' c2 w8 ho8 hg8 hor => ?_))
            have H8 := Lib.hid (Kept.below (O := fun b => V0.heap.size ≤ b) H7.out (grown_ext HT7.out.o1 hg8) H7.out.size (fun k hk e => by omega))
            have HT8 := Lib.hid (by have q := HT7.out.left rfl ho8 hg8 hor; rw [List.length_map] at q; exact q)
            clear ho8 hg8 hor hV7
            go_wp2_with fail
            go_roundw
            case rel => exact ⟨k + 1, by go_num, by omega, ks1 ++ [k], ks2, Lib.hid ⟨HLEFT.out, fun h => by omega⟩, HT8, ⟨w8, H8.out⟩, rfl⟩
            case measure => simp [intOf]; omega
        · have u3 : decide ((k : Int) < (ml : Int)) = false := by rw [decide_eq_false_iff_not]; omega
          have u3' : decide (k < ml) = false := by simpa using hkm
          go_wp2_with (at_builtin; refine append_I rfl _ _ rfl rfl HT7.out.o2 (p := (k : Int)) rfl i7 HL1.out.2 H7.out.size (fun g' c2 w8 ho8 hg8 hor => ?_))
          have H8 := Lib.hid (Kept.below (O := fun b => V0.heap.size ≤ b) H7.out (grown_ext HT7.out.o2 hg8) H7.out.size (fun k hk e => by omega))
          have HT8 := Lib.hid (by have q := HT7.out.right rfl ho8 hg8 hor; rw [List.length_map] at q; exact q)
          clear ho8 hg8 hor hV7
          go_wp2_with fail
          go_roundw
          case rel => exact ⟨k + 1, by go_num, by omega, ks1, ks2 ++ [k], Lib.hid ⟨HRIGHT.out, fun h => by omega⟩, HT8, ⟨w8, H8.out⟩, rfl⟩
          case measure => simp [intOf]; omega
    · have u1 : decide ((k : Int) < (n : Int)) = false := by rw [decide_eq_false_iff_not]; omega
      have u1' : decide (k < n) = false := by simpa using hlt
      obtain rfl : k = n := by omega
      have HH := Lib.hid (show Halves A.sm.length ks1 ks2 from by rw [HN.out]; exact HD.out.1.halves (by omega))
      have HL1 := Lib.hid (show ks1.length ≤ 20000 ∧ ks2.length ≤ 20000 from by
        have := HD.out.1.n1
        have := HD.out.1.n2
        omega)
      clear hlt hk HD
      obtain ⟨al1, c1, rfl, _, hr1, _⟩ := HT2.out.o1.row iEl
      obtain ⟨al2, c2, rfl, _, hr2, _⟩ := HT2.out.o2.row iEl
      have HR1 := Lib.hid hr1
      have HR2 := Lib.hid hr2
      rw [List.length_map, List.length_map]
      have D1 := Lib.hid (fun Z : Ext X.1 => show Calls Try.prog 6 #[.agg #[.string A.name, .int .i64 A.sport, .int .i64 A.start, .slice a k ca, .slice b A.lp.length cb, .slice c A.tg.length cc], .slice al1 ks1.length c1] Z.1 fun e w' => ActRet (onlyA A ks1) Z.1 e w' from by
        have h := only_any A a b c ca cb cc ks1 al1 c1 Z.1 (HIN.out.below (below_step X.2 Z.2)) HOK.out (HR1.out.below Z.2) HL1.out.1 HH.out.lt1 (adj_of HH.out.inc1)
        unfold actV at h
        rw [HN.out] at h
        exact h)
      have D2 := Lib.hid (fun Z : Ext X.1 => show Calls Try.prog 6 #[.agg #[.string A.name, .int .i64 A.sport, .int .i64 A.start, .slice a k ca, .slice b A.lp.length cb, .slice c A.tg.length cc], .slice al2 ks2.length c2] Z.1 fun e w' => ActRet (onlyA A ks2) Z.1 e w' from by
        have h := only_any A a b c ca cb cc ks2 al2 c2 Z.1 (HIN.out.below (below_step X.2 Z.2)) HOK.out (HR2.out.below Z.2) HL1.out.2 HH.out.lt2 (adj_of HH.out.inc2)
        unfold actV at h
        rw [HN.out] at h
        exact h)
      have HBX := Lib.hid (below_step HB.out X.2)
      have HXI := Lib.hid (HIN.out.below X.2)
      replace G0 := fun Z : Ext X.1 => G0 ⟨Z.1, below_step X.2 Z.2⟩
      replace G1 := fun Z : Ext X.1 => G1 ⟨Z.1, below_step X.2 Z.2⟩
      replace G2 := fun Z : Ext X.1 => G2 ⟨Z.1, below_step X.2 Z.2⟩
      replace G3 := fun Z : Ext X.1 => G3 ⟨Z.1, below_step X.2 Z.2⟩
      replace G4 := fun Z : Ext X.1 => G4 ⟨Z.1, below_step X.2 Z.2⟩
      replace G5 := fun Z : Ext X.1 => G5 ⟨Z.1, below_step X.2 Z.2⟩
      obtain ⟨Z0, hZ0⟩ : ∃ Z : Ext X.1, X.1 = Z.1 := ⟨⟨X.1, Below.refl _ _⟩, rfl⟩
      have HSZ := Lib.hid X.2.size
      clear hr1 hr2 HT2 DC
      by_cases hbad : chkA (onlyA A ks1) ≠ 0 ∨ chkA (onlyA A ks2) ≠ 0
      case pos =>
        go_upto_region 12 with (fail)
        go_wp2_with fail
        refine (D1.out Z0).mono ?_
        intro e Y1 hr1
        obtain ⟨hb1, nm1, sp1, st1, ba, bb, bc, na, nb, nc, bca, bcb, bcc, rfl⟩ := hr1.gen
        obtain ⟨V4, hV4, hb4, hs4, _⟩ := alloc_ac Y1 nm1 sp1 st1 (.slice ba na bca) (.slice bb nb bcb) (.slice bc nc bcc)
        obtain ⟨Z4, rfl⟩ : ∃ Z : Ext X.1, V4 = Z.1 := ⟨⟨V4, below_step (below_step Z0.2 hb1) hb4⟩, rfl⟩
        clear hr1 hb1 hb4 hs4
        go_wp2_with fail
        refine (D2.out Z4).mono ?_
        intro e Y2 hr1
        obtain ⟨hb1, nm2, sp2, st2, ba, bb, bc, na, nb, nc, bca, bcb, bcc, rfl⟩ := hr1.gen
        obtain ⟨V5, hV5, hb5, hs5, _⟩ := alloc_ac Y2 nm2 sp2 st2 (.slice ba na bca) (.slice bb nb bcb) (.slice bc nc bcc)
        obtain ⟨Z5, rfl⟩ : ∃ Z : Ext X.1, V5 = Z.1 := ⟨⟨V5, below_step (below_step Z4.2 hb1) hb5⟩, rfl⟩
        clear hr1 hb1 hb5 hs5 hV4
        obtain ⟨e1, he1⟩ : ∃ e, chkA (onlyA A ks1) = e := ⟨_, rfl⟩
        obtain ⟨e2, he2⟩ : ∃ e, chkA (onlyA A ks2) = e := ⟨_, rfl⟩
        rw [he1, he2] at hbad
        rw [he1, he2]
        clear he1 he2
        by_cases q1 : e1 = 0
        · have u2 := bneF q1
          have u3 : (e2 != 0) = true := bneT (by rcases hbad with h | h; exact absurd q1 h; exact h)
          clear hbad q1
          go_wp2_with fail
          refine (DT.out _).mono ?_
          rintro e Y6 ⟨rfl, hb6⟩
          have HB6 := Lib.hid (below_step (below_step HBX.out Z5.2) hb6)
          clear hb6
          go_wp2_with fail
          go_ret
          exact ⟨rfl, HB6.out⟩
        · have u2 := bneT q1
          clear hbad q1
          go_wp2_with fail
          refine (DT.out _).mono ?_
          rintro e Y6 ⟨rfl, hb6⟩
          have HB6 := Lib.hid (below_step (below_step HBX.out Z5.2) hb6)
          clear hb6
          go_wp2_with fail
          go_ret
          exact ⟨rfl, HB6.out⟩
      have HC1 := Lib.hid (show chkA (onlyA A ks1) = 0 by omega)
      have HC2 := Lib.hid (show chkA (onlyA A ks2) = 0 by omega)
      clear hbad
      obtain ⟨P, hP⟩ : ∃ P, onlyA A ks1 = P := ⟨_, rfl⟩
      obtain ⟨Q, hQ⟩ : ∃ P, onlyA A ks2 = P := ⟨_, rfl⟩
      have HP := Lib.hid hP
      have HQ := Lib.hid hQ
      rw [hP] at D1 HC1
      rw [hQ] at D2 HC2
      clear hP hQ
      go_upto_region 12 with (fail)
      go_wp2_with fail
      refine (D1.out Z0).mono ?_
      intro e Y1 hr1
      obtain ⟨hb1, xa, xb, xc, xca, xcb, xcc, rfl, hx1⟩ := hr1.ok HC1.out
      obtain ⟨V4, hV4, hb4, hs4, ha4⟩ := alloc_ac Y1 P.name P.sport P.start (.slice xa P.sm.length xca) (.slice xb P.lp.length xcb) (.slice xc P.tg.length xcc)
      have HX4 := Lib.hid (hx1.below hb4)
      obtain ⟨B4, hB4⟩ : ∃ B, Y1.heap.size = B := ⟨_, rfl⟩
      rw [hB4] at ha4
      have HA4 := Lib.hid ha4
      obtain ⟨Z4, rfl⟩ : ∃ Z : Ext X.1, V4 = Z.1 := ⟨⟨V4, below_step (below_step Z0.2 hb1) hb4⟩, rfl⟩
      clear hr1 hb1 hb4 hs4 ha4 hx1
      go_wp2_with fail
      refine (D2.out Z4).mono ?_
      intro e Y2 hr1
      obtain ⟨hb1, ya, yb, yc, yca, ycb, ycc, rfl, hy1⟩ := hr1.ok HC2.out
      obtain ⟨V5, hV5, hb5, hs5, ha5⟩ := alloc_ac Y2 Q.name Q.sport Q.start (.slice ya Q.sm.length yca) (.slice yb Q.lp.length ycb) (.slice yc Q.tg.length ycc)
      obtain ⟨y0, y1, y2, y3, y4, y5⟩ := ha5.cell
      have fy := ha5.free 2
      have ha6 := ha5.set2 (Q.start + shift)
      obtain ⟨V6, hV6⟩ : ∃ W, V5.setCell ⟨Y2.heap.size, 2, none⟩ (.int .i64 (Q.start + shift)) = W := ⟨_, rfl⟩
      rw [hV6] at ha6
      have hb6 : Below Y2.heap.size Y2 V6 := Kept.below (O := fun b => b = Y2.heap.size) hb5 (by rw [← hV6]; exact keep_set rfl) hb5.size (fun k hk e => by omega)
      have HY6 := Lib.hid (hy1.below hb6)
      have HX6 := Lib.hid ((HX4.out.below hb1).below hb6)
      have HA6 := Lib.hid ((HA4.out.below hb1).below hb6)
      have HF6 := Lib.hid ha6
      have H46 := Lib.hid (below_step hb1 hb6)
      have hQok := chkA_zero.1 HC2.out
      have hw : IntKind.i64.wrap (Q.start + shift) = Q.start + shift := tm_wrap (by have := hQok.start; omega) (by have := hQok.start; omega)
      have HZ6 := Lib.hid (below_step Z4.2 (below_step hb1 hb6))
      clear hr1 hb1 hb5 hs5 ha5 ha6 hy1 hb6 hV4 hQok
      go_upto_region 17 with (fail)
      obtain ⟨Z6, hZ6⟩ : ∃ Z : Ext V6, V6 = Z.1 := ⟨⟨V6, Below.refl _ _⟩, rfl⟩
      replace G0 := fun Z : Ext V6 => G0 ⟨Z.1, below_step HZ6.out Z.2⟩
      replace G1 := fun Z : Ext V6 => G1 ⟨Z.1, below_step HZ6.out Z.2⟩
      replace G2 := fun Z : Ext V6 => G2 ⟨Z.1, below_step HZ6.out Z.2⟩
      replace G3 := fun Z : Ext V6 => G3 ⟨Z.1, below_step HZ6.out Z.2⟩
      replace G4 := fun Z : Ext V6 => G4 ⟨Z.1, below_step HZ6.out Z.2⟩
      replace G5 := fun Z : Ext V6 => G5 ⟨Z.1, below_step HZ6.out Z.2⟩
      obtain ⟨p0, p1, p2, p3, p4, p5⟩ := HA6.out.cell
      obtain ⟨q0, q1, q2, q3, q4, q5⟩ := HF6.out.cell
      replace p0 := Ext.ex p0
      replace p1 := Ext.ex p1
      replace p2 := Ext.ex p2
      replace p3 := Ext.ex p3
      replace p4 := Ext.ex p4
      replace p5 := Ext.ex p5
      replace q0 := Ext.ex q0
      replace q1 := Ext.ex q1
      replace q2 := Ext.ex q2
      replace q3 := Ext.ex q3
      replace q4 := Ext.ex q4
      replace q5 := Ext.ex q5
      have HB6 := Lib.hid (below_step HBX.out HZ6.out)
      have HI6 := Lib.hid (HXI.out.below HZ6.out)
      have HL6 := Lib.hid (HY6.out.later shift)
      have DC := Lib.hid (fun Z : Ext V6 => show Calls Try.prog 4 #[.agg #[.string Q.name, .int .i64 Q.sport, .int .i64 (Q.start + shift), .slice ya Q.sm.length yca, .slice yb Q.lp.length ycb, .slice yc Q.tg.length ycc]] Z.1 fun e w' => e = .returned (.int .i64 (chkA (later Q shift))) ∧ Below Z.1.heap.size Z.1 w' from by
        have h := check_any (later Q shift) ya yb yc yca ycb ycc Z.1 (HL6.out.below Z.2)
        unfold ChkG actV at h
        exact h)
      have DM := Lib.hid (fun (Z : Ext V6) (hok : AcOk (later Q shift)) => show Calls Try.prog 7 #[.agg #[.string P.name, .int .i64 P.sport, .int .i64 P.start, .slice xa P.sm.length xca, .slice xb P.lp.length xcb, .slice xc P.tg.length xcc], .agg #[.string Q.name, .int .i64 Q.sport, .int .i64 (Q.start + shift), .slice ya Q.sm.length yca, .slice yb Q.lp.length ycb, .slice yc Q.tg.length ycc], .int .i64 shift] Z.1 fun e w' =>
          Below Z.1.heap.size Z.1 w' ∧ ∃ (za zb zc : Option Addr) (nb nc ca cb cc : Nat), e = .returned (.tuple #[.agg #[.string A.name, .int .i64 A.sport, .int .i64 A.start, .slice za k ca, .slice zb nb cb, .slice zc nc cc], .int .i64 0]) ∧ Rw smC 7 w' za A.sm from by
        have h := mergeOk_any P (later Q shift) xa xb xc ya yb yc xca xcb xcc yca ycb ycc shift Z.1 (HX6.out.below Z.2) (HL6.out.below Z.2) (chkA_zero.1 HC1.out) hok (by rw [← HP.out, ← HQ.out]; rfl) (by omega) (by omega)
        refine Calls.mono h ?_
        rintro e w' ⟨L, T, hM, hcase⟩
        have hpl := rec_plain (A := A) HOK.out HH.out (by rw [HN.out]; omega) (by rw [HP.out]; exact chkA_zero.1 HC1.out) (shift := shift) (L := L) (T := T) (by rw [HP.out, HQ.out]; exact hM)
        rw [HP.out] at hpl
        obtain ⟨hz, hzo, hl1, hl2⟩ := hpl
        rcases hcase with ⟨hb, _⟩ | ⟨_, hr⟩
        · omega
        · rw [hz] at hr
          obtain ⟨hb, za, zb, zc, zca, zcb, zcc, rfl, hin⟩ := hr.ok (chkA_zero.2 hzo)
          exact ⟨hb, za, zb, zc, _, _, zca, zcb, zcc, by rw [← HN.out], hin.sm⟩)
      have DF := Lib.hid (fun Z : Ext V6 => show Calls Try.prog 9 #[.agg #[.string A.name, .int .i64 A.sport, .int .i64 A.start, .slice a k ca, .slice b A.lp.length cb, .slice c A.tg.length cc], .agg #[.string Q.name, .int .i64 Q.sport, .int .i64 (Q.start + shift), .slice ya Q.sm.length yca, .slice yb Q.lp.length ycb, .slice yc Q.tg.length ycc], .int .i64 shift, .int .i64 1] Z.1 fun e w' => FitRet A (later Q shift) shift 1 Z.1 e w' from by
        have h := Fit_any A (later Q shift) a b c ya yb yc ca cb cc yca ycb ycc shift 1 Z.1 (HI6.out.below Z.2) (HL6.out.below Z.2)
        unfold actV at h
        rw [HN.out] at h
        exact h)
      obtain ⟨er, her⟩ : ∃ er, chkA (later Q shift) = er := ⟨_, rfl⟩
      rw [her] at DC
      by_cases h0 : er = 0
      case neg =>
        have t1 := bneT h0
        go_wp2_with fail
        refine (DC.out Z6).mono ?_
        rintro e Y7 ⟨rfl, hb7⟩
        obtain ⟨Z7, rfl⟩ : ∃ Z : Ext V6, Y7 = Z.1 := ⟨⟨Y7, below_step Z6.2 hb7⟩, rfl⟩
        clear hb7
        go_wp2_with fail
        refine (DT.out _).mono ?_
        rintro e Y8 ⟨rfl, hb8⟩
        have HB8 := Lib.hid (below_step (below_step HB6.out Z7.2) hb8)
        clear hb8
        go_wp2_with fail
        go_ret
        exact ⟨rfl, HB8.out⟩
      subst h0
      have HLK := Lib.hid (chkA_zero.1 her)
      clear her
      go_wp2_with fail
      refine (DC.out Z6).mono ?_
      rintro e Y7 ⟨rfl, hb7⟩
      obtain ⟨Z7, rfl⟩ : ∃ Z : Ext V6, Y7 = Z.1 := ⟨⟨Y7, below_step Z6.2 hb7⟩, rfl⟩
      clear hb7
      go_wp2_with fail
      refine (DM.out Z7 HLK.out).mono ?_
      rintro e Y8 ⟨hb8, za, zb, zc, znb, znc, zca, zcb, zcc, rfl, hz8⟩
      obtain ⟨V9, hV9, hb9, hs9, ha9⟩ := alloc_ac Y8 A.name A.sport A.start (.slice za k zca) (.slice zb znb zcb) (.slice zc znc zcc)
      obtain ⟨z0, z1, z2, z3, z4, z5⟩ := ha9.cell
      have be : (A.start != A.start) = false := bneF rfl
      have HZ9 := Lib.hid (hz8.below hb9)
      obtain ⟨Z9, rfl⟩ : ∃ Z : Ext V6, V9 = Z.1 := ⟨⟨V9, below_step (below_step Z7.2 hb8) hb9⟩, rfl⟩
      have DE := Lib.hid (show Calls Try.prog 8 #[.slice za k zca, .slice a k ca] Z9.1 fun e w' => e = .returned (.bool true) ∧ ∃ q, w' = Z9.1.drewN q from by
        have h := equalSm_self A.sm za a zca ca Z9.1 HZ9.out (HI6.out.sm.below Z9.2) (by rw [HN.out]; omega)
        rw [HN.out] at h
        exact h)
      clear hb8 hb9 hs9 ha9 hz8 z0 z1 z4 z5
      go_upto_region 20 with (fail)
      go_wp2_with fail
      refine (DE.out).mono ?_
      rintro e Y10 ⟨rfl, q, rfl⟩
      obtain ⟨Z10, hZ10⟩ : ∃ Z : Ext V6, Z9.1.drewN q = Z.1 := ⟨⟨Z9.1.drewN q, below_drewN Z9.2 q⟩, rfl⟩
      rw [hZ10]
      clear hZ10 DE z2 z3
      go_upto_region 22 with (fail)
      have HFP := Lib.hid (fun (h1 : fitE A (later Q shift) shift 1 = 0) (h2 : 0 < ks2.length) => show ∃ m, fitO A (later Q shift) shift 1 = some m ∧ m.sum = 0 from by
        have h := fit_plain (A := A) HOK.out HH.out (by rw [HN.out]; omega) hs1 (by rw [HQ.out]; exact h1) h2
        rw [HQ.out] at h
        exact h)
      unfold FitRet at DF
      obtain ⟨fe, hfe⟩ : ∃ x, fitE A (later Q shift) shift 1 = x := ⟨_, rfl⟩
      obtain ⟨fo, hfo⟩ : ∃ x, fitO A (later Q shift) shift 1 = x := ⟨_, rfl⟩
      rw [hfe, hfo] at DF HFP
      clear hfe hfo
      obtain ⟨mt, hmt⟩ : ∃ m, fo.getD mt0 = m := ⟨_, rfl⟩
      obtain ⟨bl, hbl⟩ : ∃ x, fo.isSome = x := ⟨_, rfl⟩
      rw [hmt, hbl] at DF
      have HGD := Lib.hid (show fe = 0 → 0 < ks2.length → mt.sum = 0 ∧ bl = true from fun h1 h2 => by
        obtain ⟨m, hm, h0⟩ := HFP.out h1 h2
        rw [hm] at hmt hbl
        refine ⟨?_, hbl.symm⟩
        rw [← hmt]
        exact h0)
      clear hmt hbl HFP
      unfold mtV at DF
      go_wp2_with fail
      refine (DF.out Z10).mono ?_
      rintro e Y11 ⟨rfl, hb11⟩
      obtain ⟨V12, hV12, hb12, _, ha12⟩ := alloc_mt Y11 mt
      obtain ⟨m0, m1, m2⟩ := ha12.cell
      have hbb := below_step (below_step Z10.2 hb11) hb12
      have HB12 := Lib.hid (below_step HB6.out hbb)
      obtain ⟨l2, hl2⟩ : ∃ x, ks2.length = x := ⟨_, rfl⟩
      rw [hl2] at HGD ⊢
      clear hb11 hb12 ha12 hbb hl2
      by_cases hf0 : fe = 0
      case neg =>
        have u2 := bneT hf0
        go_wp2_with fail
        refine (DT.out _).mono ?_
        rintro e Y13 ⟨rfl, hb13⟩
        have HB13 := Lib.hid (below_step HB12.out hb13)
        clear hb13
        go_wp2_with fail
        go_ret
        exact ⟨rfl, HB13.out⟩
      subst hf0
      by_cases hl0 : l2 = 0
      · subst hl0
        go_wp2_with fail
        refine (DT.out _).mono ?_
        rintro e Y13 ⟨rfl, hb13⟩
        have HB13 := Lib.hid (below_step HB12.out hb13)
        clear hb13
        go_wp2_with fail
        go_ret
        exact ⟨rfl, HB13.out⟩
      · obtain ⟨hsm, rfl⟩ := HGD.out rfl (by omega)
        rw [hsm] at m2
        have u5 : ((l2 : Int) == 0) = false := by simp; omega
        clear hsm
        go_wp2_with fail
        refine (DT.out _).mono ?_
        rintro e Y13 ⟨rfl, hb13⟩
        have HB13 := Lib.hid (below_step HB12.out hb13)
        clear hb13
        go_wp2_with fail
        go_ret
        exact ⟨rfl, HB13.out⟩
end Go.Proofs.Ytkejjlghelnfjaa

/- An activity that came in: how it reads. (printed by wip/t/gen_tfp.py) -/
namespace Go.Proofs.Ytkejjlghelnfjaa
open Go.ChangeShapes Go.WideShapes Go.ChangeAt Go.RowKit Go.Deep

theorem laidOut : laidOutB Try.prog = true := by kernel_rfl
theorem readAct : Try.prog.readableRec 26 = true := by kernel_rfl
theorem rowAct : 26 < Try.prog.types.size := of_decide_eq_true (by kernel_rfl)
def intV : Value → Int
  | .int _ n => n
  | _ => 0
def strV : Value → ByteArray
  | .string s => s
  | _ => ByteArray.empty
theorem RowK.congr {w : World} {a : Option Addr} {len k : Nat} {V V' : Nat → List Value} (h : RowK w a len k V) (he : ∀ i, i < len → V i = V' i) : RowK w a len k V' :=
  ⟨fun h0 => by
    obtain ⟨b, off, e, hb, hc⟩ := h.here h0
    exact ⟨b, off, e, hb, fun i hi j hj => by rw [hc i hi j hj, he i hi]⟩⟩
section
variable {H : Type} {enc : TypeId × Value → H} {P : Program} {w : World} {base : Nat}
theorem field_str {V : List Value} {j : Nat} {t : TypeId} (ht : P.underlying t = some .string) (h : ∃ u n y, V[j]? = some u ∧ DataW.trod enc P w base (fun _ => true) true n t [u] = some y) :
    V[j]? = some (.string (strV (V.getD j (.bool false)))) ∧ (strV (V.getD j (.bool false))).size ≤ maxLen := by
  obtain ⟨u, n, y, hu, hd⟩ := h
  obtain ⟨s, e, _, hs⟩ := DataW.trod_string ht hd
  simp only [List.cons.injEq, and_true] at e
  subst e
  rw [List.getD_eq_getElem?_getD, hu]
  exact ⟨rfl, hs⟩
theorem field_int {V : List Value} {j : Nat} {t : TypeId} (ht : P.underlying t = some (.int .i64)) (h : ∃ u n y, V[j]? = some u ∧ DataW.trod enc P w base (fun _ => true) true n t [u] = some y) :
    V[j]? = some (.int .i64 (intV (V.getD j (.bool false)))) := by
  obtain ⟨u, n, y, hu, hd⟩ := h
  obtain ⟨s, e, _, hs⟩ := DataW.trod_int ht hd
  simp only [List.cons.injEq, and_true] at e
  subst e
  rw [List.getD_eq_getElem?_getD, hu]
  rfl
end
theorem list3 {V : List Value} {a b c : Value} (hl : V.length = 3) (h0 : V[0]? = some a) (h1 : V[1]? = some b) (h2 : V[2]? = some c) : V = [a, b, c] := by
  match V, hl with
  | [x, y, z], _ => simp at h0 h1 h2; rw [h0, h1, h2]
theorem list7 {V : List Value} {a b c d e f g : Value} (hl : V.length = 7) (h0 : V[0]? = some a) (h1 : V[1]? = some b) (h2 : V[2]? = some c) (h3 : V[3]? = some d) (h4 : V[4]? = some e) (h5 : V[5]? = some f) (h6 : V[6]? = some g) : V = [a, b, c, d, e, f, g] := by
  match V, hl with
  | [x0, x1, x2, x3, x4, x5, x6], _ => simp at h0 h1 h2 h3 h4 h5 h6; rw [h0, h1, h2, h3, h4, h5, h6]
theorem list6 {V : List Value} {a b c d e f : Value} (hl : V.length = 6) (h0 : V[0]? = some a) (h1 : V[1]? = some b) (h2 : V[2]? = some c) (h3 : V[3]? = some d) (h4 : V[4]? = some e) (h5 : V[5]? = some f) : V = [a, b, c, d, e, f] := by
  match V, hl with
  | [x0, x1, x2, x3, x4, x5], _ => simp at h0 h1 h2 h3 h4 h5; rw [h0, h1, h2, h3, h4, h5]
def smOf (V : List Value) : Sm := ⟨intV (V.getD 0 (.bool false)), intV (V.getD 1 (.bool false)), intV (V.getD 2 (.bool false)), intV (V.getD 3 (.bool false)), intV (V.getD 4 (.bool false)), intV (V.getD 5 (.bool false)), intV (V.getD 6 (.bool false))⟩
def lpOf (V : List Value) : Lp := ⟨intV (V.getD 0 (.bool false)), intV (V.getD 1 (.bool false)), strV (V.getD 2 (.bool false))⟩
theorem range_get {α : Type} (f : Nat → α) {n i : Nat} {x : α} (h : ((List.range n).map f)[i]? = some x) : i < n ∧ x = f i := by
  rw [List.getElem?_map] at h
  cases hr : (List.range n)[i]? with
  | none => rw [hr] at h; cases h
  | some y =>
    rw [hr] at h
    obtain ⟨h1, h2⟩ := List.getElem?_eq_some_iff.1 hr
    simp only [List.length_range] at h1
    simp only [List.getElem_range] at h2
    subst h2
    simp only [Option.map_some, Option.some.injEq] at h
    exact ⟨h1, h.symm⟩
theorem rw_of {α : Type} {C : α → List Value} {k : Nat} {w : World} {a : Option Addr} {n : Nat} {V : Nat → List Value} {f : Nat → α} (hC : ∀ x, (C x).length = k) (h : RowK w a n k V) (he : ∀ i, i < n → V i = C (f i)) : Rw C k w a ((List.range n).map f) := by
  refine ⟨fun hl => ?_⟩
  rw [List.length_map, List.length_range] at hl
  obtain ⟨b, off, e, hb, hc⟩ := h.here hl
  refine ⟨b, off, e, hb, fun i x hx j u hu => ?_⟩
  obtain ⟨hi, rfl⟩ := range_get f hx
  have hj : j < k := by have := (List.getElem?_eq_some_iff.1 hu).1; rwa [hC] at this
  rw [← hu, ← he i hi]
  exact hc i hi j hj
section
variable {H : Type} {enc : TypeId × Value → H} {P : Program} {w : World} {base : Nat}
theorem open_sms {t e : TypeId} (I : P.underlying t = some (.slice e)) {fs : Array Field} (hs : P.underlying e = some (.struct fs)) (hC : P.cellsOf e = fs.size) (h7 : fs.size = 7) (hone : ∀ (i : Nat) (f : Field), fs[i]? = some f → f.offset = i ∧ P.cellsOf f.type = 1)
    (hi : ∀ (j : Nat) (f : Field), fs[j]? = some f → P.underlying f.type = some (.int .i64)) {n : Nat} {v : Value} {y : DataW H × List MemPlace} (h : DataW.trod enc P w base (fun _ => true) true n t [v] = some y) :
    ∃ (l : List Sm) (a : Option Addr) (c : Nat), v = .slice a l.length c ∧ l.length ≤ c ∧ c ≤ maxLen ∧ Rw smC 7 w a l := by
  obtain ⟨a0, n0, c0, V0, rfl, l0, m0, R0, F0⟩ := open_rowK I hs hC (by omega) hone h
  rw [h7] at R0 F0
  refine ⟨(List.range n0).map fun i => smOf (V0 i), a0, c0, by rw [List.length_map, List.length_range], by rw [List.length_map, List.length_range]; exact l0, m0, rw_of (fun _ => rfl) R0 fun i hi' => ?_⟩
  have F := F0 i hi'
  have g : ∀ (j : Nat) (_ : j < 7), (V0 i)[j]? = some (.int .i64 (intV ((V0 i).getD j (.bool false)))) := fun j hj => by
    obtain ⟨f, hf⟩ : ∃ f, fs[j]? = some f := ⟨_, Array.getElem?_eq_getElem (by omega)⟩
    exact field_int (hi j f hf) (F.2 j f hf)
  exact list7 F.1 (g 0 (by omega)) (g 1 (by omega)) (g 2 (by omega)) (g 3 (by omega)) (g 4 (by omega)) (g 5 (by omega)) (g 6 (by omega))
theorem open_tags {t e : TypeId} (I : P.underlying t = some (.slice e)) (hs : P.underlying e = some .string) (hC : P.cellsOf e = 1) {n : Nat} {v : Value} {y : DataW H × List MemPlace} (h : DataW.trod enc P w base (fun _ => true) true n t [v] = some y) :
    ∃ (l : List ByteArray) (a : Option Addr) (c : Nat), v = .slice a l.length c ∧ l.length ≤ c ∧ c ≤ maxLen ∧ Rw tgC 1 w a l ∧ ∀ s, s ∈ l → s.size ≤ maxLen := by
  rcases open_slice I h with ⟨hc, _⟩ | ⟨a, len, cap, m, n', D, Pl, hc, _, hl, hm, hmm, _, hx⟩
  · simp only [List.cons.injEq, and_true] at hc
    exact ⟨[], none, 0, hc, Nat.le_refl _, Nat.zero_le _, ⟨fun h => absurd h (by simp)⟩, fun s hs => by cases hs⟩
  · simp only [List.cons.injEq, and_true] at hc
    simp only [if_true] at hmm
    subst hmm
    have each : ∀ i, i < m → ∃ s : ByteArray, w.cell? (a.add i) = some (.string s) ∧ s.size ≤ maxLen := by
      intro i hi
      obtain ⟨cs, h1, h2⟩ := hx i hi
      rw [hC] at h1
      obtain ⟨_, hlen, hcell⟩ := World.cells?_some h1
      obtain ⟨s, e1, _, hs1⟩ := DataW.trod_string hs h2
      have h3 := hcell 0 (by omega)
      rw [e1, add_add] at h3
      refine ⟨s, ?_, hs1⟩
      simpa using h3
    obtain ⟨V, hV⟩ := choose_lt each
    refine ⟨(List.range len).map V, some a, m, by rw [List.length_map, List.length_range]; exact hc, by rw [List.length_map, List.length_range]; exact hl, hm, ⟨fun hl0 => ?_⟩, fun s hs => ?_⟩
    · rw [List.length_map, List.length_range] at hl0
      obtain ⟨b, o, sp⟩ := a
      have h0 := (hV 0 (by omega)).1
      have hspot : sp = none := by simpa [Addr.add] using World.cell?_spot h0
      subst hspot
      refine ⟨b, o, rfl, by simpa [Addr.add] using World.block_lt_of_cell? w _ h0, fun i x hx' j u hu => ?_⟩
      obtain ⟨hi, rfl⟩ := range_get V hx'
      have hj : j < 1 := (List.getElem?_eq_some_iff.1 hu).1
      obtain rfl : j = 0 := by omega
      injection hu with hu
      subst hu
      have := (hV i (by omega)).1
      rw [add_plain] at this
      rw [Nat.mul_one, Nat.add_zero]
      exact this
    · obtain ⟨i, hi, rfl⟩ := List.mem_map.1 hs
      exact (hV i (by have := List.mem_range.1 hi; omega)).2
theorem open_lps {t e : TypeId} {f0 f1 f2 : Field} (I : P.underlying t = some (.slice e)) (hs : P.underlying e = some (.struct #[f0, f1, f2])) (hC : P.cellsOf e = 3) (hone : ∀ (i : Nat) (f : Field), (#[f0, f1, f2] : Array Field)[i]? = some f → f.offset = i ∧ P.cellsOf f.type = 1)
    (i0 : P.underlying f0.type = some (.int .i64)) (i1 : P.underlying f1.type = some (.int .i64)) (i2 : P.underlying f2.type = some .string) {n : Nat} {v : Value} {y : DataW H × List MemPlace} (h : DataW.trod enc P w base (fun _ => true) true n t [v] = some y) :
    ∃ (l : List Lp) (a : Option Addr) (c : Nat), v = .slice a l.length c ∧ l.length ≤ c ∧ c ≤ maxLen ∧ Rw lpC 3 w a l ∧ ∀ p, p ∈ l → p.s.size ≤ maxLen := by
  obtain ⟨a0, n0, c0, V0, rfl, l0, m0, R0, F0⟩ := open_rowK I hs hC (show 0 < 3 by decide) hone h
  have F : ∀ i, i < n0 → V0 i = lpC (lpOf (V0 i)) ∧ (lpOf (V0 i)).s.size ≤ maxLen := fun i hi =>
    ⟨list3 (F0 i hi).1 (field_int i0 ((F0 i hi).2 0 _ rfl)) (field_int i1 ((F0 i hi).2 1 _ rfl)) (field_str i2 ((F0 i hi).2 2 _ rfl)).1, (field_str i2 ((F0 i hi).2 2 _ rfl)).2⟩
  refine ⟨(List.range n0).map fun i => lpOf (V0 i), a0, c0, by rw [List.length_map, List.length_range], by rw [List.length_map, List.length_range]; exact l0, m0, rw_of (fun _ => rfl) R0 fun i hi => (F i hi).1, fun p hp => ?_⟩
  obtain ⟨i, hi, rfl⟩ := List.mem_map.1 hp
  exact (F i (List.mem_range.1 hi)).2
end
set_option maxRecDepth 100000 in
/-- six cells that read as an activity -/
theorem act_cells {H : Type} {enc : TypeId × Value → H} {W : World} {base : Nat} {V : List Value} (hl : V.length = 6) (F : ∀ (j : Nat) (f : Field), (Try.prog.fieldsOf 26)[j]? = some f → ∃ u n y, V[j]? = some u ∧ DataW.trod enc Try.prog W base (fun _ => true) true n f.type [u] = some y) :
    ∃ (A : Acv) (a b c : Option Addr) (ca cb cc : Nat), V = [.string A.name, .int .i64 A.sport, .int .i64 A.start, .slice a A.sm.length ca, .slice b A.lp.length cb, .slice c A.tg.length cc] ∧ ActIn W A a b c ∧ A.sm.length ≤ ca ∧ A.lp.length ≤ cb ∧ A.tg.length ≤ cc := by
  have S := Try.underlying9
  have I := Try.underlying3
  have hm : maxLen = 9223372036854775807 := rfl
  simp only [Program.fieldsOf, Try.underlying26] at F
  obtain ⟨e0, z0⟩ := field_str S (F 0 _ rfl)
  have e1 := field_int I (F 1 _ rfl)
  have e2 := field_int I (F 2 _ rfl)
  obtain ⟨u3, n3, y3, e3, t3⟩ := F 3 _ rfl
  obtain ⟨u4, n4, y4, e4, t4⟩ := F 4 _ rfl
  obtain ⟨u5, n5, y5, e5, t5⟩ := F 5 _ rfl
  obtain ⟨l, a, ca, rfl, la, ma, ra⟩ := open_sms (P := Try.prog) Try.underlying22 Try.underlying37 (by kernel_rfl) rfl (hone_of (by kernel_rfl)) (fun j f hf => by
    match j, hf with
    | 0, h => injection h with h; subst h; exact I
    | 1, h => injection h with h; subst h; exact I
    | 2, h => injection h with h; subst h; exact I
    | 3, h => injection h with h; subst h; exact I
    | 4, h => injection h with h; subst h; exact I
    | 5, h => injection h with h; subst h; exact I
    | 6, h => injection h with h; subst h; exact I
    | n + 7, h => cases h) t3
  obtain ⟨p, b, cb, rfl, lb, mb, rb, hb⟩ := open_lps (P := Try.prog) Try.underlying23 Try.underlying48 (by kernel_rfl) (hone_of (by kernel_rfl)) I I S t4
  obtain ⟨g, c, cc, rfl, lc, mc, rc, hc⟩ := open_tags (P := Try.prog) Try.underlying24 S (by kernel_rfl) t5
  refine ⟨⟨strV (V.getD 0 (.bool false)), intV (V.getD 1 (.bool false)), intV (V.getD 2 (.bool false)), l, p, g⟩, a, b, c, ca, cb, cc, list6 hl e0 e1 e2 e3 e4 e5, ⟨ra, rb, rc, z0, hb, hc, by show ((l.length : Nat) : Int) ≤ _; omega, by show ((p.length : Nat) : Int) ≤ _; omega, by show ((g.length : Nat) : Int) ≤ _; omega⟩, la, lb, lc⟩
set_option maxRecDepth 100000 in
theorem open_act {H : Type} {enc : TypeId × Value → H} {W : World} {r : Reach} {b0 base : Nat} {v : Value} {d : DataW H} {p : List MemPlace}
    (hv : Value.okWide Try.prog W r b0 26 v) (h : DataW.Trod enc Try.prog W base (fun _ => true) true 26 v d p) :
    ∃ (A : Acv) (a b c : Option Addr) (ca cb cc : Nat), v = actV A a b c ca cb cc ∧ ActIn W A a b c ∧ A.sm.length ≤ ca ∧ A.lp.length ≤ cb ∧ A.tg.length ≤ cc := by
  have hs := Try.underlying26
  obtain ⟨cs, rfl, hsz⟩ := okWide_struct hs hv
  have h6 : cs.size = 6 := hsz.trans (by kernel_rfl)
  obtain ⟨fuel, hf⟩ := h
  obtain ⟨xs, n, _, _, _, hlen, hg⟩ := DataW.trod_struct hs hf
  have hlen6 : xs.length = 6 := hlen
  have e : cs.toList.length = 6 := by simpa using h6
  have fld : ∀ (j : Nat) (f : Field), (Try.prog.fieldsOf 26)[j]? = some f → ∃ u n y, cs.toList[j]? = some u ∧ DataW.trod enc Try.prog W base (fun _ => true) true n f.type [u] = some y := fun j f hj => by
    simp only [Program.fieldsOf, Try.underlying26] at hj
    obtain ⟨o, k⟩ := hone_of (P := Try.prog) (by kernel_rfl) j f hj
    have h1 := hg j f hj
    rw [o, k] at h1
    have hlt : j < 6 := (Array.getElem?_eq_some_iff.1 hj).1
    have hjl : j < cs.toList.length := by omega
    have e1 : (cs.toList.drop j).take 1 = [cs.toList[j]] := by rw [List.drop_eq_getElem_cons hjl]; rfl
    rw [show (Value.agg cs).cells.toList = cs.toList from rfl, e1, List.getElem?_eq_getElem (by omega)] at h1
    exact ⟨_, _, _, List.getElem?_eq_getElem hjl, h1⟩
  obtain ⟨A, a, b, c, ca, cb, cc, he, ha, l1, l2, l3⟩ := act_cells e fld
  refine ⟨A, a, b, c, ca, cb, cc, ?_, ha, l1, l2, l3⟩
  unfold actV
  congr 1
  rw [← Array.toList_inj, he]
end Go.Proofs.Ytkejjlghelnfjaa
