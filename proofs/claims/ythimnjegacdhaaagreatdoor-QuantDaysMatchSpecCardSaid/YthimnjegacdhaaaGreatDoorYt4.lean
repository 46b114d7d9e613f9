/- Several texts of this claim in one. -/
import Derived.Test.YthimnjegacdhaaaGreatDoorYt3
import Derived.Laws.AppendOwn
import Derived.Deep.Onto
import Derived.Lib.OwnKind
import Derived.Deep.AppendLies
import Derived.Test.YthimnjegacdhaaaGreatDoorYt2
/- A token's way along a text (reference). -/
namespace Go.Proofs.YthimnjegacdhaaaGreatDoor
open Go.RowKit Go.BigFrame
open Rd (sB bt itoaB Tok begF numAt rowAt pairAt exactAt NumSt RowSt DigRow byte isD digAt)

/-- what run hands back -/
def RunRet (s : ByteArray) (t : Tok) (p : Nat) (w : World) (e : Ending) (w' : World) : Prop :=
  ∃ v : Int, e = .returned (.tuple #[.int .i64 (Rd.runT s t p).1, .int .i64 v, .bool (Rd.runT s t p).2.2]) ∧ ((Rd.runT s t p).2.2 = true → v = (Rd.runT s t p).2.1) ∧ Below w.heap.size w w'
theorem RunRet.mk {s : ByteArray} {t : Tok} {p : Nat} {w w' : World} {e : Ending} (q : Nat) (v : Int) (b : Bool) {u : Int} (he : e = .returned (.tuple #[.int .i64 q, .int .i64 v, .bool b])) (h : Rd.runT s t p = (q, u, b)) (hv : b = true → v = u) (hb : Below w.heap.size w w') : RunRet s t p w e w' := by
  refine ⟨v, ?_, ?_, hb⟩
  · rw [h]; exact he
  · rw [h]; exact hv
theorem dig_cases (s : ByteArray) (q : Nat) (hq : q ≤ s.size) : q = s.size ∧ digAt s q true = false ∨ (∃ h : q < s.size, isD (s[q].toNat) = false ∧ digAt s q true = false) ∨ (∃ h : q < s.size, isD (s[q].toNat) = true ∧ digAt s q true = true ∧ 48 ≤ s[q].toNat ∧ s[q].toNat ≤ 57 ∧ byte s q = s[q].toNat) := by
  unfold digAt
  rcases Nat.lt_or_ge q s.size with h | h
  · have e := Rd.byte_lt h
    cases hd : isD (s[q].toNat)
    · exact Or.inr (Or.inl ⟨h, hd, by rw [e, hd]; simp⟩)
    · have := Rd.isD_bounds hd
      exact Or.inr (Or.inr ⟨h, hd, by rw [e, hd]; simp [h], this.1, this.2, e⟩)
  · exact Or.inl ⟨by omega, by simp; omega⟩
theorem lt_b {a b : Nat} : decide ((a : Int) < (b : Int)) = decide (a < b) := by
  by_cases h : a < b
  · rw [decide_eq_true h, decide_eq_true_eq]; omega
  · rw [decide_eq_false h, decide_eq_false_iff_not]; omega
theorem eq_b {a b : Nat} : ((a : Int) == (b : Int)) = decide (a = b) := by
  by_cases h : a = b
  · simp [h]
  · rw [decide_eq_false h]; simp; omega
set_option maxHeartbeats 8000000 in
set_option maxRecDepth 100000 in
theorem runNum_any (t : Tok) (hk : t.kind = 2) (s : ByteArray) (p : Nat) (hs : s.size ≤ 1000000) (hp : p ≤ s.size) (hT : (t.low = 0 ∨ t.low = 1) ∧ 0 ≤ t.high ∧ t.high ≤ 9999999999999 ∧ t.digits ≤ 13) (w : World) (hg : Glo w) :
    Calls Tryz.prog 94 #[tokV t, .string s, .int .i64 p] w fun e w' => RunRet s t p w e w' := by
  obtain ⟨kd, tx, lo, hi, dg⟩ := t
  simp only at hk hT
  subst hk
  unfold tokV
  simp only
  obtain ⟨V, hV, hbV, hsV, hcV⟩ := alloc_cells w #[.int .i64 (2 : Nat), .string tx, .int .i64 lo, .int .i64 hi, .int .i64 dg] 57
  have hkI : ((2 : Nat) : Int) = 2 := rfl
  rw [hkI] at hV hcV ⊢
  have c0 := Ext.ex (hcV 0 _ rfl)
  have c1 := Ext.ex (hcV 1 _ rfl)
  have c2 := Ext.ex (hcV 2 _ rfl)
  have c3 := Ext.ex (hcV 3 _ rfl)
  have c4 := Ext.ex (hcV 4 _ rfl)
  have END := Lib.hid (fun (X : Ext V) => below_step hbV X.2)
  have HG := Lib.hid (fun (X : Ext V) => hg.below (below_step hbV X.2))
  have HD := Lib.hid (fun (c : Nat) (X : Ext V) => Ext.same X (rIsDigit_any c X.1))
  have HV := Lib.hid hV
  have HP := Lib.hid hp
  have HS := Lib.hid hs
  clear hcV hV hbV hg hkI
  have RT : ∀ x, numAt s dg lo hi true p = x → Rd.runT s ⟨2, tx, lo, hi, dg⟩ p = (x.2.2, x.1, Rd.numOk lo true x) := fun x hx => by simp [Rd.runT, hx]
  have RT := Lib.hid RT
  have HTT := Lib.hid hT
  go_enter Tryz.func94, Tryz.ntmps94
  go_upto_region 1 with fail
  rw [HV.out]
  refine ext_wp fun X => ?_
  have x0 := c0 X
  go_upto_region 18 with fail
  go_wp2_with fail
  go_loopw [2] (fun mv wr => ∃ (q m : Nat) (n : Int) (Y : Ext V), mv = .int .i64 q ∧ q = p + m ∧ wr = Y.1 ∧ NumSt s dg lo hi p m n) (fun mv _ => s.size - (intOf mv).toNat)
  case atStart => exact ⟨p, 0, 0, X, rfl, rfl, rfl, NumSt.start HP.out⟩
  case round =>
    obtain ⟨q, m, n, Y, rfl, hqm, rfl, hN⟩ := hrel
    have y0 := c0 Y
    have y1 := c1 Y
    have y2 := c2 Y
    have y3 := c3 Y
    have y4 := c4 Y
    have hle := hN.row.le
    have hm13 := hN.le
    have HN := Lib.hid hN
    have hq1 : q ≤ 1000000 := by omega
    clear hN x0
    rcases dig_cases s q (by omega) with ⟨hq, hd⟩ | ⟨hq, hisd, hd⟩ | ⟨hq, hisd, hd, h48, h57, hby⟩
    rotate_left
    rotate_left
    · have hqd : decide ((q : Int) < (s.size : Int)) = true := by rw [decide_eq_true_eq]; omega
      have hqd' : decide (q < s.size) = true := by simpa using hq
      have hd' : digAt s (p + m) true = true := by rw [← hqm]; exact hd
      have hrow := HN.out.row.next hd'
      have hex : p + (m + 1) ≤ s.size := by omega
      have DB := Lib.hid (fun (X : Ext V) => Ext.calls X (begins_any ⟨2, tx, lo, hi, dg⟩ (s.extract p (p + (m + 1))) _ X.1 (HG.out X) (by rw [Rd.ext_size hex]; omega) (by rw [Rd.ext_size hex]; have := HTT.out.2.2.2; omega) (hrow.num (by omega) (by have := HTT.out.2.2.2; omega)) hrow.lt.1 HTT.out.1))
      rw [Rd.ext_size hex, Rd.ext_byte hex (by omega)] at DB
      simp only at DB
      unfold tokV at DB
      simp only at DB
      rw [show ((2 : Nat) : Int) = 2 from rfl] at DB
      have HNX := Lib.hid (HN.out.next hd')
      have HHA := Lib.hid (HN.out.halt HTT.out.1 hd')
      have HR := Lib.hid (hrow)
      have hlt := hrow.lt
      obtain ⟨bb, hbb⟩ : ∃ x, begF dg lo hi (m + 1) (byte s p) (10 * n + ((byte s (p + m) : Int) - 48)) = x := ⟨_, rfl⟩
      rw [hbb] at DB HNX HHA
      obtain ⟨nn, hnn⟩ : ∃ x, 10 * n + ((byte s (p + m) : Int) - 48) = x := ⟨_, rfl⟩
      rw [hnn] at HNX
      rw [show p + (m + 1) = q + 1 by omega] at DB
      have hsl : ∀ W : World, (Instr.slice 9 (.string s) (some (.int .i64 (p : Int))) (some (.int .i64 ((q : Int) + 1))) none).run Tryz.prog W = .ok (.string (s.extract p (q + 1))) W := fun W => by
        rw [run_slice_string W _ _ _ _ _ _ (by kernel_rfl) (by omega) (by omega) (by omega)]
        rw [show ((p : Int)).toNat = p by omega, show ((q : Int) + 1).toNat = q + 1 by omega]
      clear hrow hlt hbb hnn hd hd' HR
      cases bb
      case true =>
        clear HHA
        have HQM := Lib.hid hqm
        clear hqm
        go_upto_region 19 with fail
        refine wp_region_ext Y (by kernel_rfl) (by kernel_rfl) ?_
        repeat (go_big_quiet_step ((first
          | (go_at_call 107; with_reducible exact HD.out _ _)
          | (go_at_call 108; with_reducible exact DB.out _))))
        refine wpQuiet_nil ?_
        intro _ hw'
        obtain ⟨Z, rfl⟩ := hw'
        go_wp2_with fail
        go_roundw
        case rel => exact ⟨q + 1, m + 1, nn, Z, by go_num, by have := HQM.out; omega, rfl, HNX.out rfl⟩
        case measure => simp [intOf]; omega
      case false =>
        have HX := Lib.hid (HHA.out rfl)
        clear HNX HHA
        have HQM := Lib.hid hqm
        clear hqm
        go_upto_region 19 with fail
        refine wp_region_ext Y (by kernel_rfl) (by kernel_rfl) ?_
        repeat (go_big_quiet_step ((first
          | (go_at_call 107; with_reducible exact HD.out _ _)
          | (go_at_call 108; with_reducible exact DB.out _))))
        refine wpQuiet_nil ?_
        intro _ hw'
        obtain ⟨Z, rfl⟩ := hw'
        have HXT := Lib.hid (RT.out _ HX.out)
        have HROW := Lib.hid (HN.out.row)
        have hle2 := HROW.out.le
        have DA := Lib.hid (atoi_every (s.extract p (p + m)) (by rw [Rd.ext_size hle2]; omega) Z.1 (HG.out Z))
        rw [← HQM.out] at DA
        have hsl2 : ∀ W : World, (Instr.slice 9 (.string s) (some (.int .i64 (p : Int))) (some (.int .i64 (q : Int))) none).run Tryz.prog W = .ok (.string (s.extract p q)) W := fun W => by
          have := HQM.out
          rw [run_slice_string W _ _ _ _ _ _ (by kernel_rfl) (by omega) (by omega) (by omega)]
          rw [show ((p : Int)).toNat = p by omega, show ((q : Int)).toNat = q by omega]
        go_upto_region 22 with (go_at_call 109; refine DA.out.mono ?_; rintro e w3 ⟨nn, ev, rfl, hb3, _, _, hv⟩)
        obtain ⟨U, rfl⟩ : ∃ U : Ext V, w3 = U.1 := ⟨⟨w3, below_step Z.2 hb3⟩, rfl⟩
        have u2 := c2 U
        have hpq : decide ((p : Int) < (q : Int)) = decide (0 < m) := by rw [lt_b]; congr 1; rw [eq_iff_iff]; have := HQM.out; omega
        have hpq' : decide (p < q) = decide (0 < m) := by congr 1; rw [eq_iff_iff]; have := HQM.out; omega
        have HVN : Hid (0 < m → nn = n) := Lib.hid (fun h0 => hv n (by have := HROW.out.num h0 (by have := HTT.out.2.2.2; omega); rw [← HQM.out] at this; exact this))
        clear hb3 hv DA
        obtain ⟨bm, hbm⟩ : ∃ x, decide (0 < m) = x := ⟨_, rfl⟩
        rw [hbm] at hpq hpq'
        cases bm
        · refine wp_region_ext U (by kernel_rfl) (by kernel_rfl) ?_
          repeat (go_big_quiet_step (fail))
          refine wpQuiet_nil ?_
          intro _ hw'
          obtain ⟨Z2, rfl⟩ := hw'
          go_wp2_with fail
          go_ret3
          refine RunRet.mk q nn false (u := n) rfl (HXT.out.trans ?_) (fun h => by cases h) (END.out _)
          have := HQM.out
          simp [Rd.numOk, hbm]
          omega
        · obtain rfl := HVN.out (by simpa using hbm)
          obtain ⟨bl, hbl⟩ : ∃ x, decide (lo ≤ nn) = x := ⟨_, rfl⟩
          cases bl
          all_goals
            refine wp_region_ext U (by kernel_rfl) (by kernel_rfl) ?_
            repeat (go_big_quiet_step (fail))
            refine wpQuiet_nil ?_
            intro _ hw'
            obtain ⟨Z2, rfl⟩ := hw'
            go_wp2_with fail
            go_ret3
          · refine RunRet.mk q nn false (u := nn) rfl (HXT.out.trans ?_) (fun _ => rfl) (END.out _)
            have := HQM.out
            simp [Rd.numOk, hbm, hbl]
            omega
          · refine RunRet.mk q nn true (u := nn) rfl (HXT.out.trans ?_) (fun _ => rfl) (END.out _)
            have := HQM.out
            simp [Rd.numOk, hbm, hbl]
            omega
    · have hqd : decide ((q : Int) < (s.size : Int)) = false := by rw [decide_eq_false_iff_not]; omega
      have hqd' : decide (q < s.size) = false := by rw [decide_eq_false_iff_not]; omega
      have HX := Lib.hid (HN.out.stop (by rw [← hqm]; exact hd))
      clear hd hq
      have HQM := Lib.hid hqm
      clear hqm
      go_upto_region 19 with fail
      refine wp_region_ext Y (by kernel_rfl) (by kernel_rfl) ?_
      repeat (go_big_quiet_step ((first
        | (go_at_call 107; with_reducible exact HD.out _ _))))
      refine wpQuiet_nil ?_
      intro _ hw'
      obtain ⟨Z, rfl⟩ := hw'
      have HXT := Lib.hid (RT.out _ HX.out)
      have HROW := Lib.hid (HN.out.row)
      have hle2 := HROW.out.le
      have DA := Lib.hid (atoi_every (s.extract p (p + m)) (by rw [Rd.ext_size hle2]; omega) Z.1 (HG.out Z))
      rw [← HQM.out] at DA
      have hsl2 : ∀ W : World, (Instr.slice 9 (.string s) (some (.int .i64 (p : Int))) (some (.int .i64 (q : Int))) none).run Tryz.prog W = .ok (.string (s.extract p q)) W := fun W => by
        have := HQM.out
        rw [run_slice_string W _ _ _ _ _ _ (by kernel_rfl) (by omega) (by omega) (by omega)]
        rw [show ((p : Int)).toNat = p by omega, show ((q : Int)).toNat = q by omega]
      go_upto_region 22 with (go_at_call 109; refine DA.out.mono ?_; rintro e w3 ⟨nn, ev, rfl, hb3, _, _, hv⟩)
      obtain ⟨U, rfl⟩ : ∃ U : Ext V, w3 = U.1 := ⟨⟨w3, below_step Z.2 hb3⟩, rfl⟩
      have u2 := c2 U
      have hpq : decide ((p : Int) < (q : Int)) = decide (0 < m) := by rw [lt_b]; congr 1; rw [eq_iff_iff]; have := HQM.out; omega
      have hpq' : decide (p < q) = decide (0 < m) := by congr 1; rw [eq_iff_iff]; have := HQM.out; omega
      have HVN : Hid (0 < m → nn = n) := Lib.hid (fun h0 => hv n (by have := HROW.out.num h0 (by have := HTT.out.2.2.2; omega); rw [← HQM.out] at this; exact this))
      clear hb3 hv DA
      obtain ⟨bm, hbm⟩ : ∃ x, decide (0 < m) = x := ⟨_, rfl⟩
      rw [hbm] at hpq hpq'
      cases bm
      · refine wp_region_ext U (by kernel_rfl) (by kernel_rfl) ?_
        repeat (go_big_quiet_step (fail))
        refine wpQuiet_nil ?_
        intro _ hw'
        obtain ⟨Z2, rfl⟩ := hw'
        go_wp2_with fail
        go_ret3
        refine RunRet.mk q nn false (u := n) rfl (HXT.out.trans ?_) (fun h => by cases h) (END.out _)
        have := HQM.out
        simp [Rd.numOk, hbm]
        omega
      · obtain rfl := HVN.out (by simpa using hbm)
        obtain ⟨bl, hbl⟩ : ∃ x, decide (lo ≤ nn) = x := ⟨_, rfl⟩
        cases bl
        all_goals
          refine wp_region_ext U (by kernel_rfl) (by kernel_rfl) ?_
          repeat (go_big_quiet_step (fail))
          refine wpQuiet_nil ?_
          intro _ hw'
          obtain ⟨Z2, rfl⟩ := hw'
          go_wp2_with fail
          go_ret3
        · refine RunRet.mk q nn false (u := nn) rfl (HXT.out.trans ?_) (fun _ => rfl) (END.out _)
          have := HQM.out
          simp [Rd.numOk, hbm, hbl]
          omega
        · refine RunRet.mk q nn true (u := nn) rfl (HXT.out.trans ?_) (fun _ => rfl) (END.out _)
          have := HQM.out
          simp [Rd.numOk, hbm, hbl]
          omega
    · have hqd : decide ((q : Int) < (s.size : Int)) = true := by rw [decide_eq_true_eq]; omega
      have hqd' : decide (q < s.size) = true := by simpa using hq
      have HX := Lib.hid (HN.out.stop (by rw [← hqm]; exact hd))
      clear hd
      have HQM := Lib.hid hqm
      clear hqm
      go_upto_region 19 with fail
      refine wp_region_ext Y (by kernel_rfl) (by kernel_rfl) ?_
      repeat (go_big_quiet_step ((first
        | (go_at_call 107; with_reducible exact HD.out _ _))))
      refine wpQuiet_nil ?_
      intro _ hw'
      obtain ⟨Z, rfl⟩ := hw'
      have HXT := Lib.hid (RT.out _ HX.out)
      have HROW := Lib.hid (HN.out.row)
      have hle2 := HROW.out.le
      have DA := Lib.hid (atoi_every (s.extract p (p + m)) (by rw [Rd.ext_size hle2]; omega) Z.1 (HG.out Z))
      rw [← HQM.out] at DA
      have hsl2 : ∀ W : World, (Instr.slice 9 (.string s) (some (.int .i64 (p : Int))) (some (.int .i64 (q : Int))) none).run Tryz.prog W = .ok (.string (s.extract p q)) W := fun W => by
        have := HQM.out
        rw [run_slice_string W _ _ _ _ _ _ (by kernel_rfl) (by omega) (by omega) (by omega)]
        rw [show ((p : Int)).toNat = p by omega, show ((q : Int)).toNat = q by omega]
      go_upto_region 22 with (go_at_call 109; refine DA.out.mono ?_; rintro e w3 ⟨nn, ev, rfl, hb3, _, _, hv⟩)
      obtain ⟨U, rfl⟩ : ∃ U : Ext V, w3 = U.1 := ⟨⟨w3, below_step Z.2 hb3⟩, rfl⟩
      have u2 := c2 U
      have hpq : decide ((p : Int) < (q : Int)) = decide (0 < m) := by rw [lt_b]; congr 1; rw [eq_iff_iff]; have := HQM.out; omega
      have hpq' : decide (p < q) = decide (0 < m) := by congr 1; rw [eq_iff_iff]; have := HQM.out; omega
      have HVN : Hid (0 < m → nn = n) := Lib.hid (fun h0 => hv n (by have := HROW.out.num h0 (by have := HTT.out.2.2.2; omega); rw [← HQM.out] at this; exact this))
      clear hb3 hv DA
      obtain ⟨bm, hbm⟩ : ∃ x, decide (0 < m) = x := ⟨_, rfl⟩
      rw [hbm] at hpq hpq'
      cases bm
      · refine wp_region_ext U (by kernel_rfl) (by kernel_rfl) ?_
        repeat (go_big_quiet_step (fail))
        refine wpQuiet_nil ?_
        intro _ hw'
        obtain ⟨Z2, rfl⟩ := hw'
        go_wp2_with fail
        go_ret3
        refine RunRet.mk q nn false (u := n) rfl (HXT.out.trans ?_) (fun h => by cases h) (END.out _)
        have := HQM.out
        simp [Rd.numOk, hbm]
        omega
      · obtain rfl := HVN.out (by simpa using hbm)
        obtain ⟨bl, hbl⟩ : ∃ x, decide (lo ≤ nn) = x := ⟨_, rfl⟩
        cases bl
        all_goals
          refine wp_region_ext U (by kernel_rfl) (by kernel_rfl) ?_
          repeat (go_big_quiet_step (fail))
          refine wpQuiet_nil ?_
          intro _ hw'
          obtain ⟨Z2, rfl⟩ := hw'
          go_wp2_with fail
          go_ret3
        · refine RunRet.mk q nn false (u := nn) rfl (HXT.out.trans ?_) (fun _ => rfl) (END.out _)
          have := HQM.out
          simp [Rd.numOk, hbm, hbl]
          omega
        · refine RunRet.mk q nn true (u := nn) rfl (HXT.out.trans ?_) (fun _ => rfl) (END.out _)
          have := HQM.out
          simp [Rd.numOk, hbm, hbl]
          omega
theorem idx_at (s : ByteArray) (q : Nat) (h : q < s.size) (W : World) : (Instr.index 9 (.string s) (.int .i64 (q : Int))).run Tryz.prog W = .ok (.int .u8 (s[q].toNat)) W := by
  rw [run_index_string W _ _ _ _ (by kernel_rfl)]
  simp [h]
/-! ### two digits -/
theorem pairNo {s : ByteArray} {hi : Int} {p : Nat} (h : ¬ (digAt s p true = true ∧ 10 * ((byte s p : Int) - 48) ≤ hi)) : pairAt s hi p true = (0, p, false) := by
  unfold pairAt Rd.pairStep
  simp only [Int.zero_add]
  rw [if_neg h]
  simp [Rd.digAt_no]
theorem pairYes {s : ByteArray} {hi : Int} {p : Nat} (h : digAt s p true = true ∧ 10 * ((byte s p : Int) - 48) ≤ hi) : pairAt s hi p true = Rd.pairStep s hi 1 (10 * ((byte s p : Int) - 48), p + 1, true) := by
  unfold pairAt
  congr 1
  unfold Rd.pairStep
  simp only [Int.zero_add]
  rw [if_pos h]
theorem pairNo2 {s : ByteArray} {hi n : Int} {p : Nat} (h : ¬ (digAt s p true = true ∧ n + ((byte s p : Int) - 48) ≤ hi)) : Rd.pairStep s hi 1 (n, p, true) = (n, p, false) := by
  unfold Rd.pairStep
  simp only [Int.one_mul]
  rw [if_neg h]
theorem pairYes2 {s : ByteArray} {hi n : Int} {p : Nat} (h : digAt s p true = true ∧ n + ((byte s p : Int) - 48) ≤ hi) : Rd.pairStep s hi 1 (n, p, true) = (n + ((byte s p : Int) - 48), p + 1, true) := by
  unfold Rd.pairStep
  simp only [Int.one_mul]
  rw [if_pos h]
set_option maxHeartbeats 8000000 in
set_option maxRecDepth 100000 in
theorem runPair_any (t : Tok) (hk : t.kind = 3) (s : ByteArray) (p : Nat) (hs : s.size ≤ 1000000) (hp : p ≤ s.size) (hT : 0 ≤ t.high ∧ t.high ≤ 99) (w : World) (hg : Glo w) :
    Calls Tryz.prog 94 #[tokV t, .string s, .int .i64 p] w fun e w' => RunRet s t p w e w' := by
  obtain ⟨kd, tx, lo, hi, dg⟩ := t
  simp only at hk hT
  subst hk
  unfold tokV
  simp only
  obtain ⟨V, hV, hbV, hsV, hcV⟩ := alloc_cells w #[.int .i64 (3 : Nat), .string tx, .int .i64 lo, .int .i64 hi, .int .i64 dg] 57
  have hkI : ((3 : Nat) : Int) = 3 := rfl
  rw [hkI] at hV hcV ⊢
  have c0 := Ext.ex (hcV 0 _ rfl)
  have c1 := Ext.ex (hcV 1 _ rfl)
  have c2 := Ext.ex (hcV 2 _ rfl)
  have c3 := Ext.ex (hcV 3 _ rfl)
  have c4 := Ext.ex (hcV 4 _ rfl)
  have END := Lib.hid (fun (X : Ext V) => below_step hbV X.2)
  have HG := Lib.hid (fun (X : Ext V) => hg.below (below_step hbV X.2))
  have HD := Lib.hid (fun (c : Nat) (X : Ext V) => Ext.same X (rIsDigit_any c X.1))
  have HV := Lib.hid hV
  have HP := Lib.hid hp
  have HS := Lib.hid hs
  clear hcV hV hbV hg hkI
  have RT : ∀ x, pairAt s hi p true = x → Rd.runT s ⟨3, tx, lo, hi, dg⟩ p = (x.2.1, x.1, x.2.2) := fun x hx => by simp [Rd.runT, hx]
  have RT := Lib.hid RT
  obtain ⟨hh0, hh99⟩ := hT
  have hdiv : hi.tdiv 10 = hi / 10 := Int.tdiv_eq_ediv_of_nonneg hh0
  go_enter Tryz.func94, Tryz.ntmps94
  go_upto_region 1 with fail
  rw [HV.out]
  refine ext_wp fun X => ?_
  have x0 := c0 X
  go_upto_region 11 with fail
  have y0 := c0 X
  have y1 := c1 X
  have y2 := c2 X
  have y3 := c3 X
  have y4 := c4 X
  rcases dig_cases s p hp with ⟨hq, hd⟩ | ⟨hq, hisd, hd⟩ | ⟨hq, hisd, hd, h48, h57, hby⟩
  · have hqd : ((p : Int) == (s.size : Int)) = true := by rw [eq_b, decide_eq_true_eq]; exact hq
    have hqd' : decide (p = s.size) = true := by simpa using hq
    have HXT := Lib.hid ((RT.out _ rfl).trans (show _ = (p, (0 : Int), false) from by rw [pairNo (by rw [hd]; simp)]))
    clear hd
    have HQ := Lib.hid hq
    clear hq
    refine wp_region_ext X (by kernel_rfl) (by kernel_rfl) ?_
    repeat (go_big_quiet_step ((first
      | (go_at_call 107; with_reducible exact HD.out _ _))))
    refine wpQuiet_nil ?_
    intro _ hw'
    obtain ⟨Z, rfl⟩ := hw'
    go_wp2_with fail
    go_ret3
    exact RunRet.mk _ _ false rfl HXT.out (fun h => by cases h) (END.out _)
  · have hqd : ((p : Int) == (s.size : Int)) = false := by rw [eq_b, decide_eq_false_iff_not]; omega
    have hqd' : decide (p = s.size) = false := by rw [decide_eq_false_iff_not]; omega
    have HXT := Lib.hid ((RT.out _ rfl).trans (show _ = (p, (0 : Int), false) from by rw [pairNo (by rw [hd]; simp)]))
    clear hd
    refine wp_region_ext X (by kernel_rfl) (by kernel_rfl) ?_
    repeat (go_big_quiet_step ((first
      | (go_at_call 107; with_reducible exact HD.out _ _))))
    refine wpQuiet_nil ?_
    intro _ hw'
    obtain ⟨Z, rfl⟩ := hw'
    go_wp2_with fail
    go_ret3
    exact RunRet.mk _ _ false rfl HXT.out (fun h => by cases h) (END.out _)
  · have hqd : ((p : Int) == (s.size : Int)) = false := by rw [eq_b, decide_eq_false_iff_not]; omega
    have hqd' : decide (p = s.size) = false := by rw [decide_eq_false_iff_not]; omega
    by_cases hb1 : hi / 10 < (s[p].toNat : Int) - 48
    · have z1 : decide (hi / 10 < (s[p].toNat : Int) - 48) = true := by simpa using hb1
      have HXT := Lib.hid ((RT.out _ rfl).trans (show _ = (p, (0 : Int), false) from by rw [pairNo (by rw [hby]; omega)]))
      clear hd
      refine wp_region_ext X (by kernel_rfl) (by kernel_rfl) ?_
      repeat (go_big_quiet_step ((first
        | (go_at_call 107; with_reducible exact HD.out _ _))))
      refine wpQuiet_nil ?_
      intro _ hw'
      obtain ⟨Z, rfl⟩ := hw'
      go_wp2_with fail
      go_ret3
      exact RunRet.mk _ _ false rfl HXT.out (fun h => by cases h) (END.out _)
    · have z1 : decide (hi / 10 < (s[p].toNat : Int) - 48) = false := by simpa using hb1
      have HF1 := Lib.hid (pairYes (s := s) (hi := hi) (p := p) ⟨hd, by rw [hby]; omega⟩)
      rw [hby] at HF1
      obtain ⟨d1, hd1⟩ : ∃ x : Int, (s[p].toNat : Int) - 48 = x := ⟨_, rfl⟩
      have hd1n : 0 ≤ d1 ∧ d1 ≤ 9 := by omega
      clear hd
      refine wp_region_ext X (by kernel_rfl) (by kernel_rfl) ?_
      repeat (go_big_quiet_step ((first
        | (go_at_call 107; with_reducible exact HD.out _ _))))
      refine wpQuiet_nil ?_
      intro _ hw'
      obtain ⟨Z, rfl⟩ := hw'
      go_upto_region 14 with fail
      try rw [hd1] at HF1
      try rw [hd1]
      clear hd1
      have w0 := c0 Z
      have w1 := c1 Z
      have w2 := c2 Z
      have w3 := c3 Z
      have w4 := c4 Z
      rcases dig_cases s (p + 1) (by omega) with ⟨hq2, hd2⟩ | ⟨hq2, hisd2, hd2⟩ | ⟨hq2, hisd2, hd2, h482, h572, hby2⟩
      · have hqe : (((p : Int) + 1) == (s.size : Int)) = true := by simp; omega
        have hqe' : decide (p + 1 = s.size) = true := by simpa using hq2
        have HXT := Lib.hid ((RT.out _ HF1.out).trans (show _ = (p + 1, 10 * d1, false) from by rw [pairNo2 (by rw [hd2]; simp)]))
        clear hd2
        have HQ := Lib.hid hq2
        clear hq2
        refine wp_region_ext Z (by kernel_rfl) (by kernel_rfl) ?_
        repeat (go_big_quiet_step ((first
          | (go_at_call 107; with_reducible exact HD.out _ _))))
        refine wpQuiet_nil ?_
        intro _ hw'
        obtain ⟨Z, rfl⟩ := hw'
        go_wp2_with fail
        go_ret3
        exact RunRet.mk _ _ false rfl HXT.out (fun h => by cases h) (END.out _)
      · have hix : ∀ W : World, (Instr.index 9 (.string s) (.int .i64 ((p : Int) + 1))).run Tryz.prog W = .ok (.int .u8 (s[p + 1].toNat)) W := fun W => idx_at s (p + 1) hq2 W
        have hqe : (((p : Int) + 1) == (s.size : Int)) = false := by simp; omega
        have hqe' : decide (p + 1 = s.size) = false := by rw [decide_eq_false_iff_not]; omega
        have HXT := Lib.hid ((RT.out _ HF1.out).trans (show _ = (p + 1, 10 * d1, false) from by rw [pairNo2 (by rw [hd2]; simp)]))
        clear hd2
        refine wp_region_ext Z (by kernel_rfl) (by kernel_rfl) ?_
        repeat (go_big_quiet_step ((first
          | (go_at_call 107; with_reducible exact HD.out _ _))))
        refine wpQuiet_nil ?_
        intro _ hw'
        obtain ⟨Z, rfl⟩ := hw'
        go_wp2_with fail
        go_ret3
        exact RunRet.mk _ _ false rfl HXT.out (fun h => by cases h) (END.out _)
      · have hix : ∀ W : World, (Instr.index 9 (.string s) (.int .i64 ((p : Int) + 1))).run Tryz.prog W = .ok (.int .u8 (s[p + 1].toNat)) W := fun W => idx_at s (p + 1) hq2 W
        have hqe : (((p : Int) + 1) == (s.size : Int)) = false := by simp; omega
        have hqe' : decide (p + 1 = s.size) = false := by rw [decide_eq_false_iff_not]; omega
        by_cases hb2 : hi < 10 * d1 + ((s[p + 1].toNat : Int) - 48)
        · have z2 : decide (hi < 10 * d1 + ((s[p + 1].toNat : Int) - 48)) = true := by simpa using hb2
          have HXT := Lib.hid ((RT.out _ HF1.out).trans (show _ = (p + 1, 10 * d1, false) from by rw [pairNo2 (by rw [hby2]; omega)]))
          clear hd2
          refine wp_region_ext Z (by kernel_rfl) (by kernel_rfl) ?_
          repeat (go_big_quiet_step ((first
            | (go_at_call 107; with_reducible exact HD.out _ _))))
          refine wpQuiet_nil ?_
          intro _ hw'
          obtain ⟨Z, rfl⟩ := hw'
          go_wp2_with fail
          go_ret3
          exact RunRet.mk _ _ false rfl HXT.out (fun h => by cases h) (END.out _)
        · have z2 : decide (hi < 10 * d1 + ((s[p + 1].toNat : Int) - 48)) = false := by simpa using hb2
          have HXT := Lib.hid ((RT.out _ HF1.out).trans (show _ = (p + 2, 10 * d1 + ((s[p + 1].toNat : Int) - 48), true) from by rw [pairYes2 ⟨hd2, by rw [hby2]; omega⟩, hby2]))
          clear hd2
          refine wp_region_ext Z (by kernel_rfl) (by kernel_rfl) ?_
          repeat (go_big_quiet_step ((first
            | (go_at_call 107; with_reducible exact HD.out _ _))))
          refine wpQuiet_nil ?_
          intro _ hw'
          obtain ⟨U, rfl⟩ := hw'
          go_upto_region 16 with fail
          refine wp_region_ext U (by kernel_rfl) (by kernel_rfl) ?_
          repeat (go_big_quiet_step (fail))
          refine wpQuiet_nil ?_
          intro _ hw'
          obtain ⟨U2, rfl⟩ := hw'
          go_wp2_with fail
          go_ret3
          exact RunRet.mk _ _ true rfl HXT.out (fun _ => rfl) (END.out _)
set_option maxHeartbeats 8000000 in
set_option maxRecDepth 100000 in
theorem runLit_any (t : Tok) (hk : t.kind = 1) (s : ByteArray) (p : Nat) (hs : s.size ≤ 1000000) (hp : p ≤ s.size) (hT : t.text.size ≤ 100) (w : World) (hg : Glo w) :
    Calls Tryz.prog 94 #[tokV t, .string s, .int .i64 p] w fun e w' => RunRet s t p w e w' := by
  obtain ⟨kd, tx, lo, hi, dg⟩ := t
  simp only at hk hT
  subst hk
  unfold tokV
  simp only
  obtain ⟨V, hV, hbV, hsV, hcV⟩ := alloc_cells w #[.int .i64 (1 : Nat), .string tx, .int .i64 lo, .int .i64 hi, .int .i64 dg] 57
  have hkI : ((1 : Nat) : Int) = 1 := rfl
  rw [hkI] at hV hcV ⊢
  have c0 := Ext.ex (hcV 0 _ rfl)
  have c1 := Ext.ex (hcV 1 _ rfl)
  have c2 := Ext.ex (hcV 2 _ rfl)
  have c3 := Ext.ex (hcV 3 _ rfl)
  have c4 := Ext.ex (hcV 4 _ rfl)
  have END := Lib.hid (fun (X : Ext V) => below_step hbV X.2)
  have HG := Lib.hid (fun (X : Ext V) => hg.below (below_step hbV X.2))
  have HD := Lib.hid (fun (c : Nat) (X : Ext V) => Ext.same X (rIsDigit_any c X.1))
  have HV := Lib.hid hV
  have HP := Lib.hid hp
  have HS := Lib.hid hs
  clear hcV hV hbV hg hkI
  have RT : ∀ x, exactAt s tx p true = x → Rd.runT s ⟨1, tx, lo, hi, dg⟩ p = (x.1, 0, x.2) := fun x hx => by simp [Rd.runT, hx]
  have RT := Lib.hid RT
  have HTT := Lib.hid hT
  go_enter Tryz.func94, Tryz.ntmps94
  go_upto_region 1 with fail
  rw [HV.out]
  refine ext_wp fun X => ?_
  have x0 := c0 X
  go_upto_region 4 with fail
  go_loopw [2, 9] (fun mv iv wr => ∃ (q i : Nat) (Y : Ext V), mv = .int .i64 q ∧ iv = .int .i64 i ∧ i ≤ tx.size ∧ q ≤ s.size ∧ wr = Y.1 ∧ Rd.exactLoop s tx (tx.size - i) i q = exactAt s tx p true) (fun _ iv _ => tx.size - (intOf iv).toNat)
  case atStart => exact ⟨p, 0, X, rfl, rfl, Nat.zero_le _, HP.out, rfl, rfl⟩
  case round =>
    obtain ⟨q, i, Y, rfl, rfl, hi0, hq0, rfl, hL⟩ := hrel
    have y0 := c0 Y
    have y1 := c1 Y
    have y2 := c2 Y
    have y3 := c3 Y
    have y4 := c4 Y
    have HL := Lib.hid hL
    have hT := HTT.out
    have hq1 : q ≤ 1000000 := by omega
    clear hL x0
    by_cases hit : i < tx.size
    case neg =>
      have g1 : decide ((i : Int) < (tx.size : Int)) = false := by rw [lt_b]; simpa using hit
      have g2 : decide (i < tx.size) = false := by simpa using hit
      have HXT := Lib.hid (RT.out (q, true) (by rw [← HL.out, show tx.size - i = 0 by omega]; rfl))
      go_wp2_with fail
      go_ret3
      exact RunRet.mk _ _ true rfl HXT.out (fun _ => rfl) (END.out _)
    case pos =>
      have g1 : decide ((i : Int) < (tx.size : Int)) = true := by rw [lt_b]; simpa using hit
      have g2 : decide (i < tx.size) = true := by simpa using hit
      have hstep : Rd.exactLoop s tx (tx.size - i) i q = if q < s.size ∧ byte s q = byte tx i then Rd.exactLoop s tx (tx.size - (i + 1)) (i + 1) (q + 1) else (q, false) := by
        rw [show tx.size - i = (tx.size - (i + 1)) + 1 by omega]
        conv => lhs; rw [Rd.exactLoop]
        rw [if_pos hit]
      by_cases hq : q < s.size
      case neg =>
        have g3 : ((q : Int) == (s.size : Int)) = true := by rw [eq_b]; simp; omega
        have g4 : decide (q = s.size) = true := by simp; omega
        have HXT := Lib.hid (RT.out (q, false) (by rw [← HL.out, hstep, if_neg (fun h => hq h.1)]))
        clear hstep
        go_upto_region 6 with fail
        refine wp_region_ext Y (by kernel_rfl) (by kernel_rfl) ?_
        repeat (go_big_quiet_step (fail))
        refine wpQuiet_nil ?_
        intro _ hw'
        obtain ⟨Z, rfl⟩ := hw'
        go_wp2_with fail
        go_ret3
        exact RunRet.mk _ _ false rfl HXT.out (fun h => by cases h) (END.out _)
      case pos =>
        have g3 : ((q : Int) == (s.size : Int)) = false := by rw [eq_b]; simp; omega
        have g4 : decide (q = s.size) = false := by simp; omega
        rw [Rd.byte_lt hq, Rd.byte_lt hit] at hstep
        by_cases he : s[q].toNat = tx[i].toNat
        case neg =>
          have g5 : ((s[q].toNat : Int) == (tx[i].toNat : Int)) = false := by rw [eq_b]; simpa using he
          have g6 : ((s[q].toNat : Int) != (tx[i].toNat : Int)) = true := by rw [bne, g5]; rfl
          have g7 : decide (s[q].toNat = tx[i].toNat) = false := by simpa using he
          have HXT := Lib.hid (RT.out (q, false) (by rw [← HL.out, hstep, if_neg (fun h => he h.2)]))
          clear hstep
          go_upto_region 6 with fail
          refine wp_region_ext Y (by kernel_rfl) (by kernel_rfl) ?_
          repeat (go_big_quiet_step (fail))
          refine wpQuiet_nil ?_
          intro _ hw'
          obtain ⟨Z, rfl⟩ := hw'
          go_wp2_with fail
          go_ret3
          exact RunRet.mk _ _ false rfl HXT.out (fun h => by cases h) (END.out _)
        case pos =>
          have g5 : ((s[q].toNat : Int) == (tx[i].toNat : Int)) = true := by rw [eq_b]; simpa using he
          have g6 : ((s[q].toNat : Int) != (tx[i].toNat : Int)) = false := by rw [bne, g5]; rfl
          have g7 : decide (s[q].toNat = tx[i].toNat) = true := by simpa using he
          have HN := Lib.hid (show Rd.exactLoop s tx (tx.size - (i + 1)) (i + 1) (q + 1) = exactAt s tx p true by rw [← HL.out, hstep, if_pos ⟨hq, he⟩])
          clear hstep
          go_upto_region 6 with fail
          refine wp_region_ext Y (by kernel_rfl) (by kernel_rfl) ?_
          repeat (go_big_quiet_step (fail))
          refine wpQuiet_nil ?_
          intro _ hw'
          obtain ⟨Z, rfl⟩ := hw'
          go_wp2_with fail
          go_roundw
          case rel => exact ⟨q + 1, i + 1, Z, by go_num, by go_num, by omega, by omega, rfl, HN.out⟩
          case measure => simp [intOf]; omega
theorem run_any (t : Tok) (ht : Rd.TokOk t) (s : ByteArray) (p : Nat) (hs : s.size ≤ 1000000) (hp : p ≤ s.size) (w : World) (hg : Glo w) :
    Calls Tryz.prog 94 #[tokV t, .string s, .int .i64 p] w fun e w' => RunRet s t p w e w' := by
  rcases ht with h | h | h | h
  · exact runLit_any t h.1 s p hs hp h.2 w hg
  · exact runNum_any t h.1 s p hs hp h.2 w hg
  · exact runPair_any t h.1 s p hs hp h.2 w hg
  · exact h.2.2.elim
end Go.Proofs.YthimnjegacdhaaaGreatDoor

/- Going along a form; the first form that a text has (reference). -/
namespace Go.Proofs.YthimnjegacdhaaaGreatDoor
open Go.RowKit Go.BigFrame
open Rd (sB bt itoaB Tok TokOk matchT firstT tok0 MatchAt FirstAt)

/-- a form as it lies in memory -/
def FormIn (w : World) (a : Option Addr) (f : List Tok) : Prop := RowK w a f.length 5 (fun i => tokCells (f.getD i tok0))
/-- what match hands back -/
def MatchRet (s : ByteArray) (f : List Tok) (w : World) (e : Ending) (w' : World) : Prop :=
  ∃ lv, e = .returned (.tuple #[.int .i64 (matchT s f 0).1, lv, .bool (matchT s f 0).2.2]) ∧ Below w.heap.size w w' ∧ ((matchT s f 0).2.2 = true → w'.ownsRow w.heap.size 3 1 lv (matchT s f 0).2.1.length ((matchT s f 0).2.1.map (.int .i64)))
theorem MatchRet.mk {s : ByteArray} {f : List Tok} {w w' : World} {e : Ending} {q : Nat} {L : List Int} {b : Bool} (lv : Value) (he : e = .returned (.tuple #[.int .i64 q, lv, .bool b])) (h : matchT s f 0 = (q, L, b)) (hb : Below w.heap.size w w') (ho : b = true → w'.ownsRow w.heap.size 3 1 lv L.length (L.map (.int .i64))) : MatchRet s f w e w' := by
  refine ⟨lv, ?_, hb, ?_⟩
  · rw [h]; exact he
  · rw [h]; exact ho
set_option maxHeartbeats 4000000 in
set_option maxRecDepth 100000 in
theorem match_any (s : ByteArray) (f : List Tok) (a : Option Addr) (c : Nat) (w : World) (hs : s.size ≤ 1000000) (hr : FormIn w a f) (hok : ∀ t, t ∈ f → TokOk t) (hfl : f.length ≤ 1000) (hg : Glo w) :
    Calls Tryz.prog 65 #[.string s, .slice a f.length c] w fun e w' => MatchRet s f w e w' := by
  have HR := Lib.hid hr
  have HG := Lib.hid hg
  have D := Lib.hid (fun (t : Tok) (ht : TokOk t) (q : Nat) (hq : q ≤ s.size) (W : World) (hW : Below w.heap.size w W) => run_any t ht s q hs hq W (hg.below hW))
  have HOK := Lib.hid (fun (k : Nat) (hk : k < f.length) => hok (f.getD k tok0) (by rw [List.getD_eq_getElem?_getD, List.getElem?_eq_getElem hk]; exact List.getElem_mem hk))
  have HGT := Lib.hid (fun (k : Nat) (hk : k < f.length) => (show f[k]? = some (f.getD k tok0) by rw [List.getD_eq_getElem?_getD, List.getElem?_eq_getElem hk]; rfl))
  clear hg hok hr
  obtain ⟨i0, hi0, hz0, hz1, hz2⟩ := info_parts (show (Tryz.prog.info? 3).map (fun i => (i.zero, i.size, i.bytes)) = some (some (.int .i64 0), 1, 8) by kernel_rfl)
  go_enter Tryz.func65, Tryz.ntmps65
  go_wp2_with fail
  go_loopw [7, 8, 16] (fun av lv iv wr => ∃ (q k : Nat) (L : List Int), av = .int .i64 q ∧ iv = .int .i64 k ∧ k ≤ f.length ∧ q ≤ s.size ∧ L.length ≤ k ∧ Hid (Below w.heap.size w wr) ∧ Hid (wr.ownsRow w.heap.size 3 1 lv L.length (L.map (.int .i64))) ∧ Hid (MatchAt s f k q L)) (fun _ _ iv _ => f.length - (intOf iv).toNat)
  case atStart => exact ⟨0, 0, [], rfl, rfl, by omega, by omega, by simp, Lib.hid (Below.refl _ _), Lib.hid (World.ownsRow_nil _ _ _ _), Lib.hid (MatchAt.start s f)⟩
  case round =>
    obtain ⟨q, k, L, rfl, rfl, hk, hq, hL, HB, HO, HM⟩ := hrel
    have hq1 : q ≤ 1000000 := by omega
    by_cases hlt : k < f.length
    case neg =>
      have t1 : decide ((k : Int) < (f.length : Int)) = false := by rw [lt_b]; simpa using hlt
      have t1' : decide (k < f.length) = false := by simpa using hlt
      have HX := Lib.hid (HM.out.done (by omega))
      obtain ⟨be, hbe⟩ : ∃ x, decide (q = s.size) = x := ⟨_, rfl⟩
      have hbe' : ((q : Int) == (s.size : Int)) = be := by rw [eq_b, hbe]
      rw [hbe] at HX
      clear HM hbe
      go_wp2_with fail
      go_ret3
      exact MatchRet.mk u8 rfl HX.out HB.out (fun _ => HO.out)
    case pos =>
      have t1 : decide ((k : Int) < (f.length : Int)) = true := by rw [lt_b]; simpa using hlt
      have t1' : decide (k < f.length) = true := by simpa using hlt
      have hsz := HB.out.size
      obtain ⟨b, off, rfl, hbl, hcc⟩ := (HR.out.below HB.out (Nat.le_refl _)).here (by omega)
      have ht := HGT.out k hlt
      have hto := HOK.out k hlt
      have e0 := hcc k hlt 0 (by omega)
      have e1 := hcc k hlt 1 (by omega)
      have e2 := hcc k hlt 2 (by omega)
      have e3 := hcc k hlt 3 (by omega)
      have e4 := hcc k hlt 4 (by omega)
      clear hcc
      obtain ⟨t, htt⟩ : ∃ t, f.getD k tok0 = t := ⟨_, rfl⟩
      rw [htt] at ht hto e0 e1 e2 e3 e4
      have HT := Lib.hid ht
      have HTO := Lib.hid hto
      clear ht hto htt
      replace e0 : wr.cell? ⟨b, off + k * 5, none⟩ = some (.int .i64 t.kind) := e0
      replace e1 : wr.cell? ⟨b, off + k * 5 + 1, none⟩ = some (.string t.text) := e1
      replace e2 : wr.cell? ⟨b, off + k * 5 + 2, none⟩ = some (.int .i64 t.low) := e2
      replace e3 : wr.cell? ⟨b, off + k * 5 + 3, none⟩ = some (.int .i64 t.high) := e3
      replace e4 : wr.cell? ⟨b, off + k * 5 + 4, none⟩ = some (.int .i64 t.digits) := e4
      obtain ⟨V, hV, hvb, hvs, hvl⟩ := alloc_cells wr #[.int .i64 t.kind, .string t.text, .int .i64 t.low, .int .i64 t.high, .int .i64 t.digits] 57
      have M0 := Ext.ex (hvl 0 _ rfl)
      have M1 := Ext.ex (hvl 1 _ rfl)
      have M2 := Ext.ex (hvl 2 _ rfl)
      have M3 := Ext.ex (hvl 3 _ rfl)
      have M4 := Ext.ex (hvl 4 _ rfl)
      have HV := Lib.hid hV
      have HBV := Lib.hid (HB.out.trans (hvb.mono hsz))
      have HOV := Lib.hid (ownsRow_below HO.out hvb)
      have HSV := Lib.hid (show w.heap.size ≤ V.heap.size by omega)
      have DR := Lib.hid (fun (X : Ext V) => D.out t HTO.out q hq X.1 (X.down HBV.out HSV.out))
      have HNX := Lib.hid (fun h => HM.out.next HT.out h)
      have HFA := Lib.hid (fun h => HM.out.fail HT.out h)
      have hrl := Rd.runT_le (t := t) hq
      unfold tokV at DR
      clear hvl hV hvb hvs HO HM
      obtain ⟨p6, hp6⟩ : ∃ p6, wr.heap.size = p6 := ⟨_, rfl⟩
      rw [hp6] at M0 M1 M2 M3 M4
      have HP6 := Lib.hid hp6
      clear hp6
      go_upto_region 6 with fail
      rw [HV.out, HP6.out]
      refine ext_wp fun X => ?_
      have m0 := M0 X
      have m1 := M1 X
      have m2 := M2 X
      have m3 := M3 X
      have m4 := M4 X
      clear e0 e1 e2 e3 e4
      go_upto_region 7 with (go_at_call 94; refine (DR.out X).mono ?_; rintro e w2 ⟨v, rfl, hv, hb2⟩)
      obtain ⟨Y, rfl⟩ : ∃ Y : Ext V, w2 = Y.1 := ⟨⟨w2, below_step X.2 hb2⟩, rfl⟩
      have n0 := M0 Y
      have HV2 := Lib.hid hv
      clear hb2 m0 m1 m2 m3 m4 M0 M1 M2 M3 M4 hv HV
      obtain ⟨ret, hret⟩ : ∃ x, Rd.runT s t q = x := ⟨_, rfl⟩
      rw [hret] at HNX HFA hrl HV2 ⊢
      obtain ⟨q2, u, ok⟩ := ret
      simp only at HNX HFA hrl HV2 ⊢
      clear hret
      cases ok
      case false =>
        have HX := Lib.hid (HFA.out rfl)
        clear HNX HFA
        go_wp2_with fail
        go_ret3
        exact MatchRet.mk (.slice none 0 0) rfl HX.out (Y.down HBV.out HSV.out) (fun h => by cases h)
      case true =>
      obtain rfl := HV2.out rfl
      have HN := Lib.hid (HNX.out rfl)
      clear HNX HFA HV2
      have HBY := Lib.hid (Y.down HBV.out HSV.out)
      have HOY := Lib.hid (ownsRow_below HOV.out Y.2)
      have hys := HBY.out.size
      by_cases hkd : t.kind = 1
      case pos =>
        have k1 : ((t.kind : Int) != 1) = false := by simp; omega
        have k2 : ((t.kind : Int) == 1) = true := by simp; omega
        rw [if_pos hkd] at HN
        go_wp2_with fail
        go_roundw
        case rel => exact ⟨q2, k + 1, L, rfl, by go_num, by omega, hrl, by omega, HBY, HOY, HN⟩
        case measure => simp [intOf]; omega
      case neg =>
        have k1 : ((t.kind : Int) != 1) = true := by simp; omega
        have k2 : ((t.kind : Int) == 1) = false := by simp; omega
        rw [if_neg hkd] at HN
        have O2 := HOY.out
        go_wp2_with (first
          | (at_builtin; go_loud (
             refine wpList_append_own _ rfl _ _ 63 rfl w.heap.size 3 i0 (.int .i64 0) 1 8 Tryz.underlying63 hi0 hz0 hz1 hz2 rfl (by decide) u8 L.length (L.map (.int .i64)) rfl (O2.alloc _) ⟨Y.1.heap.size, 0, none⟩ 1 1 [.int .i64 v] rfl rfl (fun j u hj => by match j, hj with | 0, hj => (simp at hj; subst hj; simp [Addr.add])) (fun u hu => by simp at hu; subst hu; rfl) (by unfold maxLen; omega) (by omega) (by simp; omega) ?_
             intro v' w3 hown' hgrow _
             have HW3 := Lib.hid hown'
             have HG3 := Lib.hid hgrow
             clear hown' hgrow))
          | fail)
        go_roundw
        case rel => exact ⟨q2, k + 1, L ++ [v], rfl, by go_num, by omega, hrl, by simp; omega, Lib.hid ((HBY.out.alloc (by omega) _).grown HG3.out (by simp; omega) (fun b hb => by have := O2.lt b hb; omega)), Lib.hid (by simpa using HW3.out), HN⟩
        case measure => simp [intOf]; omega
/-- forms as they lie in memory -/
def FormsIn (w : World) (a : Option Addr) (l : List (List Tok)) : Prop :=
  ∀ j f, l[j]? = some f → ∃ b off aj cj, a = some ⟨b, off, none⟩ ∧ b < w.heap.size ∧ w.cell? ⟨b, off + j, none⟩ = some (.slice aj f.length cj) ∧ FormIn w aj f ∧ (∀ t, t ∈ f → TokOk t) ∧ f.length ≤ 1000
theorem FormsIn.below {w w' : World} {a : Option Addr} {l : List (List Tok)} (h : FormsIn w a l) (hb : Below w.heap.size w w') : FormsIn w' a l := by
  intro j f hf
  obtain ⟨b, off, aj, cj, h1, h2, h3, h4, h5, h6⟩ := h j f hf
  exact ⟨b, off, aj, cj, h1, Nat.lt_of_lt_of_le h2 hb.size, below_cell hb h3, RowK.below h4 hb (Nat.le_refl _), h5, h6⟩
/-- what first hands back -/
def FirstRet (s : ByteArray) (l : List (List Tok)) (w : World) (e : Ending) (w' : World) : Prop :=
  ∃ lv, e = .returned (.tuple #[.int .i64 (firstT s l 0 0).1, lv, .int .i64 ((firstT s l 0 0).2.2 : Nat)]) ∧ Below w.heap.size w w' ∧ (0 ≤ (firstT s l 0 0).1 → w'.ownsRow w.heap.size 3 1 lv (firstT s l 0 0).2.1.length ((firstT s l 0 0).2.1.map (.int .i64)))
theorem FirstRet.mk {s : ByteArray} {l : List (List Tok)} {w w' : World} {e : Ending} {n : Int} {far : Nat} {L : List Int} (lv : Value) (he : e = .returned (.tuple #[.int .i64 n, lv, .int .i64 (far : Nat)])) (h : firstT s l 0 0 = (n, L, far)) (hb : Below w.heap.size w w') (ho : 0 ≤ n → w'.ownsRow w.heap.size 3 1 lv L.length (L.map (.int .i64))) : FirstRet s l w e w' := by
  refine ⟨lv, ?_, hb, ?_⟩
  · rw [h]; exact he
  · rw [h]; exact ho
set_option maxHeartbeats 4000000 in
set_option maxRecDepth 100000 in
theorem first_any (s : ByteArray) (l : List (List Tok)) (a : Option Addr) (c : Nat) (w : World) (hs : s.size ≤ 1000000) (hr : FormsIn w a l) (hl : l.length ≤ 1000) (hg : Glo w) :
    Calls Tryz.prog 43 #[.string s, .slice a l.length c] w fun e w' => FirstRet s l w e w' := by
  have HR := Lib.hid hr
  have D := Lib.hid (fun (f : List Tok) (hfo : ∀ t, t ∈ f → TokOk t) (hfl : f.length ≤ 1000) (a : Option Addr) (c : Nat) (W : World) (hW : Below w.heap.size w W) (hf : FormIn W a f) => match_any s f a c W hs hf hfo hfl (hg.below hW))
  have HGT := Lib.hid (fun (k : Nat) (hk : k < l.length) => (show l[k]? = some (l[k]) from List.getElem?_eq_getElem hk))
  clear hg hr
  go_enter Tryz.func43, Tryz.ntmps43
  go_wp2_with fail
  go_loopw [7, 15] (fun fv iv wr => ∃ (far k : Nat), fv = .int .i64 far ∧ iv = .int .i64 k ∧ k ≤ l.length ∧ far ≤ s.size ∧ Hid (Below w.heap.size w wr) ∧ Hid (FirstAt s l k far)) (fun _ iv _ => l.length - (intOf iv).toNat)
  case atStart => exact ⟨0, 0, rfl, rfl, by omega, by omega, Lib.hid (Below.refl _ _), Lib.hid (FirstAt.start s l)⟩
  case round =>
    obtain ⟨far, k, rfl, rfl, hk, hfar, HB, HF⟩ := hrel
    by_cases hlt : k < l.length
    case neg =>
      have t1 : decide ((k : Int) < (l.length : Int)) = false := by rw [lt_b]; simpa using hlt
      have t1' : decide (k < l.length) = false := by simpa using hlt
      have HX := Lib.hid (HF.out.done (by omega))
      clear HF
      go_wp2_with fail
      go_ret3
      exact FirstRet.mk (.slice none 0 0) rfl HX.out HB.out (fun h => absurd h (by omega))
    case pos =>
      have t1 : decide ((k : Int) < (l.length : Int)) = true := by rw [lt_b]; simpa using hlt
      have t1' : decide (k < l.length) = true := by simpa using hlt
      have hsz := HB.out.size
      have ht := HGT.out k hlt
      obtain ⟨f, hff⟩ : ∃ f, l[k] = f := ⟨_, rfl⟩
      rw [hff] at ht
      obtain ⟨b, off, aj, cj, rfl, hbl, hc, hin, hto, hfl⟩ := (HR.out.below HB.out) k f ht
      have HT := Lib.hid ht
      have DM := Lib.hid (D.out f hto hfl aj cj wr HB.out hin)
      have hml := Rd.matchT_le (s := s) f 0 (Nat.zero_le _)
      clear ht hto hin hff
      obtain ⟨m, hm⟩ : ∃ x, matchT s f 0 = x := ⟨_, rfl⟩
      have HNX := Lib.hid (fun h => HF.out.next HT.out h)
      have HHI := Lib.hid (fun h => HF.out.hit HT.out h)
      unfold MatchRet at DM
      rw [hm] at DM HNX HHI hml
      obtain ⟨q2, L, ok⟩ := m
      simp only at DM HNX HHI hml
      clear hm HF
      go_upto_region 6 with (go_at_call 65; refine DM.out.mono ?_; rintro e w2 ⟨lv, rfl, hb2, hown⟩)
      have HB2 := Lib.hid (HB.out.trans (hb2.mono hsz))
      cases ok
      case true =>
        have HX := Lib.hid (HHI.out rfl)
        have HO := Lib.hid ((hown rfl).mono hsz)
        clear HNX HHI hown hb2
        go_wp2_with fail
        go_ret3
        exact FirstRet.mk lv rfl HX.out HB2.out (fun _ => HO.out)
      case false =>
        have HN := Lib.hid (HNX.out rfl)
        clear HNX HHI hown hb2
        go_wp2_with fail
        go_roundw
        case rel => exact ⟨max far q2, k + 1, by go_num, by go_num, by omega, by omega, HB2, HN⟩
        case measure => simp [intOf]; omega
end Go.Proofs.YthimnjegacdhaaaGreatDoor

/- What the values of a form are at most; the letters of a form (plain). -/
namespace Rd
/-- values of tokens that are no fractions -/
theorem runT_val {s : ByteArray} {t : Tok} {p : Nat} {M : Int} (hk : t.kind = 2 ∨ t.kind = 3) (h0 : 0 ≤ t.high) (hM : t.high ≤ M) : 0 ≤ (runT s t p).2.1 ∧ (runT s t p).2.1 ≤ M := by
  unfold runT
  rcases hk with hk | hk
  · rw [if_neg (by omega), if_neg (by omega), if_pos hk]
    have := numAt_val s t.digits t.low t.high true p h0
    exact ⟨this.1, Int.le_trans this.2 hM⟩
  · rw [if_neg (by omega), if_pos hk]
    have := pairAt_val s (most := t.high) p true h0
    exact ⟨this.1, Int.le_trans this.2 hM⟩
def Small (M : Int) (t : Tok) : Prop := t.kind = 1 ∨ ((t.kind = 2 ∨ t.kind = 3) ∧ 0 ≤ t.high ∧ t.high ≤ M)
theorem matchT_vals {s : ByteArray} {M : Int} : ∀ (f : List Tok) (p : Nat), (∀ t, t ∈ f → Small M t) → ∀ v, v ∈ (matchT s f p).2.1 → 0 ≤ v ∧ v ≤ M
  | [], p, _, v, hv => by simp [matchT] at hv
  | t :: f, p, h, v, hv => by
    have ih := matchT_vals (s := s) f (runT s t p).1 (fun t ht => h t (List.mem_cons_of_mem _ ht)) v
    rw [matchT] at hv
    split at hv
    · by_cases hk : t.kind = 1
      · simp only [if_pos hk] at hv
        exact ih hv
      · simp only [if_neg hk] at hv
        rcases List.mem_cons.1 hv with rfl | hv
        · rcases h t (List.mem_cons_self ..) with h1 | ⟨h1, h2, h3⟩
          · exact absurd h1 hk
          · exact runT_val h1 h2 h3
        · exact ih hv
    · simp at hv
def nVals : List Tok → Nat
  | [] => 0
  | t :: f => (if t.kind = 1 then 0 else 1) + nVals f
theorem matchT_len {s : ByteArray} : ∀ (f : List Tok) (p : Nat), (matchT s f p).2.2 = true → (matchT s f p).2.1.length = nVals f
  | [], p, _ => rfl
  | t :: f, p, h => by
    rw [matchT] at h ⊢
    by_cases hr : (runT s t p).2.2 = true
    · rw [if_pos hr] at h ⊢
      have ih := matchT_len (s := s) f (runT s t p).1 h
      unfold nVals
      by_cases hk : t.kind = 1
      · simp only [if_pos hk]
        rw [ih]; omega
      · simp only [if_neg hk, List.length_cons]
        rw [ih]; omega
    · rw [if_neg hr] at h
      cases h
theorem firstT_len {s : ByteArray} (l : List (List Tok)) (h : 0 ≤ (firstT s l 0 0).1) : ∃ (k : Nat) (f : List Tok), l[k]? = some f ∧ (firstT s l 0 0).1 = (k : Int) ∧ (matchT s f 0).2.2 = true ∧ (firstT s l 0 0).2.1 = (matchT s f 0).2.1 := by
  by_cases hex : ∃ f, f ∈ l ∧ (matchT s f 0).2.2 = true
  · obtain ⟨k, f, h1, h2, _, h4⟩ := firstT_some l 0 0 hex
    rw [h4]
    exact ⟨k, f, h1, by simp, h2, rfl⟩
  · rw [firstT_none l 0 0 (fun f hf => by
      cases hm : (matchT s f 0).2.2 with
      | false => rfl
      | true => exact absurd ⟨f, hf, hm⟩ hex)] at h
    exact absurd h (by show ¬ (0 : Int) ≤ -1; omega)
/-! ### the forms of durations -/
theorem dot_step : ∀ (k : Nat) (L us : List Int), k < L.length → k < us.length → dotU (L.take (k + 1)) (us.take (k + 1)) = dotU (L.take k) (us.take k) + L.getD k 0 * us.getD k 0
  | _, [], _, h, _ => by simp at h
  | _, _ :: _, [], _, h => by simp at h
  | 0, v :: L, u :: us, _, _ => by simp [dotU]
  | k + 1, v :: L, u :: us, h1, h2 => by
    have := dot_step k L us (by simpa using h1) (by simpa using h2)
    rw [List.take_succ_cons, List.take_succ_cons, dotU, this, List.take_succ_cons, List.take_succ_cons, dotU]
    simp only [List.getD_cons_succ]
    omega
theorem dot_small {M : Int} : ∀ (k : Nat) (L us : List Int), (∀ v, v ∈ L → 0 ≤ v ∧ v ≤ M) → (∀ u, u ∈ us → 0 ≤ u ∧ u ≤ 3600) → 0 ≤ M → 0 ≤ dotU (L.take k) (us.take k) ∧ dotU (L.take k) (us.take k) ≤ k * (M * 3600)
  | 0, L, us, _, _, _ => by simp [dotU]
  | k + 1, [], us, _, _, hM => by
    rw [List.take_nil, show dotU [] (List.take (k + 1) us) = 0 from rfl]
    exact ⟨Int.le_refl _, Int.mul_nonneg (by omega) (by omega)⟩
  | k + 1, v :: L, [], _, _, hM => by
    rw [List.take_nil, show dotU (List.take (k + 1) (v :: L)) [] = 0 from rfl]
    exact ⟨Int.le_refl _, Int.mul_nonneg (by omega) (by omega)⟩
  | k + 1, v :: L, u :: us, h1, h2, hM => by
    have ih := dot_small k L us (fun v hv => h1 v (List.mem_cons_of_mem _ hv)) (fun u hu => h2 u (List.mem_cons_of_mem _ hu)) hM
    have hv := h1 v (List.mem_cons_self ..)
    have hu := h2 u (List.mem_cons_self ..)
    rw [List.take_succ_cons, List.take_succ_cons, dotU]
    have a1 : 0 ≤ v * u := Int.mul_nonneg hv.1 hu.1
    have a2 : v * u ≤ M * 3600 := Int.le_trans (Int.mul_le_mul_of_nonneg_right hv.2 hu.1) (Int.mul_le_mul_of_nonneg_left hu.2 hM)
    refine ⟨by omega, ?_⟩
    rw [show ((k + 1 : Nat) : Int) * (M * 3600) = (k : Int) * (M * 3600) + M * 3600 by rw [Int.natCast_add, Int.add_mul]; simp]
    omega
def letL (i : Nat) : Nat := [104, 109, 115].getD i 0
def bitOn (k i : Nat) : Bool := k / 2 ^ i % 2 == 1
/-- the letters of form k below i -/
def sel (k : Nat) : Nat → List Nat
  | 0 => []
  | i + 1 => if bitOn k i = true then sel k i ++ [letL i] else sel k i
theorem lform_snoc (c : Nat) : ∀ S : List Nat, lform (S ++ [c]) = lform S ++ [numT 0 9999999 7, litT (byteT c)]
  | [] => rfl
  | d :: S => by
    show _ :: _ :: lform (S ++ [c]) = _ :: _ :: (lform S ++ _)
    rw [lform_snoc c S]
theorem sel_dur {k : Nat} (h1 : 1 ≤ k) (h7 : k ≤ 7) : durT[k + 1]? = some (lform (sel k 3)) ∧ durU[k + 1]? = some ((sel k 3).map unitL) ∧ sel k 3 ≠ [] := by
  rcases (show k = 1 ∨ k = 2 ∨ k = 3 ∨ k = 4 ∨ k = 5 ∨ k = 6 ∨ k = 7 by omega) with rfl | rfl | rfl | rfl | rfl | rfl | rfl
  all_goals exact ⟨rfl, rfl, by decide⟩
theorem sel_len (k : Nat) : ∀ i, (sel k i).length ≤ i
  | 0 => Nat.le_refl _
  | i + 1 => by
    have := sel_len k i
    unfold sel
    split
    · simp; omega
    · omega
theorem lform_len : ∀ S : List Nat, (lform S).length = 2 * S.length
  | [] => rfl
  | c :: S => by
    show (lform S).length + 1 + 1 = _
    rw [lform_len S]
    simp only [List.length_cons]; omega
theorem lform_ok : ∀ S : List Nat, ∀ t, t ∈ lform S → TokOk t ∧ Small 9999999 t
  | [], t, h => by cases h
  | c :: S, t, h => by
    rcases List.mem_cons.1 h with rfl | h
    · exact ⟨Or.inr (Or.inl ⟨rfl, Or.inl rfl, by decide, by decide, by decide⟩), Or.inr ⟨Or.inl rfl, by decide, by decide⟩⟩
    · rcases List.mem_cons.1 h with rfl | h
      · exact ⟨Or.inl ⟨rfl, by show 1 ≤ 100; decide⟩, Or.inl rfl⟩
      · exact lform_ok S t h
theorem num_ok {lo hi : Int} {d : Nat} (h0 : lo = 0 ∨ lo = 1) (h1 : 0 ≤ hi) (h2 : hi ≤ 9999999) (h3 : d ≤ 13) : TokOk (numT lo hi d) ∧ Small 9999999 (numT lo hi d) := ⟨Or.inr (Or.inl ⟨rfl, h0, h1, by show hi ≤ _; omega, h3⟩), Or.inr ⟨Or.inl rfl, h1, h2⟩⟩
theorem pair_ok {hi : Int} (h1 : 0 ≤ hi) (h2 : hi ≤ 99) : TokOk (pairT hi) ∧ Small 9999999 (pairT hi) := ⟨Or.inr (Or.inr (Or.inl ⟨rfl, h1, h2⟩)), Or.inr ⟨Or.inr rfl, h1, by show hi ≤ _; omega⟩⟩
theorem colon_ok : TokOk (litT colon) ∧ Small 9999999 (litT colon) := ⟨Or.inl ⟨rfl, by decide⟩, Or.inl rfl⟩
theorem dur_ok {f : List Tok} (hf : f ∈ durT) : (∀ t, t ∈ f → TokOk t ∧ Small 9999999 t) ∧ f.length ≤ 6 := by
  simp only [durT, List.mem_cons, List.not_mem_nil, or_false] at hf
  rcases hf with rfl | rfl | h
  · refine ⟨fun t ht => ?_, by decide⟩
    simp only [shortT, List.mem_cons, List.not_mem_nil, or_false] at ht
    rcases ht with rfl | rfl | rfl
    · exact num_ok (Or.inl rfl) (by decide) (by decide) (by decide)
    · exact colon_ok
    · exact pair_ok (by decide) (by decide)
  · refine ⟨fun t ht => ?_, by decide⟩
    simp only [longT, List.mem_cons, List.not_mem_nil, or_false] at ht
    rcases ht with rfl | rfl | rfl | rfl | rfl
    · exact num_ok (Or.inr rfl) (by decide) (by decide) (by decide)
    · exact colon_ok
    · exact pair_ok (by decide) (by decide)
    · exact colon_ok
    · exact pair_ok (by decide) (by decide)
  · have : ∃ S : List Nat, f = lform S ∧ S.length ≤ 3 := by
      rcases h with rfl | rfl | rfl | rfl | rfl | rfl | rfl
      · exact ⟨_, rfl, by decide⟩
      · exact ⟨_, rfl, by decide⟩
      · exact ⟨_, rfl, by decide⟩
      · exact ⟨_, rfl, by decide⟩
      · exact ⟨_, rfl, by decide⟩
      · exact ⟨_, rfl, by decide⟩
      · exact ⟨_, rfl, by decide⟩
    obtain ⟨S, rfl, hS⟩ := this
    exact ⟨lform_ok S, by rw [lform_len]; omega⟩
/-- what a duration's values are like -/
theorem dur_vals {s : ByteArray} (h : 0 ≤ (firstT s durT 0 0).1) : ∃ k : Nat, (firstT s durT 0 0).1 = (k : Int) ∧ k < 9 ∧ (firstT s durT 0 0).2.1.length = (durU.getD k []).length ∧ (∀ v, v ∈ (firstT s durT 0 0).2.1 → 0 ≤ v ∧ v ≤ 9999999) := by
  obtain ⟨k, f, h1, h2, h3, h4⟩ := firstT_len durT h
  have hk : k < 9 := (List.getElem?_eq_some_iff.1 h1).1
  refine ⟨k, h2, hk, ?_, ?_⟩
  · rw [h4, matchT_len f 0 h3]
    have : durT[k]? = some f := h1
    rcases (show k = 0 ∨ k = 1 ∨ k = 2 ∨ k = 3 ∨ k = 4 ∨ k = 5 ∨ k = 6 ∨ k = 7 ∨ k = 8 by omega) with rfl | rfl | rfl | rfl | rfl | rfl | rfl | rfl | rfl
    all_goals
      injection h1 with h1
      subst h1
      rfl
  · rw [h4]
    exact matchT_vals f 0 (fun t ht => ((dur_ok (List.mem_of_getElem? h1)).1 t ht).2)
theorem durU_small {k : Nat} (hk : k < 9) : (∀ u, u ∈ durU.getD k [] → 0 ≤ u ∧ u ≤ 3600) ∧ (durU.getD k []).length ≤ 3 ∧ 0 < (durU.getD k []).length := by
  rcases (show k = 0 ∨ k = 1 ∨ k = 2 ∨ k = 3 ∨ k = 4 ∨ k = 5 ∨ k = 6 ∨ k = 7 ∨ k = 8 by omega) with rfl | rfl | rfl | rfl | rfl | rfl | rfl | rfl | rfl
  all_goals exact ⟨by decide, by decide, by decide⟩
end Rd

/- ReadDuration of the reference. -/
namespace Go.Proofs.YthimnjegacdhaaaGreatDoor
open Go.RowKit Go.BigFrame
open Rd (sB bt itoaB Tok TokOk matchT firstT tok0 durT durU refDur dotU shortT longT lform litT numT pairT byteT unitL sel letL bitOn)

theorem lt_of_block {w : World} {b : Nat} {o : Obj} (h : w.heap[b]? = some o) : b < w.heap.size := (Array.getElem?_eq_some_iff.1 h).1
theorem block_cell {w : World} {b i : Nat} {cs : Array Value} {T : TypeId} {v : Value} (h : w.heap[b]? = some (.cells cs T (0, 0))) (hv : cs[i]? = some v) : w.cell? ⟨b, i, none⟩ = some v := by simp [World.cell?, h, hv]
theorem alloc_block (w : World) (cs : Array Value) (T : TypeId) : ∃ W, w.alloc (.cells cs T) = W ∧ Below w.heap.size w W ∧ W.heap.size = w.heap.size + 1 ∧ W.heap[w.heap.size]? = some (.cells cs T (0, 0)) :=
  ⟨_, rfl, below_al _ _, by simp, heap_alloc_new w _⟩
theorem below_block {w w' : World} {b : Nat} {o : Obj} (hb : Below w.heap.size w w') (h : w.heap[b]? = some o) : w'.heap[b]? = some o := (hb.block b (lt_of_block h)).trans h
theorem addr_add0 (b j : Nat) : (⟨b, 0, none⟩ : Addr).add j = ⟨b, j, none⟩ := by
  unfold Addr.add
  split <;> simp_all
theorem flatN {β : Type} {f : β → List Value} {m : Nat} (d : β) (hf : ∀ q, (f q).length = m) : ∀ (l : List β) (k j : Nat), k < l.length → j < m → (l.flatMap f)[k * m + j]? = (f (l.getD k d))[j]?
  | [], k, j, h, _ => by simp at h
  | q :: l, 0, j, _, hj => by
    rw [List.flatMap_cons, Nat.zero_mul, Nat.zero_add, List.getElem?_append_left (by rw [hf]; exact hj)]
    rfl
  | q :: l, k + 1, j, h, hj => by
    rw [List.flatMap_cons, List.getElem?_append_right (by rw [hf, Nat.succ_mul]; omega), hf, show (k + 1) * m + j - m = k * m + j by rw [Nat.succ_mul]; omega]
    exact flatN d hf l k j (by simpa using h) hj
/-- a form in a block of its own -/
def FormBlk (w : World) (v : Value) (f : List Tok) : Prop := ∃ (b c : Nat) (cs : Array Value), v = .slice (some ⟨b, 0, none⟩) f.length c ∧ w.heap[b]? = some (.cells cs 57 (0, 0)) ∧ ∀ i j, i < f.length → j < 5 → cs[i * 5 + j]? = (tokCells (f.getD i tok0))[j]?
def UnitBlk (w : World) (v : Value) (us : List Int) : Prop := ∃ (b c : Nat) (cs : Array Value), v = .slice (some ⟨b, 0, none⟩) us.length c ∧ w.heap[b]? = some (.cells cs 3 (0, 0)) ∧ ∀ i, i < us.length → cs[i]? = some (.int .i64 (us.getD i 0))
/-- what lies in blocks of other types than e is as it was -/
def Still (e : TypeId) (w w' : World) : Prop := ∀ (b : Nat) (cs : Array Value) (T : TypeId) (fr : Nat × Nat), T ≠ e → w.heap[b]? = some (Obj.cells cs T fr) → w'.heap[b]? = some (Obj.cells cs T fr)
theorem Still.of_below {e : TypeId} {w w' : World} (h : Below w.heap.size w w') : Still e w w' := fun _ _ _ _ _ hb => below_block h hb
theorem Still.of_grown {e : TypeId} {w w' : World} {base size n : Nat} {v : Value} {xs : List Value} (ho : w.ownsRow base e size v n xs) (hg : w.grownBy w' v.ownBlock) : Still e w w' := fun b cs T fr hT hb => by
  have hk : Kept (fun k => v.ownBlock = some k) w w' := Kept.of_grown hg (fun g hg _ => hg)
  refine (hk.block b (lt_of_block hb) (fun hv => ?_)).trans hb
  obtain ⟨c, fz, hc⟩ := Lib.ownsRow_kind ho b hv
  rw [hb] at hc
  injection hc with hc
  injection hc with _ h2 _
  exact hT h2
theorem Still.trans {e : TypeId} {a b c : World} (h : Still e a b) (k : Still e b c) : Still e a c := fun x cs T fr hT hb => k x cs T fr hT (h x cs T fr hT hb)
theorem FormBlk.still {e : TypeId} {w w' : World} {v : Value} {f : List Tok} (h : FormBlk w v f) (hs : Still e w w') (he : 57 ≠ e) : FormBlk w' v f := by
  obtain ⟨b, c, cs, h1, h2, h3⟩ := h
  exact ⟨b, c, cs, h1, hs _ _ _ _ he h2, h3⟩
theorem UnitBlk.still {e : TypeId} {w w' : World} {v : Value} {us : List Int} (h : UnitBlk w v us) (hs : Still e w w') (he : 3 ≠ e) : UnitBlk w' v us := by
  obtain ⟨b, c, cs, h1, h2, h3⟩ := h
  exact ⟨b, c, cs, h1, hs _ _ _ _ he h2, h3⟩
theorem FormBlk.below {w w' : World} {v : Value} {f : List Tok} (h : FormBlk w v f) (hb : Below w.heap.size w w') : FormBlk w' v f := by
  obtain ⟨b, c, cs, h1, h2, h3⟩ := h
  exact ⟨b, c, cs, h1, below_block hb h2, h3⟩
theorem UnitBlk.below {w w' : World} {v : Value} {us : List Int} (h : UnitBlk w v us) (hb : Below w.heap.size w w') : UnitBlk w' v us := by
  obtain ⟨b, c, cs, h1, h2, h3⟩ := h
  exact ⟨b, c, cs, h1, below_block hb h2, h3⟩
theorem FormBlk.form {w : World} {v : Value} {f : List Tok} (h : FormBlk w v f) : ∃ a c, v = .slice a f.length c ∧ FormIn w a f := by
  obtain ⟨b, c, cs, h1, h2, h3⟩ := h
  refine ⟨_, c, h1, ⟨fun hl => ⟨b, 0, rfl, lt_of_block h2, fun i hi j hj => ?_⟩⟩⟩
  rw [Nat.zero_add]
  have hv : ∃ v, (tokCells (f.getD i tok0))[j]? = some v := ⟨_, List.getElem?_eq_getElem (by show j < 5; omega)⟩
  obtain ⟨v, hv⟩ := hv
  show w.cell? _ = (tokCells (f.getD i tok0))[j]?
  rw [hv]
  exact block_cell h2 (by rw [h3 i j hi hj, hv])
/-- the forms and the units, as they lie in memory -/
structure Durs (base : Nat) (w : World) (k : Nat) (v6 v7 : Value) : Prop where
  f : ∃ vf : List Value, w.ownsRow base 54 1 v6 k vf ∧ ∀ j, j < k → ∃ v f, vf[j]? = some v ∧ durT[j]? = some f ∧ FormBlk w v f
  u : ∃ vu : List Value, w.ownsRow base 63 1 v7 k vu ∧ ∀ j, j < k → ∃ v us, vu[j]? = some v ∧ durU[j]? = some us ∧ UnitBlk w v us
theorem Durs.below {base k : Nat} {w w' : World} {v6 v7 : Value} (h : Durs base w k v6 v7) (hb : Below w.heap.size w w') : Durs base w' k v6 v7 := by
  obtain ⟨⟨vf, h1, h2⟩, ⟨vu, h3, h4⟩⟩ := h
  refine ⟨⟨vf, ownsRow_below h1 hb, fun j hj => ?_⟩, ⟨vu, ownsRow_below h3 hb, fun j hj => ?_⟩⟩
  · obtain ⟨v, f, a, b, c⟩ := h2 j hj
    exact ⟨v, f, a, b, c.below hb⟩
  · obtain ⟨v, f, a, b, c⟩ := h4 j hj
    exact ⟨v, f, a, b, c.below hb⟩
theorem own_open {w : World} {b e k n : Nat} {v : Value} {xs : List Value} (h : w.ownsRow b e k v n xs) (hn : 0 < n) : ∃ g c, v = .slice (some ⟨g, 0, none⟩) n c := by
  rcases h.2 with ⟨_, h0⟩ | ⟨g, cap, cur, e, _⟩
  · omega
  · exact ⟨g, cap, e⟩
theorem own_cur {w : World} {b e k n : Nat} {v : Value} {xs : List Value} (h : w.ownsRow b e k v n xs) (hn : 0 < n) : ∃ (g c : Nat) (cs : Array Value), v = .slice (some ⟨g, 0, none⟩) n c ∧ w.heap[g]? = some (.cells cs e (0, 0)) ∧ ∀ j, j < n * k → cs[j]? = xs[j]? := by
  rcases h.2 with ⟨_, h0⟩ | ⟨g, cap, cur, e, _, h3, _, _, _, h7⟩
  · omega
  · refine ⟨g, cap, cur, e, h3, fun j hj => ?_⟩
    rw [← h7, List.getElem?_take_of_lt hj]
    simp
theorem form_of_own {w : World} {b : Nat} {v : Value} {f : List Tok} (h : w.ownsRow b 57 5 v f.length (f.flatMap tokCells)) (hn : 0 < f.length) : FormBlk w v f := by
  obtain ⟨g, c, cs, h1, h2, h3⟩ := own_cur h hn
  refine ⟨g, c, cs, h1, h2, fun i j hi hj => ?_⟩
  rw [h3 (i * 5 + j) (by omega)]
  exact flatN (f := tokCells) (m := 5) tok0 (fun _ => rfl) f i j hi hj
theorem unit_of_own {w : World} {b : Nat} {v : Value} {us : List Int} (h : w.ownsRow b 3 1 v us.length (us.map (.int .i64))) (hn : 0 < us.length) : UnitBlk w v us := by
  obtain ⟨g, c, cs, h1, h2, h3⟩ := own_cur h hn
  refine ⟨g, c, cs, h1, h2, fun i hi => ?_⟩
  rw [h3 i (by omega)]
  simp [List.getD_eq_getElem?_getD, List.getElem?_eq_getElem hi]
theorem own_ne {w : World} {b b' e e' k k' n n' : Nat} {v v' : Value} {xs xs' : List Value} (h : w.ownsRow b e k v n xs) (h' : w.ownsRow b' e' k' v' n' xs') (hne : e ≠ e') : v'.ownBlock = none ∨ v'.ownBlock ≠ v.ownBlock := by
  cases hv : v'.ownBlock with
  | none => exact Or.inl rfl
  | some g =>
    refine Or.inr fun hx => ?_
    obtain ⟨c, fz, h1⟩ := Lib.ownsRow_kind h g hx.symm
    obtain ⟨c', fz', h2⟩ := Lib.ownsRow_kind h' g hv
    rw [h1] at h2
    injection h2 with h2
    injection h2 with _ h2 _
    exact hne h2
end Go.Proofs.YthimnjegacdhaaaGreatDoor

/- ReadDate of both. -/
namespace Go.Proofs.YthimnjegacdhaaaGreatDoor
open Go.RowKit Go.BigFrame
open Rd (dateT dateF refDate firstT matchT pairT litT tok0 Tok TokOk)

def rowFn (B : Nat) : Value := .func (.func 84) #[] #[.pointer (some ⟨B + 4, 0, none⟩), .pointer (some ⟨B + 5, 0, none⟩), .pointer (some ⟨B + 3, 0, none⟩)]
set_option maxHeartbeats 2000000 in
set_option maxRecDepth 100000 in
theorem date_form : FormOk 52 Rd.dateF := by
  intro B s w h hs
  have hsz := h.size
  have hR0 := h.boxed (.cells (rdVals B) 49)
  have hK0 := (Kp.refl B w).alloc (.cells (rdVals B) 49)
  have hX := isBox_new w B 49
  have HX := Lib.hid hX
  have k1 : (w.alloc (.cells (rdVals B) 49)).cell? ⟨w.heap.size, 1, none⟩ = some (rowFn B) := cell_box 1 _ rfl
  have K1 := Lib.hid k1
  unfold rowFn at k1
  clear hX
  have hrow := Lib.hid (fun w (h : IsRd w B s 0 true) => row_any 4 4 w h (by omega) (by omega))
  rw [Bool.true_and] at hrow
  generalize hy : Rd.rowAt s 4 true 0 = y at hrow
  have hex := Lib.hid (fun w (h : IsRd w B s y.2.2 (decide (4 ≤ y.2.1))) => exact_any Rd.dash w h (by omega) (by decide))
  generalize ha : Rd.exactAt s Rd.dash y.2.2 (decide (4 ≤ y.2.1)) = a at hex
  have hrow2 := Lib.hid (fun w (h : IsRd w B s a.1 a.2) => row_any 2 2 w h (by omega) (by omega))
  generalize hm : Rd.rowAt s 2 a.2 a.1 = m at hrow2
  have hex2 := Lib.hid (fun w (h : IsRd w B s m.2.2 (a.2 && decide (2 ≤ m.2.1))) => exact_any Rd.dash w h (by omega) (by decide))
  generalize hb : Rd.exactAt s Rd.dash m.2.2 (a.2 && decide (2 ≤ m.2.1)) = b at hex2
  have hrow3 := Lib.hid (fun w (h : IsRd w B s b.1 b.2) => row_any 2 2 w h (by omega) (by omega))
  generalize hd : Rd.rowAt s 2 b.2 b.1 = d at hrow3
  have HF := Lib.hid (show Rd.dateF s = (if (Cal.dayOfF y.1 m.1 d.1).2 = 0 then (Cal.dayOfF y.1 m.1 d.1).1 else -1, d.2.2, b.2 && decide (2 ≤ d.2.1)) by unfold Rd.dateF; simp only [hy, ha, hm, hb, hd])
  rw [HF.out]
  have DD := Lib.hid (fun W => dayOf_any y.1 m.1 d.1 W)
  obtain ⟨r, hr⟩ : ∃ r, Cal.dayOfF y.1 m.1 d.1 = r := ⟨_, rfl⟩
  rw [hr] at DD ⊢
  unfold scRet at DD
  clear HF hy ha hm hb hd hr
  obtain ⟨yv, yk, yp⟩ := y
  obtain ⟨mv, mk, mp⟩ := m
  obtain ⟨dv, dk, dp⟩ := d
  simp only at hrow hex hrow2 hex2 hrow3 DD ⊢
  have hK0' := Lib.hid hK0
  have hR0' := Lib.hid hR0
  clear hK0 hR0 h
  go_enter Tryz.func52, Tryz.ntmps52
  go_wp2_with fail
  refine (hrow.out _ hR0'.out).mono ?_
  rintro e w1 ⟨rfl, hR1, hK1⟩
  have HX1 := Lib.hid (HX.out.kp hK1 (by omega))
  have KK1 := Lib.hid (IsRd.of_kp hK1 K1.out (by omega) (by omega))
  have k3 := HX1.out.exact_
  unfold exactF at k3
  have HR1 := Lib.hid hR1
  have HK1 := Lib.hid (hK0'.out.trans hK1)
  clear hR1 hK1 k1 HX K1
  go_wp2_with fail
  refine (hex.out _ HR1.out).mono ?_
  rintro e w2 ⟨rfl, hR2, hK2⟩
  have HX2 := Lib.hid (HX1.out.kp hK2 (by omega))
  have KK2 := Lib.hid (IsRd.of_kp hK2 KK1.out (by omega) (by omega))
  have k1 := KK2.out
  unfold rowFn at k1
  have HR2 := Lib.hid hR2
  have HK2 := Lib.hid (HK1.out.trans hK2)
  clear hR2 hK2 k3 HX1 KK1
  go_wp2_with fail
  refine (hrow2.out _ HR2.out).mono ?_
  rintro e w3 ⟨rfl, hR3, hK3⟩
  have HX3 := Lib.hid (HX2.out.kp hK3 (by omega))
  have KK3 := Lib.hid (IsRd.of_kp hK3 KK2.out (by omega) (by omega))
  have k3 := HX3.out.exact_
  unfold exactF at k3
  have HR3 := Lib.hid hR3
  have HK3 := Lib.hid (HK2.out.trans hK3)
  clear hR3 hK3 k1 HX2 KK2
  go_wp2_with fail
  refine (hex2.out _ HR3.out).mono ?_
  rintro e w4 ⟨rfl, hR4, hK4⟩
  have KK4 := Lib.hid (IsRd.of_kp hK4 KK3.out (by omega) (by omega))
  have k1 := KK4.out
  unfold rowFn at k1
  have HR4 := Lib.hid hR4
  have HK4 := Lib.hid (HK3.out.trans hK4)
  clear hR4 hK4 k3 HX3 KK3
  go_wp2_with fail
  refine (hrow3.out _ HR4.out).mono ?_
  rintro e w5 ⟨rfl, hR5, hK5⟩
  have HR5 := Lib.hid hR5
  have HK5 := Lib.hid (HK4.out.trans hK5)
  clear hR5 hK5 k1 KK4
  obtain ⟨rn, re⟩ := r
  simp only at DD ⊢
  go_upto_region 7 with (go_at_call 16; refine (DD.out _).mono ?_; rintro e w6 ⟨rfl, rfl⟩)
  by_cases hz : re = 0
  · have b1 : (re == 0) = true := by simpa using hz
    have b2 : (re != 0) = false := by rw [bne, b1]; rfl
    have HZ := Lib.hid hz
    clear hz
    go_wp2
    go_ret
    exact ⟨by first | rfl | (rw [if_pos HZ.out]; rfl), HR5.out, HK5.out⟩
  · have b1 : (re == 0) = false := by simpa using hz
    have b2 : (re != 0) = true := by rw [bne, b1]; rfl
    have HZ := Lib.hid hz
    clear hz
    go_wp2
    go_ret
    exact ⟨by first | rfl | (rw [if_neg HZ.out]; rfl), HR5.out, HK5.out⟩
theorem date_isForm (j : Nat) (_ : j < 1) : IsForm 52 Rd.dateF := ⟨fun _ _ => by kernel_rfl, date_form⟩
def readDateP (s : ByteArray) : Int × Nat × Int := Rd.ranged (Rd.readForms s [Rd.dateF]) 0 999999
theorem readDate_any (s : ByteArray) (w : World) (hs : s.size ≤ 9223372036854775807) :
    Calls Tryz.prog 22 #[.string s] w fun r w' => r = .returned (.tuple #[.int .i64 (readDateP s).1, .int .i64 (readDateP s).2.1, .int .i64 (readDateP s).2.2]) ∧ Below w.heap.size w w' := by
  obtain ⟨z, hz⟩ : ∃ z, Rd.readForms s ((List.range 1).map fun _ => Rd.dateF) = z := ⟨_, rfl⟩
  have hrf := fun (w : World) (R : Nat) (hR : R < w.heap.size) hf => readForms_any s w R 1 (fun _ => 52) (fun _ => Rd.dateF) (by omega) hR hf date_isForm hs z hz
  have Hrf := Lib.hid hrf
  have hd : readDateP s = Rd.ranged z 0 999999 := by rw [← hz]; rfl
  rw [hd]
  obtain ⟨n, a, e⟩ := z
  have hra := Lib.hid (ranged_any n e 0 999999 a)
  generalize Rd.ranged (n, a, e) 0 999999 = y at hra ⊢
  clear hz hd hrf
  go_enter Tryz.func22, Tryz.ntmps22
  go_wp2_with fail
  refine (Hrf.out _ w.heap.size (by simp) ?hf).mono ?_
  case hf =>
    intro j hj
    rw [World.cell?_alloc_at _ _ _ _ rfl]
    obtain rfl : j = 0 := by omega
    rfl
  rintro r w1 ⟨rfl, hb1⟩
  have HB := Lib.hid (((Below.refl w.heap.size w).alloc (Nat.le_refl _) _).trans (hb1.mono (by simp)))
  clear hb1
  go_wp2_with fail
  refine (hra.out _).mono ?_
  rintro r w2 ⟨rfl, rfl⟩
  go_wp2
  go_ret3
  exact ⟨rfl, HB.out⟩
/-! ### of the reference -/
theorem dateForm_any (w : World) : Calls Tryz.prog 53 #[] w fun e w' => ∃ q, e = .returned (.slice (some ⟨q, 0, none⟩) 6 6) ∧ FormBlk w' (.slice (some ⟨q, 0, none⟩) 6 6) dateT ∧ Below w.heap.size w w' := by
  have DP : Hid (∀ W : World, Calls Tryz.prog 40 #[.int .i64 99] W fun e w' => e = .returned (.agg #[.int .i64 3, .string ⟨#[]⟩, .int .i64 0, .int .i64 99, .int .i64 0]) ∧ Below W.heap.size W w') := Lib.hid (fun W => rpair_any 99 W)
  have DL : Hid (∀ W : World, Calls Tryz.prog 39 #[.string ⟨#[45]⟩] W fun e w' => e = .returned (.agg #[.int .i64 1, .string ⟨#[45]⟩, .int .i64 0, .int .i64 0, .int .i64 0]) ∧ Below W.heap.size W w') := Lib.hid (fun W => lit_any ⟨#[45]⟩ W)
  have DF := Lib.hid (fun (v : Value) (W : World) => form_any v W)
  go_enter Tryz.func53, Tryz.ntmps53
  go_wp2_with fail
  refine (DP.out _).mono ?_
  rintro e w1 ⟨rfl, hb1⟩
  go_wp2_with fail
  refine (DP.out _).mono ?_
  rintro e w2 ⟨rfl, hb2⟩
  go_wp2_with fail
  refine (DL.out _).mono ?_
  rintro e w3 ⟨rfl, hb3⟩
  go_wp2_with fail
  refine (DP.out _).mono ?_
  rintro e w4 ⟨rfl, hb4⟩
  go_wp2_with fail
  refine (DL.out _).mono ?_
  rintro e w5 ⟨rfl, hb5⟩
  go_wp2_with fail
  refine (DP.out _).mono ?_
  rintro e w6 ⟨rfl, hb6⟩
  go_wp2_with fail
  refine (DF.out _ _).mono ?_
  rintro e _ ⟨rfl, rfl⟩
  obtain ⟨V, hV, hvb, _, hvq⟩ := alloc_block w6 #[.int .i64 3, .string ⟨#[]⟩, .int .i64 0, .int .i64 99, .int .i64 0, .int .i64 3, .string ⟨#[]⟩, .int .i64 0, .int .i64 99, .int .i64 0, .int .i64 1, .string ⟨#[45]⟩, .int .i64 0, .int .i64 0, .int .i64 0, .int .i64 3, .string ⟨#[]⟩, .int .i64 0, .int .i64 99, .int .i64 0, .int .i64 1, .string ⟨#[45]⟩, .int .i64 0, .int .i64 0, .int .i64 0, .int .i64 3, .string ⟨#[]⟩, .int .i64 0, .int .i64 99, .int .i64 0] 57
  rw [hV]
  have HB := Lib.hid (below_step hb1 (below_step hb2 (below_step hb3 (below_step hb4 (below_step hb5 (below_step hb6 hvb))))))
  have HFB : Hid (FormBlk V (.slice (some ⟨w6.heap.size, 0, none⟩) 6 6) dateT) := Lib.hid ⟨w6.heap.size, 6, _, rfl, hvq, fun i j hi hj => by
    have hi : i < 6 := hi
    match i, hi, j, hj with
    | 0, _, 0, _ | 0, _, 1, _ | 0, _, 2, _ | 0, _, 3, _ | 0, _, 4, _ | 1, _, 0, _ | 1, _, 1, _ | 1, _, 2, _ | 1, _, 3, _ | 1, _, 4, _ | 2, _, 0, _ | 2, _, 1, _ | 2, _, 2, _ | 2, _, 3, _ | 2, _, 4, _ | 3, _, 0, _ | 3, _, 1, _ | 3, _, 2, _ | 3, _, 3, _ | 3, _, 4, _ | 4, _, 0, _ | 4, _, 1, _ | 4, _, 2, _ | 4, _, 3, _ | 4, _, 4, _ | 5, _, 0, _ | 5, _, 1, _ | 5, _, 2, _ | 5, _, 3, _ | 5, _, 4, _ => rfl⟩
  obtain ⟨q, hq⟩ : ∃ q, w6.heap.size = q := ⟨_, rfl⟩
  rw [hq] at HFB ⊢
  clear hb1 hb2 hb3 hb4 hb5 hb6 hV hvb hvq hq
  go_wp2_with fail
  go_ret
  exact ⟨q, rfl, HFB.out, HB.out⟩
theorem date_ok : ∀ t, t ∈ dateT → TokOk t ∧ Rd.Small 99 t := by
  intro t ht
  simp only [dateT, List.mem_cons, List.not_mem_nil, or_false] at ht
  have hp : TokOk (pairT 99) ∧ Rd.Small 99 (pairT 99) := ⟨Or.inr (Or.inr (Or.inl ⟨rfl, by decide, by decide⟩)), Or.inr ⟨Or.inr rfl, by decide, by decide⟩⟩
  have hl : TokOk (litT Rd.dash) ∧ Rd.Small 99 (litT Rd.dash) := ⟨Or.inl ⟨rfl, by decide⟩, Or.inl rfl⟩
  rcases ht with rfl | rfl | rfl | rfl | rfl | rfl
  · exact hp
  · exact hp
  · exact hl
  · exact hp
  · exact hl
  · exact hp
theorem date_vals {s : ByteArray} (h : 0 ≤ (firstT s [dateT] 0 0).1) : ∃ a b m d, (firstT s [dateT] 0 0).2.1 = [a, b, m, d] ∧ (0 ≤ a ∧ a ≤ 99) ∧ (0 ≤ b ∧ b ≤ 99) ∧ (0 ≤ m ∧ m ≤ 99) ∧ 0 ≤ d ∧ d ≤ 99 := by
  obtain ⟨k, f, h1, h2, h3, h4⟩ := Rd.firstT_len [dateT] h
  have hk : k = 0 := by
    have := (List.getElem?_eq_some_iff.1 h1).1
    simp at this
    exact this
  subst hk
  injection h1 with h1
  subst h1
  have hl := Rd.matchT_len dateT 0 h3
  have hv := Rd.matchT_vals (s := s) (M := 99) dateT 0 (fun t ht => (date_ok t ht).2)
  rw [h4]
  have hn : Rd.nVals dateT = 4 := rfl
  rw [hn] at hl
  match hL : (matchT s dateT 0).2.1, hl with
  | [a, b, m, d], _ =>
    rw [hL] at hv
    exact ⟨a, b, m, d, rfl, hv a (by simp), hv b (by simp), hv m (by simp), hv d (by simp)⟩
set_option maxHeartbeats 4000000 in
set_option maxRecDepth 100000 in
theorem rReadDate_any (s : ByteArray) (w : World) (hg : Glo w) (hs : s.size ≤ 9223372036854775807) :
    Calls Tryz.prog 23 #[.string s] w fun e w' => e = .returned (.tuple #[.int .i64 (refDate s).1, .int .i64 (refDate s).2.1, .int .i64 (refDate s).2.2]) ∧ Below w.heap.size w w' := by
  by_cases hz : 1000 < s.size
  · have t1 : decide ((1000 : Int) < (s.size : Int)) = true := by rw [decide_eq_true_eq]; omega
    have t2 : decide (1000 < s.size) = true := by simpa using hz
    have HX := Lib.hid (show refDate s = (0, 0, 3) by unfold refDate; rw [if_pos hz])
    clear hz
    go_enter Tryz.func23, Tryz.ntmps23
    go_wp2_with fail
    go_ret3
    exact ⟨by rw [HX.out]; rfl, Below.refl _ _⟩
  have t1 : decide ((1000 : Int) < (s.size : Int)) = false := by rw [decide_eq_false_iff_not]; omega
  have t2 : decide (1000 < s.size) = false := by simpa using hz
  have DF := Lib.hid (fun (W : World) => dateForm_any W)
  have HRD := Lib.hid (show refDate s = if (firstT s [dateT] 0 0).1 < 0 then (0, (firstT s [dateT] 0 0).2.2, 6) else (if (Cal.rdayOfF (100 * (firstT s [dateT] 0 0).2.1.getD 0 0 + (firstT s [dateT] 0 0).2.1.getD 1 0) ((firstT s [dateT] 0 0).2.1.getD 2 0) ((firstT s [dateT] 0 0).2.1.getD 3 0)).2 = 0 then ((Cal.rdayOfF (100 * (firstT s [dateT] 0 0).2.1.getD 0 0 + (firstT s [dateT] 0 0).2.1.getD 1 0) ((firstT s [dateT] 0 0).2.1.getD 2 0) ((firstT s [dateT] 0 0).2.1.getD 3 0)).1, 0, 0) else (0, 0, 9)) by unfold refDate; rw [if_neg hz])
  have HV := Lib.hid (date_vals (s := s))
  have HZ := Lib.hid hz
  clear hz
  go_enter Tryz.func23, Tryz.ntmps23
  go_wp2_with fail
  refine (DF.out _).mono ?_
  rintro e w1 ⟨q, rfl, hfb, hb1⟩
  obtain ⟨V, hV, hvb, hvs, hvq⟩ := alloc_block w1 #[.slice (some ⟨q, 0, none⟩) 6 6] 54
  have hFI : FormsIn V (some ⟨w1.heap.size, 0, none⟩) [dateT] := fun j f hf => by
    have hj : j = 0 := by
      have := (List.getElem?_eq_some_iff.1 hf).1
      simp at this
      exact this
    subst hj
    injection hf with hf
    subst hf
    obtain ⟨aj, cj, he, h4⟩ := (hfb.below hvb).form
    injection he with he1 he2 he3
    subst he1
    subst he3
    exact ⟨w1.heap.size, 0, _, _, rfl, lt_of_block hvq, block_cell hvq rfl, h4, fun t ht => (date_ok t ht).1, by decide⟩
  have HBV := Lib.hid (below_step hb1 hvb)
  have D1 := Lib.hid (first_any s [dateT] (some ⟨w1.heap.size, 0, none⟩) 1 V (by have := HZ.out; omega) hFI (by decide) (hg.below HBV.out))
  unfold FirstRet at D1
  obtain ⟨F, hF⟩ : ∃ F, firstT s [dateT] 0 0 = F := ⟨_, rfl⟩
  rw [hF] at D1 HRD HV
  obtain ⟨n, L, far⟩ := F
  simp only at D1 HRD HV
  have hw1 := HBV.out.size
  clear hF hFI hfb hb1 hvb hvs hvq
  go_upto_region 4 with (go_at_call 43; refine D1.out.mono ?_; rintro e w5 ⟨lv, rfl, hb5, hown⟩)
  have HB5 := Lib.hid (HBV.out.trans (hb5.mono hw1))
  by_cases hneg : n < 0
  case pos =>
    have n1 : decide (n < 0) = true := by simpa using hneg
    have HX := Lib.hid (HRD.out.trans (if_pos hneg))
    clear HRD HV hown hb5 hneg hV
    go_wp2_with fail
    go_ret3
    exact ⟨by rw [HX.out]; rfl, HB5.out⟩
  case neg =>
  have n1 : decide (n < 0) = false := by simpa using hneg
  obtain ⟨a, b, m, d, rfl, ha, hb, hm, hd⟩ := HV.out (by omega)
  have HO := hown (by omega)
  obtain ⟨g, c, rfl⟩ := own_open HO (show 0 < 4 by omega)
  have e0 := HO.cells (g := g) rfl 0 (.int .i64 a) rfl
  have e1 := HO.cells (g := g) rfl 1 (.int .i64 b) rfl
  have e2 := HO.cells (g := g) rfl 2 (.int .i64 m) rfl
  have e3 := HO.cells (g := g) rfl 3 (.int .i64 d) rfl
  rw [addr_add0] at e0 e1 e2 e3
  have E0 := Ext.ex e0
  have E1 := Ext.ex e1
  have E2 := Ext.ex e2
  have E3 := Ext.ex e3
  have hr := HRD.out
  rw [if_neg hneg] at hr
  simp only [List.getD_cons_zero, List.getD_cons_succ] at hr
  have HR := Lib.hid hr
  have DD := Lib.hid (fun (X : Ext w5) => Ext.same X (rdayOf_any (100 * a + b) m d X.1))
  obtain ⟨r, hrr⟩ : ∃ r, Cal.rdayOfF (100 * a + b) m d = r := ⟨_, rfl⟩
  rw [hrr] at HR DD
  obtain ⟨rn, re⟩ := r
  simp only at HR DD
  clear hrr hr HRD HV HO hown hneg e0 e1 e2 e3 hV hb5
  go_upto_region 6 with fail
  refine ext_wp fun Y => ?_
  refine wp_region_ext Y (by kernel_rfl) (by kernel_rfl) ?_
  repeat (go_big_quiet_step ((first
    | (go_at_call 17; with_reducible exact DD.out _))))
  refine wpQuiet_nil ?_
  intro _ hw'
  obtain ⟨Z, rfl⟩ := hw'
  by_cases hz0 : re = 0
  · have b1 : (re == 0) = true := by simpa using hz0
    have b2 : (re != 0) = false := by rw [bne, b1]; rfl
    have HX := Lib.hid (HR.out.trans (if_pos hz0))
    clear hz0 HR
    go_wp2_with fail
    go_ret3
    exact ⟨by rw [HX.out]; rfl, Z.down HB5.out HB5.out.size⟩
  · have b1 : (re == 0) = false := by simpa using hz0
    have b2 : (re != 0) = true := by rw [bne, b1]; rfl
    have HX := Lib.hid (HR.out.trans (if_neg hz0))
    clear hz0 HR
    go_wp2_with fail
    go_ret3
    exact ⟨by rw [HX.out]; rfl, Z.down HB5.out HB5.out.size⟩
end Go.Proofs.YthimnjegacdhaaaGreatDoor

/- The walk of the law of days. -/
namespace Go.Proofs.YthimnjegacdhaaaGreatDoor
open Go.RowKit Go.BigFrame

set_option maxHeartbeats 4000000 in
set_option maxRecDepth 100000 in
theorem days_law (day year month date : Int) (s : ByteArray) (w : World) (hs : s.size ≤ 9223372036854775807) (hg : Glo w) :
    Calls Tryz.prog 4 #[.int .i64 day, .int .i64 year, .int .i64 month, .int .i64 date, .string s] w fun e w' => e = .returned (.bool true) ∧ Below w.heap.size w w' := by
  have D1 := Lib.hid (fun W => dayOf_any year month date W)
  have D2 := Lib.hid (fun W => rdayOf_any year month date W)
  rw [← Cal.dayOf_eq] at D2
  have D3 := Lib.hid (fun W => dateOfP_any day W)
  have D4 := Lib.hid (fun W => rdateOfP_any day W)
  have D5 := Lib.hid (fun W (h : Below w.heap.size w W) => dateText_any day W (hg.below h))
  have D6 := Lib.hid (fun W (h : Below w.heap.size w W) => rDateText_any day W (hg.below h))
  have D7 := Lib.hid (fun W => readDate_any s W hs)
  have D8 := Lib.hid (fun W (h : Below w.heap.size w W) => rReadDate_any s W (hg.below h) hs)
  have he : Rd.refDate s = readDateP s := Rd.date_eq s
  rw [he] at D8
  have D9 := Lib.hid (fun W => told_any W)
  unfold scRet at D1 D2
  unfold quad at D3 D4
  obtain ⟨r1, h1⟩ : ∃ r, Cal.dayOfF year month date = r := ⟨_, rfl⟩
  obtain ⟨r2, h2⟩ : ∃ r, dateOfF day = r := ⟨_, rfl⟩
  obtain ⟨r3, h3⟩ : ∃ r, dateTextR day = r := ⟨_, rfl⟩
  obtain ⟨r4, h4⟩ : ∃ r, readDateP s = r := ⟨_, rfl⟩
  rw [h1] at D1 D2
  rw [h2] at D3 D4
  rw [h3] at D5 D6
  rw [h4] at D7 D8
  obtain ⟨a1, a2⟩ := r1
  obtain ⟨b1, b2, b3, b4⟩ := r2
  obtain ⟨t, c2⟩ := r3
  obtain ⟨d1, d2, d3⟩ := r4
  simp only at D1 D2 D3 D4 D5 D6 D7 D8
  have ht : (t.toList == t.toList) = true := by simp
  clear he h1 h2 h3 h4 hg
  go_enter Tryz.func4, Tryz.ntmps4
  go_upto_region 2 with (go_at_call 16; refine (D1.out _).mono ?_; rintro e _ ⟨rfl, rfl⟩)
  go_upto_region 3 with (go_at_call 17; refine (D2.out _).mono ?_; rintro e _ ⟨rfl, rfl⟩)
  go_upto_region 4 with (go_at_call 18; refine (D3.out _).mono ?_; rintro e _ ⟨rfl, rfl⟩)
  go_upto_region 5 with (go_at_call 19; refine (D4.out _).mono ?_; rintro e w0 ⟨rfl, rfl⟩)
  go_upto_region 6 with (go_at_call 20; refine (D5.out _ (Below.refl _ _)).mono ?_; rintro e w1 ⟨rfl, hb1⟩)
  go_upto_region 7 with (go_at_call 21; refine (D6.out w1 hb1).mono ?_; rintro e w2 ⟨rfl, hb2⟩)
  have HB2 := Lib.hid (below_step hb1 hb2)
  clear hb1 hb2
  go_upto_region 8 with (go_at_call 22; refine (D7.out w2).mono ?_; rintro e w3 ⟨rfl, hb3⟩)
  have HB3 := Lib.hid (below_step HB2.out hb3)
  clear hb3
  go_upto_region 9 with (go_at_call 23; refine (D8.out w3 HB3.out).mono ?_; rintro e w4 ⟨rfl, hb4⟩)
  have HB4 := Lib.hid (below_step HB3.out hb4)
  clear hb4
  go_wp2_with (go_at_call 15; refine (D9.out w4).mono ?_; rintro e w5 ⟨rfl, hb5⟩)
  go_ret
  exact ⟨rfl, below_step HB4.out hb5⟩
end Go.Proofs.YthimnjegacdhaaaGreatDoor
