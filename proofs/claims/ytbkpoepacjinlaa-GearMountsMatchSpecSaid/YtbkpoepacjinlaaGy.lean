/- Gear: In of the program and of the reference (printed by wip/g/gen_in2.py). -/
import Derived.Test.YtbkpoepacjinlaaGz
namespace Go.Proofs.Ytbkpoepacjinlaa
open Go.RowKit Go.BigFrame
open Gar (momG endG chk chkP hasS hasP)

/-- what In returns -/
def InS (g : Gar) (slot : ByteArray) (m : Int) : ByteArray × Bool × Int :=
  if chk g ≠ 0 then (⟨#[]⟩, false, chk g) else if hasS g slot = false then (⟨#[]⟩, false, 4) else if momG m = false then (⟨#[]⟩, false, 9) else ((inR (inF g slot m g.nm 0)).1, (inR (inF g slot m g.nm 0)).2, 0)
def tri (x : ByteArray × Bool × Int) : Value := .tuple #[.string x.1, .bool x.2.1, .int .i64 x.2.2]
theorem ret_tri {a b : ByteArray × Bool × Int} (h : a = b) : Ending.returned (tri a) = .returned (tri b) := by rw [h]
theorem chkP_each {g : Gar} : ∀ (n k : Nat), chkP g n k = 0 → ∀ i, k ≤ i → i < k + n → nameB (g.pn i) = true
  | 0, k, _, i, h1, h2 => by omega
  | n + 1, k, h, i, h1, h2 => by
    rw [chkP] at h
    split at h
    · omega
    · split at h
      · omega
      · split at h
        · omega
        · rename_i a b c
          by_cases e : i = k
          · subst e; simpa using a
          · exact chkP_each n (k + 1) h i (by omega) (by omega)
theorem inF_some {g : Gar} {slot : ByteArray} {m : Int} {p : ByteArray} : ∀ (n k : Nat), inF g slot m n k = some p → ∃ i, k ≤ i ∧ i < k + n ∧ g.mp i = p
  | 0, k, h => by simp [inF] at h
  | n + 1, k, h => by
    rw [inF] at h
    split at h
    · injection h with h
      exact ⟨k, by omega, by omega, h⟩
    · obtain ⟨i, h1, h2, h3⟩ := inF_some n (k + 1) h
      exact ⟨i, by omega, by omega, h3⟩
/-- what is in a slot has a name -/
theorem in_name {g : Gar} (h : chk g = 0) {slot : ByteArray} {m : Int} : (!(inR (inF g slot m g.nm 0)).1.toList.isEmpty) = (inR (inF g slot m g.nm 0)).2 := by
  cases ho : inF g slot m g.nm 0 with
  | none =>
    show (!(ByteArray.toList ⟨#[]⟩).isEmpty) = false
    rw [ByteArray.toList_eq]
    rfl
  | some p =>
    obtain ⟨i, _, h2, rfl⟩ := inF_some _ _ ho
    obtain ⟨_, _, _, _, hp, _, hm, _, _⟩ := Gar.chk_parts h
    have h3 := (Gar.chkM_each g.nm 0 hm i (by omega) (by omega)).1.2
    unfold hasP at h3
    rw [List.any_eq_true] at h3
    obtain ⟨j, hj, hje⟩ := h3
    rw [decide_eq_true_eq] at hje
    have h4 := chkP_each g.np 0 hp j (by omega) (by have := List.mem_range.1 hj; omega)
    rw [hje] at h4
    unfold nameB at h4
    rw [Bool.and_eq_true, Bool.and_eq_true, decide_eq_true_eq] at h4
    have h5 := h4.1.1
    show (!(g.mp i).toList.isEmpty) = true
    rw [ByteArray.toList_eq]
    cases hl : (g.mp i).data.toList with
    | nil =>
      have : (g.mp i).size = 0 := by
        have := congrArg List.length hl
        simpa using this
      omega
    | cons a l => rfl

set_option maxHeartbeats 2000000 in
set_option maxRecDepth 100000 in
theorem rIn_any (g : Gar) (a0 a1 a2 a3 : Option Addr) (c0 c1 c2 c3 : Nat) (slot : ByteArray) (m : Int) (w : World) (h : GarIn w g a0 a1 a2 a3) (hc2 : g.nm ≤ c2) (hc3 : g.nu ≤ c3) :
    Calls Try.prog 14 #[garV g a0 a1 a2 a3 c0 c1 c2 c3, .string slot, .int .i64 m] w fun e w' => e = .returned (tri (InS g slot m)) ∧ Below w.heap.size w w' := by
  have HG := Lib.hid h
  clear h
  have DC0 := Lib.hid (fun (W : World) (hb : Below w.heap.size w W) => rCheck_any g a0 a1 a2 a3 c0 c1 c2 c3 W (HG.out.below hb) hc2 hc3)
  have DS0 := Lib.hid (fun (W : World) (hb : Below w.heap.size w W) => slotAt_any g a0 a1 a2 a3 c0 c1 c2 c3 slot W (HG.out.below hb))
  have DM := Lib.hid (fun W => rmoment_any m W)
  have DI0 := Lib.hid (fun (W : World) (hb : Below w.heap.size w W) => rin_any g a0 a1 a2 a3 c0 c1 c2 c3 slot m W (HG.out.below hb) _ rfl)
  have is1 := hasS_idx g slot
  generalize idxF (fun i => decide (g.sn i = slot)) g.ns 0 = i1 at DS0 is1
  have hin : chk g = 0 → (!(inR (inF g slot m g.nm 0)).1.toList.isEmpty) = (inR (inF g slot m g.nm 0)).2 := fun h => in_name h
  unfold garV at DC0 DS0 DI0 ⊢
  obtain ⟨z, hz⟩ : ∃ z, InS g slot m = z := ⟨_, rfl⟩
  rw [hz]
  unfold InS at hz
  generalize inF g slot m g.nm 0 = o at DI0 hin hz
  generalize chk g = zc at DC0 hin hz
  generalize hasS g slot = hs at is1 hz
  generalize momG m = mm at DM hz
  have HZ := Lib.hid hz
  obtain ⟨W0, hW0, hb0, hs0, hl0'⟩ := alloc_cells w #[.slice a0 g.np c0, .slice a1 g.ns c1, .slice a2 g.nm c2, .slice a3 g.nu c3] 27
  have G0 := Ext.ex (hl0' 0 _ rfl)
  have G1 := Ext.ex (hl0' 1 _ rfl)
  have G2 := Ext.ex (hl0' 2 _ rfl)
  have G3 := Ext.ex (hl0' 3 _ rfl)
  have HW0 := Lib.hid hW0
  have HB0 := Lib.hid hb0
  have hs0' : w.heap.size ≤ W0.heap.size := by omega
  have DC := Lib.hid (fun (Y : Ext W0) => DC0.out Y.1 (Y.down HB0.out hs0'))
  have DS := Lib.hid (fun (Y : Ext W0) => DS0.out Y.1 (Y.down HB0.out hs0'))
  have DI := Lib.hid (fun (Y : Ext W0) => DI0.out Y.1 (Y.down HB0.out hs0'))
  clear hl0' hW0 hb0 hs0 DC0 DS0 DI0 hz
  by_cases hzc : zc = 0
  case neg =>
    have n1 : (zc != 0) = true := by rw [bne_iff_ne]; exact hzc
    have HZ2 : Hid (z = (⟨#[]⟩, false, zc)) := Lib.hid (by rw [← HZ.out, if_pos hzc])
    clear HZ hzc hin
    go_enter Try.func14, Try.ntmps14
    go_upto_region 1 with (fail)
    rw [HW0.out]
    refine ext_wp fun X => ?_
    go_wp2_with fail
    refine (Ext.calls _ (DC.out _)).mono ?_
    rintro e w2 ⟨rfl, Y, rfl⟩
    go_wp2_with fail
    go_ret3
    exact ⟨ret_tri HZ2.out.symm, Y.down HB0.out hs0'⟩
  case pos =>
  subst hzc
  have hin := hin rfl
  cases hs
  · have HZ2 : Hid (z = (⟨#[]⟩, false, 4)) := Lib.hid (by rw [← HZ.out]; rfl)
    clear HZ hin
    go_enter Try.func14, Try.ntmps14
    go_upto_region 1 with (fail)
    rw [HW0.out]
    refine ext_wp fun X => ?_
    go_wp2_with fail
    refine (Ext.calls _ (DC.out _)).mono ?_
    rintro e w2 ⟨rfl, Y, rfl⟩
    go_wp2_with fail
    refine (Ext.calls _ (DS.out _)).mono ?_
    rintro e w2 ⟨rfl, Y2, rfl⟩
    go_wp2_with fail
    go_ret3
    exact ⟨ret_tri HZ2.out.symm, Y2.down HB0.out hs0'⟩
  cases mm
  · have HZ2 : Hid (z = (⟨#[]⟩, false, 9)) := Lib.hid (by rw [← HZ.out]; rfl)
    clear HZ hin
    go_enter Try.func14, Try.ntmps14
    go_upto_region 1 with (fail)
    rw [HW0.out]
    refine ext_wp fun X => ?_
    go_wp2_with fail
    refine (Ext.calls _ (DC.out _)).mono ?_
    rintro e w2 ⟨rfl, Y, rfl⟩
    go_wp2_with fail
    refine (Ext.calls _ (DS.out _)).mono ?_
    rintro e w2 ⟨rfl, Y2, rfl⟩
    go_wp2_with fail
    refine (DM.out _).mono ?_
    rintro e w2 ⟨rfl, rfl⟩
    go_wp2_with fail
    go_ret3
    exact ⟨ret_tri HZ2.out.symm, Y2.down HB0.out hs0'⟩
  · have HZ2 : Hid (z = ((inR o).1, (inR o).2, 0)) := Lib.hid (by rw [← HZ.out]; rfl)
    clear HZ
    clear hin
    go_enter Try.func14, Try.ntmps14
    go_upto_region 1 with (fail)
    rw [HW0.out]
    refine ext_wp fun X => ?_
    go_wp2_with fail
    refine (Ext.calls _ (DC.out _)).mono ?_
    rintro e w2 ⟨rfl, Y, rfl⟩
    go_wp2_with fail
    refine (Ext.calls _ (DS.out _)).mono ?_
    rintro e w2 ⟨rfl, Y2, rfl⟩
    go_wp2_with fail
    refine (DM.out _).mono ?_
    rintro e w2 ⟨rfl, rfl⟩
    go_wp2_with fail
    refine (Ext.calls _ (DI.out _)).mono ?_
    rintro e w2 ⟨rfl, Y3, rfl⟩
    go_wp2_with fail
    go_ret3
    exact ⟨ret_tri HZ2.out.symm, Y3.down HB0.out hs0'⟩

set_option maxHeartbeats 2000000 in
set_option maxRecDepth 100000 in
theorem gIn_any (g : Gar) (a0 a1 a2 a3 : Option Addr) (c0 c1 c2 c3 : Nat) (slot : ByteArray) (m : Int) (w : World) (h : GarIn w g a0 a1 a2 a3) :
    Calls Try.prog 13 #[garV g a0 a1 a2 a3 c0 c1 c2 c3, .string slot, .int .i64 m] w fun e w' => e = .returned (tri (InS g slot m)) ∧ Below w.heap.size w w' := by
  have HG := Lib.hid h
  clear h
  have DC0 := Lib.hid (fun (W : World) (hb : Below w.heap.size w W) => gCheck_any g a0 a1 a2 a3 c0 c1 c2 c3 W (HG.out.below hb))
  have DS0 := Lib.hid (fun (W : World) (hb : Below w.heap.size w W) => hasS_any g a0 a1 a2 a3 c0 c1 c2 c3 slot W (HG.out.below hb))
  have DM := Lib.hid (fun W => gmoment_any m W)
  have DI0 := Lib.hid (fun (W : World) (hb : Below w.heap.size w W) => inSlot_any g a0 a1 a2 a3 c0 c1 c2 c3 slot m W (HG.out.below hb) _ rfl)
  have is1 : decide (0 ≤ idxF (fun i => decide (g.sn i = slot)) g.ns 0) = hasS g slot := by
    have h1 := hasS_idx g slot
    rw [Bool.eq_iff_iff] at h1 ⊢
    simp only [decide_eq_true_eq, Bool.not_eq_true'] at h1 ⊢
    constructor
    · intro h2
      cases h3 : hasS g slot
      · exact absurd (h1.2 h3) (by omega)
      · rfl
    · intro h2
      rcases Int.lt_or_le (idxF (fun i => decide (g.sn i = slot)) g.ns 0) 0 with h3 | h3
      · rw [h1.1 h3] at h2
        cases h2
      · exact h3
  rw [is1] at DS0
  clear is1
  have hin : chk g = 0 → (!(inR (inF g slot m g.nm 0)).1.toList.isEmpty) = (inR (inF g slot m g.nm 0)).2 := fun h => in_name h
  unfold garV at DC0 DS0 DI0 ⊢
  obtain ⟨z, hz⟩ : ∃ z, InS g slot m = z := ⟨_, rfl⟩
  rw [hz]
  unfold InS at hz
  generalize inF g slot m g.nm 0 = o at DI0 hin hz
  generalize chk g = zc at DC0 hin hz
  generalize hasS g slot = hs at DS0 hz
  generalize momG m = mm at DM hz
  have HZ := Lib.hid hz
  obtain ⟨W0, hW0, hb0, hs0, hl0'⟩ := alloc_cells w #[.slice a0 g.np c0, .slice a1 g.ns c1, .slice a2 g.nm c2, .slice a3 g.nu c3] 27
  have G0 := Ext.ex (hl0' 0 _ rfl)
  have G1 := Ext.ex (hl0' 1 _ rfl)
  have G2 := Ext.ex (hl0' 2 _ rfl)
  have G3 := Ext.ex (hl0' 3 _ rfl)
  have HW0 := Lib.hid hW0
  have HB0 := Lib.hid hb0
  have hs0' : w.heap.size ≤ W0.heap.size := by omega
  have DC := Lib.hid (fun (Y : Ext W0) => DC0.out Y.1 (Y.down HB0.out hs0'))
  have DS := Lib.hid (fun (Y : Ext W0) => DS0.out Y.1 (Y.down HB0.out hs0'))
  have DI := Lib.hid (fun (Y : Ext W0) => DI0.out Y.1 (Y.down HB0.out hs0'))
  clear hl0' hW0 hb0 hs0 DC0 DS0 DI0 hz
  by_cases hzc : zc = 0
  case neg =>
    have n1 : (zc != 0) = true := by rw [bne_iff_ne]; exact hzc
    have HZ2 : Hid (z = (⟨#[]⟩, false, zc)) := Lib.hid (by rw [← HZ.out, if_pos hzc])
    clear HZ hzc hin
    go_enter Try.func13, Try.ntmps13
    go_upto_region 1 with (fail)
    rw [HW0.out]
    refine ext_wp fun X => ?_
    go_wp2_with fail
    refine (Ext.calls _ (DC.out _)).mono ?_
    rintro e w2 ⟨rfl, Y, rfl⟩
    go_wp2_with fail
    go_ret3
    exact ⟨ret_tri HZ2.out.symm, Y.down HB0.out hs0'⟩
  case pos =>
  subst hzc
  have hin := hin rfl
  cases hs
  · have HZ2 : Hid (z = (⟨#[]⟩, false, 4)) := Lib.hid (by rw [← HZ.out]; rfl)
    clear HZ hin
    go_enter Try.func13, Try.ntmps13
    go_upto_region 1 with (fail)
    rw [HW0.out]
    refine ext_wp fun X => ?_
    go_wp2_with fail
    refine (Ext.calls _ (DC.out _)).mono ?_
    rintro e w2 ⟨rfl, Y, rfl⟩
    go_wp2_with fail
    refine (Ext.calls _ (DS.out _)).mono ?_
    rintro e w2 ⟨rfl, Y2, rfl⟩
    go_wp2_with fail
    go_ret3
    exact ⟨ret_tri HZ2.out.symm, Y2.down HB0.out hs0'⟩
  cases mm
  · have HZ2 : Hid (z = (⟨#[]⟩, false, 9)) := Lib.hid (by rw [← HZ.out]; rfl)
    clear HZ hin
    go_enter Try.func13, Try.ntmps13
    go_upto_region 1 with (fail)
    rw [HW0.out]
    refine ext_wp fun X => ?_
    go_wp2_with fail
    refine (Ext.calls _ (DC.out _)).mono ?_
    rintro e w2 ⟨rfl, Y, rfl⟩
    go_wp2_with fail
    refine (Ext.calls _ (DS.out _)).mono ?_
    rintro e w2 ⟨rfl, Y2, rfl⟩
    go_wp2_with fail
    refine (DM.out _).mono ?_
    rintro e w2 ⟨rfl, rfl⟩
    go_wp2_with fail
    go_ret3
    exact ⟨ret_tri HZ2.out.symm, Y2.down HB0.out hs0'⟩
  · have HZ2 : Hid (z = ((inR o).1, (inR o).2, 0)) := Lib.hid (by rw [← HZ.out]; rfl)
    clear HZ
    generalize (inR o).1 = p at DI hin HZ2
    generalize (inR o).2 = q at hin HZ2
    go_enter Try.func13, Try.ntmps13
    go_upto_region 1 with (fail)
    rw [HW0.out]
    refine ext_wp fun X => ?_
    go_wp2_with fail
    refine (Ext.calls _ (DC.out _)).mono ?_
    rintro e w2 ⟨rfl, Y, rfl⟩
    go_wp2_with fail
    refine (Ext.calls _ (DS.out _)).mono ?_
    rintro e w2 ⟨rfl, Y2, rfl⟩
    go_wp2_with fail
    refine (DM.out _).mono ?_
    rintro e w2 ⟨rfl, rfl⟩
    go_wp2_with fail
    refine (Ext.calls _ (DI.out _)).mono ?_
    rintro e w2 ⟨rfl, Y3, rfl⟩
    go_wp2_with fail
    go_ret3
    exact ⟨ret_tri HZ2.out.symm, Y3.down HB0.out hs0'⟩
end Go.Proofs.Ytbkpoepacjinlaa
