/- Gear: is there a slot, a part? (program; printed by wip/g/gen_has.py) -/
import Derived.Test.YtbkpoepacjinlaaGi
import Derived.Laws.EntriesVeiled
namespace Go.Proofs.Ytbkpoepacjinlaa
open Go.RowKit Go.BigFrame

set_option maxHeartbeats 1000000 in
theorem hasSCl_any (s name : ByteArray) (r : ByteArray) (p : Nat) (w : World) (hp : p < w.heap.size) (hc : w.cell? ⟨p, 0, none⟩ = some (.string name)) :
    Calls Try.prog 99 #[.agg #[.string s, .string r], .pointer (some ⟨p, 0, none⟩)] w fun e w' => e = .returned (.bool (decide (s = name))) ∧ Below w.heap.size w w' := by
  have hse := str_eq s name
  generalize decide (s = name) = bb at hse ⊢
  go_enter Try.func99, Try.ntmps99
  go_wp2_with fail
  go_ret
  exact ⟨rfl, (Below.refl _ _).alloc (Nat.le_refl _) _⟩

set_option maxHeartbeats 1000000 in
set_option maxRecDepth 100000 in
theorem hasSIx_any (g : Gar) (a : Option Addr) (c : Nat) (name : ByteArray) (p : Nat) (w : World) (hp : p < w.heap.size) (hcell : w.cell? ⟨p, 0, none⟩ = some (.string name)) (hr : RowK w a g.ns 2 (fun i => [.string (g.sn i), .string (g.sr i)])) (hl : (g.ns : Int) ≤ 9223372036854775807) :
    Calls Try.prog 138 #[.slice a g.ns c, .func (.func 99) #[] #[.pointer (some ⟨p, 0, none⟩)]] w fun e w' => e = .returned (.int .i64 (idxF (fun i => decide (g.sn i = name)) g.ns 0)) ∧ Below w.heap.size w w' := by
  have HR := Lib.hid hr
  have HC := Lib.hid hcell
  obtain ⟨z, hz⟩ : ∃ z, idxF (fun i => decide (g.sn i = name)) g.ns 0 = z := ⟨_, rfl⟩
  rw [hz]
  have HZ := Lib.hid hz
  clear hz hr hcell
  go_enter Try.func138, Try.ntmps138
  go_wp2_with fail
  go_loopw [8] (fun iv wr => ∃ (k : Nat), iv = .int .i64 k ∧ k ≤ g.ns ∧ Hid (Below w.heap.size w wr) ∧ Hid (idxF (fun i => decide (g.sn i = name)) (g.ns - k) k = z)) (fun iv _ => g.ns - (intOf iv).toNat)
  case atStart => exact ⟨0, rfl, by omega, Lib.hid (Below.refl _ _), HZ⟩
  case round =>
    obtain ⟨k, rfl, hk, HB, HX⟩ := hrel
    by_cases hlt : k < g.ns
    · have t1 : decide ((k : Int) < (g.ns : Int)) = true := by rw [decide_eq_true_eq]; omega
      obtain ⟨b, off, rfl, hbl, hc⟩ := (HR.out.below HB.out (Nat.le_refl _)).here (by omega)
      have e0 : wr.cell? ⟨b, off + k * 2, none⟩ = some (.string (g.sn k)) := hc k hlt 0 (by omega)
      have e1 : wr.cell? ⟨b, off + k * 2 + 1, none⟩ = some (.string (g.sr k)) := hc k hlt 1 (by omega)
      have hx := HX.out
      rw [show g.ns - k = (g.ns - k - 1) + 1 by omega, idxF] at hx
      have HX2 := Lib.hid hx
      have hsz := HB.out.size
      have D := Lib.hid (hasSCl_any (g.sn k) name (g.sr k) p wr (Nat.lt_of_lt_of_le hp hsz) ((HB.out.cell (p := ⟨p, 0, none⟩) hp).trans HC.out))
      clear hc hx HX
      generalize g.sn k = s at e0 D HX2
      generalize g.sr k = r at e1 D
      cases hb : decide (s = name)
      · rw [hb] at D HX2
        rw [if_neg (by simp)] at HX2
        clear hb
        go_wp2_with fail
        refine D.out.mono ?_
        rintro e w2 ⟨rfl, hb2⟩
        have HB2 := Lib.hid (HB.out.trans (hb2.mono hsz))
        clear hb2
        go_wp2_with fail
        go_roundw
        case rel => exact ⟨k + 1, by go_num, by omega, HB2, HX2⟩
        case measure => simp [intOf]; omega
      · rw [hb] at D HX2
        rw [if_pos rfl] at HX2
        clear hb
        go_wp2_with fail
        refine D.out.mono ?_
        rintro e w2 ⟨rfl, hb2⟩
        have HB2 := Lib.hid (HB.out.trans (hb2.mono hsz))
        clear hb2
        go_wp2_with fail
        go_ret
        exact ⟨ret_int HX2.out, HB2.out⟩
    · have t1 : decide ((k : Int) < (g.ns : Int)) = false := by rw [decide_eq_false_iff_not]; omega
      have t1' : decide (k < g.ns) = false := by simpa using hlt
      have hx := HX.out
      rw [show g.ns - k = 0 by omega, idxF] at hx
      have HX2 := Lib.hid hx
      clear hx hlt
      go_wp2_with fail
      go_ret
      exact ⟨ret_int HX2.out, HB.out⟩

set_option maxHeartbeats 1000000 in
set_option maxRecDepth 100000 in
theorem hasSCf_any (g : Gar) (a : Option Addr) (c : Nat) (name : ByteArray) (p : Nat) (w : World) (hp : p < w.heap.size) (hcell : w.cell? ⟨p, 0, none⟩ = some (.string name)) (hr : RowK w a g.ns 2 (fun i => [.string (g.sn i), .string (g.sr i)])) (hl : (g.ns : Int) ≤ 9223372036854775807) :
    Calls Try.prog 98 #[.slice a g.ns c, .func (.func 99) #[] #[.pointer (some ⟨p, 0, none⟩)]] w fun e w' => e = .returned (.bool (decide (0 ≤ idxF (fun i => decide (g.sn i = name)) g.ns 0))) ∧ Below w.heap.size w w' := by
  have D := Lib.hid (hasSIx_any g a c name p w hp hcell hr hl)
  generalize idxF (fun i => decide (g.sn i = name)) g.ns 0 = z at D ⊢
  clear hr hcell
  cases hz : decide (0 ≤ z)
  all_goals
    go_enter Try.func98, Try.ntmps98
    go_wp2_with fail
    refine D.out.mono ?_
    rintro e w1 ⟨rfl, hb⟩
    have HB := Lib.hid hb
    clear hb
    go_wp2_with fail
    go_ret
    exact ⟨ret_bool (by simp), HB.out⟩

set_option maxHeartbeats 1000000 in
set_option maxRecDepth 100000 in
theorem hasS_any (g : Gar) (a0 a1 a2 a3 : Option Addr) (c0 c1 c2 c3 : Nat) (name : ByteArray) (w : World) (h : GarIn w g a0 a1 a2 a3) :
    Calls Try.prog 43 #[garV g a0 a1 a2 a3 c0 c1 c2 c3, .string name] w fun e w' => e = .returned (.bool (decide (0 ≤ idxF (fun i => decide (g.sn i = name)) g.ns 0))) ∧ Below w.heap.size w w' := by
  have hmf : ∀ fn first cap w, (Instr.makeFunc fn first cap).run Try.prog w = .ok (.func fn first cap) w := fun _ _ _ _ => rfl
  have HB := Lib.hid (((Below.refl w.heap.size w).alloc (Nat.le_refl _) (.cells #[.slice a0 g.np c0, .slice a1 g.ns c1, .slice a2 g.nm c2, .slice a3 g.nu c3] 27)).alloc (by simp) (.cells #[.string name] 9))
  have HR := Lib.hid (h.r1.below HB.out (Nat.le_refl _))
  have hl := h.l1
  have D := Lib.hid (hasSCf_any g a1 c1 name (w.heap.size + 1) _ (by simp) (by rw [World.cell?_alloc_at _ _ _ _ (by simp)]; rfl) HR.out hl)
  generalize decide (0 ≤ idxF (fun i => decide (g.sn i = name)) g.ns 0) = z at D ⊢
  unfold garV
  go_enter Try.func43, Try.ntmps43
  go_wp2_with fail
  refine D.out.mono ?_
  rintro e w1 ⟨rfl, hb⟩
  have HF := Lib.hid (HB.out.trans (hb.mono HB.out.size))
  clear hb
  go_wp2_with fail
  go_ret
  exact ⟨rfl, HF.out⟩

set_option maxHeartbeats 1000000 in
theorem hasPCl_any (s name : ByteArray) (r : Int) (p : Nat) (w : World) (hp : p < w.heap.size) (hc : w.cell? ⟨p, 0, none⟩ = some (.string name)) :
    Calls Try.prog 115 #[.agg #[.string s, .int .i64 r], .pointer (some ⟨p, 0, none⟩)] w fun e w' => e = .returned (.bool (decide (s = name))) ∧ Below w.heap.size w w' := by
  have hse := str_eq s name
  generalize decide (s = name) = bb at hse ⊢
  go_enter Try.func115, Try.ntmps115
  go_wp2_with fail
  go_ret
  exact ⟨rfl, (Below.refl _ _).alloc (Nat.le_refl _) _⟩

set_option maxHeartbeats 1000000 in
set_option maxRecDepth 100000 in
theorem hasPIx_any (g : Gar) (a : Option Addr) (c : Nat) (name : ByteArray) (p : Nat) (w : World) (hp : p < w.heap.size) (hcell : w.cell? ⟨p, 0, none⟩ = some (.string name)) (hr : RowK w a g.np 2 (fun i => [.string (g.pn i), .int .i64 (g.pc i)])) (hl : (g.np : Int) ≤ 9223372036854775807) :
    Calls Try.prog 70 #[.slice a g.np c, .func (.func 115) #[] #[.pointer (some ⟨p, 0, none⟩)]] w fun e w' => e = .returned (.int .i64 (idxF (fun i => decide (g.pn i = name)) g.np 0)) ∧ Below w.heap.size w w' := by
  have HR := Lib.hid hr
  have HC := Lib.hid hcell
  obtain ⟨z, hz⟩ : ∃ z, idxF (fun i => decide (g.pn i = name)) g.np 0 = z := ⟨_, rfl⟩
  rw [hz]
  have HZ := Lib.hid hz
  clear hz hr hcell
  go_enter Try.func70, Try.ntmps70
  go_wp2_with fail
  go_loopw [8] (fun iv wr => ∃ (k : Nat), iv = .int .i64 k ∧ k ≤ g.np ∧ Hid (Below w.heap.size w wr) ∧ Hid (idxF (fun i => decide (g.pn i = name)) (g.np - k) k = z)) (fun iv _ => g.np - (intOf iv).toNat)
  case atStart => exact ⟨0, rfl, by omega, Lib.hid (Below.refl _ _), HZ⟩
  case round =>
    obtain ⟨k, rfl, hk, HB, HX⟩ := hrel
    by_cases hlt : k < g.np
    · have t1 : decide ((k : Int) < (g.np : Int)) = true := by rw [decide_eq_true_eq]; omega
      obtain ⟨b, off, rfl, hbl, hc⟩ := (HR.out.below HB.out (Nat.le_refl _)).here (by omega)
      have e0 : wr.cell? ⟨b, off + k * 2, none⟩ = some (.string (g.pn k)) := hc k hlt 0 (by omega)
      have e1 : wr.cell? ⟨b, off + k * 2 + 1, none⟩ = some (.int .i64 (g.pc k)) := hc k hlt 1 (by omega)
      have hx := HX.out
      rw [show g.np - k = (g.np - k - 1) + 1 by omega, idxF] at hx
      have HX2 := Lib.hid hx
      have hsz := HB.out.size
      have D := Lib.hid (hasPCl_any (g.pn k) name (g.pc k) p wr (Nat.lt_of_lt_of_le hp hsz) ((HB.out.cell (p := ⟨p, 0, none⟩) hp).trans HC.out))
      clear hc hx HX
      generalize g.pn k = s at e0 D HX2
      generalize g.pc k = r at e1 D
      cases hb : decide (s = name)
      · rw [hb] at D HX2
        rw [if_neg (by simp)] at HX2
        clear hb
        go_wp2_with fail
        refine D.out.mono ?_
        rintro e w2 ⟨rfl, hb2⟩
        have HB2 := Lib.hid (HB.out.trans (hb2.mono hsz))
        clear hb2
        go_wp2_with fail
        go_roundw
        case rel => exact ⟨k + 1, by go_num, by omega, HB2, HX2⟩
        case measure => simp [intOf]; omega
      · rw [hb] at D HX2
        rw [if_pos rfl] at HX2
        clear hb
        go_wp2_with fail
        refine D.out.mono ?_
        rintro e w2 ⟨rfl, hb2⟩
        have HB2 := Lib.hid (HB.out.trans (hb2.mono hsz))
        clear hb2
        go_wp2_with fail
        go_ret
        exact ⟨ret_int HX2.out, HB2.out⟩
    · have t1 : decide ((k : Int) < (g.np : Int)) = false := by rw [decide_eq_false_iff_not]; omega
      have t1' : decide (k < g.np) = false := by simpa using hlt
      have hx := HX.out
      rw [show g.np - k = 0 by omega, idxF] at hx
      have HX2 := Lib.hid hx
      clear hx hlt
      go_wp2_with fail
      go_ret
      exact ⟨ret_int HX2.out, HB.out⟩

set_option maxHeartbeats 1000000 in
set_option maxRecDepth 100000 in
theorem hasPCf_any (g : Gar) (a : Option Addr) (c : Nat) (name : ByteArray) (p : Nat) (w : World) (hp : p < w.heap.size) (hcell : w.cell? ⟨p, 0, none⟩ = some (.string name)) (hr : RowK w a g.np 2 (fun i => [.string (g.pn i), .int .i64 (g.pc i)])) (hl : (g.np : Int) ≤ 9223372036854775807) :
    Calls Try.prog 114 #[.slice a g.np c, .func (.func 115) #[] #[.pointer (some ⟨p, 0, none⟩)]] w fun e w' => e = .returned (.bool (decide (0 ≤ idxF (fun i => decide (g.pn i = name)) g.np 0))) ∧ Below w.heap.size w w' := by
  have D := Lib.hid (hasPIx_any g a c name p w hp hcell hr hl)
  generalize idxF (fun i => decide (g.pn i = name)) g.np 0 = z at D ⊢
  clear hr hcell
  cases hz : decide (0 ≤ z)
  all_goals
    go_enter Try.func114, Try.ntmps114
    go_wp2_with fail
    refine D.out.mono ?_
    rintro e w1 ⟨rfl, hb⟩
    have HB := Lib.hid hb
    clear hb
    go_wp2_with fail
    go_ret
    exact ⟨ret_bool (by simp), HB.out⟩

set_option maxHeartbeats 1000000 in
set_option maxRecDepth 100000 in
theorem hasP_any (g : Gar) (a0 a1 a2 a3 : Option Addr) (c0 c1 c2 c3 : Nat) (name : ByteArray) (w : World) (h : GarIn w g a0 a1 a2 a3) :
    Calls Try.prog 66 #[garV g a0 a1 a2 a3 c0 c1 c2 c3, .string name] w fun e w' => e = .returned (.bool (decide (0 ≤ idxF (fun i => decide (g.pn i = name)) g.np 0))) ∧ Below w.heap.size w w' := by
  have hmf : ∀ fn first cap w, (Instr.makeFunc fn first cap).run Try.prog w = .ok (.func fn first cap) w := fun _ _ _ _ => rfl
  have HB := Lib.hid (((Below.refl w.heap.size w).alloc (Nat.le_refl _) (.cells #[.slice a0 g.np c0, .slice a1 g.ns c1, .slice a2 g.nm c2, .slice a3 g.nu c3] 27)).alloc (by simp) (.cells #[.string name] 9))
  have HR := Lib.hid (h.r0.below HB.out (Nat.le_refl _))
  have hl := h.l0
  have D := Lib.hid (hasPCf_any g a0 c0 name (w.heap.size + 1) _ (by simp) (by rw [World.cell?_alloc_at _ _ _ _ (by simp)]; rfl) HR.out hl)
  generalize decide (0 ≤ idxF (fun i => decide (g.pn i = name)) g.np 0) = z at D ⊢
  unfold garV
  go_enter Try.func66, Try.ntmps66
  go_wp2_with fail
  refine D.out.mono ?_
  rintro e w1 ⟨rfl, hb⟩
  have HF := Lib.hid (HB.out.trans (hb.mono HB.out.size))
  clear hb
  go_wp2_with fail
  go_ret
  exact ⟨rfl, HF.out⟩
end Go.Proofs.Ytbkpoepacjinlaa
