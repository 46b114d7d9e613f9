/- Gear: a garage in memory; where a slot, or a part, is (reference). -/
import Derived.Test.YtbkpoepacjinlaaGe
import Derived.Test.YtbkpoepacjinlaaRk
namespace Go.Proofs.Ytbkpoepacjinlaa
open Go.RowKit Go.BigFrame

/-- a garage lies in memory -/
structure GarIn (w : World) (g : Gar) (a0 a1 a2 a3 : Option Addr) : Prop where
  r0 : RowK w a0 g.np 2 (fun i => [.string (g.pn i), .int .i64 (g.pc i)])
  r1 : RowK w a1 g.ns 2 (fun i => [.string (g.sn i), .string (g.sr i)])
  r2 : RowK w a2 g.nm 4 (fun i => [.string (g.ms i), .string (g.mp i), .int .i64 (g.mf i), .int .i64 (g.mt i)])
  r3 : RowK w a3 g.nu 5 (fun i => [.string (g.un i), .string (g.ur i), .int .i64 (g.uf i), .int .i64 (g.us i), .int .i64 (g.uw i)])
  z0 : ∀ i, i < g.np → (g.pn i).size ≤ maxLen
  z1 : ∀ i, i < g.ns → (g.sn i).size ≤ maxLen ∧ (g.sr i).size ≤ maxLen
  z2 : ∀ i, i < g.nm → (g.ms i).size ≤ maxLen ∧ (g.mp i).size ≤ maxLen
  z3 : ∀ i, i < g.nu → (g.un i).size ≤ maxLen ∧ (g.ur i).size ≤ maxLen
  l0 : (g.np : Int) ≤ 9223372036854775807
  l1 : (g.ns : Int) ≤ 9223372036854775807
  l2 : (g.nm : Int) ≤ 9223372036854775807
  l3 : (g.nu : Int) ≤ 9223372036854775807
theorem GarIn.below {w w' : World} {g : Gar} {a0 a1 a2 a3 : Option Addr} (h : GarIn w g a0 a1 a2 a3) (hb : Below w.heap.size w w') : GarIn w' g a0 a1 a2 a3 :=
  ⟨h.r0.below hb (Nat.le_refl _), h.r1.below hb (Nat.le_refl _), h.r2.below hb (Nat.le_refl _), h.r3.below hb (Nat.le_refl _), h.z0, h.z1, h.z2, h.z3, h.l0, h.l1, h.l2, h.l3⟩
def garV (g : Gar) (a0 a1 a2 a3 : Option Addr) (c0 c1 c2 c3 : Nat) : Value := .agg #[.slice a0 g.np c0, .slice a1 g.ns c1, .slice a2 g.nm c2, .slice a3 g.nu c3]
/-- the first place, from k on, at which p holds; -1: there is none -/
def idxF (p : Nat → Bool) : Nat → Nat → Int
  | 0, _ => -1
  | n + 1, k => if p k = true then (k : Int) else idxF p n (k + 1)
theorem str_eq (a b : ByteArray) : (a.toList == b.toList) = decide (a = b) := by
  rw [ByteArray.toList_eq, ByteArray.toList_eq, Bool.eq_iff_iff, beq_iff_eq, decide_eq_true_eq]
  exact ⟨fun h => Go.WideShapes.bytes_inj h, fun h => by rw [h]⟩

set_option maxHeartbeats 1000000 in
set_option maxRecDepth 100000 in
theorem slotAt_any (g : Gar) (a0 a1 a2 a3 : Option Addr) (c0 c1 c2 c3 : Nat) (name : ByteArray) (w : World) (h : GarIn w g a0 a1 a2 a3) :
    Calls Try.prog 46 #[garV g a0 a1 a2 a3 c0 c1 c2 c3, .string name] w fun e w' => e = .returned (.int .i64 (idxF (fun i => decide (g.sn i = name)) g.ns 0)) ∧ Below w.heap.size w w' := by
  have HG := Lib.hid h
  have hl := h.l1
  clear h
  unfold garV
  obtain ⟨z, hz⟩ : ∃ z, idxF (fun i => decide (g.sn i = name)) g.ns 0 = z := ⟨_, rfl⟩
  rw [hz]
  have HZ := Lib.hid hz
  clear hz
  go_enter Try.func46, Try.ntmps46
  go_wp2_with fail
  go_loopw [10] (fun iv wr => ∃ (k : Nat), iv = .int .i64 k ∧ k ≤ g.ns ∧ Hid (Below w.heap.size w wr) ∧ Hid (idxF (fun i => decide (g.sn i = name)) (g.ns - k) k = z)) (fun iv _ => g.ns - (intOf iv).toNat)
  case atStart => exact ⟨0, rfl, by omega, Lib.hid ((Below.refl _ _).alloc (Nat.le_refl _) _), HZ⟩
  case round =>
    obtain ⟨k, rfl, hk, HB, HX⟩ := hrel
    by_cases hlt : k < g.ns
    · have t1 : decide ((k : Int) < (g.ns : Int)) = true := by rw [decide_eq_true_eq]; omega
      obtain ⟨b, off, rfl, hbl, hc⟩ := (HG.out.r1.below HB.out (Nat.le_refl _)).here (by omega)
      have e0 : wr.cell? ⟨b, off + k * 2, none⟩ = some (.string (g.sn k)) := hc k hlt 0 (by omega)
      have e1 : wr.cell? ⟨b, off + k * 2 + 1, none⟩ = some (.string (g.sr k)) := hc k hlt 1 (by omega)
      have hx := HX.out
      rw [show g.ns - k = (g.ns - k - 1) + 1 by omega, idxF] at hx
      have HX2 := Lib.hid hx
      have hse := str_eq (g.sn k) name
      have hsz := HB.out.size
      clear hc hx HX
      by_cases he : g.sn k = name
      · rw [show decide (g.sn k = name) = true by simpa using he] at hse
        rw [show decide (g.sn k = name) = true by simpa using he, if_pos rfl] at HX2
        generalize g.sn k = s at e0 hse
        generalize g.sr k = r at e1
        clear he
        go_wp2_with fail
        go_ret
        exact ⟨ret_int HX2.out, HB.out.alloc hsz _⟩
      · rw [show decide (g.sn k = name) = false by simpa using he] at hse
        rw [show decide (g.sn k = name) = false by simpa using he, if_neg (by simp)] at HX2
        generalize g.sn k = s at e0 hse
        generalize g.sr k = r at e1
        clear he
        go_wp2_with fail
        go_roundw
        case rel => exact ⟨k + 1, by go_num, by omega, Lib.hid (HB.out.alloc hsz _), HX2⟩
        case measure => simp [intOf]; omega
    · have t1 : decide ((k : Int) < (g.ns : Int)) = false := by rw [decide_eq_false_iff_not]; omega
      have t1' : decide (k < g.ns) = false := by simpa using hlt
      have hx := HX.out
      rw [show g.ns - k = 0 by omega, idxF] at hx
      have HX2 := Lib.hid hx
      clear hx hlt
      go_wp2_with fail
      go_ret
      exact ⟨ret_int HX2.out, HB.out⟩

set_option maxHeartbeats 1000000 in
set_option maxRecDepth 100000 in
theorem partAt_any (g : Gar) (a0 a1 a2 a3 : Option Addr) (c0 c1 c2 c3 : Nat) (name : ByteArray) (w : World) (h : GarIn w g a0 a1 a2 a3) :
    Calls Try.prog 67 #[garV g a0 a1 a2 a3 c0 c1 c2 c3, .string name] w fun e w' => e = .returned (.int .i64 (idxF (fun i => decide (g.pn i = name)) g.np 0)) ∧ Below w.heap.size w w' := by
  have HG := Lib.hid h
  have hl := h.l0
  clear h
  unfold garV
  obtain ⟨z, hz⟩ : ∃ z, idxF (fun i => decide (g.pn i = name)) g.np 0 = z := ⟨_, rfl⟩
  rw [hz]
  have HZ := Lib.hid hz
  clear hz
  go_enter Try.func67, Try.ntmps67
  go_wp2_with fail
  go_loopw [10] (fun iv wr => ∃ (k : Nat), iv = .int .i64 k ∧ k ≤ g.np ∧ Hid (Below w.heap.size w wr) ∧ Hid (idxF (fun i => decide (g.pn i = name)) (g.np - k) k = z)) (fun iv _ => g.np - (intOf iv).toNat)
  case atStart => exact ⟨0, rfl, by omega, Lib.hid ((Below.refl _ _).alloc (Nat.le_refl _) _), HZ⟩
  case round =>
    obtain ⟨k, rfl, hk, HB, HX⟩ := hrel
    by_cases hlt : k < g.np
    · have t1 : decide ((k : Int) < (g.np : Int)) = true := by rw [decide_eq_true_eq]; omega
      obtain ⟨b, off, rfl, hbl, hc⟩ := (HG.out.r0.below HB.out (Nat.le_refl _)).here (by omega)
      have e0 : wr.cell? ⟨b, off + k * 2, none⟩ = some (.string (g.pn k)) := hc k hlt 0 (by omega)
      have e1 : wr.cell? ⟨b, off + k * 2 + 1, none⟩ = some (.int .i64 (g.pc k)) := hc k hlt 1 (by omega)
      have hx := HX.out
      rw [show g.np - k = (g.np - k - 1) + 1 by omega, idxF] at hx
      have HX2 := Lib.hid hx
      have hse := str_eq (g.pn k) name
      have hsz := HB.out.size
      clear hc hx HX
      by_cases he : g.pn k = name
      · rw [show decide (g.pn k = name) = true by simpa using he] at hse
        rw [show decide (g.pn k = name) = true by simpa using he, if_pos rfl] at HX2
        generalize g.pn k = s at e0 hse
        generalize g.pc k = r at e1
        clear he
        go_wp2_with fail
        go_ret
        exact ⟨ret_int HX2.out, HB.out.alloc hsz _⟩
      · rw [show decide (g.pn k = name) = false by simpa using he] at hse
        rw [show decide (g.pn k = name) = false by simpa using he, if_neg (by simp)] at HX2
        generalize g.pn k = s at e0 hse
        generalize g.pc k = r at e1
        clear he
        go_wp2_with fail
        go_roundw
        case rel => exact ⟨k + 1, by go_num, by omega, Lib.hid (HB.out.alloc hsz _), HX2⟩
        case measure => simp [intOf]; omega
    · have t1 : decide ((k : Int) < (g.np : Int)) = false := by rw [decide_eq_false_iff_not]; omega
      have t1' : decide (k < g.np) = false := by simpa using hlt
      have hx := HX.out
      rw [show g.np - k = 0 by omega, idxF] at hx
      have HX2 := Lib.hid hx
      clear hx hlt
      go_wp2_with fail
      go_ret
      exact ⟨ret_int HX2.out, HB.out⟩
end Go.Proofs.Ytbkpoepacjinlaa
