/- Gear: what is in a slot at a moment (program and reference). -/
import Derived.Test.YtbkpoepacjinlaaGs
namespace Go.Proofs.Ytbkpoepacjinlaa
open Go.RowKit Go.BigFrame

/-- what is in a slot, from mount k on -/
def inF (g : Gar) (slot : ByteArray) (m : Int) : Nat → Nat → Option ByteArray
  | 0, _ => none
  | n + 1, k => if (decide (g.ms k = slot) && isG (g.mf k) (g.mt k) m) = true then some (g.mp k) else inF g slot m n (k + 1)
def inR : Option ByteArray → ByteArray × Bool
  | some p => (p, true)
  | none => (⟨#[]⟩, false)

set_option maxHeartbeats 2000000 in
set_option maxRecDepth 100000 in
theorem inSlot_any (g : Gar) (a0 a1 a2 a3 : Option Addr) (c0 c1 c2 c3 : Nat) (slot : ByteArray) (at' : Int) (w : World) (h : GarIn w g a0 a1 a2 a3) (o : Option ByteArray) (ho : inF g slot at' g.nm 0 = o) :
    Calls Try.prog 45 #[garV g a0 a1 a2 a3 c0 c1 c2 c3, .string slot, .int .i64 at'] w fun e w' => e = .returned (.string (inR o).1) ∧ Below w.heap.size w w' := by
  have HG := Lib.hid h
  have hl := h.l2
  have HZ := Lib.hid ho
  clear h ho
  unfold garV
  go_enter Try.func45, Try.ntmps45
  go_wp2_with fail
  go_loopw [12] (fun iv wr => ∃ (k : Nat), iv = .int .i64 k ∧ k ≤ g.nm ∧ Hid (Below w.heap.size w wr) ∧ Hid (inF g slot at' (g.nm - k) k = o)) (fun iv _ => g.nm - (intOf iv).toNat)
  case atStart => exact ⟨0, rfl, by omega, Lib.hid ((Below.refl _ _).alloc (Nat.le_refl _) _), HZ⟩
  case round =>
    obtain ⟨k, rfl, hk, HB, HX⟩ := hrel
    by_cases hlt : k < g.nm
    · have t1 : decide ((k : Int) < (g.nm : Int)) = true := by rw [decide_eq_true_eq]; omega
      obtain ⟨b, off, rfl, hbl, hc⟩ := (HG.out.r2.below HB.out (Nat.le_refl _)).here (by omega)
      have e0 : wr.cell? ⟨b, off + k * 4, none⟩ = some (.string (g.ms k)) := hc k hlt 0 (by omega)
      have e1 : wr.cell? ⟨b, off + k * 4 + 1, none⟩ = some (.string (g.mp k)) := hc k hlt 1 (by omega)
      have e2 : wr.cell? ⟨b, off + k * 4 + 2, none⟩ = some (.int .i64 (g.mf k)) := hc k hlt 2 (by omega)
      have e3 : wr.cell? ⟨b, off + k * 4 + 3, none⟩ = some (.int .i64 (g.mt k)) := hc k hlt 3 (by omega)
      have hx := HX.out
      rw [show g.nm - k = (g.nm - k - 1) + 1 by omega, inF] at hx
      have HX2 := Lib.hid hx
      have hse := str_eq (g.ms k) slot
      have hsz := HB.out.size
      have DI := Lib.hid (fun W => is_any (g.ms k) (g.mp k) (g.mf k) (g.mt k) at' W)
      clear hc hx HX
      by_cases he : g.ms k = slot
      · rw [show decide (g.ms k = slot) = true by simpa using he] at hse HX2
        rw [Bool.true_and] at HX2
        generalize g.ms k = s at e0 hse DI
        generalize g.mp k = p at e1 DI HX2
        generalize g.mf k = f at e2 DI HX2
        generalize g.mt k = t at e3 DI HX2
        clear he
        unfold mountV at DI
        cases hi : isG f t at'
        · rw [hi] at DI HX2
          rw [if_neg (by simp)] at HX2
          clear hi
          go_wp2_with fail
          refine (DI.out _).mono ?_
          rintro e w2 ⟨rfl, hb2⟩
          have HB2 := Lib.hid ((HB.out.alloc hsz (.cells #[.string s, .string p, .int .i64 f, .int .i64 t] 54)).trans (hb2.mono (by simp only [World.size_alloc]; omega)))
          clear hb2
          go_wp2_with fail
          go_roundw
          case rel => exact ⟨k + 1, by go_num, by omega, HB2, HX2⟩
          case measure => simp [intOf]; omega
        · rw [hi] at DI HX2
          rw [if_pos rfl] at HX2
          clear hi
          go_wp2_with fail
          refine (DI.out _).mono ?_
          rintro e w2 ⟨rfl, hb2⟩
          have HB2 := Lib.hid ((HB.out.alloc hsz (.cells #[.string s, .string p, .int .i64 f, .int .i64 t] 54)).trans (hb2.mono (by simp only [World.size_alloc]; omega)))
          have q1 : w2.cell? ⟨wr.heap.size, 1, none⟩ = some (.string p) := (hb2.cell (p := ⟨wr.heap.size, 1, none⟩) (by simp)).trans (by rw [World.cell?_alloc_at _ _ _ _ rfl]; rfl)
          clear hb2
          go_wp2_with fail
          go_ret
          exact ⟨by rw [← HX2.out]; rfl, HB2.out⟩
      · rw [show decide (g.ms k = slot) = false by simpa using he] at hse HX2
        rw [Bool.false_and, if_neg (by simp)] at HX2
        generalize g.ms k = s at e0 hse DI
        generalize g.mp k = p at e1 DI
        generalize g.mf k = f at e2 DI
        generalize g.mt k = t at e3 DI
        clear he
        go_wp2_with fail
        go_roundw
        case rel => exact ⟨k + 1, by go_num, by omega, Lib.hid (HB.out.alloc hsz _), HX2⟩
        case measure => simp [intOf]; omega
    · have t1 : decide ((k : Int) < (g.nm : Int)) = false := by rw [decide_eq_false_iff_not]; omega
      have t1' : decide (k < g.nm) = false := by simpa using hlt
      have hx := HX.out
      rw [show g.nm - k = 0 by omega, inF] at hx
      have HX2 := Lib.hid hx
      clear hx hlt
      go_wp2_with fail
      go_ret
      exact ⟨by rw [← HX2.out]; rfl, HB.out⟩

set_option maxHeartbeats 2000000 in
set_option maxRecDepth 100000 in
theorem rin_any (g : Gar) (a0 a1 a2 a3 : Option Addr) (c0 c1 c2 c3 : Nat) (slot : ByteArray) (at' : Int) (w : World) (h : GarIn w g a0 a1 a2 a3) (o : Option ByteArray) (ho : inF g slot at' g.nm 0 = o) :
    Calls Try.prog 48 #[garV g a0 a1 a2 a3 c0 c1 c2 c3, .string slot, .int .i64 at'] w fun e w' => e = .returned (.tuple #[.string (inR o).1, .bool (inR o).2]) ∧ Below w.heap.size w w' := by
  have HG := Lib.hid h
  have hl := h.l2
  have HZ := Lib.hid ho
  clear h ho
  unfold garV
  go_enter Try.func48, Try.ntmps48
  go_wp2_with fail
  go_loopw [13] (fun iv wr => ∃ (k : Nat), iv = .int .i64 k ∧ k ≤ g.nm ∧ Hid (Below w.heap.size w wr) ∧ Hid (inF g slot at' (g.nm - k) k = o)) (fun iv _ => g.nm - (intOf iv).toNat)
  case atStart => exact ⟨0, rfl, by omega, Lib.hid ((Below.refl _ _).alloc (Nat.le_refl _) _), HZ⟩
  case round =>
    obtain ⟨k, rfl, hk, HB, HX⟩ := hrel
    by_cases hlt : k < g.nm
    · have t1 : decide ((k : Int) < (g.nm : Int)) = true := by rw [decide_eq_true_eq]; omega
      obtain ⟨b, off, rfl, hbl, hc⟩ := (HG.out.r2.below HB.out (Nat.le_refl _)).here (by omega)
      have e0 : wr.cell? ⟨b, off + k * 4, none⟩ = some (.string (g.ms k)) := hc k hlt 0 (by omega)
      have e1 : wr.cell? ⟨b, off + k * 4 + 1, none⟩ = some (.string (g.mp k)) := hc k hlt 1 (by omega)
      have e2 : wr.cell? ⟨b, off + k * 4 + 2, none⟩ = some (.int .i64 (g.mf k)) := hc k hlt 2 (by omega)
      have e3 : wr.cell? ⟨b, off + k * 4 + 3, none⟩ = some (.int .i64 (g.mt k)) := hc k hlt 3 (by omega)
      have hx := HX.out
      rw [show g.nm - k = (g.nm - k - 1) + 1 by omega, inF] at hx
      have HX2 := Lib.hid hx
      have hse := str_eq (g.ms k) slot
      have hsz := HB.out.size
      have DI := Lib.hid (fun W => covers_any (g.ms k) (g.mp k) (g.mf k) (g.mt k) at' W)
      clear hc hx HX
      by_cases he : g.ms k = slot
      · rw [show decide (g.ms k = slot) = true by simpa using he] at hse HX2
        rw [Bool.true_and] at HX2
        generalize g.ms k = s at e0 hse DI
        generalize g.mp k = p at e1 DI HX2
        generalize g.mf k = f at e2 DI HX2
        generalize g.mt k = t at e3 DI HX2
        clear he
        unfold mountV at DI
        cases hi : isG f t at'
        · rw [hi] at DI HX2
          rw [if_neg (by simp)] at HX2
          clear hi
          go_wp2_with fail
          refine (DI.out _).mono ?_
          rintro e w2 ⟨rfl, hb2⟩
          have HB2 := Lib.hid ((HB.out.alloc hsz (.cells #[.string s, .string p, .int .i64 f, .int .i64 t] 54)).trans (hb2.mono (by simp only [World.size_alloc]; omega)))
          clear hb2
          go_wp2_with fail
          go_roundw
          case rel => exact ⟨k + 1, by go_num, by omega, HB2, HX2⟩
          case measure => simp [intOf]; omega
        · rw [hi] at DI HX2
          rw [if_pos rfl] at HX2
          clear hi
          go_wp2_with fail
          refine (DI.out _).mono ?_
          rintro e w2 ⟨rfl, hb2⟩
          have HB2 := Lib.hid ((HB.out.alloc hsz (.cells #[.string s, .string p, .int .i64 f, .int .i64 t] 54)).trans (hb2.mono (by simp only [World.size_alloc]; omega)))
          have q1 : w2.cell? ⟨wr.heap.size, 1, none⟩ = some (.string p) := (hb2.cell (p := ⟨wr.heap.size, 1, none⟩) (by simp)).trans (by rw [World.cell?_alloc_at _ _ _ _ rfl]; rfl)
          clear hb2
          go_wp2_with fail
          go_ret2
          exact ⟨by rw [← HX2.out]; rfl, HB2.out⟩
      · rw [show decide (g.ms k = slot) = false by simpa using he] at hse HX2
        rw [Bool.false_and, if_neg (by simp)] at HX2
        generalize g.ms k = s at e0 hse DI
        generalize g.mp k = p at e1 DI
        generalize g.mf k = f at e2 DI
        generalize g.mt k = t at e3 DI
        clear he
        go_wp2_with fail
        go_roundw
        case rel => exact ⟨k + 1, by go_num, by omega, Lib.hid (HB.out.alloc hsz _), HX2⟩
        case measure => simp [intOf]; omega
    · have t1 : decide ((k : Int) < (g.nm : Int)) = false := by rw [decide_eq_false_iff_not]; omega
      have t1' : decide (k < g.nm) = false := by simpa using hlt
      have hx := HX.out
      rw [show g.nm - k = 0 by omega, inF] at hx
      have HX2 := Lib.hid hx
      clear hx hlt
      go_wp2_with fail
      go_ret2
      exact ⟨by rw [← HX2.out]; rfl, HB.out⟩
end Go.Proofs.Ytbkpoepacjinlaa
