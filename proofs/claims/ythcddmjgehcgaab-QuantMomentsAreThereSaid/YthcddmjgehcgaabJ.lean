/- Zones: how they lie in memory; the program's offset. -/
import Derived.Test.YthcddmjgehcgaabN
namespace Go.Proofs.Ythcddmjgehcgaab
open Go.RowKit Go.BigFrame

/-- a slice of structs of two integers, as it lies in memory -/
structure Rows2 (w : World) (a : Option Addr) (len : Nat) (F O : Nat → Int) : Prop where
  here : 0 < len → ∃ b off, a = some ⟨b, off, none⟩ ∧ b < w.heap.size ∧ ∀ i, i < len → w.cell? ⟨b, off + i * 2, none⟩ = some (.int .i64 (F i)) ∧ w.cell? ⟨b, off + i * 2 + 1, none⟩ = some (.int .i64 (O i))
theorem Rows2.below {w w' : World} {a : Option Addr} {len B : Nat} {F O : Nat → Int} (h : Rows2 w a len F O) (hb : Below B w w') (hB : w.heap.size ≤ B) : Rows2 w' a len F O := by
  refine ⟨fun hl => ?_⟩
  obtain ⟨b, off, rfl, hlt, hc⟩ := h.here hl
  refine ⟨b, off, rfl, Nat.lt_of_lt_of_le hlt hb.size, fun i hi => ?_⟩
  obtain ⟨c0, c1⟩ := hc i hi
  exact ⟨(hb.cell (p := ⟨b, off + i * 2, none⟩) (Nat.lt_of_lt_of_le hlt hB)).trans c0, (hb.cell (p := ⟨b, off + i * 2 + 1, none⟩) (Nat.lt_of_lt_of_le hlt hB)).trans c1⟩

def offF (first moment : Int) (F O : Nat → Int) : Nat → Int
  | 0 => first
  | k + 1 => if F k ≤ moment then O k else offF first moment F O k

set_option maxHeartbeats 1000000 in
set_option maxRecDepth 100000 in
theorem offset_any (first moment : Int) (a : Option Addr) (len cap : Nat) (F O : Nat → Int) (w : World) (hl : (len : Int) ≤ 1000000) (hr : Rows2 w a len F O) :
    Calls Try.prog 16 #[.agg #[.int .i64 first, .slice a len cap], .int .i64 moment] w fun e w' => e = .returned (.int .i64 (offF first moment F O len)) ∧ Below w.heap.size w w' := by
  have HR := Lib.hid hr
  clear hr
  go_enter Try.func16, Try.ntmps16
  go_wp2
  go_loopw [5, 13] (fun ov iv wr => ∃ (k : Nat), ov = .int .i64 (offF first moment F O k) ∧ iv = .int .i64 k ∧ k ≤ len ∧ Below w.heap.size w wr ∧ w.heap.size < wr.heap.size) (fun _ iv _ => len - (intOf iv).toNat)
  case atStart => exact ⟨0, rfl, rfl, by omega, (Below.refl _ _).alloc (Nat.le_refl _) _, by simp⟩
  case round =>
    obtain ⟨k, rfl, rfl, hk, hb, hs⟩ := hrel
    have HB := Lib.hid hb
    by_cases hlt : k < len
    · have t1 : decide ((k : Int) < (len : Int)) = true := by rw [decide_eq_true_eq]; omega
      have HR2 := HR.out.below hb (Nat.le_refl _)
      obtain ⟨b, off, rfl, hbl, hc⟩ := HR2.here (by omega)
      obtain ⟨c0, c1⟩ := hc k hlt
      clear hb hc
      have HR3 := Lib.hid HR2
      clear HR2
      go_wp2
      · go_roundw
        case rel => exact ⟨k + 1, congrArg (Value.int .i64) (by rw [offF, if_pos (by assumption)]), by go_num, by omega, HB.out.alloc (by omega) _, by simp; omega⟩
        case measure => simp [intOf]; omega
      · go_roundw
        case rel => exact ⟨k + 1, congrArg (Value.int .i64) (by rw [offF, if_neg (by omega)]), by go_num, by omega, HB.out.alloc (by omega) _, by simp; omega⟩
        case measure => simp [intOf]; omega
    · have t1 : decide ((k : Int) < (len : Int)) = false := by rw [decide_eq_false_iff_not]; omega
      have he : k = len := by omega
      clear hlt
      go_wp2
      go_ret
      exact ⟨ret_int (by rw [he]), HB.out⟩
end Go.Proofs.Ythcddmjgehcgaab
