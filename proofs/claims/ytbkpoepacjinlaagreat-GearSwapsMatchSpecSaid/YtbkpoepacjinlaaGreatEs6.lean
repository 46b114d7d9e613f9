/- Several texts of this claim in one. -/
import Derived.Test.YtbkpoepacjinlaaGreatEs2
import Derived.Sort.Grow
import Derived.Test.YtbkpoepacjinlaaGreatEs5
import Derived.Lib.SliceRun
import Derived.Shelf.SlSortCmp.WholeK
import Derived.Test.YtbkpoepacjinlaaGreatEs1
import Derived.Shelf.SlSortCmp.Kit1
import Derived.Test.YtbkpoepacjinlaaGreatShelfI
import Derived.Shelf.SlSortCmp.Whole1
import Derived.Shelf.SlSortCmp.NoneTotal
import Derived.Test.YtbkpoepacjinlaaGreatEs3
/- Gear: the orders of mounts and of uses, for the library's sort: what they lay and draw. -/
namespace Go.Proofs.YtbkpoepacjinlaaGreat
open Go.RowKit Go.BigFrame Go.Sort
open Gar (momG endG)

set_option maxHeartbeats 2000000 in
set_option maxRecDepth 100000 in
theorem mountOrder_grow (s p s' p' : ByteArray) (f t f' t' : Int) (w : World) :
    Calls Tryz.prog 48 #[mountV s p f t, mountV s' p' f' t'] w fun e w' => e = .returned (.int .i64 (ordI f f' s s')) ∧ ∃ q os', w' = grow (w.drewN q) os' := by
  have D1 := Lib.hid (fun W => Tryz.cmp_Compare_int f f' W)
  have D2 := Lib.hid (fun W => Tryz.strings_Compare s s' W)
  unfold mountV
  rw [show ordI f f' s s' = orI (Lib.compareInt f f') (Lib.compareBytes s.data.toList s'.data.toList) from rfl]
  generalize Lib.compareInt f f' = ci at D1 ⊢
  generalize Lib.compareBytes s.data.toList s'.data.toList = cb at D2 ⊢
  have DO := Lib.hid (fun b W h0 h1 => or_any ci cb b W h0 h1)
  have HB := Lib.hid (((Below.refl w.heap.size w).alloc (Nat.le_refl _) (.cells #[.string s, .string p, .int .i64 f, .int .i64 t] 78)).alloc (by simp) (.cells #[.string s', .string p', .int .i64 f', .int .i64 t'] 78))
  have c0 : ∀ i, ((w.alloc (.cells #[.string s, .string p, .int .i64 f, .int .i64 t] 78)).alloc (.cells #[.string s', .string p', .int .i64 f', .int .i64 t'] 78)).cell? ⟨w.heap.size, i, none⟩ = (#[.string s, .string p, .int .i64 f, .int .i64 t] : Array Value)[i]? := by
    intro i
    rw [World.cell?_alloc_past _ _ _ (by simp), World.cell?_alloc_at _ _ _ _ rfl]
  have c1 : ∀ i, ((w.alloc (.cells #[.string s, .string p, .int .i64 f, .int .i64 t] 78)).alloc (.cells #[.string s', .string p', .int .i64 f', .int .i64 t'] 78)).cell? ⟨w.heap.size + 1, i, none⟩ = (#[.string s', .string p', .int .i64 f', .int .i64 t'] : Array Value)[i]? := by
    intro i
    rw [World.cell?_alloc_at _ _ _ _ (by simp)]
  have a0 : ((w.alloc (.cells #[.string s, .string p, .int .i64 f, .int .i64 t] 78)).alloc (.cells #[.string s', .string p', .int .i64 f', .int .i64 t'] 78)).cell? ⟨w.heap.size, 0, none⟩ = some (.string s) := c0 0
  have a2 : ((w.alloc (.cells #[.string s, .string p, .int .i64 f, .int .i64 t] 78)).alloc (.cells #[.string s', .string p', .int .i64 f', .int .i64 t'] 78)).cell? ⟨w.heap.size, 2, none⟩ = some (.int .i64 f) := c0 2
  have b0 : ((w.alloc (.cells #[.string s, .string p, .int .i64 f, .int .i64 t] 78)).alloc (.cells #[.string s', .string p', .int .i64 f', .int .i64 t'] 78)).cell? ⟨w.heap.size + 1, 0, none⟩ = some (.string s') := c1 0
  have b2 : ((w.alloc (.cells #[.string s, .string p, .int .i64 f, .int .i64 t] 78)).alloc (.cells #[.string s', .string p', .int .i64 f', .int .i64 t'] 78)).cell? ⟨w.heap.size + 1, 2, none⟩ = some (.int .i64 f') := c1 2
  clear c0 c1
  go_enter Tryz.func48, Tryz.ntmps48
  go_wp2_with fail
  have hz : w.heap.size + 1 < ((w.alloc (.cells #[.string s, .string p, .int .i64 f, .int .i64 t] 78)).alloc (.cells #[.string s', .string p', .int .i64 f', .int .i64 t'] 78)).heap.size := by simp only [World.size_alloc]; omega
  obtain ⟨w2, hw2⟩ : ∃ w2, ((w.alloc (.cells #[.string s, .string p, .int .i64 f, .int .i64 t] 78)).alloc (.cells #[.string s', .string p', .int .i64 f', .int .i64 t'] 78)) = w2 := ⟨_, rfl⟩
  rw [hw2] at HB a0 a2 b0 b2 hz ⊢
  have HF : Hid (∃ q os', (w2.alloc (.cells #[.int .i64 ci, .int .i64 cb] 3)).drew = grow (w.drewN q) os') := Lib.hid ⟨1, _, by rw [← hw2, alloc_eq_grow, alloc_eq_grow, alloc_eq_grow, grow_grow, grow_grow]; rfl⟩
  clear hw2
  obtain ⟨B, e1⟩ : ∃ B, w.heap.size = B := ⟨_, rfl⟩
  rw [e1] at a0 a2 b0 b2 hz ⊢
  have E1 := Lib.hid e1
  have HZ := Lib.hid hz
  have hbd : Below w2.heap.size w2 w2.drew := (Below.refl _ _).drew
  clear e1 hz
  have hkeep := keep4 (W := w2) (Wn := (w2.alloc (.cells #[.int .i64 ci, .int .i64 cb] 3)).drew) HZ.out ⟨a0, a2, b0, b2, Below.refl _ _⟩ (((Below.refl _ _).alloc (Nat.le_refl _) _).drew)
  go_region_held3 (fun w' => w'.cell? ⟨B, 0, none⟩ = some (.string s) ∧ w'.cell? ⟨B, 2, none⟩ = some (.int .i64 f) ∧ w'.cell? ⟨B + 1, 0, none⟩ = some (.string s') ∧ w'.cell? ⟨B + 1, 2, none⟩ = some (.int .i64 f') ∧ Below w2.heap.size w2 w')
    (first
      | go_keep
      | assumption
      | exact keep4 (W := w2) HZ.out ⟨a0, a2, b0, b2, Below.refl _ _⟩ (((Below.refl _ _).alloc (Nat.le_refl _) _).drew)
      | exact keep4 HZ.out (by assumption) ((Below.refl _ _).alloc (Nat.le_refl _) _)
      | (go_split_ands; exact keep4 HZ.out ⟨by assumption, by assumption, by assumption, by assumption, by assumption⟩ ((Below.refl _ _).alloc (Nat.le_refl _) _)))
    (first
      | (go_at_call 34; refine (D1.out _).mono ?_; rintro e wn ⟨rfl, rfl⟩)
      | (go_at_call 36; refine (D2.out _).mono ?_; rintro e wn ⟨rfl, rfl⟩)
      | (go_at_call 33; refine (DO.out _ _ (by show (w2.alloc _).cell? _ = _; rw [World.cell?_alloc_at _ _ _ _ rfl]; rfl) (by show (w2.alloc _).cell? _ = _; rw [World.cell?_alloc_at _ _ _ _ rfl]; rfl)).mono ?_; rintro e wn ⟨rfl, rfl⟩))
  go_wp2
  go_ret
  exact ⟨rfl, HF.out⟩
set_option maxHeartbeats 2000000 in
set_option maxRecDepth 100000 in
theorem useOrder_grow (s p s' p' : ByteArray) (f t x f' t' x' : Int) (w : World) :
    Calls Tryz.prog 25 #[useV s p f t x, useV s' p' f' t' x'] w fun e w' => e = .returned (.int .i64 (ordI f f' s s')) ∧ ∃ q os', w' = grow (w.drewN q) os' := by
  have D1 := Lib.hid (fun W => Tryz.cmp_Compare_int f f' W)
  have D2 := Lib.hid (fun W => Tryz.strings_Compare s s' W)
  unfold useV
  rw [show ordI f f' s s' = orI (Lib.compareInt f f') (Lib.compareBytes s.data.toList s'.data.toList) from rfl]
  generalize Lib.compareInt f f' = ci at D1 ⊢
  generalize Lib.compareBytes s.data.toList s'.data.toList = cb at D2 ⊢
  have DO := Lib.hid (fun b W h0 h1 => or_any ci cb b W h0 h1)
  have HB := Lib.hid (((Below.refl w.heap.size w).alloc (Nat.le_refl _) (.cells #[.string s, .string p, .int .i64 f, .int .i64 t, .int .i64 x] 62)).alloc (by simp) (.cells #[.string s', .string p', .int .i64 f', .int .i64 t', .int .i64 x'] 62))
  have c0 : ∀ i, ((w.alloc (.cells #[.string s, .string p, .int .i64 f, .int .i64 t, .int .i64 x] 62)).alloc (.cells #[.string s', .string p', .int .i64 f', .int .i64 t', .int .i64 x'] 62)).cell? ⟨w.heap.size, i, none⟩ = (#[.string s, .string p, .int .i64 f, .int .i64 t, .int .i64 x] : Array Value)[i]? := by
    intro i
    rw [World.cell?_alloc_past _ _ _ (by simp), World.cell?_alloc_at _ _ _ _ rfl]
  have c1 : ∀ i, ((w.alloc (.cells #[.string s, .string p, .int .i64 f, .int .i64 t, .int .i64 x] 62)).alloc (.cells #[.string s', .string p', .int .i64 f', .int .i64 t', .int .i64 x'] 62)).cell? ⟨w.heap.size + 1, i, none⟩ = (#[.string s', .string p', .int .i64 f', .int .i64 t', .int .i64 x'] : Array Value)[i]? := by
    intro i
    rw [World.cell?_alloc_at _ _ _ _ (by simp)]
  have a0 : ((w.alloc (.cells #[.string s, .string p, .int .i64 f, .int .i64 t, .int .i64 x] 62)).alloc (.cells #[.string s', .string p', .int .i64 f', .int .i64 t', .int .i64 x'] 62)).cell? ⟨w.heap.size, 0, none⟩ = some (.string s) := c0 0
  have a2 : ((w.alloc (.cells #[.string s, .string p, .int .i64 f, .int .i64 t, .int .i64 x] 62)).alloc (.cells #[.string s', .string p', .int .i64 f', .int .i64 t', .int .i64 x'] 62)).cell? ⟨w.heap.size, 2, none⟩ = some (.int .i64 f) := c0 2
  have b0 : ((w.alloc (.cells #[.string s, .string p, .int .i64 f, .int .i64 t, .int .i64 x] 62)).alloc (.cells #[.string s', .string p', .int .i64 f', .int .i64 t', .int .i64 x'] 62)).cell? ⟨w.heap.size + 1, 0, none⟩ = some (.string s') := c1 0
  have b2 : ((w.alloc (.cells #[.string s, .string p, .int .i64 f, .int .i64 t, .int .i64 x] 62)).alloc (.cells #[.string s', .string p', .int .i64 f', .int .i64 t', .int .i64 x'] 62)).cell? ⟨w.heap.size + 1, 2, none⟩ = some (.int .i64 f') := c1 2
  clear c0 c1
  go_enter Tryz.func25, Tryz.ntmps25
  go_wp2_with fail
  have hz : w.heap.size + 1 < ((w.alloc (.cells #[.string s, .string p, .int .i64 f, .int .i64 t, .int .i64 x] 62)).alloc (.cells #[.string s', .string p', .int .i64 f', .int .i64 t', .int .i64 x'] 62)).heap.size := by simp only [World.size_alloc]; omega
  obtain ⟨w2, hw2⟩ : ∃ w2, ((w.alloc (.cells #[.string s, .string p, .int .i64 f, .int .i64 t, .int .i64 x] 62)).alloc (.cells #[.string s', .string p', .int .i64 f', .int .i64 t', .int .i64 x'] 62)) = w2 := ⟨_, rfl⟩
  rw [hw2] at HB a0 a2 b0 b2 hz ⊢
  have HF : Hid (∃ q os', (w2.alloc (.cells #[.int .i64 ci, .int .i64 cb] 3)).drew = grow (w.drewN q) os') := Lib.hid ⟨1, _, by rw [← hw2, alloc_eq_grow, alloc_eq_grow, alloc_eq_grow, grow_grow, grow_grow]; rfl⟩
  clear hw2
  obtain ⟨B, e1⟩ : ∃ B, w.heap.size = B := ⟨_, rfl⟩
  rw [e1] at a0 a2 b0 b2 hz ⊢
  have E1 := Lib.hid e1
  have HZ := Lib.hid hz
  have hbd : Below w2.heap.size w2 w2.drew := (Below.refl _ _).drew
  clear e1 hz
  have hkeep := keep4 (W := w2) (Wn := (w2.alloc (.cells #[.int .i64 ci, .int .i64 cb] 3)).drew) HZ.out ⟨a0, a2, b0, b2, Below.refl _ _⟩ (((Below.refl _ _).alloc (Nat.le_refl _) _).drew)
  go_region_held3 (fun w' => w'.cell? ⟨B, 0, none⟩ = some (.string s) ∧ w'.cell? ⟨B, 2, none⟩ = some (.int .i64 f) ∧ w'.cell? ⟨B + 1, 0, none⟩ = some (.string s') ∧ w'.cell? ⟨B + 1, 2, none⟩ = some (.int .i64 f') ∧ Below w2.heap.size w2 w')
    (first
      | go_keep
      | assumption
      | exact keep4 (W := w2) HZ.out ⟨a0, a2, b0, b2, Below.refl _ _⟩ (((Below.refl _ _).alloc (Nat.le_refl _) _).drew)
      | exact keep4 HZ.out (by assumption) ((Below.refl _ _).alloc (Nat.le_refl _) _)
      | (go_split_ands; exact keep4 HZ.out ⟨by assumption, by assumption, by assumption, by assumption, by assumption⟩ ((Below.refl _ _).alloc (Nat.le_refl _) _)))
    (first
      | (go_at_call 34; refine (D1.out _).mono ?_; rintro e wn ⟨rfl, rfl⟩)
      | (go_at_call 36; refine (D2.out _).mono ?_; rintro e wn ⟨rfl, rfl⟩)
      | (go_at_call 33; refine (DO.out _ _ (by show (w2.alloc _).cell? _ = _; rw [World.cell?_alloc_at _ _ _ _ rfl]; rfl) (by show (w2.alloc _).cell? _ = _; rw [World.cell?_alloc_at _ _ _ _ rfl]; rfl)).mono ?_; rintro e wn ⟨rfl, rfl⟩))
  go_wp2
  go_ret
  exact ⟨rfl, HF.out⟩
end Go.Proofs.YtbkpoepacjinlaaGreat

/- Gear: the two orders of wanted: by the slots' ways, by the parts' ways. -/
namespace Go.Proofs.YtbkpoepacjinlaaGreat
open Go.RowKit Go.BigFrame Go.Sort
set_option maxHeartbeats 4000000 in
set_option maxRecDepth 100000 in
theorem slotCmp_any (B5 B3 bs q off n cap i k : Nat) (si sk : ByteArray) (vi vk : Int) (w : World) (hi : i < n) (hk : k < n)
    (hall : ∀ W, Below w.heap.size w W → W.cell? ⟨B5, 0, none⟩ = some (.map (some bs)) ∧ W.cell? ⟨B3, 0, none⟩ = some (.slice (some ⟨q, off, none⟩) n cap) ∧ W.cell? ⟨q, off + i, none⟩ = some (.string si) ∧ W.cell? ⟨q, off + k, none⟩ = some (.string sk) ∧ (Instr.lookup 68 (.map (some bs)) (.string si) false).run Tryz.prog W = .ok (.int .i64 vi) W ∧ (Instr.lookup 68 (.map (some bs)) (.string sk) false).run Tryz.prog W = .ok (.int .i64 vk) W ∧ Below w.heap.size w W) :
    Calls Tryz.prog 32 (#[.int .i64 i, .int .i64 k] ++ #[.pointer (some ⟨B5, 0, none⟩), .pointer (some ⟨B3, 0, none⟩)]) w fun e w' => e = .returned (.int .i64 (orI (Lib.compareInt vk vi) (Lib.compareInt i k))) ∧ ∃ q os', w' = grow (w.drewN q) os' := by
  have D1 := Lib.hid (fun W => Tryz.cmp_Compare_int vk vi W)
  have D2 := Lib.hid (fun W => Tryz.cmp_Compare_int i k W)
  generalize Lib.compareInt vk vi = ci at D1 ⊢
  generalize Lib.compareInt (i : Int) (k : Int) = cb at D2 ⊢
  have DO := Lib.hid (fun b W h0 h1 => or_any ci cb b W h0 h1)
  have AK := Lib.hid hall
  have HF : Hid (∃ q os', (w.alloc (.cells #[.int .i64 ci, .int .i64 cb] 3)).drew = grow (w.drewN q) os') := Lib.hid ⟨1, _, by rw [alloc_eq_grow]; rfl⟩
  obtain ⟨a1, a2, a3, a4, a5, a6, -⟩ := hall w (Below.refl _ _)
  have hkeep := AK.out _ (((Below.refl w.heap.size w).alloc (Nat.le_refl _) (.cells #[.int .i64 ci, .int .i64 cb] 3)).drew)
  have hbd : Below w.heap.size w w.drew := (Below.refl _ _).drew
  obtain ⟨d1, d2, d3, d4, d5, d6, -⟩ := AK.out _ hbd
  have hb0 : Below w.heap.size w w := Below.refl _ _
  have i1 : (i : Int) < (n : Int) := by omega
  have i2 : (k : Int) < (n : Int) := by omega
  clear hall
  go_enter Tryz.func32, Tryz.ntmps32
  go_wp2_with fail
  go_region_held3 (fun W => W.cell? ⟨B5, 0, none⟩ = some (.map (some bs)) ∧ W.cell? ⟨B3, 0, none⟩ = some (.slice (some ⟨q, off, none⟩) n cap) ∧ W.cell? ⟨q, off + i, none⟩ = some (.string si) ∧ W.cell? ⟨q, off + k, none⟩ = some (.string sk) ∧ (Instr.lookup 68 (.map (some bs)) (.string si) false).run Tryz.prog W = .ok (.int .i64 vi) W ∧ (Instr.lookup 68 (.map (some bs)) (.string sk) false).run Tryz.prog W = .ok (.int .i64 vk) W ∧ Below w.heap.size w W)
    (first
      | go_keep
      | assumption
      | exact AK.out _ (((Below.refl w.heap.size w).alloc (Nat.le_refl _) _).drew)
      | exact AK.out _ (by assumption)
      | exact AK.out _ ((Below.refl w.heap.size w).alloc (Nat.le_refl _) _)
      | (go_split_ands; exact AK.out _ ((Below.refl w.heap.size w).alloc (Nat.le_refl _) _)))
    (first
      | (go_at_call 34; first | (refine ((by with_reducible exact D1.out _ : Calls _ _ _ _ _)).mono ?_; rintro e wn ⟨rfl, rfl⟩) | (refine ((by with_reducible exact D2.out _ : Calls _ _ _ _ _)).mono ?_; rintro e wn ⟨rfl, rfl⟩))
      | (go_at_call 36; refine (D2.out _).mono ?_; rintro e wn ⟨rfl, rfl⟩)
      | (go_at_call 33; refine (DO.out _ _ (by show (w.alloc _).cell? _ = _; rw [World.cell?_alloc_at _ _ _ _ rfl]; rfl) (by show (w.alloc _).cell? _ = _; rw [World.cell?_alloc_at _ _ _ _ rfl]; rfl)).mono ?_; rintro e wn ⟨rfl, rfl⟩))
  all_goals (try go_wp2)
  all_goals (go_ret; exact ⟨rfl, HF.out⟩)
set_option maxHeartbeats 4000000 in
set_option maxRecDepth 100000 in
theorem partCmp_any (B5 B3 bs q off n cap i k : Nat) (si sk : ByteArray) (vi vk : Int) (w : World) (hi : i < n) (hk : k < n)
    (hall : ∀ W, Below w.heap.size w W → W.cell? ⟨B5, 0, none⟩ = some (.map (some bs)) ∧ W.cell? ⟨B3, 0, none⟩ = some (.slice (some ⟨q, off, none⟩) n cap) ∧ W.cell? ⟨q, off + i, none⟩ = some (.string si) ∧ W.cell? ⟨q, off + k, none⟩ = some (.string sk) ∧ (Instr.lookup 68 (.map (some bs)) (.string si) false).run Tryz.prog W = .ok (.int .i64 vi) W ∧ (Instr.lookup 68 (.map (some bs)) (.string sk) false).run Tryz.prog W = .ok (.int .i64 vk) W ∧ Below w.heap.size w W) :
    Calls Tryz.prog 35 (#[.int .i64 i, .int .i64 k] ++ #[.pointer (some ⟨B5, 0, none⟩), .pointer (some ⟨B3, 0, none⟩)]) w fun e w' => e = .returned (.int .i64 (orI (Lib.compareInt vi vk) (Lib.compareBytes si.data.toList sk.data.toList))) ∧ ∃ q os', w' = grow (w.drewN q) os' := by
  have D1 := Lib.hid (fun W => Tryz.cmp_Compare_int vi vk W)
  have D2 := Lib.hid (fun W => Tryz.strings_Compare si sk W)
  generalize Lib.compareInt vi vk = ci at D1 ⊢
  generalize Lib.compareBytes si.data.toList sk.data.toList = cb at D2 ⊢
  have DO := Lib.hid (fun b W h0 h1 => or_any ci cb b W h0 h1)
  have AK := Lib.hid hall
  have HF : Hid (∃ q os', (w.alloc (.cells #[.int .i64 ci, .int .i64 cb] 3)).drew = grow (w.drewN q) os') := Lib.hid ⟨1, _, by rw [alloc_eq_grow]; rfl⟩
  obtain ⟨a1, a2, a3, a4, a5, a6, -⟩ := hall w (Below.refl _ _)
  have hkeep := AK.out _ (((Below.refl w.heap.size w).alloc (Nat.le_refl _) (.cells #[.int .i64 ci, .int .i64 cb] 3)).drew)
  have hbd : Below w.heap.size w w.drew := (Below.refl _ _).drew
  obtain ⟨d1, d2, d3, d4, d5, d6, -⟩ := AK.out _ hbd
  have hb0 : Below w.heap.size w w := Below.refl _ _
  have i1 : (i : Int) < (n : Int) := by omega
  have i2 : (k : Int) < (n : Int) := by omega
  clear hall
  go_enter Tryz.func35, Tryz.ntmps35
  go_wp2_with fail
  go_region_held3 (fun W => W.cell? ⟨B5, 0, none⟩ = some (.map (some bs)) ∧ W.cell? ⟨B3, 0, none⟩ = some (.slice (some ⟨q, off, none⟩) n cap) ∧ W.cell? ⟨q, off + i, none⟩ = some (.string si) ∧ W.cell? ⟨q, off + k, none⟩ = some (.string sk) ∧ (Instr.lookup 68 (.map (some bs)) (.string si) false).run Tryz.prog W = .ok (.int .i64 vi) W ∧ (Instr.lookup 68 (.map (some bs)) (.string sk) false).run Tryz.prog W = .ok (.int .i64 vk) W ∧ Below w.heap.size w W)
    (first
      | go_keep
      | assumption
      | exact AK.out _ (((Below.refl w.heap.size w).alloc (Nat.le_refl _) _).drew)
      | exact AK.out _ (by assumption)
      | exact AK.out _ ((Below.refl w.heap.size w).alloc (Nat.le_refl _) _)
      | (go_split_ands; exact AK.out _ ((Below.refl w.heap.size w).alloc (Nat.le_refl _) _)))
    (first
      | (go_at_call 34; first | (refine ((by with_reducible exact D1.out _ : Calls _ _ _ _ _)).mono ?_; rintro e wn ⟨rfl, rfl⟩) | (refine ((by with_reducible exact D2.out _ : Calls _ _ _ _ _)).mono ?_; rintro e wn ⟨rfl, rfl⟩))
      | (go_at_call 36; refine (D2.out _).mono ?_; rintro e wn ⟨rfl, rfl⟩)
      | (go_at_call 33; refine (DO.out _ _ (by show (w.alloc _).cell? _ = _; rw [World.cell?_alloc_at _ _ _ _ rfl]; rfl) (by show (w.alloc _).cell? _ = _; rw [World.cell?_alloc_at _ _ _ _ rfl]; rfl)).mono ?_; rintro e wn ⟨rfl, rfl⟩))
  all_goals (try go_wp2)
  all_goals (go_ret; exact ⟨rfl, HF.out⟩)
end Go.Proofs.YtbkpoepacjinlaaGreat

/- Gear: a service makes nothing due earlier (plain law for GearServiceHelps). -/
namespace Go.Proofs.YtbkpoepacjinlaaGreat
open Go.RowKit Go.BigFrame
open Gar (chk momG hasS hasP)

/-- one service more -/
def Servs.snoc (v : Servs) (p : ByteArray) (t : Int) : Servs := ⟨v.n + 1, fun i => if i = v.n then p else v.p i, fun i => if i = v.n then t else v.t i⟩
theorem lastS_old (v : Servs) (p part : ByteArray) (t m : Int) : ∀ k, k ≤ v.n → lastS (v.snoc p t) part m k = lastS v part m k
  | 0, _ => rfl
  | k + 1, h => by
    rw [lastS, lastS, lastS_old v p part t m k (by omega)]
    have h1 : (v.snoc p t).p k = v.p k := if_neg (by omega)
    have h2 : (v.snoc p t).t k = v.t k := if_neg (by omega)
    rw [h1, h2]
theorem lastS_new (v : Servs) (p part : ByteArray) (t m : Int) : lastS (v.snoc p t) part m (v.snoc p t).n = if p = part ∧ t ≤ m then max (lastS v part m v.n) t else lastS v part m v.n := by
  show lastS (v.snoc p t) part m (v.n + 1) = _
  have h1 : (v.snoc p t).p v.n = p := if_pos rfl
  have h2 : (v.snoc p t).t v.n = t := if_pos rfl
  rw [lastS, lastS_old v p part t m v.n (Nat.le_refl _), h1, h2]
/-- a part in a slot: its first mount began -/
theorem first_le {g : Gar} (h : chk g = 0) {m : Int} {j : Nat} (hp : partJ g m j ≠ ⟨#[]⟩) : ∃ q : Nat, firstI g (partJ g m j) = q ∧ q < g.nm ∧ g.mp q = partJ g m j ∧ g.mf q ≤ m := by
  have key : ∀ (n k : Nat) (p : ByteArray), k + n ≤ g.nm → inF g (g.sn j) m n k = some p → ∃ i, i < g.nm ∧ g.mp i = p ∧ g.mf i ≤ m := by
    intro n
    induction n with
    | zero => intro k p _ ho; simp [inF] at ho
    | succ n ih =>
      intro k p hk ho
      rw [inF] at ho
      split at ho
      · rename_i hc
        injection ho with ho
        rw [Bool.and_eq_true] at hc
        have h2 := hc.2
        unfold isG at h2
        rw [Bool.and_eq_true, decide_eq_true_eq, decide_eq_true_eq] at h2
        exact ⟨k, by omega, ho, h2.1⟩
      · exact ih (k + 1) p (by omega) ho
  have hx : ∃ i, i < g.nm ∧ g.mp i = partJ g m j ∧ g.mf i ≤ m := by
    unfold partJ at hp ⊢
    cases ho : inF g (g.sn j) m g.nm 0 with
    | none => rw [ho] at hp; exact absurd rfl hp
    | some p => exact key g.nm 0 p (by omega) ho
  obtain ⟨i, hi, he, hf⟩ := hx
  obtain ⟨q, hq, _, hqi, hqp⟩ := idxF_hit (fun i => decide (g.mp i = partJ g m j)) g.nm 0 i (Nat.zero_le _) (by omega) (by simpa using he)
  have hmono := Gar.mf_mono (Gar.chk_parts h).2.2.2.2.2.2.1 i q hqi hi
  exact ⟨q, hq, by omega, by simpa using hqp, by omega⟩
/-- did no mount of the part begin behind the service? -/
def laterB (g : Gar) (p : ByteArray) (t : Int) : Bool := !(decide (0 ≤ idxF (fun i => decide (g.mp i = p) && decide (t < g.mf i)) g.nm 0))
theorem later_mf {g : Gar} {p : ByteArray} {t : Int} (h : laterB g p t = true) {q : Nat} (hq : q < g.nm) (hp : g.mp q = p) : g.mf q ≤ t := by
  by_cases c : t < g.mf q
  · obtain ⟨j, hj, _⟩ := idxF_hit (fun i => decide (g.mp i = p) && decide (t < g.mf i)) g.nm 0 q (Nat.zero_le _) (by omega) (by simp [hp, c])
    unfold laterB at h
    rw [hj] at h
    simp at h
  · omega
theorem served_mono {g : Gar} (h : chk g = 0) (v : Servs) {p : ByteArray} {t m : Int} {j : Nat} (hp : partJ g m j ≠ ⟨#[]⟩) (ht : 0 ≤ t) (hl : laterB g p t = true) :
    servedF g v (partJ g m j) m ≤ servedF g (v.snoc p t) (partJ g m j) m := by
  obtain ⟨q, hq, hqn, hqp, _⟩ := first_le h hp
  have hn := lastS_new v p (partJ g m j) t m
  have hg := lastS_ge v (partJ g m j) m v.n
  unfold servedF
  rw [hn, hq]
  by_cases c : p = partJ g m j ∧ t ≤ m
  · rw [if_pos c]
    have hf := later_mf hl hqn (hqp.trans c.1.symm)
    by_cases d : lastS v (partJ g m j) m v.n < 0
    · rw [if_pos d, if_neg (by omega)]
      show g.mf q ≤ _
      omega
    · rw [if_neg d, if_neg (by omega)]
      omega
  · rw [if_neg c]
    omega
theorem served_le {g : Gar} (h : chk g = 0) (v : Servs) {m : Int} {j : Nat} (hp : partJ g m j ≠ ⟨#[]⟩) : servedF g v (partJ g m j) m ≤ m := by
  obtain ⟨q, hq, _, _, hf⟩ := first_le h hp
  have h1 := lastS_le v (partJ g m j) m v.n
  unfold servedF
  rw [hq]
  split
  · exact hf
  · omega
theorem wear_anti (g : Gar) (part : ByteArray) {f f' : Int} (t : Int) (hf : f ≤ f') : ∀ (l : List Ev) (a b : WSt), (∀ e, e ∈ l → 0 ≤ e.way) → b.way ≤ a.way → (l.foldl (wearE g part f' t) b).way ≤ (l.foldl (wearE g part f t) a).way
  | [], a, b, _, h => h
  | e :: l, a, b, hl, h => by
    rw [List.foldl_cons, List.foldl_cons]
    have he := hl e (by simp)
    refine wear_anti g part t hf l _ _ (fun x hx => hl x (by simp [hx])) ?_
    unfold wearE
    by_cases c : e.p = part ∧ f ≤ g.uf e.i ∧ g.uf e.i < t
    · rw [if_pos c]
      split
      · show b.way + e.way ≤ a.way + e.way
        omega
      · show b.way ≤ a.way + e.way
        omega
    · rw [if_neg c, if_neg (fun d => c ⟨d.1, by omega, d.2.2⟩)]
      exact h
/-- two lists of what is due, one beside the other -/
def DRel (P : Prop) : List Duc → List Duc → Prop
  | [], [] => True
  | a :: l, b :: l' => (P → a.way ≤ b.way ∧ a.days ≤ b.days) ∧ DRel P l l'
  | _, _ => False
theorem DRel.append {P : Prop} : ∀ {a b c d : List Duc}, DRel P a b → DRel P c d → DRel P (a ++ c) (b ++ d)
  | [], [], _, _, _, h => h
  | _ :: _, _ :: _, _, _, h, h' => ⟨h.1, DRel.append h.2 h'⟩
  | [], _ :: _, _, _, h, _ => h.elim
  | _ :: _, [], _, _, h, _ => h.elim
theorem DRel.length {P : Prop} : ∀ {a b : List Duc}, DRel P a b → a.length = b.length
  | [], [], _ => rfl
  | _ :: _, _ :: _, h => by rw [List.length_cons, List.length_cons, DRel.length h.2]
  | [], _ :: _, h => h.elim
  | _ :: _, [], h => h.elim
def due0 : Duc := ⟨⟨#[]⟩, ⟨#[]⟩, 0, 0, 0⟩
theorem DRel.get {P : Prop} (hP : P) : ∀ {a b : List Duc} (i : Nat), DRel P a b → (a.getD i due0).way ≤ (b.getD i due0).way ∧ (a.getD i due0).days ≤ (b.getD i due0).days
  | [], [], _, _ => ⟨Int.le_refl _, Int.le_refl _⟩
  | _ :: _, _ :: _, 0, h => h.1 hP
  | _ :: l, _ :: l', i + 1, h => DRel.get hP (a := l) (b := l') i h.2
  | [], _ :: _, _, h => h.elim
  | _ :: _, [], _, h => h.elim
theorem tdiv_mono {a b : Int} (h0 : 0 ≤ a) (h : a ≤ b) : a.tdiv 86400 ≤ b.tdiv 86400 := by
  rw [Int.tdiv_eq_ediv_of_nonneg h0, Int.tdiv_eq_ediv_of_nonneg (by omega)]
  omega
theorem dueK_rel {P : Prop} (g : Gar) (c : Cares) (m : Int) (part : ByteArray) (s s' y y' : Int) (j : Nat) (h : P → s ≤ s' ∧ s' ≤ m ∧ y' ≤ y) : ∀ k, DRel P (dueK g c m part s y j k) (dueK g c m part s' y' j k)
  | 0 => trivial
  | k + 1 => by
    rw [dueK, dueK]
    refine DRel.append (dueK_rel g c m part s s' y y' j h k) ?_
    split
    · refine ⟨fun hP => ?_, trivial⟩
      obtain ⟨h1, h2, h3⟩ := h hP
      have h4 := tdiv_mono (a := m - s') (b := m - s) (by omega) (by omega)
      refine ⟨?_, ?_⟩
      · show (if 0 < c.w k then c.w k - y else 0) ≤ (if 0 < c.w k then c.w k - y' else 0)
        split <;> omega
      · show (if 0 < c.d k then c.d k - (m - s).tdiv 86400 else 0) ≤ (if 0 < c.d k then c.d k - (m - s').tdiv 86400 else 0)
        split <;> omega
    · trivial
/-- a service more: as many lines; none is due earlier -/
theorem dueJ_rel {g : Gar} (hc : chk g = 0) (c : Cares) (v : Servs) {p : ByteArray} {t : Int} (ht : 0 ≤ t) (m : Int) : ∀ j, DRel (laterB g p t = true) (dueJ g c v m j) (dueJ g c (v.snoc p t) m j)
  | 0 => trivial
  | j + 1 => by
    rw [dueJ, dueJ]
    refine DRel.append (dueJ_rel hc c v ht m j) ?_
    by_cases hp : partJ g m j = ⟨#[]⟩
    · rw [if_pos hp, if_pos hp]
      trivial
    · rw [if_neg hp, if_neg hp]
      refine dueK_rel g c m _ _ _ _ _ j (fun hl => ?_) c.n
      have h1 := served_mono hc v hp ht hl
      refine ⟨h1, served_le hc (v.snoc p t) hp, ?_⟩
      unfold wayJ
      exact wear_anti g _ m h1 _ _ _ (fun e he => ((evG_all hc g.nu (Nat.le_refl _)).1 e he).1) (Int.le_refl _)
theorem servs_mom {g : Gar} {v : Servs} : ∀ (n k : Nat), chkV g v n k = 0 → ∀ i, k ≤ i → i < k + n → momG (v.t i) = true
  | 0, k, _, i, h1, h2 => by omega
  | n + 1, k, h, i, h1, h2 => by
    rw [chkV] at h
    split at h
    · omega
    · split at h
      · omega
      · rename_i a b
        by_cases e : i = k
        · subst e; simpa using b
        · exact servs_mom n (k + 1) h i (by omega) (by omega)
/-- the second list was told: the time of the service is a moment -/
theorem snoc_mom {g : Gar} {c : Cares} {v : Servs} {p : ByteArray} {t m : Int} (h : careErr g c (v.snoc p t) m = 0) : 0 ≤ t := by
  obtain ⟨_, _, _, h4, _⟩ := care_zero h
  have := servs_mom _ _ h4 v.n (Nat.zero_le _) (by show v.n < 0 + (v.n + 1); omega)
  rw [show (v.snoc p t).t v.n = t from if_pos rfl] at this
  unfold momG at this
  rw [Bool.and_eq_true, decide_eq_true_eq, decide_eq_true_eq] at this
  exact this.1
end Go.Proofs.YtbkpoepacjinlaaGreat

/- Gear: a row of services cloned, and one more; ContainsFunc over mounts (for GearServiceHelps). -/
namespace Go.Proofs.YtbkpoepacjinlaaGreat
open Go.RowKit Go.BigFrame
open Gar (chk momG hasS hasP)

def servCs (v : Servs) : List Value := (List.range v.n).flatMap v.cells
theorem flat_congr {f g : Nat → List Value} : ∀ {l : List Nat}, (∀ i, i ∈ l → f i = g i) → l.flatMap f = l.flatMap g
  | [], _ => rfl
  | i :: l, h => by rw [List.flatMap_cons, List.flatMap_cons, h i (by simp), flat_congr (l := l) fun j hj => h j (by simp [hj])]
theorem servCs_snoc (v : Servs) (p : ByteArray) (t : Int) : servCs (v.snoc p t) = servCs v ++ [.string p, .int .i64 t] := by
  unfold servCs
  show (List.range (v.n + 1)).flatMap (v.snoc p t).cells = _
  rw [List.range_succ, List.flatMap_append]
  congr 1
  · refine flat_congr fun i hi => ?_
    have hi := List.mem_range.1 hi
    unfold Servs.cells Servs.snoc
    simp only
    rw [if_neg (by omega), if_neg (by omega)]
  · unfold Servs.cells Servs.snoc
    simp
theorem row_cells {w : World} {b off n k : Nat} {f : Nat → List Value} (hf : ∀ i, (f i).length = k) (hk : 0 < k) (h : ∀ i, i < n → ∀ j, j < k → w.cell? ⟨b, off + i * k + j, none⟩ = (f i)[j]?) :
    ∀ j u, ((List.range n).flatMap f)[j]? = some u → w.cell? ⟨b, off + j, none⟩ = some u := by
  intro j u hu
  have hl : ((List.range n).flatMap f).length = n * k := by
    clear h hu
    induction n with
    | zero => simp
    | succ n ih => rw [List.range_succ, List.flatMap_append, List.length_append, ih]; simp [hf, Nat.succ_mul]
  have hj : j < n * k := by
    rw [← hl]
    exact (List.getElem?_eq_some_iff.1 hu).1
  have hq : j / k < n := (Nat.div_lt_iff_lt_mul hk).2 hj
  have hr : j % k < k := Nat.mod_lt _ hk
  have he : j = j / k * k + j % k := by rw [Nat.mul_comm]; exact (Nat.div_add_mod j k).symm
  rw [he] at hu
  rw [flatN (f := f) (m := k) 0 hf (List.range n) (j / k) (j % k) (by simpa using hq) hr] at hu
  rw [List.getD_eq_getElem?_getD, List.getElem?_range hq, Option.getD_some] at hu
  rw [← hu, ← h _ hq _ hr]
  congr 2
  omega
theorem own_row {w : World} {base e k n : Nat} {v : Value} {f : Nat → List Value} (hf : ∀ i, (f i).length = k) (hr : w.ownsRow base e k v n ((List.range n).flatMap f)) : ∃ (am : Option Addr) (cm : Nat), v = .slice am n cm ∧ RowK w am n k f := by
  rcases hr.2 with ⟨e, hn⟩ | ⟨q, cap, cur, e, _, h3, _⟩
  · exact ⟨none, 0, by rw [e, hn], ⟨fun h => by omega⟩⟩
  · refine ⟨some ⟨q, 0, none⟩, cap, e, ⟨fun hl => ⟨q, 0, rfl, lt_of_block h3, fun i hi j hj => ?_⟩⟩⟩
    have hc := flatN (f := f) (m := k) 0 hf (List.range n) i j (by simpa using hi) hj
    rw [List.getD_eq_getElem?_getD, List.getElem?_range hi, Option.getD_some] at hc
    have hv : ∃ v, (f i)[j]? = some v := ⟨_, List.getElem?_eq_getElem (by rw [hf]; exact hj)⟩
    obtain ⟨v, hv⟩ := hv
    have h6 := hr.cells (g := q) (by rw [e]; rfl) (i * k + j) v (hc.trans hv)
    rw [addr_add0] at h6
    rw [Nat.zero_add, hv]
    exact h6
theorem servCs_row {v : Servs} {w : World} {b off : Nat} (h : ∀ i, i < v.n → ∀ j, j < 2 → w.cell? ⟨b, off + i * 2 + j, none⟩ = (v.cells i)[j]?) : ∀ j u, (servCs v)[j]? = some u → w.cell? ⟨b, off + j, none⟩ = some u := row_cells (fun _ => rfl) (by omega) h
theorem servCs_len (v : Servs) : (servCs v).length = v.n * 2 := by
  unfold servCs
  induction v.n with
  | zero => rfl
  | succ n ih => rw [List.range_succ, List.flatMap_append, List.length_append, ih]; simp [Servs.cells, Nat.succ_mul]
theorem servCs_one (v : Servs) : ∀ u ∈ servCs v, u.oneCell' = true := by
  intro u hu
  unfold servCs at hu
  obtain ⟨i, _, hi⟩ := List.mem_flatMap.1 hu
  simp only [Servs.cells, List.mem_cons, List.not_mem_nil, or_false] at hi
  rcases hi with rfl | rfl <;> rfl

end Go.Proofs.YtbkpoepacjinlaaGreat

/- Tools for rows of a call's own: sorted by the library; appended from a row that came in (any program). -/
namespace Go.Proofs.YtbkpoepacjinlaaGreat
open Go.RowKit Go.BigFrame

section sorted
open Go.Sort
variable {α : Type} {enc : α → List Value} {k : Nat}
theorem flat_len (hk : ∀ x, (enc x).length = k) : ∀ l : List α, (l.flatMap enc).length = l.length * k
  | [] => by simp
  | x :: l => by rw [List.flatMap_cons, List.length_append, hk, flat_len hk l, List.length_cons, Nat.succ_mul]; omega
theorem perm_one {lt : α → α → Bool} (hO : SWO lt) : ∀ (l1 l2 : List α), l1.Perm l2 → l1.Pairwise (fun x y => lt x y = true) → l2.Pairwise (fun x y => lt x y = true) → l1 = l2
  | [], l2, hp, _, _ => by rw [List.nil_perm.1 hp]
  | a :: l1, [], hp, _, _ => by have := hp.length_eq; simp at this
  | a :: l1, b :: l2, hp, h1, h2 => by
    rw [List.pairwise_cons] at h1 h2
    have hab : a = b := by
      rcases List.mem_cons.1 (hp.subset (List.mem_cons_self (a := a) (l := l1))) with e | ha
      · exact e
      · rcases List.mem_cons.1 (hp.symm.subset (List.mem_cons_self (a := b) (l := l2))) with e | hb
        · exact e.symm
        · have := hO.trans _ _ _ (h1.1 b hb) (h2.1 a ha)
          rw [hO.irrefl] at this
          cases this
    subst hab
    rw [perm_one hO l1 l2 (List.Perm.cons_inv hp) h1.2 h2.2]
variable [Inhabited α]
theorem flat_at (hk : ∀ x, (enc x).length = k) : ∀ (l : List α) (i j : Nat), i < l.length → j < k → (l.flatMap enc)[i * k + j]? = (enc (l.getD i default))[j]?
  | [], i, j, h, _ => absurd h (by simp)
  | x :: l, 0, j, _, hj => by
    rw [List.flatMap_cons, Nat.zero_mul, Nat.zero_add, List.getElem?_append_left (by rw [hk]; exact hj)]
    rfl
  | x :: l, i + 1, j, h, hj => by
    rw [List.flatMap_cons, List.getElem?_append_right (by rw [hk, Nat.succ_mul]; omega), hk, show (i + 1) * k + j - k = i * k + j by rw [Nat.succ_mul]; omega]
    rw [flat_at hk l i j (by simpa using h) hj]
    rfl
theorem flatK_list (hk : ∀ x, (enc x).length = k) (l : List α) : (flatK enc k l.toArray).toList = l.flatMap enc := by
  apply List.ext_getElem?
  intro t
  by_cases h : t < l.length * k
  · have k0 : 0 < k := by
      rcases Nat.eq_zero_or_pos k with e | e
      · subst e; simp at h
      · exact e
    have h1 : t / k < l.length := (Nat.div_lt_iff_lt_mul k0).2 h
    have h2 : t % k < k := Nat.mod_lt _ k0
    have e := flat_at hk l (t / k) (t % k) h1 h2
    rw [Nat.mul_comm, Nat.div_add_mod] at e
    have hs : t < (flatK enc k l.toArray).size := by rw [size_flatK]; simpa using h
    rw [e, Array.getElem?_toList, Array.getElem?_eq_getElem hs]
    have g := get_flatK enc k l.toArray t (by simpa using h)
    rw [getElem!_pos _ t hs] at g
    have h3 : t % k < (enc (l.getD (t / k) default)).length := by rw [hk]; exact h2
    rw [List.getElem?_eq_getElem h3, g]
    congr 1
    have e2 : l.toArray[t / k]! = l.getD (t / k) default := by
      rw [getElem!_pos _ _ (by simpa using h1)]
      simp [List.getD_eq_getElem?_getD, List.getElem?_eq_getElem h1]
    rw [e2, getElem!_pos (enc (l.getD (t / k) default)) (t % k) h3]
  · rw [List.getElem?_eq_none (by rw [Array.length_toList, size_flatK]; simpa using h), List.getElem?_eq_none (by rw [flat_len hk]; omega)]
theorem own_holds (hk : ∀ x, (enc x).length = k) {w : World} {base g n cap : Nat} {e : TypeId} {l : List α} (h : w.ownsRow base e k (.slice (some ⟨g, 0, none⟩) n cap) n (l.flatMap enc)) : HoldsK enc k w g 0 l.toArray := by
  intro j hj
  have hl : l.length * k = n * k := by rw [← flat_len hk, h.1]
  have hj2 : j < n * k := by rw [← hl]; simpa using hj
  refine ⟨?_, by rw [Nat.zero_add]; exact h.frozenAt j⟩
  rw [Nat.zero_add, h.cellAt j hj2, ← flatK_list hk, Array.getElem?_toList, Array.getElem?_eq_getElem hj]
  show _ = some (flatK enc k l.toArray)[j]!
  rw [getElem!_pos _ j hj]
theorem heap_sortedK {w : World} {g n : Nat} {os : Array Obj} {cur F : Array Value} {e : TypeId} {fr : Nat × Nat} (hb : w.heap[g]? = some (.cells cur e fr)) :
    (grow (putRow id (Sort.ahead w n) g 0 F) os).heap[g]? = some (.cells (putCells id 0 F cur) e fr) := by
  have hg : g < w.heap.size := (Array.getElem?_eq_some_iff.1 hb).1
  rw [heap_grow_old _ _ (by simpa using hg)]
  simp [putRow, mapBlock, Sort.ahead, Array.getElem?_modify, hb, onCells]
theorem take_putCellsK (cur F : Array Value) (h : F.size ≤ cur.size) : (putCells id 0 F cur).toList.take F.size = F.toList := by
  apply List.ext_getElem?
  intro j
  by_cases hj : j < F.size
  · rw [List.getElem?_take_of_lt hj, Array.getElem?_toList]
    simp [putCells, hj, show j < cur.size by omega]
  · rw [List.getElem?_take_eq_none (by omega), List.getElem?_eq_none (by simp; omega)]
theorem own_sorted (hk : ∀ x, (enc x).length = k) {w : World} {base g n cap : Nat} {e : TypeId} {l : List α} {d : Array α} (h : w.ownsRow base e k (.slice (some ⟨g, 0, none⟩) n cap) n (l.flatMap enc)) (hd : d.size = l.length) (m : Nat) (os : Array Obj) :
    (sortWorldK enc k w g 0 m d os).ownsRow base e k (.slice (some ⟨g, 0, none⟩) n cap) n (d.toList.flatMap enc) ∧ w.grownBy (sortWorldK enc k w g 0 m d os) (some g) := by
  have hl : l.length * k = n * k := by rw [← flat_len hk, h.1]
  have hF : (flatK enc k d).toList = d.toList.flatMap enc := flatK_list hk d.toList
  have hFs : (flatK enc k d).size = n * k := by rw [size_flatK, hd, hl]
  refine ⟨⟨by rw [flat_len hk, ← hl, ← hd]; simp, ?_⟩, ⟨rfl, rfl, rfl, by simp [sortWorldK, putRowK, size_grow], fun q hq hne => ?_⟩⟩
  · rcases h.2 with ⟨h0, _⟩ | ⟨g', cap', cur, hv, hg, hb, hn, hcap, hcs, _⟩
    · cases h0
    · injection hv with h1 h2 h3
      injection h1 with h1
      injection h1 with h1
      subst h1
      subst h3
      refine Or.inr ⟨g, cap, putCells id 0 (flatK enc k d) cur, rfl, hg, heap_sortedK hb, hn, hcap, by simp [putCells, hcs], ?_⟩
      rw [← hF, ← hFs]
      exact take_putCellsK cur _ (by rw [hFs, hcs]; exact Nat.mul_le_mul_right _ hn)
  · unfold sortWorldK putRowK
    rw [heap_grow_old _ _ (by simpa using hq)]
    have : g ≠ q := fun e => hne (by rw [e])
    simp [putRow, mapBlock, Sort.ahead, Array.getElem?_modify, this]
/-- what the sort leaves is the one sorted row, where all elements differ in the order -/
theorem sorted_one {lt : α → α → Bool} (hO : SWO lt) {l l' : List α} {d : Array α} (hp : PermIn 0 l.toArray.size l.toArray d) (hs : SortedIn lt 0 l.toArray.size d) (hl : l'.Perm l) (hl' : l'.Pairwise (fun x y => lt x y = true)) : d.toList = l' := by
  obtain ⟨h1, _, h3⟩ := hp
  have e1 : d.extract 0 l.toArray.size = d := by rw [← h1]; simp
  have e2 : l.toArray.extract 0 l.toArray.size = l.toArray := by simp
  rw [e1, e2] at h3
  have hpd : d.toList.Perm l' := (show d.toList.Perm l from h3).trans hl.symm
  refine perm_one hO _ _ hpd ?_ hl'
  have hd : l'.Pairwise (fun x y => lt x y = true ∨ lt y x = true) := hl'.imp fun h => Or.inl h
  have hd2 : d.toList.Pairwise (fun x y => lt x y = true ∨ lt y x = true) := (List.Perm.pairwise_iff (fun h => h.symm) hpd).2 hd
  rw [List.pairwise_iff_getElem] at hd2 ⊢
  intro i j hi hj hij
  have hsz : l.toArray.size = d.size := h1.symm
  have := hs i j (Nat.zero_le _) hij (by rw [hsz]; simpa using hj)
  rw [getElem!_pos d j (by simpa using hj), getElem!_pos d i (by simpa using hi)] at this
  rcases hd2 i j hi hj hij with h | h
  · exact h
  · simp only [Array.getElem_toList] at h
    rw [h] at this
    cases this
end sorted

section kept
theorem ownsRow_kept {w w' : World} {base e k n : Nat} {v : Value} {xs : List Value} {O : Nat → Prop} (h : w.ownsRow base e k v n xs) (hk : Kept O w w') (hO : ∀ b, base ≤ b → ¬ O b) : w'.ownsRow base e k v n xs := by
  obtain ⟨h1, h2⟩ := h
  refine ⟨h1, ?_⟩
  rcases h2 with h7 | ⟨q, cap, cur, e1, e2, e3, e4⟩
  · exact Or.inl h7
  · exact Or.inr ⟨q, cap, cur, e1, e2, (hk.block q (lt_of_block e3) (hO q e2)).trans e3, e4⟩
/-- a row of the call's own and where it lies: address, capacity -/
theorem ownRow_hdr {w : World} {base e k n : Nat} {v : Value} {f : Nat → List Value} (hf : ∀ i, (f i).length = k) (hr : w.ownsRow base e k v n ((List.range n).flatMap f)) : ∃ (am : Option Addr) (cm : Nat), v = .slice am n cm ∧ n ≤ cm ∧ RowK w am n k f := by
  obtain ⟨am, cm, h1, h2⟩ := own_row hf hr
  refine ⟨am, cm, h1, ?_, h2⟩
  rcases hr.2 with ⟨e, hn⟩ | ⟨q, cap, cur, e, _, _, h3, _⟩
  · omega
  · rw [h1] at e
    injection e with _ _ e
    omega
/-- four cells stored -/
theorem store4 {w : World} {b : Nat} {T : TypeId} {u0 u1 u2 u3 : Value} (h : w.heap[b]? = some (.cells #[u0, u1, u2, u3] T (0, 0))) (v0 v1 v2 v3 : Value) :
    ∃ W, (((w.setCell ⟨b, 0, none⟩ v0).setCell ⟨b, 1, none⟩ v1).setCell ⟨b, 2, none⟩ v2).setCell ⟨b, 3, none⟩ v3 = W ∧ W.heap[b]? = some (.cells #[v0, v1, v2, v3] T (0, 0)) ∧ Kept (fun k => k = b) w W ∧ W.heap.size = w.heap.size :=
  ⟨_, rfl, cells_setCell (cells_setCell (cells_setCell (cells_setCell h))), kept_set (O := fun k => k = b) (kept_set (O := fun k => k = b) (kept_set (O := fun k => k = b) (kept_set (O := fun k => k = b) (Kept.refl _ _) rfl _) rfl _) rfl _) rfl _, by simp [World.setCell]⟩
end kept

section append
variable {P : Program} {o : Oper} {a : Act} {K : Act → World → Prop} {Q : Exit → Act → World → Prop}
theorem grown_self (w : World) (row : Option Nat) : w.grownBy w row := ⟨rfl, rfl, rfl, Nat.le_refl _, fun _ _ _ => rfl⟩
theorem run_append_none' {w : World} (base : Nat) (t ty e : TypeId) (i : TypeInfo) (size c : Nat) (ht : P.underlying t = some (.slice e)) (hi : P.info? e = some i)
    (v : Value) (n : Nat) (xs : List Value) (hown : w.ownsRow base e size v n xs) : (Builtin.append_ #[t, t] ty #[v, .slice none 0 c]).run P w = .ok v w := by
  rcases hown.2 with ⟨rfl, rfl⟩ | ⟨g, cap, cur, rfl, _, _, hnc, _⟩
  · simp [Builtin.append_, run_underlying ht, sizeOf, typeInfo, hi, Builtin.lenOf, Builtin.firstCells]
  · simp [Builtin.append_, run_underlying ht, sizeOf, typeInfo, hi, Builtin.lenOf, Builtin.firstCells, hnc, storeCells]
theorem rows_at {w : World} {ad : Addr} {m k : Nat} {f : Nat → List Value} (hf : ∀ i, (f i).length = k) (hk : 0 < k) (hr : RowK w (some ad) m k f) : ∀ j u, ((List.range m).flatMap f)[j]? = some u → w.cell? (ad.add j) = some u := by
  intro j u hj
  rcases Nat.eq_zero_or_pos m with h | h
  · rw [h] at hj; simp at hj
  · obtain ⟨b, off, h1, _, h2⟩ := hr.here h
    injection h1 with h1
    subst h1
    rw [show (⟨b, off, none⟩ : Addr).add j = ⟨b, off + j, none⟩ by unfold Addr.add; split <;> simp_all]
    exact row_cells hf hk h2 j u hj
theorem rng_len {k : Nat} {f : Nat → List Value} (hf : ∀ i, (f i).length = k) (m : Nat) : ((List.range m).flatMap f).length = m * k := by
  induction m with
  | zero => simp
  | succ n ih => rw [List.range_succ, List.flatMap_append, List.length_append, ih]; simp [hf, Nat.succ_mul]
/-- append of a row that came in (nil, or not) to a row of the call's own -/
theorem wp_append_row (w : World) (s x : Operand) (t : TypeId) (ho : o.op = .call { callee := .builtin .append, args := #[s, x], argTypes := #[t, t] })
    (base : Nat) (e : TypeId) (i : TypeInfo) (z : Value) (size bytes : Nat) (ht : P.underlying t = some (.slice e)) (hi : P.info? e = some i) (hz : i.zero = some z)
    (hsize : i.size = size) (hby : i.bytes = bytes) (hzs : z.cells.size = size) (hsz : 0 < size) (v : Value) (n : Nat) (xs : List Value) (hs : a.eval s = v) (hown : w.ownsRow base e size v n xs)
    (av : Option Addr) (m c : Nat) (f : Nat → List Value) (hf : ∀ i, (f i).length = size) (h1 : ∀ i, ∀ u ∈ f i, u.oneCell' = true) (hx : a.eval x = .slice av m c) (hr : RowK w av m size f)
    (h63 : n + m ≤ maxLen) (hbytes : (n + m) * bytes ≤ 140737488355328) (hbase : base ≤ w.heap.size)
    (h : ∀ v' w', w'.ownsRow base e size v' (n + m) (xs ++ (List.range m).flatMap f) → w.grownBy w' v.ownBlock → K (a.put o.dst v') w') : o.wp P a w K Q := by
  cases av with
  | none =>
    have h0 : m = 0 := by
      rcases Nat.eq_zero_or_pos m with h | h
      · exact h
      · obtain ⟨b, off, h1, _⟩ := hr.here h
        cases h1
    subst h0
    have hrun := run_append_none' (P := P) (w := w) base t o.type e i size c ht hi v n xs hown
    unfold Oper.wp execOp
    simp only [ho, resolve, invoke, builtin, Sem.run_bind, Sem.run_pure, Result.andThen_ok, List.map_toArray, List.map_cons, List.map_nil, hs, hx, hrun]
    exact h v w (by simpa using hown) (grown_self w _)
  | some ad =>
    refine wp_append_own w s x t ho base e i z size bytes ht hi hz hsize hby hzs hsz v n xs hs hown ad m c _ hx (rng_len hf m) (rows_at hf hsz hr) ?_ h63 hbytes hbase fun v' w' h2 h3 _ => h v' w' h2 h3
    intro u hu
    obtain ⟨j, _, hj⟩ := List.mem_flatMap.1 hu
    exact h1 j u hj
end append
end Go.Proofs.YtbkpoepacjinlaaGreat

/- Gear: a use more, or less: what Add and Drop return, in plain lists. -/
namespace Go.Proofs.YtbkpoepacjinlaaGreat
open Go Go.Sort
open Gar (endG momG chkP chkS chkM chkU chk anyOver overB hasS hasP befM befU chkUse)

theorem strLt_irr (a : ByteArray) : strLt a a = false := less_irr _
theorem strLt_trans {a b c : ByteArray} (h : strLt a b = true) (k : strLt b c = true) : strLt a c = true := less_trans _ _ _ h k
theorem toList_inj {a b : ByteArray} (h : a.toList = b.toList) : a = b := by
  rw [ByteArray.toList_eq, ByteArray.toList_eq] at h
  cases a with
  | mk x =>
    cases b with
    | mk y => rw [show x = y from Array.toList_inj.1 h]
theorem strLt_tot (a b : ByteArray) : strLt a b = true ∨ strLt b a = true ∨ a = b := by
  have h := str_le a b
  cases hb : strLt b a with
  | true => exact Or.inr (Or.inl rfl)
  | false =>
    rw [hb] at h
    simp only [Bool.not_false, Bool.or_eq_true, beq_iff_eq] at h
    rcases h with h | h
    · exact Or.inl h
    · exact Or.inr (Or.inr (toList_inj h))
section
variable {f1 f2 f3 : Int} {s1 s2 s3 : ByteArray}
theorem befB_iff : befB f1 f2 s1 s2 = true ↔ f1 < f2 ∨ (f1 = f2 ∧ strLt s1 s2 = true) := by simp [befB]
theorem befB_irr (f : Int) (s : ByteArray) : befB f f s s = false := by
  cases h : befB f f s s with
  | false => rfl
  | true =>
    rcases befB_iff.1 h with h | ⟨_, h⟩
    · omega
    · rw [strLt_irr] at h; cases h
theorem befB_trans (h : befB f1 f2 s1 s2 = true) (k : befB f2 f3 s2 s3 = true) : befB f1 f3 s1 s3 = true := by
  rw [befB_iff] at *
  rcases h with h | ⟨h1, h2⟩ <;> rcases k with k | ⟨k1, k2⟩
  · exact Or.inl (by omega)
  · exact Or.inl (by omega)
  · exact Or.inl (by omega)
  · exact Or.inr ⟨by omega, strLt_trans h2 k2⟩
theorem befB_tot (f1 f2 : Int) (s1 s2 : ByteArray) : befB f1 f2 s1 s2 = true ∨ befB f2 f1 s2 s1 = true ∨ (f1 = f2 ∧ s1 = s2) := by
  rw [befB_iff, befB_iff]
  rcases Int.lt_trichotomy f1 f2 with h | h | h
  · exact Or.inl (Or.inl h)
  · rcases strLt_tot s1 s2 with k | k | k
    · exact Or.inl (Or.inr ⟨h, k⟩)
    · exact Or.inr (Or.inl (Or.inr ⟨h.symm, k⟩))
    · exact Or.inr (Or.inr ⟨h, k⟩)
  · exact Or.inr (Or.inl (Or.inl h))
theorem befB_ntrans (h : befB f1 f2 s1 s2 = false) (k : befB f2 f3 s2 s3 = false) : befB f1 f3 s1 s3 = false := by
  have h' : befB f2 f1 s2 s1 = true ∨ (f1 = f2 ∧ s1 = s2) := (befB_tot f1 f2 s1 s2).resolve_left (by rw [h]; simp)
  have k' : befB f3 f2 s3 s2 = true ∨ (f2 = f3 ∧ s2 = s3) := (befB_tot f2 f3 s2 s3).resolve_left (by rw [k]; simp)
  cases e : befB f1 f3 s1 s3 with
  | false => rfl
  | true =>
    rcases h' with h' | ⟨rfl, rfl⟩
    · rcases k' with k' | ⟨rfl, rfl⟩
      · have := befB_trans (befB_trans k' h') e
        rw [befB_irr] at this; cases this
      · rw [h] at e; cases e
    · rw [k] at e; cases e
end
theorem swo_bef {α : Type} (f : α → Int) (s : α → ByteArray) : SWO (fun x y : α => befB (f x) (f y) (s x) (s y)) :=
  ⟨fun _ => befB_irr _ _, fun _ _ _ h k => befB_trans h k, fun _ _ _ h k => befB_ntrans h k⟩
theorem lt_ord {α : Type} (f : α → Int) (s : α → ByteArray) : ltOf (fun x y : α => ordI (f x) (f y) (s x) (s y)) = fun x y : α => befB (f x) (f y) (s x) (s y) := by
  funext x y
  have h := ord_neg (f x) (f y) (s x) (s y)
  unfold ltOf
  cases hb : befB (f x) (f y) (s x) (s y) with
  | true => rw [hb] at h; simp at h; rw [decide_eq_true_eq]; exact h
  | false => rw [hb] at h; simp at h; rw [decide_eq_false_iff_not]; exact Int.not_lt.2 h

/-! a sorted row and one more -/
section ins
variable {α : Type} {lt : α → α → Bool}
def insL (lt : α → α → Bool) (u : α) : List α → List α
  | [] => [u]
  | a :: l => if lt a u = true then a :: insL lt u l else u :: a :: l
theorem insL_perm (u : α) : ∀ l : List α, (insL lt u l).Perm (l ++ [u])
  | [] => List.Perm.refl _
  | a :: l => by
    rw [insL]
    split
    · exact (insL_perm u l).cons a
    · exact (List.perm_append_singleton u (a :: l)).symm
theorem insL_len (u : α) (l : List α) : (insL lt u l).length = l.length + 1 := by rw [(insL_perm u l).length_eq]; simp
theorem insL_mem {u x : α} {l : List α} (h : x ∈ insL lt u l) : x = u ∨ x ∈ l := by
  have := (insL_perm u l).subset h
  simp at this
  exact this.symm
theorem insL_sorted (hO : SWO lt) (u : α) : ∀ l : List α, l.Pairwise (fun x y => lt x y = true) → (∀ x, x ∈ l → lt x u = true ∨ lt u x = true) → (insL lt u l).Pairwise (fun x y => lt x y = true)
  | [], _, _ => by simp [insL]
  | a :: l, h, hd => by
    rw [List.pairwise_cons] at h
    rw [insL]
    split
    · rename_i ha
      rw [List.pairwise_cons]
      refine ⟨fun x hx => ?_, insL_sorted hO u l h.2 fun x hx => hd x (by simp [hx])⟩
      rcases insL_mem hx with rfl | hx
      · exact ha
      · exact h.1 x hx
    · rename_i ha
      have hua : lt u a = true := (hd a (by simp)).resolve_left ha
      rw [List.pairwise_cons, List.pairwise_cons]
      refine ⟨fun x hx => ?_, h⟩
      rcases List.mem_cons.1 hx with rfl | hx
      · exact hua
      · exact hO.trans _ _ _ hua (h.1 x hx)
theorem insL_filter {p : α → Bool} {u : α} (hu : p u = false) : ∀ l : List α, (insL lt u l).filter p = l.filter p
  | [] => by simp [insL, hu]
  | a :: l => by
    rw [insL]
    split
    · rw [List.filter_cons, List.filter_cons, insL_filter hu l]
    · rw [List.filter_cons (x := u), hu]
      rfl
/-- the walk along the row: what stands before it is passed by -/
theorem insL_pass {u : α} : ∀ (l1 l2 : List α), (∀ x, x ∈ l1 → lt x u = true) → insL lt u (l1 ++ l2) = l1 ++ insL lt u l2
  | [], _, _ => rfl
  | a :: l1, l2, h => by
    rw [List.cons_append, insL, if_pos (h a (by simp)), insL_pass l1 l2 fun x hx => h x (by simp [hx])]
    rfl
theorem insL_stop {u : α} {l : List α} (h : ∀ a r, l = a :: r → lt a u = false) : insL lt u l = u :: l := by
  cases l with
  | nil => rfl
  | cons a r => rw [insL, if_neg (by rw [h a r rfl]; simp)]
end ins

structure Us where
  n : ByteArray
  r : ByteArray
  f : Int
  s : Int
  x : Int
instance : Inhabited Us := ⟨⟨⟨#[]⟩, ⟨#[]⟩, 0, 0, 0⟩⟩
def encU (u : Us) : List Value := [.string u.n, .string u.r, .int .i64 u.f, .int .i64 u.s, .int .i64 u.x]
theorem encU_one (u : Us) : ∀ v ∈ encU u, v.oneCell' = true := by
  intro v hv
  simp only [encU, List.mem_cons, List.not_mem_nil, or_false] at hv
  rcases hv with rfl | rfl | rfl | rfl | rfl <;> rfl
def befs (a b : Us) : Bool := befB a.f b.f a.n b.n
def insU (u : Us) (l : List Us) : List Us := insL befs u l
theorem swo_befs : SWO befs := swo_bef Us.f Us.n
def fineU (u : Us) : Prop := chkUse u.n u.r false u.f u.s u.x = 0
def named (nm : ByteArray) (l : List Us) : Bool := l.any fun y => decide (y.n = nm)
theorem named_false {nm : ByteArray} {l : List Us} : named nm l = false ↔ ∀ y, y ∈ l → y.n ≠ nm := by
  unfold named
  simp
/-- what a right row of uses is -/
structure RightU (l : List Us) : Prop where
  len : l.length ≤ 5000
  fine : ∀ u, u ∈ l → fineU u
  names : l.Pairwise fun a b => a.n ≠ b.n
  ord : l.Pairwise fun a b => befs a b = true
theorem tri_befs {a b : Us} (h : a.n ≠ b.n) : befs a b = true ∨ befs b a = true := by
  rcases befB_tot a.f b.f a.n b.n with e | e | ⟨_, e⟩
  · exact Or.inl e
  · exact Or.inr e
  · exact absurd e h
theorem RightU.ins {l : List Us} (h : RightU l) {u : Us} (hf : fineU u) (hn : named u.n l = false) (hl : l.length < 5000) : RightU (insU u l) := by
  rw [named_false] at hn
  refine ⟨by unfold insU; rw [insL_len]; omega, fun v hv => ?_, ?_, insL_sorted swo_befs u l h.ord fun x hx => tri_befs (hn x hx)⟩
  · rcases insL_mem hv with rfl | hv
    · exact hf
    · exact h.fine v hv
  · refine (List.Perm.pairwise_iff (fun h e => h e.symm) (insL_perm u l)).2 ?_
    rw [List.pairwise_append]
    exact ⟨h.names, by simp, fun a ha b hb => by rw [List.mem_singleton.1 hb]; exact hn a ha⟩
theorem RightU.sub {l l' : List Us} (h : RightU l) (hs : l'.Sublist l) : RightU l' :=
  ⟨Nat.le_trans hs.length_le h.len, fun u hu => h.fine u (hs.subset hu), h.names.sublist hs, h.ord.sublist hs⟩
/-- two can be added in either order -/
theorem ins_swap {l : List Us} (h : RightU l) {u v : Us} (hu : named u.n l = false) (hv : named v.n l = false) (huv : u.n ≠ v.n) : insU v (insU u l) = insU u (insU v l) := by
  rw [named_false] at hu hv
  have s1 := insL_sorted swo_befs u l h.ord fun x hx => tri_befs (hu x hx)
  have s2 := insL_sorted swo_befs v l h.ord fun x hx => tri_befs (hv x hx)
  refine perm_one swo_befs _ _ ?_ (insL_sorted swo_befs v _ s1 fun x hx => ?_) (insL_sorted swo_befs u _ s2 fun x hx => ?_)
  · refine ((insL_perm v _).trans ((insL_perm u l).append_right [v])).trans (((insL_perm u _).trans ((insL_perm v l).append_right [u])).trans ?_).symm
    rw [List.append_assoc, List.append_assoc]
    exact List.Perm.append_left l (List.Perm.swap _ _ _)
  · rcases insL_mem hx with rfl | hx
    · exact tri_befs huv
    · exact tri_befs (hv x hx)
  · rcases insL_mem hx with rfl | hx
    · exact tri_befs fun e => huv e.symm
    · exact tri_befs (hu x hx)
namespace Gar
def use (g : Gar) (i : Nat) : Us := ⟨g.un i, g.ur i, g.uf i, g.us i, g.uw i⟩
def uses (g : Gar) : List Us := (List.range g.nu).map g.use
def setU (g : Gar) (l : List Us) : Gar := { g with nu := l.length, un := fun i => (l.getD i default).n, ur := fun i => (l.getD i default).r, uf := fun i => (l.getD i default).f, us := fun i => (l.getD i default).s, uw := fun i => (l.getD i default).x }
theorem uses_len (g : Gar) : g.uses.length = g.nu := by simp [uses]
theorem uses_get (g : Gar) {i : Nat} (h : i < g.nu) : g.uses[i]'(by rw [uses_len]; exact h) = g.use i := by simp [uses]
theorem uses_getD (g : Gar) {i : Nat} (h : i < g.nu) : g.uses.getD i default = g.use i := by
  rw [List.getD_eq_getElem?_getD, List.getElem?_eq_getElem (by rw [uses_len]; exact h), Option.getD_some, uses_get g h]
theorem setU_uses (g : Gar) (l : List Us) : (g.setU l).uses = l := by
  apply List.ext_getElem (by simp [uses, setU])
  intro i h1 h2
  have h3 : i < (g.setU l).nu := h2
  rw [uses_get _ h3]
  show (⟨(l.getD i default).n, (l.getD i default).r, (l.getD i default).f, (l.getD i default).s, (l.getD i default).x⟩ : Us) = l[i]
  rw [List.getD_eq_getElem?_getD, List.getElem?_eq_getElem h2, Option.getD_some]
  cases l[i]
  rfl
theorem setU_setU (g : Gar) (l l' : List Us) : (g.setU l).setU l' = g.setU l' := rfl
theorem range_map (l : List Us) : (List.range l.length).map (fun i => l.getD i default) = l := by
  apply List.ext_getElem (by simp)
  intro i h1 h2
  simp [List.getD_eq_getElem?_getD, List.getElem?_eq_getElem h2]
theorem chkP_set (g : Gar) (l : List Us) : ∀ n k, chkP (g.setU l) n k = chkP g n k
  | 0, _ => rfl
  | n + 1, k => by rw [chkP, chkP, chkP_set g l n]; rfl
theorem chkS_set (g : Gar) (l : List Us) : ∀ n k, chkS (g.setU l) n k = chkS g n k
  | 0, _ => rfl
  | n + 1, k => by rw [chkS, chkS, chkS_set g l n]; rfl
theorem chkM_set (g : Gar) (l : List Us) : ∀ n k, chkM (g.setU l) n k = chkM g n k
  | 0, _ => rfl
  | n + 1, k => by rw [chkM, chkM, chkM_set g l n]; rfl
theorem chkU_zero {g : Gar} : ∀ n k, (∀ i, k ≤ i → i < k + n → chkUse (g.un i) (g.ur i) ((List.range i).any fun j => decide (g.un j = g.un i)) (g.uf i) (g.us i) (g.uw i) = 0 ∧ (0 < i → befU g (i - 1) i = true)) → chkU g n k = 0
  | 0, _, _ => rfl
  | n + 1, k, h => by
    obtain ⟨h1, h2⟩ := h k (Nat.le_refl _) (by omega)
    rw [chkU, h1, if_neg (by simp), if_neg (fun ⟨a, b⟩ => by rw [h2 a] at b; cases b)]
    exact chkU_zero n (k + 1) fun i hi hi2 => h i (by omega) (by omega)
theorem right_uses {g : Gar} (h : chk g = 0) : RightU g.uses := by
  have hp := chk_parts h
  have hu := hp.2.2.2.2.2.2.2.2
  refine ⟨by rw [uses_len]; exact hp.2.2.2.1, fun u hm => ?_, ?_, ?_⟩
  · obtain ⟨i, hi, rfl⟩ := List.mem_map.1 hm
    have hi := List.mem_range.1 hi
    have h1 := (chkU_each g.nu 0 hu i (by omega) (by omega)).1
    have h2 : ((List.range i).any fun j => decide (g.un j = g.un i)) = false := by
      rw [List.any_eq_false]
      intro j hj
      have := (use_right hu hi).2.1 j (List.mem_range.1 hj)
      simpa using this
    rw [h2] at h1
    exact h1
  · rw [List.pairwise_iff_getElem]
    intro i j hi hj hij
    rw [uses_len] at hi hj
    rw [uses_get g hi, uses_get g hj]
    exact (use_right hu hj).2.1 i hij
  · rw [List.pairwise_iff_getElem]
    intro i j hi hj hij
    rw [uses_len] at hi hj
    rw [uses_get g hi, uses_get g hj]
    have step : ∀ k, 0 < k → k < g.nu → befs (g.use (k - 1)) (g.use k) = true := fun k h1 h2 => (chkU_each g.nu 0 hu k (by omega) (by omega)).2 h1
    clear hi
    have key : ∀ j, i < j → j < g.nu → befs (g.use i) (g.use j) = true := by
      intro j
      induction j with
      | zero => intro h; omega
      | succ j ih =>
        intro h1 h2
        have hs := step (j + 1) (by omega) h2
        by_cases e : i = j
        · subst e; exact hs
        · exact swo_befs.trans _ _ _ (ih (by omega) (by omega)) hs
    exact key j hij hj
theorem chk_setU {g : Gar} (h : chk g = 0) {l : List Us} (hl : RightU l) : chk (g.setU l) = 0 := by
  obtain ⟨p0, p1, p2, p3, p4, p5, p6, p7, p8⟩ := chk_parts h
  unfold chk
  rw [if_neg (fun e => by rcases e with e | e | e | e; exact absurd e (Nat.not_lt.2 p0); exact absurd e (Nat.not_lt.2 p1); exact absurd e (Nat.not_lt.2 p2); exact absurd e (Nat.not_lt.2 hl.len))]
  rw [chkP_set, chkS_set, chkM_set]
  rw [if_neg (by show ¬ chkP g g.np 0 ≠ 0; rw [p4]; simp), if_neg (by show ¬ chkS g g.ns 0 ≠ 0; rw [p5]; simp), if_neg (by show ¬ chkM g g.nm 0 ≠ 0; rw [p6]; simp)]
  rw [if_neg (by show ¬ anyOver g = true; rw [p7]; simp)]
  refine chkU_zero _ _ fun i _ hi => ?_
  have hi : i < l.length := by simpa [setU] using hi
  have e : ∀ j, j < l.length → l.getD j default = l[j]! := fun j hj => by rw [List.getD_eq_getElem?_getD, List.getElem?_eq_getElem hj, Option.getD_some, getElem!_pos l j hj]
  refine ⟨?_, fun h0 => ?_⟩
  · have h2 : ((List.range i).any fun j => decide ((g.setU l).un j = (g.setU l).un i)) = false := by
      rw [List.any_eq_false]
      intro j hj
      have hj := List.mem_range.1 hj
      have := (List.pairwise_iff_getElem.1 hl.names) j i (by omega) hi hj
      show ¬ decide ((l.getD j default).n = (l.getD i default).n) = true
      rw [e j (by omega), e i hi, getElem!_pos l j (by omega), getElem!_pos l i hi]
      simpa using this
    rw [h2]
    show fineU (l.getD i default)
    rw [e i hi, getElem!_pos l i hi]
    exact hl.fine _ (List.getElem_mem hi)
  · have := (List.pairwise_iff_getElem.1 hl.ord) (i - 1) i (by omega) hi (by omega)
    show befs (l.getD (i - 1) default) (l.getD i default) = true
    rw [e (i - 1) (by omega), e i hi, getElem!_pos l (i - 1) (by omega), getElem!_pos l i hi]
    exact this
/-- the garage that is returned with an error -/
def zero : Gar := ⟨0, 0, 0, 0, fun _ => ⟨#[]⟩, fun _ => 0, fun _ => ⟨#[]⟩, fun _ => ⟨#[]⟩, fun _ => ⟨#[]⟩, fun _ => ⟨#[]⟩, fun _ => 0, fun _ => 0, fun _ => ⟨#[]⟩, fun _ => ⟨#[]⟩, fun _ => 0, fun _ => 0, fun _ => 0⟩
def useErr (g : Gar) (u : Us) : Int := chkUse u.n u.r (named u.n g.uses) u.f u.s u.x
def addErr (g : Gar) (u : Us) : Int := if chk g ≠ 0 then chk g else if useErr g u ≠ 0 then useErr g u else if 5000 ≤ g.nu then 3 else 0
def addG (g : Gar) (u : Us) : Gar := if addErr g u = 0 then g.setU (insU u g.uses) else zero
def without (nm : ByteArray) (l : List Us) : List Us := l.filter fun y => !decide (y.n = nm)
def dropErr (g : Gar) (nm : ByteArray) : Int := if chk g ≠ 0 then chk g else if (without nm g.uses).length = g.nu then 4 else 0
def dropG (g : Gar) (nm : ByteArray) : Gar := if dropErr g nm = 0 then g.setU (without nm g.uses) else zero
theorem chkUse_false {n r : ByteArray} {tw : Bool} {f s x : Int} (h : chkUse n r tw f s x = 0) : tw = false ∧ chkUse n r false f s x = 0 := by
  cases tw with
  | false => exact ⟨rfl, h⟩
  | true =>
    unfold chkUse at h
    split at h
    · omega
    · simp at h
theorem add_zero {g : Gar} {u : Us} (h : addErr g u = 0) : chk g = 0 ∧ fineU u ∧ named u.n g.uses = false ∧ g.nu < 5000 := by
  unfold addErr at h
  split at h
  · rename_i a; exact absurd h a
  · split at h
    · rename_i a b; exact absurd h b
    · rename_i a b
      split at h
      · omega
      · obtain ⟨h1, h2⟩ := chkUse_false (show useErr g u = 0 by simpa using b)
        exact ⟨by simpa using a, h2, h1, by omega⟩
theorem add_ok {g : Gar} {u : Us} (h1 : chk g = 0) (h2 : fineU u) (h3 : named u.n g.uses = false) (h4 : g.nu < 5000) : addErr g u = 0 := by
  unfold addErr useErr
  rw [if_neg (by rw [h1]; simp), h3, if_neg (by rw [show chkUse u.n u.r false u.f u.s u.x = 0 from h2]; simp), if_neg (by omega)]
theorem addG_ok {g : Gar} {u : Us} (h : addErr g u = 0) : addG g u = g.setU (insU u g.uses) ∧ chk (addG g u) = 0 ∧ (addG g u).uses = insU u g.uses ∧ (addG g u).nu = g.nu + 1 := by
  obtain ⟨h1, h2, h3, h4⟩ := add_zero h
  have e : addG g u = g.setU (insU u g.uses) := by unfold addG; rw [if_pos h]
  rw [e]
  refine ⟨rfl, chk_setU h1 ((right_uses h1).ins h2 h3 (by rw [uses_len]; exact h4)), setU_uses _ _, ?_⟩
  show (insU u g.uses).length = _
  unfold insU
  rw [insL_len, uses_len]
/-- what was added is dropped again -/
theorem add_drop {g : Gar} {u : Us} (h : addErr g u = 0) : dropErr (addG g u) u.n = 0 ∧ dropG (addG g u) u.n = g.setU g.uses := by
  obtain ⟨h1, h2, h3, h4⟩ := add_zero h
  obtain ⟨e1, e2, e3, e4⟩ := addG_ok h
  have hw : without u.n (addG g u).uses = g.uses := by
    rw [e3]
    unfold without insU
    rw [insL_filter (by simp)]
    rw [List.filter_eq_self]
    intro y hy
    simpa using (named_false.1 h3) y hy
  have hd : dropErr (addG g u) u.n = 0 := by
    unfold dropErr
    rw [if_neg (by rw [e2]; simp), hw, uses_len, e4, if_neg (by omega)]
  refine ⟨hd, ?_⟩
  unfold dropG
  rw [if_pos hd, hw, e1, setU_setU]
/-- two uses in either order -/
theorem add_swap {g : Gar} {u v : Us} (h : addErr g u = 0) (h2 : addErr (addG g u) v = 0) (h3 : addErr g v = 0) : addErr (addG g v) u = 0 ∧ addG (addG g v) u = addG (addG g u) v := by
  obtain ⟨u1, u2, u3, u4⟩ := add_zero h
  obtain ⟨v1, v2, v3, v4⟩ := add_zero h3
  obtain ⟨w1, w2, w3, w4⟩ := add_zero h2
  obtain ⟨eu1, eu2, eu3, eu4⟩ := addG_ok h
  obtain ⟨ev1, ev2, ev3, ev4⟩ := addG_ok h3
  have huv : u.n ≠ v.n := by
    rw [eu3, named_false] at w3
    exact w3 u ((insL_perm u g.uses).symm.subset (by simp))
  have hok : addErr (addG g v) u = 0 := by
    refine add_ok ev2 u2 ?_ (by rw [ev4]; rw [eu4] at w4; exact w4)
    rw [ev3, named_false]
    intro y hy
    rcases insL_mem hy with rfl | hy
    · exact fun e => huv e.symm
    · exact named_false.1 u3 y hy
  refine ⟨hok, ?_⟩
  rw [(addG_ok hok).1, (addG_ok h2).1, eu3, ev3, ev1, eu1, setU_setU, setU_setU, ins_swap (right_uses u1) u3 v3 huv]
end Gar
end Go.Proofs.YtbkpoepacjinlaaGreat

/- Gear: the orders of wanted, in plain numbers: strict weak orders; a row of numbers put in order is a permutation. -/
namespace Go.Proofs.YtbkpoepacjinlaaGreat
open Go Go.Sort
open Cir (Perm)

/-- before: by a number, then by a number -/
def bef2 (a b i k : Int) : Bool := decide (a < b ∨ (a = b ∧ i < k))
theorem ord2_neg (a b i k : Int) : decide (orI (Lib.compareInt a b) (Lib.compareInt i k) < 0) = bef2 a b i k := by
  unfold orI Lib.compareInt bef2
  by_cases h1 : a < b
  · simp [h1]
  · by_cases h2 : b < a
    · have : ¬ a = b := by omega
      simp [h1, h2, this]
    · have : a = b := by omega
      subst this
      by_cases h3 : i < k
      · simp [h3]
      · by_cases h4 : k < i
        · simp [h3, h4]
        · simp [h3, h4]
theorem swo_bef2 {α : Type} (f g : α → Int) : SWO (fun x y : α => bef2 (f x) (f y) (g x) (g y)) := by
  refine ⟨fun x => ?_, fun x y z h k => ?_, fun x y z h k => ?_⟩
  · simp [bef2]
  · simp only [bef2, decide_eq_true_eq] at h k ⊢
    omega
  · simp only [bef2, decide_eq_false_iff_not] at h k ⊢
    omega
theorem lt_ord2 {α : Type} (f g : α → Int) : ltOf (fun x y : α => orI (Lib.compareInt (f x) (f y)) (Lib.compareInt (g x) (g y))) = fun x y : α => bef2 (f x) (f y) (g x) (g y) := by
  funext x y
  exact ord2_neg _ _ _ _
theorem bef2_not {a b i k : Int} (h : bef2 a b i k = false) : b ≤ a := by
  simp only [bef2, decide_eq_false_iff_not] at h
  omega
theorem befB_not {a b : Int} {s t : ByteArray} (h : befB a b s t = false) : b ≤ a := by
  by_cases e : a < b
  · exfalso
    have : befB a b s t = true := by simp [befB, e]
    rw [this] at h
    cases h
  · omega
theorem extract_all {α : Type} {d : Array α} {n : Nat} (h : d.size = n) : d.extract 0 n = d := by subst h; simp
/-- the numbers of the sorted row -/
theorem fin_sorted {n : Nat} [Inhabited (Fin n)] (lt : Fin n → Fin n → Bool) (d : Array (Fin n)) (hp : PermIn 0 n (Array.ofFn (n := n) id) d) (hs : SortedIn lt 0 n d) :
    ∃ p : Nat → Nat, ∃ hb : ∀ j, j < n → p j < n, d.size = n ∧ (∀ j (hj : j < n) (hd : j < d.size), d[j] = ⟨p j, hb j hj⟩) ∧ Perm p n ∧ ∀ i j (hi : i < n) (hj : j < n), i < j → lt ⟨p j, hb j hj⟩ ⟨p i, hb i hi⟩ = false := by
  have hsz : d.size = n := by rw [hp.1]; simp
  have hpm : d.toList.Perm (List.finRange n) := by
    have h := hp.2.2
    have e1 : d.extract 0 n = d := extract_all hsz
    have e2 : (Array.ofFn (n := n) id).extract 0 n = Array.ofFn (n := n) id := extract_all (by simp)
    rw [e1, e2] at h
    have e3 : (Array.ofFn (n := n) (id : Fin n → Fin n)).toList = List.finRange n := by
      rw [Array.toList_ofFn]
      rfl
    rwa [e3] at h
  have hnd : d.toList.Nodup := hpm.nodup_iff.2 (List.nodup_finRange n)
  refine ⟨fun j => if h : j < d.size then (d[j]'h).val else 0, ?_, hsz, ?_, ⟨?_, ?_⟩, ?_⟩
  · intro j hj
    have h : j < d.size := by omega
    simp only [h, dif_pos]
    exact (d[j]'h).isLt
  · intro j hj hd
    apply Fin.ext
    simp only [hd, dif_pos]
  · intro j hj
    have h : j < d.size := by omega
    simp only [h, dif_pos]
    exact (d[j]'h).isLt
  · intro i j hi hj e
    have h1 : i < d.size := by omega
    have h2 : j < d.size := by omega
    simp only [h1, h2, dif_pos] at e
    have e2 : d.toList[i]'(by simpa using h1) = d.toList[j]'(by simpa using h2) := by
      rw [Array.getElem_toList, Array.getElem_toList]
      exact Fin.ext e
    exact (List.getElem_inj hnd).1 e2
  · intro i j hi hj hij
    have h1 : i < d.size := by omega
    have h2 : j < d.size := by omega
    have h := hs i j (Nat.zero_le _) hij hj
    rw [getElem!_pos d j h2, getElem!_pos d i h1] at h
    simp only [h1, h2, dif_pos]
    exact h
end Go.Proofs.YtbkpoepacjinlaaGreat

/- Gear: a block of numbers, before and behind the library's sort. -/
namespace Go.Proofs.YtbkpoepacjinlaaGreat
open Go.RowKit Go.BigFrame Go.Sort
open Cir (Perm)

/-- a block of numbers -/
structure NumRow (w : World) (q n : Nat) (p : Nat → Nat) : Prop where
  ex : ∃ cs : Array Value, w.heap[q]? = some (.cells cs 3 (0, 0)) ∧ cs.size = n ∧ ∀ j, j < n → cs[j]? = some (.int .i64 (p j : Nat))
theorem NumRow.lt {w : World} {q n : Nat} {p : Nat → Nat} (h : NumRow w q n p) : q < w.heap.size := by
  obtain ⟨cs, h1, _⟩ := h.ex
  exact lt_of_block h1
theorem NumRow.kept {w w' : World} {q n : Nat} {p : Nat → Nat} {o : Option Nat} (h : NumRow w q n p) (hg : w.grownBy w' o) (hne : some q ≠ o) : NumRow w' q n p := by
  obtain ⟨cs, h1, h2, h3⟩ := h.ex
  exact ⟨cs, (hg.block q (lt_of_block h1) hne).trans h1, h2, h3⟩
theorem NumRow.cell {w : World} {q n : Nat} {p : Nat → Nat} (h : NumRow w q n p) {j : Nat} (hj : j < n) : w.cell? ⟨q, j, none⟩ = some (.int .i64 (p j : Nat)) := by
  obtain ⟨cs, h1, h2, h3⟩ := h.ex
  exact block_cell h1 (h3 j hj)
def encN (n : Nat) (x : Fin n) : Value := .int .i64 (x.val : Nat)
section
variable {n : Nat} [Inhabited (Fin n)]
theorem NumRow.holds {w : World} {q : Nat} (h : NumRow w q n id) : Holds (encN n) w q 0 (Array.ofFn (n := n) id) := by
  intro j hj
  have hj' : j < n := by simpa using hj
  obtain ⟨cs, h1, h2, h3⟩ := h.ex
  refine ⟨?_, by simp [World.frozen?, h1]⟩
  rw [Nat.zero_add, h.cell hj', getElem!_pos _ j hj]
  simp [encN]
theorem heap_sortedF {w : World} {g m : Nat} {os : Array Obj} {cur : Array Value} {e : TypeId} {fr : Nat × Nat} (d : Array (Fin n)) (hb : w.heap[g]? = some (.cells cur e fr)) :
    (sortWorld (encN n) w g 0 m d os).heap[g]? = some (.cells (putCells (encN n) 0 d cur) e fr) := by
  have hg : g < w.heap.size := (Array.getElem?_eq_some_iff.1 hb).1
  unfold sortWorld
  rw [heap_grow_old _ _ (by simpa using hg)]
  simp [putRow, mapBlock, Sort.ahead, Array.getElem?_modify, hb, onCells]
theorem grownBy_sortedF {w : World} {g m : Nat} {os : Array Obj} (d : Array (Fin n)) : w.grownBy (sortWorld (encN n) w g 0 m d os) (some g) := by
  unfold sortWorld
  refine ⟨rfl, rfl, rfl, by simp, fun k hk hne => ?_⟩
  rw [heap_grow_old _ _ (by simpa using hk)]
  have : g ≠ k := fun e => hne (by rw [e])
  simp [putRow, mapBlock, Sort.ahead, Array.getElem?_modify, this]
theorem NumRow.sorted {w : World} {q m : Nat} {os : Array Obj} {d : Array (Fin n)} {r p : Nat → Nat} (h : NumRow w q n r) (hd : d.size = n) (hp : ∀ j (_ : j < n) (hd : j < d.size), d[j].val = p j) : NumRow (sortWorld (encN n) w q 0 m d os) q n p := by
  obtain ⟨cs, h1, h2, h3⟩ := h.ex
  refine ⟨_, heap_sortedF d h1, by simp [putCells, h2], fun j hj => ?_⟩
  have hj2 : j < d.size := by omega
  have hj3 : j < cs.size := by omega
  have := hp j hj hj2
  simp [putCells, hj2, hj3, encN, this]
end
end Go.Proofs.YtbkpoepacjinlaaGreat

/- Gear: the two closures of wanted, as the sort asks them. -/
namespace Go.Proofs.YtbkpoepacjinlaaGreat
open Go.RowKit Go.BigFrame Go.Sort
open Cir (Perm)

theorem cell_grown {w w' : World} {o : Option Nat} {b j : Nat} {v : Value} (hg : w.grownBy w' o) (hne : some b ≠ o) (h : w.cell? ⟨b, j, none⟩ = some v) : w'.cell? ⟨b, j, none⟩ = some v := by
  have hlt : b < w.heap.size := by
    rcases Nat.lt_or_ge b w.heap.size with e | e
    · exact e
    · exfalso
      unfold World.cell? at h
      rw [Array.getElem?_eq_none e] at h
      cases h
  have hb := hg.block b hlt hne
  unfold World.cell? at h ⊢
  rw [hb]
  exact h
section
variable {n : Nat} [Inhabited (Fin n)]
/-- what the closures read -/
structure Reads (B5 B3 bs qs off cap q len : Nat) (n : Nat) (sl : Nat → ByteArray) (F : ByteArray → Int) (w : World) : Prop where
  h5 : w.cell? ⟨B5, 0, none⟩ = some (.map (some bs))
  h3 : w.cell? ⟨B3, 0, none⟩ = some (.slice (some ⟨qs, off, none⟩) n cap)
  hs : ∀ j, j < n → w.cell? ⟨qs, off + j, none⟩ = some (.string (sl j))
  hz : ∀ j, j < n → (sl j).size ≤ maxLen
  hm : StrMap w Tryz.prog 9 intR bs len (fun x : Int => .lit (.int .i64 x)) (.lit (.int .i64 0)) F
  n5 : B5 ≠ q
  n3 : B3 ≠ q
  ns : qs ≠ q
  nm : bs ≠ q
theorem Reads.grown {B5 B3 bs qs off cap q len n : Nat} {sl : Nat → ByteArray} {F : ByteArray → Int} {w w' : World} {o : Option Nat} (h : Reads B5 B3 bs qs off cap q len n sl F w) (hg : w.grownBy w' o) (ho : o = none ∨ o = some q) : Reads B5 B3 bs qs off cap q len n sl F w' := by
  have hne : ∀ b, b ≠ q → some b ≠ o := fun b hb e => by
    rcases ho with rfl | rfl
    · cases e
    · injection e with e; exact hb e
  exact ⟨cell_grown hg (hne _ h.n5) h.h5, cell_grown hg (hne _ h.n3) h.h3, fun j hj => cell_grown hg (hne _ h.ns) (h.hs j hj), h.hz, h.hm.kept hg (hne _ h.nm), h.n5, h.n3, h.ns, h.nm⟩
theorem Reads.all {B5 B3 bs qs off cap q len n : Nat} {sl : Nat → ByteArray} {F : ByteArray → Int} {w : World} (h : Reads B5 B3 bs qs off cap q len n sl F w) {i k : Nat} (hi : i < n) (hk : k < n) (W : World) (hb : Below w.heap.size w W) :
    W.cell? ⟨B5, 0, none⟩ = some (.map (some bs)) ∧ W.cell? ⟨B3, 0, none⟩ = some (.slice (some ⟨qs, off, none⟩) n cap) ∧ W.cell? ⟨qs, off + i, none⟩ = some (.string (sl i)) ∧ W.cell? ⟨qs, off + k, none⟩ = some (.string (sl k)) ∧ (Instr.lookup 68 (.map (some bs)) (.string (sl i)) false).run Tryz.prog W = .ok (.int .i64 (F (sl i))) W ∧ (Instr.lookup 68 (.map (some bs)) (.string (sl k)) false).run Tryz.prog W = .ok (.int .i64 (F (sl k))) W ∧ Below w.heap.size w W := by
  have HUS : Tryz.prog.underlying 9 = some .string := Tryz.underlying9
  have HUI : Tryz.prog.underlying 68 = some (.map 9 3) := by kernel_rfl
  have HzI : ∀ w, (zeroValue 3).run Tryz.prog w = .ok (.int .i64 0) w := fun w => by kernel_rfl
  have h' := h.grown (grown_of_below hb) (Or.inl rfl)
  exact ⟨h'.h5, h'.h3, h'.hs i hi, h'.hs k hk, StrMap.look (val := Value.int .i64) h'.hm HUS HUI (HzI _) (zp := []) rfl intR_inv (h.hz i hi), StrMap.look (val := Value.int .i64) h'.hm HUS HUI (HzI _) (zp := []) rfl intR_inv (h.hz k hk), hb⟩
def cfSlot (V : Nat → Int) (x y : Fin n) : Int := orI (Lib.compareInt (V y.val) (V x.val)) (Lib.compareInt (x.val : Nat) (y.val : Nat))
def cfPart (V : Nat → Int) (s : Nat → ByteArray) (x y : Fin n) : Int := orI (Lib.compareInt (V x.val) (V y.val)) (Lib.compareBytes (s x.val).data.toList (s y.val).data.toList)
theorem slotLays {B5 B3 bs qs off cap q len : Nat} {sl : Nat → ByteArray} {F : ByteArray → Int} {w : World} (h : Reads B5 B3 bs qs off cap q len n sl F w) (size : Nat) :
    CmpLays1 Tryz.prog 32 #[.pointer (some ⟨B5, 0, none⟩), .pointer (some ⟨B3, 0, none⟩)] (encN n) (cfSlot fun j => F (sl j)) q 0 size w := by
  intro m os dk _ x y
  have h' := h.grown (grownBy_sortedF (g := q) (m := m) (os := os) dk) (Or.inr rfl)
  exact slotCmp_any B5 B3 bs qs off n cap x.val y.val _ _ _ _ _ x.isLt y.isLt (h'.all x.isLt y.isLt)
theorem partLays {B5 B3 bs qs off cap q len : Nat} {sl : Nat → ByteArray} {F : ByteArray → Int} {w : World} (h : Reads B5 B3 bs qs off cap q len n sl F w) (size : Nat) :
    CmpLays1 Tryz.prog 35 #[.pointer (some ⟨B5, 0, none⟩), .pointer (some ⟨B3, 0, none⟩)] (encN n) (cfPart (fun j => F (sl j)) sl) q 0 size w := by
  intro m os dk _ x y
  have h' := h.grown (grownBy_sortedF (g := q) (m := m) (os := os) dk) (Or.inr rfl)
  exact partCmp_any B5 B3 bs qs off n cap x.val y.val _ _ _ _ _ x.isLt y.isLt (h'.all x.isLt y.isLt)
omit [Inhabited (Fin n)] in
theorem swo_slot (V : Nat → Int) : SWO (ltOf (cfSlot (n := n) V)) := by
  have : ltOf (cfSlot (n := n) V) = fun x y : Fin n => bef2 (V y.val) (V x.val) (x.val : Nat) (y.val : Nat) := by
    funext x y
    exact ord2_neg _ _ _ _
  rw [this]
  refine ⟨fun x => ?_, fun x y z h k => ?_, fun x y z h k => ?_⟩
  · simp [bef2]
  · simp only [bef2, decide_eq_true_eq] at h k ⊢
    omega
  · simp only [bef2, decide_eq_false_iff_not] at h k ⊢
    omega
omit [Inhabited (Fin n)] in
theorem swo_part (V : Nat → Int) (s : Nat → ByteArray) : SWO (ltOf (cfPart (n := n) V s)) := by
  have : ltOf (cfPart (n := n) V s) = fun x y : Fin n => befB (V x.val) (V y.val) (s x.val) (s y.val) := lt_ord (fun x : Fin n => V x.val) (fun x : Fin n => s x.val)
  rw [this]
  exact swo_bef (fun x : Fin n => V x.val) (fun x : Fin n => s x.val)
omit [Inhabited (Fin n)] in
theorem slot_not {V : Nat → Int} {x y : Fin n} (h : ltOf (cfSlot V) y x = false) : V y.val ≤ V x.val := by
  have e : ltOf (cfSlot (n := n) V) y x = bef2 (V x.val) (V y.val) (y.val : Nat) (x.val : Nat) := ord2_neg _ _ _ _
  rw [e] at h
  exact bef2_not h
omit [Inhabited (Fin n)] in
theorem part_not {V : Nat → Int} {s : Nat → ByteArray} {x y : Fin n} (h : ltOf (cfPart V s) y x = false) : V x.val ≤ V y.val := by
  have e : ltOf (cfPart (n := n) V s) = fun x y : Fin n => befB (V x.val) (V y.val) (s x.val) (s y.val) := lt_ord (fun x : Fin n => V x.val) (fun x : Fin n => s x.val)
  rw [e] at h
  exact befB_not h
omit [Inhabited (Fin n)] in
theorem slot_bef {V : Nat → Int} {x y : Fin n} (h : ltOf (cfSlot V) y x = false) : bef2 (V x.val) (V y.val) (y.val : Nat) (x.val : Nat) = false := by
  have e : ltOf (cfSlot (n := n) V) y x = bef2 (V x.val) (V y.val) (y.val : Nat) (x.val : Nat) := ord2_neg _ _ _ _
  rw [e] at h
  exact h
omit [Inhabited (Fin n)] in
theorem part_bef {V : Nat → Int} {s : Nat → ByteArray} {x y : Fin n} (h : ltOf (cfPart V s) y x = false) : befB (V y.val) (V x.val) (s y.val) (s x.val) = false := by
  have e : ltOf (cfPart (n := n) V s) = fun x y : Fin n => befB (V x.val) (V y.val) (s x.val) (s y.val) := lt_ord (fun x : Fin n => V x.val) (fun x : Fin n => s x.val)
  rw [e] at h
  exact h
end
/-- the two orders, and in which slot each part is wanted -/
structure Ords (n : Nat) (wS wP : Nat → Int) (pn : Nat → ByteArray) (tt bs bp : Nat → Nat) : Prop where
  ps : Perm bs n
  pp : Perm bp n
  tt : ∀ m, m < n → tt (bp m) = bs m
  os : ∀ i j, i < j → j < n → bef2 (wS (bs i)) (wS (bs j)) (bs j : Nat) (bs i : Nat) = false
  op : ∀ i j, i < j → j < n → befB (wP (bp j)) (wP (bp i)) (pn (bp j)) (pn (bp i)) = false
end Go.Proofs.YtbkpoepacjinlaaGreat

/- Gear: numbers put in order by the library's sort: ordered[int] of the program. -/
namespace Go.Proofs.YtbkpoepacjinlaaGreat
open Go.RowKit Go.BigFrame Go.Sort
open Cir (Perm)

/-- what ordered hands back -/
def Ordd {n : Nat} (cf : Fin n → Fin n → Int) (q : Nat) (w : World) (w' : World) : Prop :=
  w.grownBy w' (some q) ∧ ∃ p : Nat → Nat, ∃ hb : ∀ j, j < n → p j < n, NumRow w' q n p ∧ Perm p n ∧ ∀ i j (hi : i < n) (hj : j < n), i < j → ltOf cf ⟨p j, hb j hj⟩ ⟨p i, hb i hi⟩ = false
theorem Ordd.none (cf : Fin 0 → Fin 0 → Int) {q : Nat} {w : World} (h : ∃ cs : Array Value, w.heap[q]? = some (.cells cs 3 (0, 0)) ∧ cs.size = 0) : Ordd cf q w w := by
  obtain ⟨cs, h1, h2⟩ := h
  exact ⟨⟨rfl, rfl, rfl, Nat.le_refl _, fun _ _ _ => rfl⟩, id, fun j hj => hj, ⟨cs, h1, h2, fun j hj => by omega⟩, ⟨fun j hj => by omega, fun i j hi => by omega⟩, fun i j hi => by omega⟩
set_option maxHeartbeats 2000000 in
set_option maxRecDepth 100000 in
theorem orderedI_none (p : Option Addr) (cap : Nat) (fid : FuncId) (caps : Array Value) (w : World) :
    Calls Tryz.prog 31 #[.slice p 0 cap, .func (.func fid) #[] caps] w fun e w' => e = .returned (.slice p 0 cap) ∧ w' = w := by
  have hcon := AnyF.slices_SortFunc_none { Tryz.sortInt with } p cap (.func (.func fid) #[] caps) w
  change Calls Tryz.prog 56 #[.slice p 0 cap, .func (.func fid) #[] caps] w _ at hcon
  have HC := Lib.hid hcon
  clear hcon
  go_enter Tryz.func31, Tryz.ntmps31
  go_wp2_with (go_at_call 56; refine HC.out.mono ?_; rintro e w' ⟨rfl, rfl⟩)
  go_ret
  exact ⟨rfl, rfl⟩
section
variable {n : Nat} [Inhabited (Fin n)]
set_option maxHeartbeats 2000000 in
set_option maxRecDepth 100000 in
theorem orderedI_any (cf : Fin n → Fin n → Int) (hO : SWO (ltOf cf)) (fid : FuncId) (caps : Array Value) (eg : ∀ args w, (callFunc fid args).run Tryz.prog w = .ok (.enter fid args) w) (q : Nat) (w : World) (h : NumRow w q n id) (hn : n < 4611686018427387904)
    (hcmp : CmpLays1 Tryz.prog fid caps (encN n) cf q 0 (Array.ofFn (n := n) id).size w) :
    Calls Tryz.prog 31 #[.slice (some ⟨q, 0, none⟩) n n, .func (.func fid) #[] caps] w fun e w' => e = .returned (.slice (some ⟨q, 0, none⟩) n n) ∧ Ordd cf q w w' := by
  have hcon := Any.slices_SortFunc Tryz.sortInt (encN n) (fun _ => rfl) cf hO fid caps q 0 n (Array.ofFn (n := n) id) w eg hcmp h.holds h.lt (by simpa using hn)
  rw [show (Array.ofFn (n := n) (id : Fin n → Fin n)).size = n by simp] at hcon
  change Calls Tryz.prog 56 #[.slice (some ⟨q, 0, none⟩) n n, .func (.func fid) #[] caps] w _ at hcon
  have HC := Lib.hid (hcon.mono (R' := fun e w' => e = .returned (.tuple #[]) ∧ Ordd cf q w w') (by
    rintro e w' ⟨rfl, d, m, os, h1, h2, rfl⟩
    obtain ⟨p, hb, e1, e2, e3, e4⟩ := fin_sorted (ltOf cf) d h1 h2
    exact ⟨rfl, grownBy_sortedF d, p, hb, h.sorted e1 (fun j hj hd => by rw [e2 j hj hd]), e3, e4⟩))
  clear hcon h hO eg hcmp hn
  generalize Ordd cf q w = R at HC ⊢
  go_enter Tryz.func31, Tryz.ntmps31
  go_wp2_with (go_at_call 56; refine HC.out.mono ?_; rintro e w' ⟨rfl, h1⟩)
  have H1 := Lib.hid h1
  clear h1
  go_wp2_with fail
  go_ret
  exact ⟨rfl, H1.out⟩
end
end Go.Proofs.YtbkpoepacjinlaaGreat

/- Gear: the names in pieces are short enough for a map's key. -/
namespace Go.Proofs.YtbkpoepacjinlaaGreat
open Go.RowKit Go.BigFrame
open Gar (chk)

theorem add_names {R : ByteArray → Prop} {last : Int} {st : Int × List Pcs.Pc} {p : ByteArray} {x : Int} (h : ∀ pc, pc ∈ st.2 → R pc.1) (hp : R p) : ∀ pc, pc ∈ (Pcs.add last st p x).2 → R pc.1 := by
  intro pc hpc
  unfold Pcs.add at hpc
  split at hpc
  · rcases List.mem_append.1 hpc with hpc | hpc
    · exact h pc hpc
    · simp only [List.mem_singleton] at hpc
      rw [hpc]
      exact hp
  · exact h pc hpc
theorem fold_names {R : ByteArray → Prop} {last : Int} (he : R Pcs.em) : ∀ (ms : List Pcs.Mnt) (st : Int × List Pcs.Pc), (∀ m, m ∈ ms → R m.p) → (∀ pc, pc ∈ st.2 → R pc.1) → ∀ pc, pc ∈ (ms.foldl (Pcs.step last) st).2 → R pc.1
  | [], st, _, h => h
  | m :: ms, st, hm, h => by
    rw [List.foldl_cons]
    refine fold_names he ms _ (fun x hx => hm x (by simp [hx])) ?_
    unfold Pcs.step
    split
    · exact add_names (add_names h he) (hm m (by simp))
    · exact h
theorem pieces_names {R : ByteArray → Prop} (he : R Pcs.em) {a last : Int} {ms : List Pcs.Mnt} (hm : ∀ m, m ∈ ms → R m.p) : ∀ pc, pc ∈ Pcs.pieces a last ms → R pc.1 := by
  unfold Pcs.pieces
  exact add_names (fold_names he ms _ hm (by simp)) he
theorem em_small : (Pcs.em).size ≤ maxLen := by decide
section
variable {w : World} {g : Gar} {a0 a1 a2 a3 : Option Addr}
theorem evQ_sizes (h : GarIn w g a0 a1 a2 a3) (i : Nat) {j : Nat} (hj : j < g.ns) : ∀ n e, e ∈ evQ g i j n → e.s.size ≤ maxLen ∧ e.p.size ≤ maxLen
  | 0, e, he => by simp [evQ] at he
  | n + 1, e, he => by
    rw [evQ] at he
    rcases List.mem_append.1 he with he | he
    · exact evQ_sizes h i hj n e he
    · simp only [List.mem_singleton] at he
      subst he
      refine ⟨(h.z1 j hj).1, ?_⟩
      show (pget (pcsOf g i j) n).1.size ≤ maxLen
      have hall := pieces_names (R := fun x => x.size ≤ maxLen) em_small (a := g.uf i) (last := g.uf i + g.us i) (ms := g.mounts (g.sn j)) (fun m hm => by
        obtain ⟨k, hk, _, rfl⟩ := Gar.mem_mountsK hm
        exact (h.z2 k hk).2)
      unfold pget
      rw [List.getD_eq_getElem?_getD]
      cases hx : (pcsOf g i j)[n]? with
      | none => exact em_small
      | some pc => exact hall pc (List.mem_of_getElem? hx)
theorem evS_sizes (h : GarIn w g a0 a1 a2 a3) (i : Nat) : ∀ n, n ≤ g.ns → ∀ e, e ∈ evS g i n → e.s.size ≤ maxLen ∧ e.p.size ≤ maxLen
  | 0, _, e, he => by simp [evS] at he
  | n + 1, hn, e, he => by
    rw [evS] at he
    rcases List.mem_append.1 he with he | he
    · exact evS_sizes h i n (by omega) e he
    · split at he
      · exact evQ_sizes h i (by omega) _ e he
      · simp at he
theorem evG_sizes (h : GarIn w g a0 a1 a2 a3) : ∀ n e, e ∈ evG g n → e.s.size ≤ maxLen ∧ e.p.size ≤ maxLen
  | 0, e, he => by simp [evG] at he
  | n + 1, e, he => by
    rw [evG] at he
    rcases List.mem_append.1 he with he | he
    · exact evG_sizes h n e he
    · exact evS_sizes h n _ (Nat.le_refl _) e he
end
end Go.Proofs.YtbkpoepacjinlaaGreat

/- Gear: a block of the call's own that a loop fills from the left. -/
namespace Go.Proofs.YtbkpoepacjinlaaGreat
open Go.RowKit Go.BigFrame

/-- the first k cells of a block of n are filled -/
structure Part (w : World) (b n k : Nat) (T : TypeId) (v : Nat → Value) : Prop where
  ex : ∃ cs : Array Value, w.heap[b]? = some (.cells cs T (0, 0)) ∧ cs.size = n ∧ ∀ j, j < k → cs[j]? = some (v j)
section
variable {w w' : World} {b n k : Nat} {T : TypeId} {v : Nat → Value}
theorem Part.start {z : Value} (h : w.heap[b]? = some (.cells (Array.replicate n z) T (0, 0))) : Part w b n 0 T v := ⟨_, h, by simp, fun j hj => by omega⟩
theorem Part.lt (h : Part w b n k T v) : b < w.heap.size := by
  obtain ⟨cs, h1, _⟩ := h.ex
  exact lt_of_block h1
theorem Part.same (h : Part w b n k T v) (e : w'.heap[b]? = w.heap[b]?) : Part w' b n k T v := by
  obtain ⟨cs, h1, h2, h3⟩ := h.ex
  exact ⟨cs, e.trans h1, h2, h3⟩
theorem Part.below (h : Part w b n k T v) (hb : Below w.heap.size w w') : Part w' b n k T v := h.same (hb.block b h.lt)
theorem Part.here (h : Part w b n k T v) {i : Nat} (hi : i < n) : ∃ u, w.cell? ⟨b, i, none⟩ = some u := by
  obtain ⟨cs, h1, h2, h3⟩ := h.ex
  exact ⟨cs[i]'(by omega), block_cell h1 (by simp [h2, hi])⟩
theorem Part.free (h : Part w b n k T v) (i : Nat) : w.frozen? ⟨b, i, none⟩ = false := by
  obtain ⟨cs, h1, _⟩ := h.ex
  exact block_free h1
theorem Part.cell (h : Part w b n k T v) {i : Nat} (hi : i < k) : w.cell? ⟨b, i, none⟩ = some (v i) := by
  obtain ⟨cs, h1, h2, h3⟩ := h.ex
  exact block_cell h1 (h3 i hi)
theorem Part.store (h : Part w b n k T v) (hk : k < n) : Part (w.setCell ⟨b, k, none⟩ (v k)) b n (k + 1) T v := by
  obtain ⟨cs, h1, h2, h3⟩ := h.ex
  refine ⟨_, cells_setCell h1, by simp [h2], fun j hj => ?_⟩
  by_cases e : j = k
  · subst e
    simp [h2, hk]
  · rw [Array.getElem?_setIfInBounds_ne (by omega)]
    exact h3 j (by omega)
theorem Part.other (h : Part w b n k T v) {c i : Nat} {u : Value} (hc : c ≠ b) : Part (w.setCell ⟨c, i, none⟩ u) b n k T v := by
  refine h.same ?_
  obtain ⟨cs, h1, _⟩ := h.ex
  unfold World.setCell
  simp [Array.getElem?_modify, hc]
end
theorem Part.nums {w : World} {q n : Nat} {p : Nat → Nat} (h : Part w q n n 3 fun j => .int .i64 (p j : Nat)) : NumRow w q n p := ⟨h.ex⟩
end Go.Proofs.YtbkpoepacjinlaaGreat

/- Gear: wanted of the program. -/
namespace Go.Proofs.YtbkpoepacjinlaaGreat
open Go.RowKit Go.BigFrame
open Gar (chk)
open Cir (Perm)

theorem Kept.put {O : Nat → Prop} {a : World} {b i : Nat} {v : Value} (ho : O b) : Kept O a (a.setCell ⟨b, i, none⟩ v) := by
  refine ⟨rfl, rfl, rfl, by simp [World.setCell], fun k hk hno => ?_⟩
  have : b ≠ k := fun e => hno (e ▸ ho)
  unfold World.setCell
  simp [Array.getElem?_modify, this]
theorem made_one (z : Value) (n : Nat) : madeCells #[z] n = Array.replicate n z := by
  apply Array.ext'
  rw [toList_madeCells_one]
  simp
theorem make_strs (n : Nat) (hn : n ≤ 20) (w : World) : (Instr.makeSlice 28 (.int .i64 n) (.int .i64 n)).run Tryz.prog w = .ok (.slice (some ⟨w.heap.size, 0, none⟩) n n) (w.alloc (.cells (Array.replicate n (.string ⟨#[]⟩)) 9)) := by
  obtain ⟨i0, hi0, hz0, hz1, hz2⟩ := info_parts (show (Tryz.prog.info? 9).map (fun i => (i.zero, i.size, i.bytes)) = some (some (.string ⟨#[]⟩), 1, 16) by kernel_rfl)
  have h := run_make w 28 9 i0 (.string ⟨#[]⟩) (by kernel_rfl) hi0 hz0 .i64 .i64 n n (by omega) (by omega) (by rw [hz2]; omega) (by omega)
  rw [h, hz1, Int.toNat_natCast, Nat.mul_one]
  rw [show (Value.string ⟨#[]⟩).cells = #[.string ⟨#[]⟩] from rfl, made_one]
theorem make_ints (n : Nat) (hn : n ≤ 20) (w : World) : (Instr.makeSlice 39 (.int .i64 n) (.int .i64 n)).run Tryz.prog w = .ok (.slice (some ⟨w.heap.size, 0, none⟩) n n) (w.alloc (.cells (Array.replicate n (.int .i64 0)) 3)) := by
  obtain ⟨i0, hi0, hz0, hz1, hz2⟩ := info_parts (show (Tryz.prog.info? 3).map (fun i => (i.zero, i.size, i.bytes)) = some (some (.int .i64 0), 1, 8) by kernel_rfl)
  have h := run_make w 39 3 i0 (.int .i64 0) (by kernel_rfl) hi0 hz0 .i64 .i64 n n (by omega) (by omega) (by rw [hz2]; omega) (by omega)
  rw [h, hz1, Int.toNat_natCast, Nat.mul_one]
  rw [show (Value.int .i64 0).cells = #[.int .i64 0] from rfl, made_one]
def partF (g : Gar) (sl : Nat → ByteArray) (j : Nat) : ByteArray := (inR (inF g (sl j) 86399999999 g.nm 0)).1
theorem inF_small {R : ByteArray → Prop} (he : R ⟨#[]⟩) (g : Gar) (s : ByteArray) (m : Int) : ∀ n k, (∀ i, i < k + n → R (g.mp i)) → R (inR (inF g s m n k)).1
  | 0, k, _ => he
  | n + 1, k, h => by
    unfold inF
    split
    · exact h k (by omega)
    · exact inF_small he g s m n (k + 1) (fun i hi => h i (by omega))
structure OutP (w : World) (Q n m : Nat) (bs bp : Nat → Nat) : Prop where
  ex : ∃ cs : Array Value, w.heap[Q]? = some (.cells cs 3 (0, 0)) ∧ cs.size = n ∧ ∀ j, j < m → cs[bp j]? = some (.int .i64 (bs j : Nat))
theorem OutP.start {w : World} {Q n : Nat} {z : Value} {bs bp : Nat → Nat} (h : w.heap[Q]? = some (.cells (Array.replicate n z) 3 (0, 0))) : OutP w Q n 0 bs bp := ⟨_, h, by simp, fun j hj => by omega⟩
theorem OutP.here {w : World} {Q n m i : Nat} {bs bp : Nat → Nat} (h : OutP w Q n m bs bp) (hi : i < n) : ∃ u, w.cell? ⟨Q, i, none⟩ = some u := by
  obtain ⟨cs, h1, h2, h3⟩ := h.ex
  exact ⟨cs[i]'(by omega), block_cell h1 (by simp [h2, hi])⟩
theorem OutP.free {w : World} {Q n m : Nat} {bs bp : Nat → Nat} (h : OutP w Q n m bs bp) (i : Nat) : w.frozen? ⟨Q, i, none⟩ = false := by
  obtain ⟨cs, h1, _⟩ := h.ex
  exact block_free h1
theorem OutP.same {w w' : World} {Q n m : Nat} {bs bp : Nat → Nat} (h : OutP w Q n m bs bp) (e : w'.heap[Q]? = w.heap[Q]?) : OutP w' Q n m bs bp := by
  obtain ⟨cs, h1, h2, h3⟩ := h.ex
  exact ⟨cs, e.trans h1, h2, h3⟩
theorem OutP.store {w : World} {Q n m : Nat} {bs bp : Nat → Nat} (h : OutP w Q n m bs bp) (hp : Perm bp n) (hm : m < n) : OutP (w.setCell ⟨Q, bp m, none⟩ (.int .i64 (bs m : Nat))) Q n (m + 1) bs bp := by
  obtain ⟨cs, h1, h2, h3⟩ := h.ex
  refine ⟨_, cells_setCell h1, by simp [h2], fun j hj => ?_⟩
  by_cases e : j = m
  · subst e
    simp [h2, hp.lt j hm]
  · have : bp m ≠ bp j := fun x => e (hp.inj j m (by omega) hm x.symm)
    rw [Array.getElem?_setIfInBounds_ne this]
    exact h3 j (by omega)
theorem OutP.done {w : World} {Q n : Nat} {bs bp : Nat → Nat} (h : OutP w Q n n bs bp) (hp : Perm bp n) : ∃ tt : Nat → Nat, NumRow w Q n tt ∧ ∀ m, m < n → tt (bp m) = bs m := by
  obtain ⟨cs, h1, h2, h3⟩ := h.ex
  have hex : ∀ x, ∃ y, ∀ m, m < n → bp m = x → bs m = y := fun x => by
    by_cases hx : ∃ m, m < n ∧ bp m = x
    · obtain ⟨m, hm, rfl⟩ := hx
      exact ⟨bs m, fun m' hm' e => by rw [hp.inj m' m hm' hm e]⟩
    · exact ⟨0, fun m hm e => absurd ⟨m, hm, e⟩ hx⟩
  obtain ⟨tt, htt⟩ := Classical.axiomOfChoice hex
  refine ⟨tt, ⟨cs, h1, h2, fun x hx => ?_⟩, fun m hm => (htt (bp m) m hm rfl).symm⟩
  obtain ⟨m, hm, rfl⟩ := hp.onto hx
  rw [h3 m hm, htt (bp m) m hm rfl]
/-- what wanted hands back -/
def Wtd (g : Gar) (n : Nat) (sl : Nat → ByteArray) (w : World) (q : Nat) (w' : World) : Prop :=
  w.heap.size ≤ q ∧ Below w.heap.size w w' ∧ ∃ tt bs bp : Nat → Nat, NumRow w' q n tt ∧ Ords n (fun j => sumK Ev.s (evG g g.nu) (sl j)) (fun j => sumK Ev.p (evG g g.nu) (partF g sl j)) (partF g sl) tt bs bp
set_option maxHeartbeats 4000000 in
set_option maxRecDepth 100000 in
theorem wanted_any (g : Gar) (a0 a1 a2 a3 : Option Addr) (c0 c1 c2 c3 : Nat) (n : Nat) (sl : Nat → ByteArray) (a : Option Addr) (cap : Nat) (w : World) (h : GarIn w g a0 a1 a2 a3) (hchk : chk g = 0) (hr : RowK w a n 1 (fun j => [.string (sl j)])) (hn : n ≤ 20) (hz : ∀ j, j < n → (sl j).size ≤ maxLen) :
    Calls Tryz.prog 10 #[garV g a0 a1 a2 a3 c0 c1 c2 c3, .slice a n cap] w fun e w' => ∃ q, e = .returned (.slice (some ⟨q, 0, none⟩) n n) ∧ Wtd g n sl w q w' := by
  have HG := Lib.hid h
  have HCK := Lib.hid hchk
  have HR := Lib.hid hr
  have HZ := Lib.hid hz
  have hsl : (n : Int) ≤ 9223372036854775807 := by omega
  obtain ⟨V0, hV0, hb0, hs0, hq0⟩ := allocs w [.cells #[.slice a0 g.np c0, .slice a1 g.ns c1, .slice a2 g.nm c2, .slice a3 g.nu c3] 27, .cells #[.slice a n cap] 28]
  replace hs0 : V0.heap.size = w.heap.size + 2 := hs0
  obtain ⟨V1, hV1, hb1, hs1, m1, m2⟩ := two_maps V0 Tryz.prog 9 intR (fun x : Int => .lit (.int .i64 x)) (.lit (.int .i64 0)) (fun _ => 0) (fun _ => rfl)
  obtain ⟨V, hV, hb2, hs2, hq2⟩ := allocs V1 [.cells #[.map (some (w.heap.size + 1 + 1))] 68, .cells #[.map (some (w.heap.size + 1 + 1 + 1))] 68]
  replace hs2 : V.heap.size = V1.heap.size + 2 := hs2
  have hVV : Hid ((((((w.alloc (.cells #[.slice a0 g.np c0, .slice a1 g.ns c1, .slice a2 g.nm c2, .slice a3 g.nu c3] 27)).alloc (.cells #[.slice a n cap] 28)).alloc (.map #[] 0)).alloc (.map #[] 0)).alloc (.cells #[.map (some (w.heap.size + 1 + 1))] 68)).alloc (.cells #[.map (some (w.heap.size + 1 + 1 + 1))] 68) = V) := Lib.hid (by
    have e0 : (w.alloc (.cells #[.slice a0 g.np c0, .slice a1 g.ns c1, .slice a2 g.nm c2, .slice a3 g.nu c3] 27)).alloc (.cells #[.slice a n cap] 28) = V0 := hV0
    have e2 : (V1.alloc (.cells #[.map (some (w.heap.size + 1 + 1))] 68)).alloc (.cells #[.map (some (w.heap.size + 1 + 1 + 1))] 68) = V := hV
    rw [e0, hV1, e2])
  have hb01 : Below V0.heap.size V0 V := hb1.trans (hb2.mono (by omega))
  have hb : Below w.heap.size w V := hb0.trans (hb01.mono (by omega))
  have h0 : V.heap[w.heap.size]? = some (.cells #[.slice a0 g.np c0, .slice a1 g.ns c1, .slice a2 g.nm c2, .slice a3 g.nu c3] 27 (0, 0)) := below_block hb01 (hq0 0 _ rfl)
  have h1 : V.heap[w.heap.size + 1]? = some (.cells #[.slice a n cap] 28 (0, 0)) := below_block hb01 (hq0 1 _ rfl)
  have h5 : V.heap[w.heap.size + 4]? = some (.cells #[.map (some (w.heap.size + 2))] 68 (0, 0)) := by
    have := hq2 0 _ rfl
    rwa [show V1.heap.size + 0 = w.heap.size + 4 by omega] at this
  have h6 : V.heap[w.heap.size + 5]? = some (.cells #[.map (some (w.heap.size + 3))] 68 (0, 0)) := by
    have := hq2 1 _ rfl
    rwa [show V1.heap.size + 1 = w.heap.size + 5 by omega] at this
  have hm1 := m1.kept (grown_of_below hb2) (by simp)
  have hm2 := m2.kept (grown_of_below hb2) (by simp)
  rw [hs0] at hm1 hm2
  have hblk : ∀ (a : Option Addr) (b off : Nat) {len kk : Nat} {R : Nat → List Value}, RowK w a len kk R → a = some ⟨b, off, none⟩ → 0 < len → b < w.heap.size := fun a b off {len kk R} hr ha hl => by
    obtain ⟨b', off', h1, h2, _⟩ := hr.here hl
    rw [ha] at h1
    injection h1 with h1
    injection h1 with h1 _
    omega
  have DE := eachPiece_any g a0 a1 a2 a3 c0 c1 c2 c3 V (h.below hb) hchk 30 #[.pointer (some ⟨w.heap.size + 4, 0, none⟩), .pointer (some ⟨w.heap.size + 5, 0, none⟩)] (fun _ _ => rfl)
    (SInv (w.heap.size + 4) (w.heap.size + 5) (w.heap.size + 2) (w.heap.size + 3)) (fun done S W W' => SInv.keep done S W W')
    (fun done S W ev hi _ _ hp => by
      obtain ⟨rest, hrest⟩ := hp
      have hmem : ev ∈ evG g g.nu := by rw [hrest]; simp
      have hl := evG_len hchk g.nu (Nat.le_refl _)
      have hnu := (Gar.chk_parts hchk).2.2.2.1
      have hlen : done.length ≤ (evG g g.nu).length := by rw [hrest]; simp
      have hsm := ev_small hchk hrest
      have hz2 := evG_sizes HG.out g.nu ev hmem
      exact sumCl_any g _ _ _ _ done S W ev hi (by omega) (sumK_small hchk Ev.s ev.s hrest) (sumK_small hchk Ev.p ev.p hrest) ⟨hsm.2.2.1, hsm.2.2.2⟩ hz2.1 hz2.2)
    (fun b => b = w.heap.size + 2 ∨ b = w.heap.size + 3)
    ⟨h5, h6, hm1, hm2, fun _ => Iff.rfl, by omega, by omega⟩ (fun b hb => by omega) (fun b off ha hl hx => by have := hblk a1 b off HG.out.r1 ha hl; omega) (fun b off ha hl hx => by have := hblk a3 b off HG.out.r3 ha hl; omega)
  have hmm := @run_makeMap Tryz.prog
  have hmf : ∀ fn first cap w, (Instr.makeFunc fn first cap).run Tryz.prog w = .ok (.func fn first cap) w := fun _ _ _ _ => rfl
  have g0 : V.cell? ⟨w.heap.size, 0, none⟩ = some (.slice a0 g.np c0) := block_cell h0 rfl
  have g1 : V.cell? ⟨w.heap.size, 1, none⟩ = some (.slice a1 g.ns c1) := block_cell h0 rfl
  have g2 : V.cell? ⟨w.heap.size, 2, none⟩ = some (.slice a2 g.nm c2) := block_cell h0 rfl
  have g3 : V.cell? ⟨w.heap.size, 3, none⟩ = some (.slice a3 g.nu c3) := block_cell h0 rfl
  have H0 := Lib.hid h0
  have H1 := Lib.hid h1
  have HB := Lib.hid hb
  have HS : Hid (V.heap.size = w.heap.size + 6) := Lib.hid (by omega)
  have HDE := Lib.hid DE
  unfold garV at HDE ⊢
  clear h hchk hr hz hV0 hb0 hs0 hq0 hV1 hb1 hs1 m1 m2 hV hb2 hs2 hq2 hb01 hb h0 h1 h5 h6 hm1 hm2 hblk DE V0 V1
  go_enter Tryz.func10, Tryz.ntmps10
  go_upto_region 2 with (fail)
  rw [hVV.out]
  go_upto_region 3 with (go_at_call 29; refine HDE.out.mono ?_; rintro e w3 ⟨rfl, hpr⟩)
  obtain ⟨S, hi, _, _⟩ := hpr.ex
  have hk := hpr.kept
  have hs3 : w.heap.size + 6 ≤ w3.heap.size := by have := hk.size; have := HS.out; omega
  have r1 := (hk.block (w.heap.size + 1) (by have := HS.out; omega) (by omega)).trans H1.out
  have r0 := (hk.block w.heap.size (by have := HS.out; omega) (by omega)).trans H0.out
  have HI := Lib.hid hi
  have hbw3 : Below w.heap.size w w3 := Kept.below HB.out hk HB.out.size (fun k hk => by omega)
  obtain ⟨V4, hV4, hb4, hs4, hq4⟩ := allocs w3 [.cells (Array.replicate n (.string ⟨#[]⟩)) 9, .cells #[.slice (some ⟨w3.heap.size, 0, none⟩) n n] 28]
  replace hs4 : V4.heap.size = w3.heap.size + 2 := hs4
  have HV4 : Hid ((w3.alloc (.cells (Array.replicate n (.string ⟨#[]⟩)) 9)).alloc (.cells #[.slice (some ⟨w3.heap.size, 0, none⟩) n n] 28) = V4) := Lib.hid hV4
  have q1 : w3.cell? ⟨w.heap.size + 1, 0, none⟩ = some (.slice a n cap) := block_cell r1 rfl
  have hms := make_strs n hn
  have hmi := make_ints n hn
  have HR0 := Lib.hid r0
  have HR1 := Lib.hid r1
  have HB4 := Lib.hid hb4
  have HQ4 := Lib.hid hq4
  have HBW3 := Lib.hid hbw3
  have q14 : V4.cell? ⟨w.heap.size + 1, 0, none⟩ = some (.slice a n cap) := block_cell (below_block hb4 r1) rfl
  clear hpr hi hk r1 r0 hbw3 hV4 hb4 hq4 g0 g1 g2 g3
  go_upto_region 4 with (fail)
  rw [HV4.out]
  go_cut [8, 9] (fun p q wx => ∃ q8 q9 : Nat, p = .slice (some ⟨q8, 0, none⟩) n n ∧ q = .slice (some ⟨q9, 0, none⟩) n n ∧ Hid (Below V4.heap.size V4 wx ∧ wx.heap.size = V4.heap.size + 2 ∧ wx.heap[q8]? = some (.cells (Array.replicate n (.int .i64 0)) 3 (0, 0)) ∧ wx.heap[q9]? = some (.cells (Array.replicate n (.int .i64 0)) 3 (0, 0)) ∧ q8 ≠ q9 ∧ V4.heap.size ≤ q8 ∧ V4.heap.size ≤ q9))
  case first =>
    have hlt4 : w.heap.size + 1 < V4.heap.size := by omega
    have q15 : (V4.alloc (.cells (Array.replicate n (.int .i64 0)) 3)).drew.cell? ⟨w.heap.size + 1, 0, none⟩ = some (.slice a n cap) := by
      show (V4.alloc _).cell? _ = _
      rw [World.cell?_alloc_past _ _ _ (by omega)]
      exact q14
    obtain ⟨V5, hV5, hb5, hs5, hq5⟩ := allocs V4 [.cells (Array.replicate n (.int .i64 0)) 3, .cells (Array.replicate n (.int .i64 0)) 3]
    have e5 : (V4.alloc (.cells (Array.replicate n (.int .i64 0)) 3)).alloc (.cells (Array.replicate n (.int .i64 0)) 3) = V5 := hV5
    have x0 : V5.heap[w3.heap.size + 2]? = some (.cells (Array.replicate n (.int .i64 0)) 3 (0, 0)) := by
      have := hq5 0 _ rfl
      rwa [show V4.heap.size + 0 = w3.heap.size + 2 by omega] at this
    have x1 : V5.heap[w3.heap.size + 2 + 1]? = some (.cells (Array.replicate n (.int .i64 0)) 3 (0, 0)) := by
      have := hq5 1 _ rfl
      rwa [show V4.heap.size + 1 = w3.heap.size + 2 + 1 by omega] at this
    replace hs5 : V5.heap.size = V4.heap.size + 2 := hs5
    have HA := Lib.hid (show Below V4.heap.size V4 V5.drew ∧ V5.drew.heap.size = V4.heap.size + 2 ∧ V5.drew.heap[w3.heap.size + 2]? = some (.cells (Array.replicate n (.int .i64 0)) 3 (0, 0)) ∧ V5.drew.heap[w3.heap.size + 2 + 1]? = some (.cells (Array.replicate n (.int .i64 0)) 3 (0, 0)) ∧ w3.heap.size + 2 ≠ w3.heap.size + 2 + 1 ∧ V4.heap.size ≤ w3.heap.size + 2 ∧ V4.heap.size ≤ w3.heap.size + 2 + 1 from ⟨hb5.drew, hs5, x0, x1, by omega, by omega, by omega⟩)
    have HC := Lib.hid (show Below V4.heap.size V4 V5.drew ∧ V5.drew.heap.size = V4.heap.size + 2 ∧ V5.drew.heap[w3.heap.size + 2 + 1]? = some (.cells (Array.replicate n (.int .i64 0)) 3 (0, 0)) ∧ V5.drew.heap[w3.heap.size + 2]? = some (.cells (Array.replicate n (.int .i64 0)) 3 (0, 0)) ∧ w3.heap.size + 2 + 1 ≠ w3.heap.size + 2 ∧ V4.heap.size ≤ w3.heap.size + 2 + 1 ∧ V4.heap.size ≤ w3.heap.size + 2 from ⟨hb5.drew, hs5, x1, x0, by omega, by omega, by omega⟩)
    clear hV5 hb5 hs5 hq5 x0 x1
    go_region
    all_goals
      go_wp2_with fail
      (try rw [e5])
      go_meet
    · exact ⟨_, _, rfl, rfl, HA⟩
    · exact ⟨_, _, rfl, rfl, HC⟩
  case rest =>
    obtain ⟨q8, q9, rfl, rfl, HX⟩ := hcut
    have hq8 := HX.out.2.2.2.2.2.1
    have hq9 := HX.out.2.2.2.2.2.2
    have hq89 := HX.out.2.2.2.2.1
    have hwc : w.heap.size + 8 ≤ wc.heap.size := by have := HX.out.2.1; omega
    have hb4c : Below V4.heap.size V4 wc := HX.out.1
    have hm3 : w3.heap.size < V4.heap.size := by omega
    have PS : Part wc w3.heap.size n 0 9 fun j => .string (partF g sl j) := Part.start (below_block hb4c (HQ4.out 0 _ rfl))
    have P8 : Part wc q8 n 0 3 fun j => .int .i64 (j : Nat) := Part.start HX.out.2.2.1
    have P9 : Part wc q9 n 0 3 fun j => .int .i64 (j : Nat) := Part.start HX.out.2.2.2.1
    have hb3c : Below w3.heap.size w3 wc := HB4.out.trans (hb4c.mono (by omega))
    have c7 : wc.heap[w3.heap.size + 1]? = some (.cells #[.slice (some ⟨w3.heap.size, 0, none⟩) n n] 28 (0, 0)) := below_block hb4c (HQ4.out 1 _ rfl)
    have x1c := below_block hb3c HR1.out
    have x0c := below_block hb3c HR0.out
    have HBWC := Lib.hid (HBW3.out.trans (hb3c.mono (by omega)))
    have HC3 := Lib.hid hb3c
    have HPS := Lib.hid PS
    have HP8 := Lib.hid P8
    have HP9 := Lib.hid P9
    have m1 : wc.cell? ⟨w.heap.size + 1, 0, none⟩ = some (.slice a n cap) := block_cell x1c rfl
    have K1 : ∀ X : ExtO (fun b => b = w3.heap.size ∨ b = q8 ∨ b = q9) wc, X.1.cell? ⟨w.heap.size + 1, 0, none⟩ = some (.slice a n cap) := ExtO.ex (by simp <;> omega) m1
    have K7 : ∀ X : ExtO (fun b => b = w3.heap.size ∨ b = q8 ∨ b = q9) wc, X.1.cell? ⟨w3.heap.size + 1, 0, none⟩ = some (.slice (some ⟨w3.heap.size, 0, none⟩) n n) := ExtO.ex (by simp <;> omega) (block_cell c7 rfl)
    have G0 : ∀ X : ExtO (fun b => b = w3.heap.size ∨ b = q8 ∨ b = q9) wc, X.1.cell? ⟨w.heap.size, 0, none⟩ = some (.slice a0 g.np c0) := ExtO.ex (by simp <;> omega) (block_cell x0c rfl)
    have G1 : ∀ X : ExtO (fun b => b = w3.heap.size ∨ b = q8 ∨ b = q9) wc, X.1.cell? ⟨w.heap.size, 1, none⟩ = some (.slice a1 g.ns c1) := ExtO.ex (by simp <;> omega) (block_cell x0c rfl)
    have G2 : ∀ X : ExtO (fun b => b = w3.heap.size ∨ b = q8 ∨ b = q9) wc, X.1.cell? ⟨w.heap.size, 2, none⟩ = some (.slice a2 g.nm c2) := ExtO.ex (by simp <;> omega) (block_cell x0c rfl)
    have G3 : ∀ X : ExtO (fun b => b = w3.heap.size ∨ b = q8 ∨ b = q9) wc, X.1.cell? ⟨w.heap.size, 3, none⟩ = some (.slice a3 g.nu c3) := ExtO.ex (by simp <;> omega) (block_cell x0c rfl)
    clear q14 PS P8 P9 c7 x1c x0c hb4c hb3c
    go_wp2_with fail
    have DI := Lib.hid (fun (k : Nat) (Y : ExtO (fun b => b = w3.heap.size ∨ b = q8 ∨ b = q9) wc) => inSlot_any g a0 a1 a2 a3 c0 c1 c2 c3 (sl k) 86399999999 Y.1 (HG.out.below (Y.down HBWC.out (by omega) (fun k hk => by omega))) _ rfl)
    unfold garV at DI
    go_loopw [30] (fun iv wr => ∃ (k : Nat), iv = .int .i64 k ∧ k ≤ n ∧ Hid (∃ X : ExtO (fun b => b = w3.heap.size ∨ b = q8 ∨ b = q9) wc, wr = X.1) ∧ Hid (Part wr w3.heap.size n k 9 (fun j => .string (partF g sl j)) ∧ Part wr q8 n k 3 (fun j => .int .i64 (j : Nat)) ∧ Part wr q9 n k 3 (fun j => .int .i64 (j : Nat)))) (fun iv _ => n - (intOf iv).toNat)
    case atStart => exact ⟨0, rfl, by omega, Lib.hid ⟨⟨_, Kept.refl _ _⟩, rfl⟩, Lib.hid ⟨HPS.out, HP8.out, HP9.out⟩⟩
    case round =>
      obtain ⟨k, rfl, hk, HXE, HPP⟩ := hrel
      obtain ⟨X, rfl⟩ := HXE.out
      by_cases hlt : k < n
      · have t1 : decide ((k : Int) < (n : Int)) = true := by rw [decide_eq_true_eq]; omega
        have t1' : decide (k < n) = true := by simpa using hlt
        have hki : (k : Int) < (n : Int) := by omega
        obtain ⟨b, off, rfl, hbl, hc⟩ := (HR.out.below (X.down HBWC.out (by omega) (fun k hk => by omega)) (Nat.le_refl _)).here (by omega)
        have e0 : X.1.cell? ⟨b, off + k, none⟩ = some (.string (sl k)) := by
          have := hc k hlt 0 (by omega)
          rw [Nat.mul_one, Nat.add_zero] at this
          exact this
        clear hc
        go_upto_region 8 with (fail)
        clear e0
        refine held_start (C := fun w' => ∃ Z : ExtO (fun b => b = w3.heap.size ∨ b = q8 ∨ b = q9) wc, w' = Z.1) (by kernel_rfl) ?_
        obtain ⟨Z0, hZ0⟩ : ∃ Z : ExtO (fun b => b = w3.heap.size ∨ b = q8 ∨ b = q9) wc, ({ X.1 with drawn := X.1.drawn + 1 } : World) = Z.1 := ⟨⟨{ X.1 with drawn := X.1.drawn + 1 }, X.2.trans ⟨rfl, rfl, rfl, Nat.le_refl _, fun _ _ _ => rfl⟩⟩, rfl⟩
        have HP0 : Hid (Part Z0.1 w3.heap.size n k 9 (fun j => .string (partF g sl j)) ∧ Part Z0.1 q8 n k 3 (fun j => .int .i64 (j : Nat)) ∧ Part Z0.1 q9 n k 3 (fun j => .int .i64 (j : Nat))) := Lib.hid (by rw [← hZ0]; exact ⟨HPP.out.1.same rfl, HPP.out.2.1.same rfl, HPP.out.2.2.same rfl⟩)
        rw [hZ0]
        clear hZ0
        refine held_quiet (by kernel_rfl) (fun _ _ d _ _ h => by cases d <;> exact h) ⟨Z0, rfl⟩ [0, 1, 2, 3, 4, 5, 6, 7, 9, 10] 7 _ _ (by kernel_rfl) ?_
        change wpQuiet _ _ _ _ (_ :: _ :: _ :: _ :: _ :: _ :: _ :: _ :: _ :: _ :: []) _
        repeat go_big_quiet_step (fail)
        refine wpQuiet_nil ?_
        refine held_do (i := 8) _ rfl (by kernel_rfl) rfl (fun K hK => ?_)
        go_simp
        refine (DI.out k Z0).mono ?_
        rintro e w5 ⟨rfl, hb5⟩
        rw [show (inR (inF g (sl k) 86399999999 g.nm 0)).1 = partF g sl k from rfl]
        have HP5 : Hid (Part w5 w3.heap.size n k 9 (fun j => .string (partF g sl j)) ∧ Part w5 q8 n k 3 (fun j => .int .i64 (j : Nat)) ∧ Part w5 q9 n k 3 (fun j => .int .i64 (j : Nat))) := Lib.hid ⟨HP0.out.1.below hb5, HP0.out.2.1.below hb5, HP0.out.2.2.below hb5⟩
        obtain ⟨Z5, rfl⟩ : ∃ Z : ExtO (fun b => b = w3.heap.size ∨ b = q8 ∨ b = q9) wc, w5 = Z.1 := ⟨⟨w5, Z0.2.trans (Kept.of_below hb5)⟩, rfl⟩
        refine hK _ _ ⟨Z5, rfl⟩ ?_
        clear hK K hb5
        have d1 : w3.heap.size ≠ q8 := by omega
        have d2 : w3.heap.size ≠ q9 := by omega
        obtain ⟨vZ5, uZ5⟩ := HP5.out.1.here hlt
        have fZ5 := HP5.out.1.free k
        refine held_quiet (by kernel_rfl) (fun _ _ d _ _ h => by cases d <;> exact h) ⟨Z5, rfl⟩ [11] 5 _ _ (by kernel_rfl) ?_
        change wpQuiet _ _ _ _ (_ :: []) _
        go_big_quiet_step (fail)
        refine wpQuiet_nil ?_
        refine held_do (i := 12) _ rfl (by kernel_rfl) rfl (fun K hK => ?_)
        go_simp
        obtain ⟨Z6, hZ6⟩ : ∃ Z : ExtO (fun b => b = w3.heap.size ∨ b = q8 ∨ b = q9) wc, Z5.1.setCell ⟨w3.heap.size, k, none⟩ (.string (partF g sl k)) = Z.1 := ⟨⟨_, Z5.2.trans (Kept.put (Or.inl rfl))⟩, rfl⟩
        have HZ6 : Hid (Part Z6.1 w3.heap.size n (k + 1) 9 (fun j => .string (partF g sl j)) ∧ Part Z6.1 q8 n k 3 (fun j => .int .i64 (j : Nat)) ∧ Part Z6.1 q9 n k 3 (fun j => .int .i64 (j : Nat))) := Lib.hid (by rw [← hZ6]; exact ⟨HP5.out.1.store hlt, HP5.out.2.1.other d1, HP5.out.2.2.other d2⟩)
        rw [hZ6]
        refine hK _ _ ⟨Z6, rfl⟩ ?_
        clear hK K hZ6 uZ5 fZ5
        obtain ⟨vZ6, uZ6⟩ := HZ6.out.2.1.here hlt
        have fZ6 := HZ6.out.2.1.free k
        refine held_quiet (by kernel_rfl) (fun _ _ d _ _ h => by cases d <;> exact h) ⟨Z6, rfl⟩ [13] 3 _ _ (by kernel_rfl) ?_
        change wpQuiet _ _ _ _ (_ :: []) _
        go_big_quiet_step (fail)
        refine wpQuiet_nil ?_
        refine held_do (i := 14) _ rfl (by kernel_rfl) rfl (fun K hK => ?_)
        go_simp
        obtain ⟨Z7, hZ7⟩ : ∃ Z : ExtO (fun b => b = w3.heap.size ∨ b = q8 ∨ b = q9) wc, Z6.1.setCell ⟨q8, k, none⟩ (.int .i64 (k : Nat)) = Z.1 := ⟨⟨_, Z6.2.trans (Kept.put (Or.inr (Or.inl rfl)))⟩, rfl⟩
        have HZ7 : Hid (Part Z7.1 w3.heap.size n (k + 1) 9 (fun j => .string (partF g sl j)) ∧ Part Z7.1 q8 n (k + 1) 3 (fun j => .int .i64 (j : Nat)) ∧ Part Z7.1 q9 n k 3 (fun j => .int .i64 (j : Nat))) := Lib.hid (by rw [← hZ7]; exact ⟨HZ6.out.1.other (fun e => d1 e.symm), HZ6.out.2.1.store hlt, HZ6.out.2.2.other hq89⟩)
        rw [hZ7]
        refine hK _ _ ⟨Z7, rfl⟩ ?_
        clear hK K hZ7 uZ6 fZ6
        obtain ⟨vZ7, uZ7⟩ := HZ7.out.2.2.here hlt
        have fZ7 := HZ7.out.2.2.free k
        refine held_quiet (by kernel_rfl) (fun _ _ d _ _ h => by cases d <;> exact h) ⟨Z7, rfl⟩ [15] 1 _ _ (by kernel_rfl) ?_
        change wpQuiet _ _ _ _ (_ :: []) _
        go_big_quiet_step (fail)
        refine wpQuiet_nil ?_
        refine held_do (i := 16) _ rfl (by kernel_rfl) rfl (fun K hK => ?_)
        go_simp
        obtain ⟨Z8, hZ8⟩ : ∃ Z : ExtO (fun b => b = w3.heap.size ∨ b = q8 ∨ b = q9) wc, Z7.1.setCell ⟨q9, k, none⟩ (.int .i64 (k : Nat)) = Z.1 := ⟨⟨_, Z7.2.trans (Kept.put (Or.inr (Or.inr rfl)))⟩, rfl⟩
        have HZ8 : Hid (Part Z8.1 w3.heap.size n (k + 1) 9 (fun j => .string (partF g sl j)) ∧ Part Z8.1 q8 n (k + 1) 3 (fun j => .int .i64 (j : Nat)) ∧ Part Z8.1 q9 n (k + 1) 3 (fun j => .int .i64 (j : Nat))) := Lib.hid (by rw [← hZ8]; exact ⟨HZ7.out.1.other (fun e => d2 e.symm), HZ7.out.2.1.other (fun e => hq89 e.symm), HZ7.out.2.2.store hlt⟩)
        rw [hZ8]
        refine hK _ _ ⟨Z8, rfl⟩ ?_
        clear hK K hZ8 uZ7 fZ7
        refine wpAnyH_done (by kernel_rfl) ?_ _
        go_wp2_with fail
        go_roundw
        case rel => exact ⟨k + 1, by go_num, by omega, Lib.hid ⟨Z8, rfl⟩, HZ8⟩
        case measure => simp [intOf]; omega
      · have t1 : decide ((k : Int) < (n : Int)) = false := by rw [decide_eq_false_iff_not]; omega
        have t1' : decide (k < n) = false := by simpa using hlt
        obtain rfl : k = n := by omega
        have hdn := X.down HBWC.out (by omega) (fun k hk => by omega)
        have hmS := (HI.out.ms.kept (grown_of_below HC3.out) (by simp)).keptO X.2 (by simp <;> omega)
        have hmP := (HI.out.mp.kept (grown_of_below HC3.out) (by simp)).keptO X.2 (by simp <;> omega)
        have hB5 : X.1.cell? ⟨w.heap.size + 4, 0, none⟩ = some (.map (some (w.heap.size + 2))) := X.2.cell (p := ⟨w.heap.size + 4, 0, none⟩) (by simp <;> omega) (block_cell (below_block HC3.out HI.out.h5) rfl)
        have hB6 : X.1.cell? ⟨w.heap.size + 5, 0, none⟩ = some (.map (some (w.heap.size + 3))) := X.2.cell (p := ⟨w.heap.size + 5, 0, none⟩) (by simp <;> omega) (block_cell (below_block HC3.out HI.out.h6) rfl)
        have egS : ∀ args w, (callFunc 32 args).run Tryz.prog w = .ok (.enter 32 args) w := enters_of Tryz.func32 (by kernel_rfl) rfl
        have egP : ∀ args w, (callFunc 35 args).run Tryz.prog w = .ok (.enter 35 args) w := enters_of Tryz.func35 (by kernel_rfl) rfl
        have OS := Lib.hid (show Calls Tryz.prog 31 #[.slice (some ⟨q8, 0, none⟩) k k, .func (.func 32) #[] #[.pointer (some ⟨w.heap.size + 4, 0, none⟩), .pointer (some ⟨w.heap.size + 1, 0, none⟩)]] X.1 fun e w' => e = .returned (.slice (some ⟨q8, 0, none⟩) k k) ∧ Ordd (n := k) (cfSlot fun j => sumK Ev.s (evG g g.nu) (sl j)) q8 X.1 w' from by
          rcases Nat.eq_zero_or_pos k with h0 | h0
          · have hx := HPP.out.2.1.ex
            clear HPP HP8 HP9 HPS HX hmS hmP
            subst h0
            obtain ⟨cs, x1, x2, _⟩ := hx
            exact (orderedI_none _ _ _ _ _).mono fun e w' ⟨y1, y2⟩ => ⟨y1, by rw [y2]; exact Ordd.none _ ⟨cs, x1, x2⟩⟩
          · letI : Inhabited (Fin k) := ⟨⟨0, h0⟩⟩
            obtain ⟨b, off, rfl, hbl, hc⟩ := HR.out.here h0
            have hcs : ∀ j, j < k → X.1.cell? ⟨b, off + j, none⟩ = some (.string (sl j)) := fun j hj => by
              have := hc j hj 0 (by omega)
              rw [Nat.mul_one, Nat.add_zero] at this
              exact (hdn.cell (p := ⟨b, off + j, none⟩) hbl).trans this
            have RS : Reads (w.heap.size + 4) (w.heap.size + 1) (w.heap.size + 2) b off cap q8 (evG g g.nu).length k sl (sumK Ev.s (evG g g.nu)) X.1 :=
              ⟨hB5, K1 X, hcs, HZ.out, hmS, by omega, by omega, by omega, by omega⟩
            exact orderedI_any (cfSlot fun j => sumK Ev.s (evG g g.nu) (sl j)) (swo_slot _) _ _ egS q8 X.1 (Part.nums (p := id) HPP.out.2.1) (by omega) (slotLays RS _))
        have HBX := Lib.hid hdn
        have HEP := Lib.hid egP
        have HMP := Lib.hid hmP
        have HBB := Lib.hid hB6
        clear hmS hmP hB5 hB6 egS egP hdn HXE
        have k1 := K1 X
        go_upto_region 11 with (go_at_call 31; refine OS.out.mono ?_; rintro e w6 ⟨rfl, hod⟩)
        have HO1 := Lib.hid hod
        have hg6 := hod.1
        have hpz : ∀ j, j < k → (partF g sl j).size ≤ maxLen := fun j _ => inF_small (R := fun x => x.size ≤ maxLen) (by decide) g (sl j) _ g.nm 0 (fun i hi => (HG.out.z2 i (by omega)).2)
        have RP : Reads (w.heap.size + 5) (w3.heap.size + 1) (w.heap.size + 3) w3.heap.size 0 k q9 (evG g g.nu).length k (partF g sl) (sumK Ev.p (evG g g.nu)) w6 :=
          ⟨cell_grown hg6 (by simp; omega) HBB.out, cell_grown hg6 (by simp; omega) (K7 X), fun j hj => by rw [Nat.zero_add]; exact cell_grown hg6 (by simp; omega) (HPP.out.1.cell hj), hpz, HMP.out.kept hg6 (by simp; omega), by omega, by omega, by omega, by omega⟩
        have NP : NumRow w6 q9 k id := (Part.nums (p := id) HPP.out.2.2).kept hg6 (by simp; omega)
        have OP := Lib.hid (show Calls Tryz.prog 31 #[.slice (some ⟨q9, 0, none⟩) k k, .func (.func 35) #[] #[.pointer (some ⟨w.heap.size + 5, 0, none⟩), .pointer (some ⟨w3.heap.size + 1, 0, none⟩)]] w6 fun e w' => e = .returned (.slice (some ⟨q9, 0, none⟩) k k) ∧ Ordd (n := k) (cfPart (fun j => sumK Ev.p (evG g g.nu) (partF g sl j)) (partF g sl)) q9 w6 w' from by
          rcases Nat.eq_zero_or_pos k with h0 | h0
          · have hx := NP.ex
            clear HPP HP8 HP9 HPS HX RP NP OS HO1 hod
            subst h0
            obtain ⟨cs, x1, x2, _⟩ := hx
            exact (orderedI_none _ _ _ _ _).mono fun e w' ⟨y1, y2⟩ => ⟨y1, by rw [y2]; exact Ordd.none _ ⟨cs, x1, x2⟩⟩
          · letI : Inhabited (Fin k) := ⟨⟨0, h0⟩⟩
            exact orderedI_any (cfPart (fun j => sumK Ev.p (evG g g.nu) (partF g sl j)) (partF g sl)) (swo_part _ _) _ _ HEP.out q9 w6 NP (by omega) (partLays RP _))
        have k6 : w6.cell? ⟨w.heap.size + 1, 0, none⟩ = some (.slice a k cap) := cell_grown hg6 (by simp; omega) k1
        clear hod hg6 RP NP hpz k1
        go_upto_region 12 with (go_at_call 31; refine OP.out.mono ?_; rintro e w7 ⟨rfl, hod⟩)
        obtain ⟨hg6, bs, hbs, nbs, pbs, sbs⟩ := HO1.out
        obtain ⟨hg7, bp, hbp, nbp, pbp, sbp⟩ := hod
        have nbs7 := nbs.kept hg7 (by simp; omega)
        have k7 : w7.cell? ⟨w.heap.size + 1, 0, none⟩ = some (.slice a k cap) := cell_grown hg7 (by simp; omega) k6
        have hs7 : X.1.heap.size ≤ w7.heap.size := Nat.le_trans hg6.size hg7.size
        have hsx : w.heap.size ≤ X.1.heap.size := HBX.out.size
        have hb7 : Below w.heap.size w w7 := (HBX.out.grown hg6 hsx (fun q hq => by injection hq with hq; omega)).grown hg7 (Nat.le_trans hsx hg6.size) (fun q hq => by injection hq with hq; omega)
        obtain ⟨w8, hw8, hb8, hs8, hq8'⟩ := allocs w7 [.cells (Array.replicate k (.int .i64 0)) 3]
        have HW8 : Hid (w7.alloc (.cells (Array.replicate k (.int .i64 0)) 3) = w8) := Lib.hid hw8
        have k8 : w8.cell? ⟨w.heap.size + 1, 0, none⟩ = some (.slice a k cap) := hb8.cell (p := ⟨w.heap.size + 1, 0, none⟩) (by show w.heap.size + 1 < w7.heap.size; have := X.2.size; omega) |>.trans k7
        have nbs8 := nbs7.kept (grown_of_below hb8) (by simp)
        have nbp8 := nbp.kept (grown_of_below hb8) (by simp)
        have HOUT := Lib.hid (show OutP w8 w7.heap.size k 0 bs bp from OutP.start (hq8' 0 _ rfl))
        have HB8 := Lib.hid (hb7.trans (hb8.mono hb7.size))
        have hq8lt := nbs7.lt
        have hq9lt := nbp.lt
        have hw7 : w.heap.size ≤ w7.heap.size := hb7.size
        have HNS := Lib.hid nbs8
        have HNP := Lib.hid nbp8
        have HPB := Lib.hid (And.intro pbs pbp)
        have HSS := Lib.hid (show ∀ i j, i < j → j < k → bef2 (sumK Ev.s (evG g g.nu) (sl (bs i))) (sumK Ev.s (evG g g.nu) (sl (bs j))) (bs j : Nat) (bs i : Nat) = false from fun i j hij hj => slot_bef (sbs i j (by omega) hj hij))
        have HSP := Lib.hid (show ∀ i j, i < j → j < k → befB (sumK Ev.p (evG g g.nu) (partF g sl (bp j))) (sumK Ev.p (evG g g.nu) (partF g sl (bp i))) (partF g sl (bp j)) (partF g sl (bp i)) = false from fun i j hij hj => part_bef (sbp i j (by omega) hj hij))
        clear sbs sbp hg6 hg7 hbs hbp nbs pbs nbp pbp nbs7 hb7 hw8 hb8 hq8' nbs8 nbp8 k6
        go_upto_region 13 with (fail)
        rw [HW8.out]
        go_wp2_with fail
        go_loopw [61] (fun iv wr => ∃ (m : Nat), iv = .int .i64 m ∧ m ≤ k ∧ Hid (∃ Y : ExtO (fun b => b = w7.heap.size) w8, wr = Y.1) ∧ Hid (OutP wr w7.heap.size k m bs bp)) (fun iv _ => k - (intOf iv).toNat)
        case atStart => exact ⟨0, rfl, by omega, Lib.hid ⟨⟨_, Kept.refl _ _⟩, rfl⟩, HOUT⟩
        case round =>
          obtain ⟨m, rfl, hm, HYE, HO⟩ := hrel
          obtain ⟨Y, rfl⟩ := HYE.out
          by_cases hmk : m < k
          · have u1 : decide ((m : Int) < (k : Int)) = true := by rw [decide_eq_true_eq]; omega
            have u1' : decide (m < k) = true := by simpa using hmk
            have hmi2 : (m : Int) < (k : Int) := by omega
            have hbm : bp m < k := HPB.out.2.lt m hmk
            have hbmi : (bp m : Int) < (k : Int) := by omega
            have L8 : ∀ Z : ExtO (fun b => b = w7.heap.size) w8, Z.1.cell? ⟨q8, m, none⟩ = some (.int .i64 (bs m : Nat)) := ExtO.ex (by simp <;> omega) (HNS.out.cell hmk)
            have L9 : ∀ Z : ExtO (fun b => b = w7.heap.size) w8, Z.1.cell? ⟨q9, m, none⟩ = some (.int .i64 (bp m : Nat)) := ExtO.ex (by simp <;> omega) (HNP.out.cell hmk)
            go_upto_region 16 with (fail)
            refine held_start (C := fun w' => ∃ Z : ExtO (fun b => b = w7.heap.size) w8, w' = Z.1) (by kernel_rfl) ?_
            obtain ⟨Z0, hZ0⟩ : ∃ Z : ExtO (fun b => b = w7.heap.size) w8, ({ Y.1 with drawn := Y.1.drawn + 1 } : World) = Z.1 := ⟨⟨{ Y.1 with drawn := Y.1.drawn + 1 }, Y.2.trans ⟨rfl, rfl, rfl, Nat.le_refl _, fun _ _ _ => rfl⟩⟩, rfl⟩
            have HP0 : Hid (OutP Z0.1 w7.heap.size k m bs bp) := Lib.hid (by rw [← hZ0]; exact HO.out.same rfl)
            rw [hZ0]
            clear hZ0
            refine held_quiet (by kernel_rfl) (fun _ _ d _ _ h => by cases d <;> exact h) ⟨Z0, rfl⟩ [0, 1, 2, 3, 4, 5, 6, 7, 8, 9] 1 _ _ (by kernel_rfl) ?_
            change wpQuiet _ _ _ _ (_ :: _ :: _ :: _ :: _ :: _ :: _ :: _ :: _ :: _ :: []) _
            repeat go_big_quiet_step (fail)
            refine wpQuiet_nil ?_
            obtain ⟨vv, uu⟩ := HP0.out.here hbm
            have ff := HP0.out.free (bp m)
            refine held_do (i := 10) _ rfl (by kernel_rfl) rfl (fun K hK => ?_)
            go_simp
            obtain ⟨Z1, hZ1⟩ : ∃ Z : ExtO (fun b => b = w7.heap.size) w8, Z0.1.setCell ⟨w7.heap.size, bp m, none⟩ (.int .i64 (bs m : Nat)) = Z.1 := ⟨⟨_, Z0.2.trans (Kept.put rfl)⟩, rfl⟩
            have HP1 : Hid (OutP Z1.1 w7.heap.size k (m + 1) bs bp) := Lib.hid (by rw [← hZ1]; exact HP0.out.store HPB.out.2 hmk)
            rw [hZ1]
            refine hK _ _ ⟨Z1, rfl⟩ ?_
            clear hK K hZ1 uu ff
            refine wpAnyH_done (by kernel_rfl) ?_ _
            go_wp2_with fail
            go_roundw
            case rel => exact ⟨m + 1, by go_num, by omega, Lib.hid ⟨Z1, rfl⟩, HP1⟩
            case measure => simp [intOf]; omega
          · have u1 : decide ((m : Int) < (k : Int)) = false := by rw [decide_eq_false_iff_not]; omega
            have u1' : decide (m < k) = false := by simpa using hmk
            obtain rfl : m = k := by omega
            obtain ⟨tt, ht1, ht2⟩ := HO.out.done HPB.out.2
            have HEND : Hid (Wtd g m sl w w7.heap.size Y.1) := Lib.hid ⟨hw7, Y.down HB8.out (by omega) (fun k hk => by omega), tt, bs, bp, ht1, HPB.out.1, HPB.out.2, ht2, HSS.out, HSP.out⟩
            clear ht1 ht2
            go_wp2_with fail
            go_ret
            exact ⟨_, rfl, HEND.out⟩
end Go.Proofs.YtbkpoepacjinlaaGreat

/- Gear: two numbers of a block change places. -/
namespace Go.Proofs.YtbkpoepacjinlaaGreat
open Go.RowKit Go.BigFrame

theorem NumRow.put {w : World} {q n i : Nat} {p : Nat → Nat} (h : NumRow w q n p) (hi : i < n) (x : Nat) : NumRow (w.setCell ⟨q, i, none⟩ (.int .i64 (x : Nat))) q n (fun j => if j = i then x else p j) := by
  obtain ⟨cs, h1, h2, h3⟩ := h.ex
  refine ⟨_, cells_setCell h1, by simp [h2], fun j hj => ?_⟩
  by_cases e : j = i
  · subst e
    simp [h2, hj]
  · rw [Array.getElem?_setIfInBounds_ne (fun x => e x.symm), if_neg e]
    exact h3 j hj
theorem NumRow.swap {w : World} {q n i k : Nat} {t : Nat → Nat} (h : NumRow w q n t) (hi : i < n) (hk : k < n) : NumRow ((w.setCell ⟨q, i, none⟩ (.int .i64 (t k : Nat))).setCell ⟨q, k, none⟩ (.int .i64 (t i : Nat))) q n (Cir.swp t i k) := by
  have h2 := (h.put hi (t k)).put hk (t i)
  have e : (fun j => if j = k then t i else if j = i then t k else t j) = Cir.swp t i k := by
    funext j
    unfold Cir.swp
    by_cases e1 : j = k
    · by_cases e2 : j = i
      · rw [if_pos e1, if_pos e2, ← e1, ← e2]
      · rw [if_pos e1, if_neg e2, if_pos e1]
    · rw [if_neg e1, if_neg e1]
  rwa [e] at h2
theorem NumRow.free {w : World} {q n : Nat} {p : Nat → Nat} (h : NumRow w q n p) (i : Nat) : w.frozen? ⟨q, i, none⟩ = false := by
  obtain ⟨cs, h1, _⟩ := h.ex
  exact block_free h1
end Go.Proofs.YtbkpoepacjinlaaGreat

/- Gear: the swaps, in plain lists: what has come to lie where; there is one list of swaps; the end of them. -/
namespace Go.Proofs.YtbkpoepacjinlaaGreat
open Cir (SwI swp Perm even_end IsP To it swp_perm)

/-- what lies where after swaps -/
def foldS (ps : List (Nat × Nat)) : Nat → Nat := ps.foldl (fun c x => swp c x.1 x.2) id
theorem foldS_snoc (ps : List (Nat × Nat)) (x : Nat × Nat) : foldS (ps ++ [x]) = swp (foldS ps) x.1 x.2 := by
  unfold foldS
  rw [List.foldl_append]
  rfl
/-- the swaps that are done one after the other -/
inductive Swps (n : Nat) (tt : Nat → Nat) : List (Nat × Nat) → (Nat → Nat) → Prop
  | nil : Swps n tt [] tt
  | snoc {ps : List (Nat × Nat)} {t : Nat → Nat} {i k : Nat} (h : Swps n tt ps t) (hi : i < n) (hf : ∀ j, j < i → t j = j) (hne : t i ≠ i) (hk : IsP t i k) : Swps n tt (ps ++ [(i, k)]) (swp t i k)
def Agr (n : Nat) (t t' : Nat → Nat) : Prop := ∀ j, j < n → t j = t' j
theorem Agr.perm {n : Nat} {t t' : Nat → Nat} (h : Agr n t t') (hp : Perm t n) : Perm t' n :=
  ⟨fun j hj => by rw [← h j hj]; exact hp.lt j hj, fun i j hi hj e => hp.inj i j hi hj (by rw [h i hi, h j hj]; exact e)⟩
theorem Agr.symm {n : Nat} {t t' : Nat → Nat} (h : Agr n t t') : Agr n t' t := fun j hj => (h j hj).symm
theorem Agr.it {n : Nat} {t t' : Nat → Nat} (h : Agr n t t') (hp : Perm t n) {i : Nat} (hi : i < n) : ∀ s, Cir.it t s i = Cir.it t' s i
  | 0 => rfl
  | s + 1 => by
    rw [Cir.it, Cir.it, ← h.it hp hi s, h _ (hp.it_lt s i hi)]
theorem Agr.to {n : Nat} {t t' : Nat → Nat} (h : Agr n t t') (hp : Perm t n) {i m : Nat} (hi : i < n) (ht : To t i m) : To t' i m := by
  obtain ⟨s, rfl⟩ := ht
  exact ⟨s, (h.it hp hi s).symm⟩
theorem IsP.one {n : Nat} {t t' : Nat → Nat} (h : Agr n t t') (hp : Perm t n) {i k k' : Nat} (hi : i < n) (hk : IsP t i k) (hk' : IsP t' i k') : k = k' := by
  have h1 := hk.least k' (h.symm.to (h.perm hp) hi hk'.to) hk'.gt
  have h2 := hk'.least k (h.to hp hi hk.to) hk.gt
  omega
theorem Agr.swp {n : Nat} {t t' : Nat → Nat} (h : Agr n t t') {i k : Nat} (hi : i < n) (hk : k < n) : Agr n (Cir.swp t i k) (Cir.swp t' i k) := by
  intro j hj
  unfold Cir.swp
  rw [h k hk, h i hi, h j hj]
theorem IsP.lt {n : Nat} {t : Nat → Nat} (hp : Perm t n) {i k : Nat} (hi : i < n) (hk : IsP t i k) : k < n := by
  obtain ⟨s, rfl⟩ := hk.to
  exact hp.it_lt s i hi
theorem Swps.perm {n : Nat} {tt t : Nat → Nat} {ps : List (Nat × Nat)} (h : Swps n tt ps t) (hp : Perm tt n) : Perm t n := by
  induction h with
  | nil => exact hp
  | snoc _ hi _ _ hk ih => exact swp_perm ih hi (IsP.lt ih hi hk)
theorem Swps.one {n : Nat} {tt tt' t : Nat → Nat} {ps : List (Nat × Nat)} (h : Swps n tt ps t) (hp : Perm tt n) (ha : Agr n tt tt') : ∀ {ps' : List (Nat × Nat)} {t' : Nat → Nat}, Swps n tt' ps' t' → ps.length = ps'.length → ps = ps' ∧ Agr n t t' := by
  induction h with
  | nil =>
    intro ps' t' h' hl
    cases h' with
    | nil => exact ⟨rfl, ha⟩
    | snoc => simp at hl
  | snoc h hi hf hne hk ih =>
    intro ps' t' h' hl
    cases h' with
    | nil => simp at hl
    | snoc h2 hi2 hf2 hne2 hk2 =>
      rename_i ps t i k ps2 t2 i2 k2
      obtain ⟨rfl, ht⟩ := ih h2 (by simpa using hl)
      have hpt := h.perm hp
      have e : i = i2 := by
        rcases Nat.lt_trichotomy i i2 with e | e | e
        · exact absurd ((ht i hi).trans (hf2 i e)) hne
        · exact e
        · exact absurd ((ht i2 hi2).symm.trans (hf i2 e)) hne2
      subst e
      have e2 := IsP.one ht hpt hi hk hk2
      subst e2
      exact ⟨rfl, ht.swp hi (IsP.lt hpt hi hk)⟩
theorem Swps.take {n : Nat} {tt t : Nat → Nat} {ps : List (Nat × Nat)} (h : Swps n tt ps t) : ∀ l, l < ps.length → ∃ t', Swps n tt (ps.take l) t' ∧ ∃ i, i < n ∧ t' i ≠ i := by
  induction h with
  | nil => intro l hl; simp at hl
  | snoc h hi hf hne hk ih =>
    rename_i ps t i k
    intro l hl
    by_cases e : l = ps.length
    · subst e
      refine ⟨t, ?_, i, hi, hne⟩
      rw [List.take_left' rfl]
      exact h
    · have h2 : l < ps.length := by simp at hl; omega
      rw [List.take_append_of_le_length (by omega)]
      exact ih l h2
/-- at an end: so many, or nothing is left -/
def SwEnd (n most : Nat) (ps : List (Nat × Nat)) (t : Nat → Nat) : Prop := ps.length ≤ most ∧ ((∀ j, j < n → t j = j) ∨ ps.length = most)
theorem Swps.short {n most : Nat} {tt tt' t t' : Nat → Nat} {ps ps' : List (Nat × Nat)} (hp : Perm tt n) (ha : Agr n tt tt') (h : Swps n tt ps t) (he : SwEnd n most ps t) (h' : Swps n tt' ps' t') (he' : SwEnd n most ps' t') : ¬ ps.length < ps'.length := by
  intro hl
  obtain ⟨t2, h2, i, hi, hne⟩ := h'.take ps.length hl
  have h3 := (h.one hp ha h2 (by rw [List.length_take]; omega)).2
  rcases he.2 with e | e
  · exact hne ((h3 i hi).symm.trans (e i hi))
  · have := he'.1
    omega
/-- there is one list -/
theorem Swps.same {n most : Nat} {tt tt' t t' : Nat → Nat} {ps ps' : List (Nat × Nat)} (hp : Perm tt n) (ha : Agr n tt tt') (h : Swps n tt ps t) (he : SwEnd n most ps t) (h' : Swps n tt' ps' t') (he' : SwEnd n most ps' t') : ps = ps' := by
  have h1 := Swps.short hp ha h he h' he'
  have h2 := Swps.short (ha.perm hp) ha.symm h' he' h he
  exact (h.one hp ha h' (by omega)).1
/-- the swaps are at an end -/
structure Swd (n most : Nat) (tt : Nat → Nat) (ps : List (Nat × Nat)) : Prop where
  lt : ∀ x, x ∈ ps → x.1 < n ∧ x.2 < n
  ex : ∃ t i, SwI n tt t (foldS ps) i ps.length ∧ Swps n tt ps t ∧ SwEnd n most ps t
theorem Swd.even {n most : Nat} {tt bs bp : Nat → Nat} {wS wP : Nat → Int} {pn : Nat → ByteArray} {ps : List (Nat × Nat)} (h : Swd n most tt ps) (hm : n ≤ most) (ho : Ords n wS wP pn tt bs bp) :
    ps.length < n ∧ ∀ a b, a < n → b < n → wS b < wS a → ¬ wP (foldS ps b) < wP (foldS ps a) := by
  obtain ⟨t, i, h1, _, h2⟩ := h.ex
  have hf := h1.few
  have hi := h2.2.resolve_right (by omega)
  exact ⟨by omega, even_end ho.pp ho.tt (fun i j hij hj => bef2_not (ho.os i j hij hj)) (fun i j hij hj => befB_not (ho.op i j hij hj)) h1.cs hi⟩
/-- a row that is in a strict order is the only one -/
theorem sort_one {n : Nat} {R : Nat → Nat → Prop} {b b' : Nat → Nat} (hb : Perm b n) (hb' : Perm b' n) (htot : ∀ x y, x < n → y < n → x ≠ y → R x y ∨ R y x) (h : ∀ i j, i < j → j < n → ¬ R (b j) (b i)) (h' : ∀ i j, i < j → j < n → ¬ R (b' j) (b' i)) :
    ∀ m, m < n → b m = b' m := by
  intro m
  induction m using Nat.strongRecOn with
  | ind m ih =>
    intro hm
    obtain ⟨p, hp, ep⟩ := hb'.onto (hb.lt m hm)
    obtain ⟨p2, hp2, ep2⟩ := hb.onto (hb'.lt m hm)
    have hle : ∀ q, q < m → b q = b' q := fun q hq => ih q hq (by omega)
    have h1 : m ≤ p := by
      rcases Nat.lt_or_ge p m with e | e
      · have := hb.inj p m hp hm ((hle p e).trans ep)
        omega
      · exact e
    have h2 : m ≤ p2 := by
      rcases Nat.lt_or_ge p2 m with e | e
      · have := hb'.inj p2 m hp2 hm ((hle p2 e).symm.trans ep2)
        omega
      · exact e
    rcases Nat.lt_or_eq_of_le h1 with e | e
    · rcases Nat.lt_or_eq_of_le h2 with e2 | e2
      · have n1 := h' m p e hp
        have n2 := h m p2 e2 hp2
        rw [ep] at n1
        rw [ep2] at n2
        by_cases hxy : b m = b' m
        · exact hxy
        · rcases htot _ _ (hb.lt m hm) (hb'.lt m hm) hxy with k | k
          · exact absurd k n1
          · exact absurd k n2
      · rw [← e2] at ep2
        exact ep2
    · rw [← e] at ep
      exact ep.symm
theorem Ords.one {n : Nat} {wS wP : Nat → Int} {pn : Nat → ByteArray} {tt bs bp tt' bs' bp' : Nat → Nat} (h : Ords n wS wP pn tt bs bp) (h' : Ords n wS wP pn tt' bs' bp') (hd : ∀ x y, x < n → y < n → x ≠ y → pn x ≠ pn y) : Agr n tt tt' := by
  have e1 := sort_one (R := fun x y => bef2 (wS y) (wS x) (x : Nat) (y : Nat) = true) h.ps h'.ps (fun x y _ _ hxy => by
    simp only [bef2, decide_eq_true_eq]
    omega) (fun i j hij hj => by rw [h.os i j hij hj]; simp) (fun i j hij hj => by rw [h'.os i j hij hj]; simp)
  have e2 := sort_one (R := fun x y => befB (wP x) (wP y) (pn x) (pn y) = true) h.pp h'.pp (fun x y hx hy hxy => by
    rcases befB_tot (wP x) (wP y) (pn x) (pn y) with k | k | k
    · exact Or.inl k
    · exact Or.inr k
    · exact absurd k.2 (hd x y hx hy hxy)) (fun i j hij hj => by rw [h.op i j hij hj]; simp) (fun i j hij hj => by rw [h'.op i j hij hj]; simp)
  intro j hj
  obtain ⟨m, hm, rfl⟩ := h.pp.onto hj
  rw [h.tt m hm, e2 m hm, h'.tt m hm, e1 m hm]
end Go.Proofs.YtbkpoepacjinlaaGreat

/- Gear: rows of pairs of names. -/
namespace Go.Proofs.YtbkpoepacjinlaaGreat
open Go.RowKit Go.BigFrame

/-- the cells of a row of pairs -/
def pairCs (sl : Nat → ByteArray) (ps : List (Nat × Nat)) : List Value := ps.flatMap fun x => [.string (sl x.1), .string (sl x.2)]
theorem pairCs_snoc (sl : Nat → ByteArray) (ps : List (Nat × Nat)) (x : Nat × Nat) : pairCs sl (ps ++ [x]) = pairCs sl ps ++ [.string (sl x.1), .string (sl x.2)] := by simp [pairCs]
theorem pair_under : Tryz.prog.underlying 29 = some (.slice 34) := by kernel_rfl
theorem pair_info : (Tryz.prog.info? 34).map (fun i => (i.zero, i.size, i.bytes)) = some (some (.agg #[.string ⟨#[]⟩, .string ⟨#[]⟩]), 2, 32) := by kernel_rfl
end Go.Proofs.YtbkpoepacjinlaaGreat

/- Gear: Swaps of the program. -/
namespace Go.Proofs.YtbkpoepacjinlaaGreat
open Go.RowKit Go.BigFrame
open Gar (chk)
open Cir (Perm SwI)

def swapErr (g : Gar) (n : Nat) (sl : Nat → ByteArray) (most : Int) : Int := if chk g ≠ 0 then chk g else swErr g n sl most
set_option maxHeartbeats 4000000 in
set_option maxRecDepth 100000 in
theorem swaps_err (g : Gar) (a0 a1 a2 a3 : Option Addr) (c0 c1 c2 c3 : Nat) (n : Nat) (sl : Nat → ByteArray) (a : Option Addr) (cap : Nat) (most : Int) (w : World) (h : GarIn w g a0 a1 a2 a3) (hr : RowK w a n 1 (fun j => [.string (sl j)])) (hcap : n ≤ cap) (hn : (n : Int) ≤ 9223372036854775807) (hz : swapErr g n sl most ≠ 0) :
    Calls Tryz.prog 4 #[garV g a0 a1 a2 a3 c0 c1 c2 c3, .slice a n cap, .int .i64 most] w fun e w' => e = .returned (.tuple #[.slice none 0 0, .int .i64 (swapErr g n sl most)]) ∧ Below w.heap.size w w' := by
  have HG := Lib.hid h
  have HR := Lib.hid hr
  have HZ := Lib.hid hz
  obtain ⟨V, hV, hb, hs, hq⟩ := alloc_block w #[.slice a0 g.np c0, .slice a1 g.ns c1, .slice a2 g.nm c2, .slice a3 g.nu c3] 27
  have HV := Lib.hid hV
  have HB := Lib.hid hb
  have hsV : w.heap.size ≤ V.heap.size := hb.size
  have G0 := Ext.ex (block_cell (i := 0) hq rfl)
  have G1 := Ext.ex (block_cell (i := 1) hq rfl)
  have G2 := Ext.ex (block_cell (i := 2) hq rfl)
  have G3 := Ext.ex (block_cell (i := 3) hq rfl)
  have DC := Lib.hid (fun (Y : Ext V) => Y.calls (gCheck_any g a0 a1 a2 a3 c0 c1 c2 c3 Y.1 (HG.out.below (Y.down HB.out hsV))))
  have DS := Lib.hid (fun (Y : Ext V) => Y.calls (checkSwaps_any g a0 a1 a2 a3 c0 c1 c2 c3 n sl a cap most Y.1 (HG.out.below (Y.down HB.out hsV)) (HR.out.below (Y.down HB.out hsV) (Nat.le_refl _)) hcap hn))
  obtain ⟨E, hE⟩ : ∃ E, swapErr g n sl most = E := ⟨_, rfl⟩
  rw [hE] at hz ⊢
  unfold swapErr at hE
  have HE := Lib.hid hE
  unfold garV at DC DS ⊢
  clear h hr hV hb hq hE HZ
  by_cases k0 : chk g = 0
  · have x0 : (chk g != 0) = false := by simpa using k0
    have HX := Lib.hid (show swErr g n sl most = E by rw [← HE.out, if_neg (by simpa using k0)])
    generalize swErr g n sl most = e2 at DS HX
    have hx2 : e2 ≠ 0 := by rw [HX.out]; exact hz
    have x2 : (e2 != 0) = true := by simpa using hx2
    rw [k0] at DC
    clear x0
    go_enter Tryz.func4, Tryz.ntmps4
    go_upto_region 1 with (fail)
    rw [HV.out]
    refine ext_wp fun Y => ?_
    go_wp2_with (first | (go_at_call 8; refine ((DC.out _).mono ?_); rintro e w3 ⟨rfl, Y3, rfl⟩) | (go_at_call 9; refine ((DS.out _).mono ?_); rintro e w4 ⟨rfl, Y4, rfl⟩))
    go_ret2
    exact ⟨by rw [← HX.out]; rfl, Y4.down HB.out hsV⟩
  · have x0 : (chk g != 0) = true := by simpa using k0
    have HX := Lib.hid (show chk g = E by rw [← HE.out, if_pos k0])
    go_enter Tryz.func4, Tryz.ntmps4
    go_upto_region 1 with (fail)
    rw [HV.out]
    refine ext_wp fun Y => ?_
    go_wp2_with (go_at_call 8; refine ((DC.out _).mono ?_); rintro e w3 ⟨rfl, Y3, rfl⟩)
    go_ret2
    exact ⟨by rw [← HX.out]; rfl, Y3.down HB.out hsV⟩
end Go.Proofs.YtbkpoepacjinlaaGreat

/- Gear: Swaps of the program, where it has no error. -/
namespace Go.Proofs.YtbkpoepacjinlaaGreat
open Go.RowKit Go.BigFrame
open Gar (chk)
open Cir (Perm SwI)

/-- what Swaps hands back -/
def SwpR (g : Gar) (n : Nat) (sl : Nat → ByteArray) (most : Nat) (w : World) (v : Value) (w' : World) : Prop :=
  Below w.heap.size w w' ∧ ∃ ps : List (Nat × Nat), (∃ base, w.heap.size ≤ base ∧ w'.ownsRow base 34 2 v ps.length (pairCs sl ps)) ∧ (n = 0 → ps = []) ∧
    (0 < n → ∃ tt bs bp : Nat → Nat, Swd n most tt ps ∧ Ords n (fun j => sumK Ev.s (evG g g.nu) (sl j)) (fun j => sumK Ev.p (evG g g.nu) (partF g sl j)) (partF g sl) tt bs bp)
theorem NumRow.row {w : World} {q n : Nat} {p : Nat → Nat} (h : NumRow w q n p) : RowK w (some ⟨q, 0, none⟩) n 1 (fun j => [.int .i64 (p j : Nat)]) :=
  ⟨fun _ => ⟨q, 0, rfl, h.lt, fun i hi j hj => by
    obtain rfl : j = 0 := by omega
    rw [Nat.mul_one, Nat.zero_add, Nat.add_zero]
    exact h.cell hi⟩⟩
theorem NumRow.same {w w' : World} {q n : Nat} {p : Nat → Nat} (h : NumRow w q n p) (e : w'.heap[q]? = w.heap[q]?) : NumRow w' q n p := by
  obtain ⟨cs, h1, h2, h3⟩ := h.ex
  exact ⟨cs, e.trans h1, h2, h3⟩
theorem Kept.far {O O' : Nat → Prop} {a b c : World} (h : Kept O a b) (h' : Kept O' b c) (hO : ∀ k, k < a.heap.size → ¬ O' k) : Kept O a c :=
  ⟨h'.os.trans h.os, h'.tape.trans h.tape, h'.output.trans h.output, Nat.le_trans h.size h'.size, fun k hk hno => (h'.block k (Nat.lt_of_lt_of_le hk h.size) (hO k hk)).trans (h.block k hk hno)⟩
/-- the loop of Swaps -/
structure SwL (w5 wr : World) (q n most : Nat) (sl : Nat → ByteArray) (tt : Nat → Nat) (v : Value) (l : Nat) (t : Nat → Nat) (ps : List (Nat × Nat)) (i : Nat) : Prop where
  kept : Kept (fun b => b = q) w5 wr
  num : NumRow wr q n t
  len : ps.length = l
  own : wr.ownsRow w5.heap.size 34 2 v l (pairCs sl ps)
  swi : 0 < n → SwI n tt t (foldS ps) i l
  sws : Swps n tt ps t
  lts : ∀ x, x ∈ ps → x.1 < n ∧ x.2 < n
section
variable {w5 wr : World} {q n most l i : Nat} {sl : Nat → ByteArray} {tt t : Nat → Nat} {v : Value} {ps : List (Nat × Nat)}
theorem SwL.start (h : NumRow w5 q n tt) (hp : Perm tt n) : SwL w5 w5 q n most sl tt (.slice none 0 0) 0 tt [] 0 :=
  ⟨Kept.refl _ _, h, rfl, World.ownsRow_nil _ _ _ _, fun h0 => SwI.start hp h0, .nil, fun x hx => by simp at hx⟩
theorem SwL.pass (h : SwL w5 wr q n most sl tt v l t ps i) (hi : i < n) (e : t i = i) : SwL w5 wr q n most sl tt v l t ps (i + 1) :=
  ⟨h.kept, h.num, h.len, h.own, fun h0 => (h.swi h0).pass hi e, h.sws, h.lts⟩
theorem SwL.done (h : SwL w5 wr q n most sl tt v l t ps i) (hl : l ≤ most) (he : i = n ∨ l = most) {g : Gar} {w : World} {bs bp : Nat → Nat} (hb : Below w.heap.size w w5) (hq : w.heap.size ≤ q)
    (ho : Ords n (fun j => sumK Ev.s (evG g g.nu) (sl j)) (fun j => sumK Ev.p (evG g g.nu) (partF g sl j)) (partF g sl) tt bs bp) : SwpR g n sl most w v wr := by
  refine ⟨Kept.below hb h.kept hb.size (fun k hk e => by omega), ps, ⟨w5.heap.size, hb.size, by rw [h.len]; exact h.own⟩, fun h0 => ?_, fun h0 => ⟨tt, bs, bp, ⟨h.lts, t, i, by rw [h.len]; exact h.swi h0, h.sws, by rw [h.len]; exact hl, ?_⟩, ho⟩⟩
  · cases ps with
    | nil => rfl
    | cons x ps => have := (h.lts x (by simp)).1; omega
  · rw [h.len]
    rcases he with e | e
    · exact Or.inl (fun j hj => (h.swi h0).fix j (by omega))
    · exact Or.inr e
theorem SwL.swap {k : Nat} {v' : Value} {W6 W7 : World} (h : SwL w5 wr q n most sl tt v l t ps i) (hi : i < n) (hne : t i ≠ i) (hk : Cir.IsP t i k) (hq : q < w5.heap.size) (ho : W6.ownsRow w5.heap.size 34 2 v' (l + 1) (pairCs sl ps ++ [.string (sl i), .string (sl k)]))
    (hn : NumRow W7 q n (Cir.swp t i k)) (hk6 : Kept (fun b => b = q) w5 W6) (hk7 : Kept (fun b => b = q) W6 W7) : SwL w5 W7 q n most sl tt v' (l + 1) (Cir.swp t i k) (ps ++ [(i, k)]) i := by
  have hsi := h.swi (by omega)
  have hkn : k < n := IsP.lt hsi.perm hi hk
  refine ⟨hk6.trans hk7, hn, by simp [h.len], ?_, fun h0 => ?_, .snoc h.sws hi hsi.fix hne hk, fun x hx => ?_⟩
  · rw [pairCs_snoc]
    refine ho.kept (row := some q) ⟨hk7.os, hk7.tape, hk7.output, hk7.size, fun b hb hne => hk7.block b hb (fun e => hne (by rw [e]))⟩ (Or.inr (fun e => ?_))
    have := (ho.lt q e).1
    omega
  · rw [foldS_snoc]
    exact (h.swi h0).swap hi hk
  · rcases List.mem_append.1 hx with hx | hx
    · exact h.lts x hx
    · simp only [List.mem_singleton] at hx
      subst hx
      exact ⟨hi, hkn⟩
end
theorem swErr_zero {g : Gar} {n : Nat} {sl : Nat → ByteArray} {most : Int} (h : swapErr g n sl most = 0) : chk g = 0 ∧ swErr g n sl most = 0 ∧ n ≤ 20 ∧ inB most 0 100 = true ∧ swL g sl n 0 = 0 := by
  unfold swapErr at h
  split at h
  · rename_i h0
    exact absurd h h0
  · rename_i h0
    have h1 := h
    unfold swErr at h
    split at h
    · cases h
    · split at h
      · rename_i h3
        exact absurd h h3
      · rename_i h2 h3
        split at h
        · cases h
        · rename_i h4
          exact ⟨by simpa using h0, h1, by omega, by simpa using h4, by simpa using h3⟩
set_option maxHeartbeats 4000000 in
set_option maxRecDepth 100000 in
theorem swaps_any (g : Gar) (a0 a1 a2 a3 : Option Addr) (c0 c1 c2 c3 : Nat) (n : Nat) (sl : Nat → ByteArray) (a : Option Addr) (cap : Nat) (most : Nat) (w : World) (h : GarIn w g a0 a1 a2 a3) (hr : RowK w a n 1 (fun j => [.string (sl j)])) (hcap : n ≤ cap) (hn : (n : Int) ≤ 9223372036854775807) (hsz : ∀ j, j < n → (sl j).size ≤ maxLen) (hz : swapErr g n sl most = 0) :
    Calls Tryz.prog 4 #[garV g a0 a1 a2 a3 c0 c1 c2 c3, .slice a n cap, .int .i64 most] w fun e w' => ∃ v, e = .returned (.tuple #[v, .int .i64 0]) ∧ SwpR g n sl most w v w' := by
  obtain ⟨hchk, hse, hn20, hmo, -⟩ := swErr_zero hz
  have HG := Lib.hid h
  have HR := Lib.hid hr
  obtain ⟨V, hV, hb, hs, hq⟩ := alloc_block w #[.slice a0 g.np c0, .slice a1 g.ns c1, .slice a2 g.nm c2, .slice a3 g.nu c3] 27
  have HV := Lib.hid hV
  have HB := Lib.hid hb
  have hsV : w.heap.size ≤ V.heap.size := hb.size
  have G0 := Ext.ex (block_cell (i := 0) hq rfl)
  have G1 := Ext.ex (block_cell (i := 1) hq rfl)
  have G2 := Ext.ex (block_cell (i := 2) hq rfl)
  have G3 := Ext.ex (block_cell (i := 3) hq rfl)
  have DC := Lib.hid (fun (Y : Ext V) => Y.calls (gCheck_any g a0 a1 a2 a3 c0 c1 c2 c3 Y.1 (HG.out.below (Y.down HB.out hsV))))
  have DS := Lib.hid (fun (Y : Ext V) => Y.calls (checkSwaps_any g a0 a1 a2 a3 c0 c1 c2 c3 n sl a cap most Y.1 (HG.out.below (Y.down HB.out hsV)) (HR.out.below (Y.down HB.out hsV) (Nat.le_refl _)) hcap hn))
  have DW := Lib.hid (fun (Y : Ext V) => wanted_any g a0 a1 a2 a3 c0 c1 c2 c3 n sl a cap Y.1 (HG.out.below (Y.down HB.out hsV)) hchk (HR.out.below (Y.down HB.out hsV) (Nat.le_refl _)) hn20 hsz)
  rw [hchk] at DC
  rw [hse] at DS
  unfold garV at DC DS DW ⊢
  clear h hr hV hb hq hz hse hchk
  go_enter Tryz.func4, Tryz.ntmps4
  go_upto_region 1 with (fail)
  rw [HV.out]
  refine ext_wp fun Y => ?_
  go_upto_region 10 with (first | (go_at_call 8; refine ((DC.out _).mono ?_); rintro e w3 ⟨rfl, Y3, rfl⟩) | (go_at_call 9; refine ((DS.out _).mono ?_); rintro e w4 ⟨rfl, Y4, rfl⟩) | (go_at_call 10; refine ((DW.out _).mono ?_); rintro e w5 ⟨q, rfl, hwt⟩))
  obtain ⟨hq, hb5, tt, bs, bp, hnr, hord⟩ := hwt
  have HBW := Lib.hid ((Y4.down HB.out hsV).trans (hb5.mono (Y4.down HB.out hsV).size))
  have HORD := Lib.hid hord
  have HPT := Lib.hid (Cir.wanted_perm hord.pp hord.ps hord.tt)
  have hql := hnr.lt
  have hqw : w.heap.size ≤ q := Nat.le_trans (Y4.down HB.out hsV).size hq
  have HST := Lib.hid (SwL.start (most := most) (sl := sl) hnr HPT.out)
  obtain ⟨hm0, hm1⟩ : 0 ≤ (most : Int) ∧ most ≤ 100 := by
    simp only [inB, Bool.and_eq_true, decide_eq_true_eq] at hmo
    omega
  have hpi := pair_info
  obtain ⟨i0, hi0, hz0, hz1, hz2⟩ := info_parts hpi
  have HI0 := Lib.hid hi0
  have HZ0 := Lib.hid hz0
  have HZ1 := Lib.hid hz1
  have HZ2 := Lib.hid hz2
  have hnl : (n : Int) ≤ 20 := by omega
  clear hq hb5 hnr hord hmo hpi hi0 hz0 hz1 hz2 Y4 Y3 Y DC DS DW G0 G1 G2 G3 HB HV
  go_loopg [11, 12] (n + n) (fun g v iv wr => ∃ (av : Option Addr) (cv l i : Nat) (t : Nat → Nat) (ps : List (Nat × Nat)), v = .slice av l cv ∧ iv = .int .i64 i ∧ i ≤ n ∧ l ≤ n ∧ l ≤ most ∧ g + i + l = n + n ∧ Hid (SwL w5 wr q n most sl tt (.slice av l cv) l t ps i))
  case atStart => exact ⟨none, 0, 0, 0, tt, [], rfl, rfl, by omega, by omega, by omega, by omega, HST⟩
  case round =>
    obtain ⟨av, cv, l, i, t, ps, rfl, rfl, hi, hln, hlm, hg, HL⟩ := hrel
    by_cases hlt : i < n
    case neg =>
      have t1 : decide ((i : Int) < (n : Int)) = false := by rw [decide_eq_false_iff_not]; omega
      have t1' : decide (i < n) = false := by simpa using hlt
      have HEND : Hid (SwpR g n sl most w (.slice av l cv) wr) := Lib.hid (HL.out.done hlm (Or.inl (by omega)) HBW.out hqw HORD.out)
      clear hlt
      go_wp2_with fail
      go_ret2
      exact ⟨_, rfl, HEND.out⟩
    case pos =>
      have t1 : decide ((i : Int) < (n : Int)) = true := by rw [decide_eq_true_eq]; omega
      have t1' : decide (i < n) = true := by simpa using hlt
      by_cases hll : l < most
      case neg =>
        have t2 : decide ((l : Int) < (most : Int)) = false := by rw [decide_eq_false_iff_not]; omega
        have t2' : decide (l < most) = false := by simpa using hll
        have HEND : Hid (SwpR g n sl most w (.slice av l cv) wr) := Lib.hid (HL.out.done hlm (Or.inr (by omega)) HBW.out hqw HORD.out)
        clear hlt hll
        go_wp2_with fail
        go_ret2
        exact ⟨_, rfl, HEND.out⟩
      case pos =>
        have t2 : decide ((l : Int) < (most : Int)) = true := by rw [decide_eq_true_eq]; omega
        have t2' : decide (l < most) = true := by simpa using hll
        have hii : (i : Int) < (n : Int) := by omega
        have HSI := Lib.hid (HL.out.swi (by omega))
        have hlf : l + 1 ≤ n := HSI.out.few
        have c0 := HL.out.num.cell hlt
        obtain ⟨ti, hti⟩ : ∃ ti, t i = ti := ⟨_, rfl⟩
        rw [hti] at c0
        by_cases he : ti = i
        · have t3 : ((ti : Int) == (i : Int)) = true := by rw [he]; simp
          have t3' : (ti == i) = true := by rw [he]; simp
          have HN := Lib.hid (HL.out.pass hlt (hti.trans he))
          clear he hti hlt hll
          go_wp2_with fail
          go_roundg (n + n - (i + 1) - l)
          case rel => exact ⟨av, cv, l, i + 1, t, ps, rfl, int_eq (by omega), by omega, by omega, by omega, by omega, HN⟩
          case measure => omega
        · have t3 : ((ti : Int) == (i : Int)) = false := by rw [beq_eq_false_iff_ne]; omega
          have t3' : (ti == i) = false := by rw [beq_eq_false_iff_ne]; exact he
          have HNE := Lib.hid (show t i ≠ i by rw [hti]; exact he)
          have DP := Lib.hid (partner_any n t (some ⟨q, 0, none⟩) n i wr HL.out.num.row HSI.out.perm hlt (Cir.some_behind HSI.out.perm hlt HNE.out HSI.out.fix) hn20)
          clear he hti
          go_upto_region 14 with (go_at_call 11; refine DP.out.mono ?_; rintro e w2 ⟨⟨k, rfl, hk⟩, rfl⟩)
          have HK := Lib.hid hk
          have hkn : k < n := IsP.lt HSI.out.perm hlt hk
          have hki : (k : Int) < (n : Int) := by omega
          clear hk DP c0
          have HWR := Lib.hid (Kept.below HBW.out HL.out.kept HBW.out.size (fun b hb e => by omega))
          obtain ⟨b, off, rfl, hbl, hcr⟩ := HR.out.here (by omega)
          have hcell : ∀ j, j < n → wr.cell? ⟨b, off + j, none⟩ = some (.string (sl j)) := fun j hj => by
            have := hcr j hj 0 (by omega)
            rw [Nat.mul_one, Nat.add_zero] at this
            exact (HWR.out.cell (p := ⟨b, off + j, none⟩) hbl).trans this
          have hnb : ¬ (Value.slice av l cv).ownBlock = some b := fun e => by
            have := (HL.out.own.lt b e).1
            have := HBW.out.size
            omega
          have hnq : ¬ (Value.slice av l cv).ownBlock = some q := fun e => by
            have := (HL.out.own.lt q e).1
            omega
          have S1 : ∀ X : ExtO (fun b => (Value.slice av l cv).ownBlock = some b) wr, X.1.cell? ⟨b, off + i, none⟩ = some (.string (sl i)) := ExtO.ex hnb (hcell i hlt)
          have S2 : ∀ X : ExtO (fun b => (Value.slice av l cv).ownBlock = some b) wr, X.1.cell? ⟨b, off + k, none⟩ = some (.string (sl k)) := ExtO.ex hnb (hcell k hkn)
          have hwr5 : w5.heap.size ≤ wr.heap.size := HL.out.kept.size
          clear hcr hcell hnb t1 t1' t2 t2' t3 t3'
          refine held_start (C := fun w' => ∃ Z : ExtO (fun b => (Value.slice av l cv).ownBlock = some b) wr, w' = Z.1) (by kernel_rfl) ?_
          obtain ⟨Y0, hY0, hy0⟩ : ∃ Z : ExtO (fun b => (Value.slice av l cv).ownBlock = some b) wr, ({ wr with drawn := wr.drawn + 1 } : World) = Z.1 ∧ Below wr.heap.size wr Z.1 := ⟨⟨{ wr with drawn := wr.drawn + 1 }, ⟨rfl, rfl, rfl, Nat.le_refl _, fun _ _ _ => rfl⟩⟩, rfl, ⟨rfl, rfl, rfl, Nat.le_refl _, fun _ _ => rfl⟩⟩
          rw [hY0]
          have HVY := Lib.hid hy0
          clear hY0 hy0
          refine held_quiet (by kernel_rfl) (fun _ _ d _ _ h => by cases d <;> exact h) ⟨Y0, rfl⟩ [0, 1, 2, 3, 4, 5, 6, 7, 8, 9] 3 _ _ (by kernel_rfl) ?_
          change wpQuiet _ _ _ _ (_ :: _ :: _ :: _ :: _ :: _ :: _ :: _ :: _ :: _ :: []) _
          repeat go_big_quiet_step (fail)
          refine wpQuiet_nil ?_
          refine held_do (i := 10) _ rfl (by kernel_rfl) rfl (fun K hK => ?_)
          go_simp
          obtain ⟨Wb, hWb, hwb1, hwb2, hwq⟩ := alloc_block Y0.1 #[.string (sl i), .string (sl k)] 34
          rw [hWb]
          have hvz := below_step HVY.out hwb1
          obtain ⟨Zb, rfl⟩ : ∃ Z : ExtO (fun b => (Value.slice av l cv).ownBlock = some b) wr, Wb = Z.1 := ⟨⟨Wb, Kept.of_below hvz⟩, rfl⟩
          have HVZ := Lib.hid hvz
          have HWQ := Lib.hid hwq
          refine hK _ _ ⟨Zb, rfl⟩ ?_
          clear hWb hwb1 hwb2 hwq hvz hK K
          refine held_do (i := 11) _ rfl (by kernel_rfl) rfl (fun K hK => ?_)
          have HOW := Lib.hid (ownsRow_below HL.out.own HVZ.out)
          refine wp_append_lies Zb.1 (.tmp 50) (.tmp 60) 29 rfl w5.heap.size 34 i0 (.agg #[.string ⟨#[]⟩, .string ⟨#[]⟩]) 2 32 pair_under HI0.out HZ0.out HZ1.out HZ2.out rfl (by decide) (.slice av l cv) l (pairCs sl ps) rfl HOW.out ⟨Y0.1.heap.size, 0, none⟩ 1 1 [.string (sl i), .string (sl k)] rfl rfl (fun j u hu => by rw [addr_add0]; exact block_cell HWQ.out (by simpa using hu)) (fun u hu => by simp only [List.mem_cons, List.not_mem_nil, or_false] at hu; rcases hu with rfl | rfl <;> rfl) (by omega) (by unfold maxLen; omega) (by omega) (Nat.le_trans hwr5 HVZ.out.size) _ rfl (fun g6 cap6 w6 hown6 hg6 hat6 hlt6 => ?_)
          obtain ⟨Z6, hZ6⟩ : ∃ Z : ExtO (fun b => (Value.slice av l cv).ownBlock = some b) wr, w6 = Z.1 := ⟨⟨w6, Zb.2.grown hg6 (fun q hq _ => hq)⟩, rfl⟩
          rw [hZ6] at hown6 ⊢
          have HO6 := Lib.hid hown6
          refine hK _ _ ⟨Z6, rfl⟩ ?_
          clear hg6 hat6 hlt6 hown6 hZ6 hK K w6
          simp only [Act.put, List.setIfInBounds_toArray, List.set_cons_zero, List.set_cons_succ]
          refine held_quiet (by kernel_rfl) (fun _ _ d _ _ h => by cases d <;> exact h) ⟨Z6, rfl⟩ [12] 0 _ _ (by kernel_rfl) ?_
          change wpQuiet _ _ _ _ (_ :: []) _
          go_big_quiet_step (fail)
          refine wpQuiet_nil ?_
          refine wpAnyH_done (by kernel_rfl) ?_ _
          have HK6 := Lib.hid (HL.out.kept.far Z6.2 (fun j hj e => by have := (HL.out.own.lt j e).1; omega))
          have hn6 : NumRow Z6.1 q n t := HL.out.num.same (Z6.2.block q HL.out.num.lt hnq)
          have c1 := hn6.cell hlt
          have c2 := hn6.cell hkn
          have f1 := hn6.free i
          have f2 := hn6.free k
          have HN6 := Lib.hid hn6
          have hik : i ≠ k := by have := HK.out.gt; omega
          obtain ⟨W6, hW6⟩ : ∃ W, Z6.1 = W := ⟨_, rfl⟩
          rw [hW6] at c1 c2 f1 f2 HN6 HK6 HO6 ⊢
          obtain ⟨x1, hx1⟩ : ∃ x, t i = x := ⟨_, rfl⟩
          obtain ⟨x2, hx2⟩ : ∃ x, t k = x := ⟨_, rfl⟩
          rw [hx1] at c1
          rw [hx2] at c2
          have HX1 := Lib.hid hx1
          have HX2 := Lib.hid hx2
          clear hn6 hW6 HVZ HWQ HOW S1 S2 hnq hx1 hx2 HWR
          go_wp2_with fail
          go_region
          go_wp2
          have HEND : Hid (SwL w5 ((W6.setCell ⟨q, i, none⟩ (.int .i64 (x2 : Nat))).setCell ⟨q, k, none⟩ (.int .i64 (x1 : Nat))).drew q n most sl tt (.slice (some ⟨g6, 0, none⟩) (l + 1) cap6) (l + 1) (Cir.swp t i k) (ps ++ [(i, k)]) i) := Lib.hid (by
            have hs := HN6.out.swap hlt hkn
            rw [HX1.out, HX2.out] at hs
            exact HL.out.swap hlt HNE.out HK.out hql HO6.out (hs.same rfl) HK6.out (((Kept.put (O := fun b => b = q) (b := q) rfl).trans (Kept.put rfl)).trans ⟨rfl, rfl, rfl, Nat.le_refl _, fun _ _ _ => rfl⟩))
          go_roundg (n + n - i - (l + 1))
          case rel => exact ⟨some ⟨g6, 0, none⟩, cap6, l + 1, i, Cir.swp t i k, ps ++ [(i, k)], rfl, rfl, by omega, by omega, by omega, by omega, HEND⟩
          case measure => omega
end Go.Proofs.YtbkpoepacjinlaaGreat

/- Gear: the reference's circles and its search for a swap, in plain numbers. -/
namespace Go.Proofs.YtbkpoepacjinlaaGreat
open Go.RowKit Go.BigFrame
open Cir (Perm it To IsP)

/-- is k among those that one comes to from i? -/
def toB (t : Nat → Nat) (n i k : Nat) : Bool := (List.range n).any fun s => decide (it t (s + 1) i = k)
theorem toB_true {t : Nat → Nat} {n i k s : Nat} (h0 : 0 < s) (h1 : s ≤ n) (h : it t s i = k) : toB t n i k = true := by
  unfold toB
  rw [List.any_eq_true]
  exact ⟨s - 1, List.mem_range.2 (by omega), by rw [show s - 1 + 1 = s by omega]; simpa using h⟩
theorem toB_false {t : Nat → Nat} {n i k : Nat} (h : ∀ s, 0 < s → s ≤ n → it t s i ≠ k) : toB t n i k = false := by
  unfold toB
  rw [List.any_eq_false]
  intro s hs
  simpa using h (s + 1) (by omega) (by have := List.mem_range.1 hs; omega)
theorem toB_iff {t : Nat → Nat} {n i k : Nat} (hp : Perm t n) (hi : i < n) (hne : i ≠ k) : toB t n i k = true ↔ To t i k := by
  constructor
  · intro h
    unfold toB at h
    rw [List.any_eq_true] at h
    obtain ⟨s, _, hs⟩ := h
    exact ⟨s + 1, by simpa using hs⟩
  · rintro ⟨s, rfl⟩
    obtain ⟨r, h1, h2, h3, _⟩ := hp.first hi
    have hper : ∀ x, it t (x * r) i = i := by
      intro x
      induction x with
      | zero => rw [Nat.zero_mul]; rfl
      | succ x ih => rw [Nat.succ_mul, Nat.add_comm, Cir.it_add, ih, h3]
    have e : it t s i = it t (s % r) i := by
      have e2 : s = s % r + s / r * r := by rw [Nat.mul_comm, Nat.mod_add_div]
      rw [show it t s i = it t (s % r + s / r * r) i by rw [← e2], Cir.it_add, hper]
    have hlt := Nat.mod_lt s h1
    rcases Nat.eq_zero_or_pos (s % r) with e0 | e0
    · rw [e, e0] at hne
      exact absurd rfl hne
    · exact toB_true e0 (by omega) e.symm
/-- the first swap that is to be done, as far as one has looked -/
def Fnd (n : Nat) (t : Nat → Nat) (i : Nat) (a b : Int) : Prop :=
  (a = -1 ∧ ∀ j, j < i → t j = j) ∨ ∃ x y : Nat, a = x ∧ b = y ∧ x < n ∧ y < n ∧ (∀ j, j < x → t j = j) ∧ t x ≠ x ∧ IsP t x y
/-- within the circle of i -/
def Fnd3 (n : Nat) (t : Nat → Nat) (i k : Nat) (a b : Int) : Prop :=
  (a = -1 ∧ (∀ j, j < i → t j = j) ∧ (t i ≠ i → ∀ y, i < y → y < k → ¬ To t i y)) ∨ ∃ x y : Nat, a = x ∧ b = y ∧ x < n ∧ y < n ∧ (∀ j, j < x → t j = j) ∧ t x ≠ x ∧ IsP t x y
section
variable {n : Nat} {t : Nat → Nat} {i k : Nat} {a b : Int}
theorem Fnd.start : Fnd n t 0 (-1) (-1) := Or.inl ⟨rfl, fun j hj => by omega⟩
theorem Fnd.enter (h : Fnd n t i a b) : Fnd3 n t i (i + 1) a b := by
  rcases h with ⟨h1, h2⟩ | h
  · exact Or.inl ⟨h1, h2, fun _ y h3 h4 => by omega⟩
  · exact Or.inr h
theorem Fnd3.fixed (h : Fnd3 n t i k a b) (ha : a < 0) (e : t i = i) : Fnd3 n t i (k + 1) a b := by
  rcases h with ⟨h1, h2, _⟩ | ⟨x, y, h1, _⟩
  · exact Or.inl ⟨h1, h2, fun hne => absurd e hne⟩
  · omega
theorem Fnd3.pass (h : Fnd3 n t i k a b) (ha : a < 0) (hn : ¬ To t i k) : Fnd3 n t i (k + 1) a b := by
  rcases h with ⟨h1, h2, h3⟩ | ⟨x, y, h1, _⟩
  · refine Or.inl ⟨h1, h2, fun hne y hy1 hy2 => ?_⟩
    by_cases e : y = k
    · rw [e]; exact hn
    · exact h3 hne y hy1 (by omega)
  · omega
theorem Fnd3.found (h : Fnd3 n t i k a b) (ha : a < 0) (hi : i < n) (hik : i < k) (hk : k < n) (hne : t i ≠ i) (ht : To t i k) : Fnd3 n t i (k + 1) (i : Nat) (k : Nat) := by
  rcases h with ⟨h1, h2, h3⟩ | ⟨x, y, h1, _⟩
  · refine Or.inr ⟨i, k, rfl, rfl, hi, hk, h2, hne, ht, hik, fun m hm him => ?_⟩
    rcases Nat.lt_or_ge m k with e | e
    · exact absurd hm (h3 hne m him e)
    · exact e
  · omega
theorem Fnd3.leave (h : Fnd3 n t i k a b) (hp : Perm t n) (hi : i < n) (he : k = n ∨ ¬ a < 0) : Fnd n t (i + 1) a b := by
  rcases h with ⟨h1, h2, h3⟩ | h
  · refine Or.inl ⟨h1, fun j hj => ?_⟩
    by_cases e : j = i
    · rw [e]
      apply Classical.byContradiction
      intro hne
      have hk : k = n := he.resolve_right (by omega)
      exact h3 hne (t i) (Cir.some_behind hp hi hne h2) (by rw [hk]; exact hp.lt i hi) (To.step t i)
    · exact h2 j (by omega)
  · exact Or.inr h
end
section
variable {w w' : World} {b n k : Nat} {T : TypeId} {v : Nat → Value}
theorem Part.put (h : Part w b n k T v) {i : Nat} (hi : i < n) (u : Value) : Part (w.setCell ⟨b, i, none⟩ u) b n k T (fun j => if j = i then u else v j) := by
  obtain ⟨cs, h1, h2, h3⟩ := h.ex
  refine ⟨_, cells_setCell h1, by simp [h2], fun j hj => ?_⟩
  by_cases e : j = i
  · subst e
    simp [h2, hi]
  · rw [Array.getElem?_setIfInBounds_ne (fun x => e x.symm), if_neg e]
    exact h3 j hj
theorem Part.congr (h : Part w b n k T v) {v' : Nat → Value} (e : ∀ j, j < k → v j = v' j) : Part w b n k T v' := by
  obtain ⟨cs, h1, h2, h3⟩ := h.ex
  exact ⟨cs, h1, h2, fun j hj => by rw [← e j hj]; exact h3 j hj⟩
end
/-- two strings of a block change places -/
theorem Part.swap {w : World} {q N n : Nat} {T : TypeId} {want : Nat → ByteArray} {t : Nat → Nat} (h : Part w q N n T (fun j => .string (want (t j)))) (hN : n ≤ N) {i k : Nat} (hi : i < n) (hk : k < n) :
    Part ((w.setCell ⟨q, i, none⟩ (.string (want (t k)))).setCell ⟨q, k, none⟩ (.string (want (t i)))) q N n T (fun j => .string (want (Cir.swp t i k j))) := by
  refine ((h.put (i := i) (by omega) _).put (i := k) (by omega) _).congr fun j hj => ?_
  unfold Cir.swp
  by_cases e1 : j = k
  · by_cases e2 : j = i
    · rw [if_pos e1, if_pos e2, ← e1, ← e2]
    · rw [if_pos e1, if_neg e2, if_pos e1]
  · rw [if_neg e1, if_neg e1]
    by_cases e2 : j = i
    · rw [if_pos e2, if_pos e2]
    · rw [if_neg e2, if_neg e2]
end Go.Proofs.YtbkpoepacjinlaaGreat

/- Gear: together of the reference. -/
namespace Go.Proofs.YtbkpoepacjinlaaGreat
open Go.RowKit Go.BigFrame
open Cir (Perm it To IsP)

set_option maxHeartbeats 2000000 in
set_option maxRecDepth 100000 in
theorem together_any (n q N qw Nw c1 c2 i k : Nat) (want : Nat → ByteArray) (t : Nat → Nat) (w : World) (hn : n ≤ 20) (hnow : Part w q N n 9 (fun j => .string (want (t j)))) (hwant : Part w qw Nw n 9 (fun j => .string (want j))) (hp : Perm t n)
    (hw : ∀ x y, x < n → y < n → want x = want y → x = y) (hi : i < n) (hk : k < n) :
    Calls Tryz.prog 42 #[.slice (some ⟨q, 0, none⟩) n c1, .slice (some ⟨qw, 0, none⟩) n c2, .int .i64 i, .int .i64 k] w fun e w' => e = .returned (.bool (toB t n i k)) ∧ w = w' := by
  have HN := Lib.hid (fun (j : Nat) (hj : j < n) => hnow.cell hj)
  have HW := Lib.hid (fun (j : Nat) (hj : j < n) => hwant.cell hj)
  have HP := Lib.hid hp
  have HI := Lib.hid hw
  obtain ⟨b, hb⟩ : ∃ b, toB t n i k = b := ⟨_, rfl⟩
  have HB := Lib.hid hb
  rw [hb]
  have hnl : (n : Int) ≤ 20 := by omega
  clear hnow hwant hp hw hb
  go_enter Tryz.func42, Tryz.ntmps42
  go_wp2_with fail
  go_loopw [9, 15] (fun av rv wr => ∃ (r at' : Nat), av = .int .i64 at' ∧ rv = .int .i64 r ∧ r ≤ n ∧ at' < n ∧ Hid (at' = it t r i ∧ ∀ s, 0 < s → s ≤ r → it t s i ≠ k) ∧ w = wr) (fun _ rv _ => n - (intOf rv).toNat)
  case atStart => exact ⟨0, i, rfl, rfl, by omega, hi, Lib.hid ⟨rfl, fun s h1 h2 => by omega⟩, rfl⟩
  case round =>
    obtain ⟨r, at', rfl, rfl, hr, hat, HA, rfl⟩ := hrel
    by_cases hlt : r < n
    · have t1 : decide ((r : Int) < (n : Int)) = true := by rw [decide_eq_true_eq]; omega
      have t1' : decide (r < n) = true := by simpa using hlt
      have hati : (at' : Int) < (n : Int) := by omega
      have c0 := HN.out at' hat
      have htn := HP.out.lt at' hat
      obtain ⟨nx, hnx⟩ : ∃ x, t at' = x := ⟨_, rfl⟩
      rw [hnx] at c0 htn
      have HNX : Hid (nx = it t (r + 1) i) := Lib.hid (by rw [← hnx, HA.out.1]; rfl)
      clear hnx
      go_wp2_with fail
      go_loopw [9, 19] (fun av jv wr => ∃ (j : Nat), av = .int .i64 at' ∧ jv = .int .i64 j ∧ j ≤ nx ∧ w = wr) (fun _ jv _ => n - (intOf jv).toNat)
      case atStart => exact ⟨0, rfl, rfl, by omega, rfl⟩
      case round =>
        obtain ⟨j, rfl, rfl, hj, rfl⟩ := hrel
        have hjn : j < n := by omega
        have t2 : decide ((j : Int) < (n : Int)) = true := by rw [decide_eq_true_eq]; omega
        have t2' : decide (j < n) = true := by simpa using hjn
        have z0 := HW.out j hjn
        have hse := str_eq (want j) (want nx)
        by_cases he : j = nx
        · rw [show decide (want j = want nx) = true by rw [he]; simp] at hse
          subst he
          by_cases hke : j = k
          · have t3 : ((j : Int) == (k : Int)) = true := by rw [hke]; simp
            have t3' : (j == k) = true := by rw [hke]; simp
            have HF : Hid (b = true) := Lib.hid (by rw [← HB.out]; exact toB_true (s := r + 1) (by omega) (by omega) (HNX.out.symm.trans hke))
            clear hke
            go_wp2_with fail
            go_ret
            exact ⟨by rw [HF.out]; rfl, rfl⟩
          · have t3 : ((j : Int) == (k : Int)) = false := by rw [beq_eq_false_iff_ne]; omega
            have t3' : (j == k) = false := by rw [beq_eq_false_iff_ne]; exact hke
            have HA2 : Hid (j = it t (r + 1) i ∧ ∀ s, 0 < s → s ≤ r + 1 → it t s i ≠ k) := Lib.hid ⟨HNX.out, fun s h1 h2 => by
              rcases Nat.lt_or_eq_of_le h2 with e | e
              · exact HA.out.2 s h1 (by omega)
              · rw [e, ← HNX.out]; exact hke⟩
            clear hke
            go_wp2_with fail
            go_roundw
            case rel => exact ⟨r + 1, j, rfl, by go_num, by omega, by omega, HA2, trivial⟩
            case measure => simp [intOf]; omega
        · rw [show decide (want j = want nx) = false by
            rw [decide_eq_false_iff_not]
            exact fun e => he (HI.out j nx hjn htn e)] at hse
          have hj2 : j + 1 ≤ nx := by omega
          clear he
          go_wp2_with fail
          go_roundw
          case rel => exact ⟨j + 1, rfl, by go_num, by omega, trivial⟩
          case measure => simp [intOf]; omega
    · have t1 : decide ((r : Int) < (n : Int)) = false := by rw [decide_eq_false_iff_not]; omega
      have t1' : decide (r < n) = false := by simpa using hlt
      obtain rfl : r = n := by omega
      have HF : Hid (b = false) := Lib.hid (by rw [← HB.out]; exact toB_false HA.out.2)
      clear hlt
      go_wp2_with fail
      go_ret
      exact ⟨by rw [HF.out]; rfl, rfl⟩
end Go.Proofs.YtbkpoepacjinlaaGreat
