/- Gear: the orders of mounts and of uses. -/
import Derived.Test.YtbkpoepacjinlaaGa
import Derived.Lib.Bytealg
namespace Go.Proofs.Ytbkpoepacjinlaa
open Go.RowKit Go.BigFrame

theorem cmpB_lt : ∀ (a b : List UInt8), (Lib.compareBytes a b < 0) ↔ Op.bytesLess a b = true
  | [], [] => by decide
  | [], _ :: _ => by simp [Lib.compareBytes, Op.bytesLess]
  | _ :: _, [] => by simp [Lib.compareBytes, Op.bytesLess]
  | a :: xs, b :: ys => by
    have ih := cmpB_lt xs ys
    unfold Lib.compareBytes Op.bytesLess
    by_cases h1 : a < b
    · simp [h1]
    · by_cases h2 : b < a
      · have : a ≠ b := by rintro rfl; exact absurd h2 (by simp)
        simp [h1, h2, this]
      · have : a = b := UInt8.le_antisymm (UInt8.not_lt.1 h2) (UInt8.not_lt.1 h1)
        subst this
        simp [ih]
theorem cmpB_zero : ∀ (a b : List UInt8), (Lib.compareBytes a b = 0) ↔ a = b
  | [], [] => by decide
  | [], _ :: _ => by simp [Lib.compareBytes]
  | _ :: _, [] => by simp [Lib.compareBytes]
  | a :: xs, b :: ys => by
    have ih := cmpB_zero xs ys
    unfold Lib.compareBytes
    by_cases h1 : a < b
    · have : a ≠ b := by rintro rfl; exact absurd h1 (by simp)
      simp [h1, this]
    · by_cases h2 : b < a
      · have : a ≠ b := by rintro rfl; exact absurd h2 (by simp)
        simp [h1, h2, this]
      · have : a = b := UInt8.le_antisymm (UInt8.not_lt.1 h2) (UInt8.not_lt.1 h1)
        subst this
        simp [ih]
/-- one stands before another one: by moments, then by names -/
def befB (f f' : Int) (s s' : ByteArray) : Bool := decide (f < f') || (decide (f = f') && strLt s s')
def orI (x y : Int) : Int := if x ≠ 0 then x else y
def ordI (f f' : Int) (s s' : ByteArray) : Int := if Lib.compareInt f f' ≠ 0 then Lib.compareInt f f' else Lib.compareBytes s.data.toList s'.data.toList
theorem strLt_cmp (s s' : ByteArray) : strLt s s' = decide (Lib.compareBytes s.data.toList s'.data.toList < 0) := by
  unfold strLt
  rw [ByteArray.toList_eq, ByteArray.toList_eq, Bool.eq_iff_iff, decide_eq_true_eq]
  exact (cmpB_lt _ _).symm
theorem ord_neg (f f' : Int) (s s' : ByteArray) : decide (0 ≤ ordI f f' s s') = !befB f f' s s' := by
  unfold befB ordI
  rw [strLt_cmp]
  have h : Lib.compareInt f f' = if f < f' then -1 else if f > f' then 1 else 0 := rfl
  by_cases h1 : f < f'
  · rw [h, if_pos h1]
    simp [h1]
  · by_cases h2 : f' < f
    · rw [h, if_neg h1, if_pos h2]
      have h3 : ¬ f = f' := by omega
      simp [h1, h3]
    · have h3 : f = f' := by omega
      rw [h, if_neg h1, if_neg h2]
      simp only [ne_eq, not_true_eq_false, if_false]
      rw [Bool.eq_iff_iff]
      simp [h3]

theorem comes_any (s p s' p' : ByteArray) (f t f' t' : Int) (w : World) :
    Calls Try.prog 92 #[mountV s p f t, mountV s' p' f' t'] w fun e w' => e = .returned (.bool (befB f f' s s')) ∧ Below w.heap.size w w' := by
  unfold mountV befB strLt
  have HB := Lib.hid (((Below.refl w.heap.size w).alloc (Nat.le_refl _) (.cells #[.string s, .string p, .int .i64 f, .int .i64 t] 54)).alloc (by simp) (.cells #[.string s', .string p', .int .i64 f', .int .i64 t'] 54))
  by_cases h1 : f < f'
  · have t1 : decide (f < f') = true := by simpa using h1
    rw [t1, Bool.true_or]
    clear h1
    go_enter Try.func92, Try.ntmps92
    go_wp2_with fail
    go_ret
    exact ⟨rfl, HB.out⟩
  · have t1 : decide (f < f') = false := by simpa using h1
    rw [t1, Bool.false_or]
    by_cases h2 : f = f'
    · have t2 : (f == f') = true := by simpa using h2
      rw [show decide (f = f') = true by simpa using h2, Bool.true_and]
      clear h1 h2
      go_enter Try.func92, Try.ntmps92
      go_wp2_with fail
      go_ret
      exact ⟨rfl, HB.out⟩
    · have t2 : (f == f') = false := by simpa using h2
      rw [show decide (f = f') = false by simpa using h2, Bool.false_and]
      clear h1 h2
      go_enter Try.func92, Try.ntmps92
      go_wp2_with fail
      go_ret
      exact ⟨rfl, HB.out⟩
theorem first_any (n r n' r' : ByteArray) (f s x f' s' x' : Int) (w : World) :
    Calls Try.prog 57 #[useV n r f s x, useV n' r' f' s' x'] w fun e w' => e = .returned (.bool (befB f f' n n')) ∧ Below w.heap.size w w' := by
  unfold useV befB strLt
  have HB := Lib.hid (((Below.refl w.heap.size w).alloc (Nat.le_refl _) (.cells #[.string n, .string r, .int .i64 f, .int .i64 s, .int .i64 x] 38)).alloc (by simp) (.cells #[.string n', .string r', .int .i64 f', .int .i64 s', .int .i64 x'] 38))
  by_cases h1 : f < f'
  · have t1 : decide (f < f') = true := by simpa using h1
    rw [t1, Bool.true_or]
    clear h1
    go_enter Try.func57, Try.ntmps57
    go_wp2_with fail
    go_ret
    exact ⟨rfl, HB.out⟩
  · have t1 : decide (f < f') = false := by simpa using h1
    rw [t1, Bool.false_or]
    by_cases h2 : f = f'
    · have t2 : (f == f') = true := by simpa using h2
      rw [show decide (f = f') = true by simpa using h2, Bool.true_and]
      clear h1 h2
      go_enter Try.func57, Try.ntmps57
      go_wp2_with fail
      go_ret
      exact ⟨rfl, HB.out⟩
    · have t2 : (f == f') = false := by simpa using h2
      rw [show decide (f = f') = false by simpa using h2, Bool.false_and]
      clear h1 h2
      go_enter Try.func57, Try.ntmps57
      go_wp2_with fail
      go_ret
      exact ⟨rfl, HB.out⟩

set_option maxHeartbeats 1000000 in
/-- cmp.Or of two numbers that were just laid -/
theorem or_any (x y : Int) (b : Nat) (w : World) (hc0 : w.cell? ⟨b, 0, none⟩ = some (.int .i64 x)) (hc1 : w.cell? ⟨b, 1, none⟩ = some (.int .i64 y)) :
    Calls Try.prog 104 #[.slice (some ⟨b, 0, none⟩) 2 2] w fun e w' => e = .returned (.int .i64 (orI x y)) ∧ w = w' := by
  go_enter Try.func104, Try.ntmps104
  go_wp2_with fail
  go_loop [8] (fun iv => ∃ (k : Nat), iv = .int .i64 k ∧ k ≤ 2 ∧ Hid ((0 < k → x = 0) ∧ (1 < k → y = 0))) (fun iv => 2 - (intOf iv).toNat)
  case atStart => exact ⟨0, rfl, by omega, Lib.hid ⟨fun h => by omega, fun h => by omega⟩⟩
  case round =>
    obtain ⟨k, rfl, hk, HK⟩ := hrel
    have hways : k = 0 ∨ k = 1 ∨ k = 2 := by omega
    rcases hways with rfl | rfl | rfl
    · by_cases hx : x = 0
      · have t1 : (x != 0) = false := by simpa using hx
        have HX := Lib.hid hx
        clear hx
        go_wp2_with fail
        go_round
        case rel => exact ⟨1, rfl, by omega, Lib.hid ⟨fun _ => HX.out, fun h => by omega⟩⟩
        case measure => simp [intOf]
      · have t1 : (x != 0) = true := by simpa using hx
        have HX := Lib.hid (show orI x y = x by unfold orI; rw [if_pos hx])
        clear hx
        go_wp2_with fail
        go_ret
        exact ⟨ret_int HX.out.symm, rfl⟩
    · by_cases hy : y = 0
      · have t1 : (y != 0) = false := by simpa using hy
        have HY := Lib.hid hy
        clear hy
        go_wp2_with fail
        go_round
        case rel => exact ⟨2, rfl, by omega, Lib.hid ⟨fun _ => HK.out.1 (by omega), fun _ => HY.out⟩⟩
        case measure => simp [intOf]
      · have t1 : (y != 0) = true := by simpa using hy
        have HX := Lib.hid (show orI x y = y by unfold orI; rw [if_neg (fun h => h (HK.out.1 (by omega)))])
        clear hy
        go_wp2_with fail
        go_ret
        exact ⟨ret_int HX.out.symm, rfl⟩
    · have HX := Lib.hid (show orI x y = 0 by unfold orI; rw [HK.out.1 (by omega), HK.out.2 (by omega)]; simp)
      go_wp2_with fail
      go_ret
      exact ⟨ret_int HX.out.symm, rfl⟩

theorem keep4 {w2 W Wn : World} {B : Nat} {x0 x2 y0 y2 : Option Value} (hB : B + 1 < w2.heap.size)
    (h : W.cell? ⟨B, 0, none⟩ = x0 ∧ W.cell? ⟨B, 2, none⟩ = x2 ∧ W.cell? ⟨B + 1, 0, none⟩ = y0 ∧ W.cell? ⟨B + 1, 2, none⟩ = y2 ∧ Below w2.heap.size w2 W) (hb : Below W.heap.size W Wn) :
    Wn.cell? ⟨B, 0, none⟩ = x0 ∧ Wn.cell? ⟨B, 2, none⟩ = x2 ∧ Wn.cell? ⟨B + 1, 0, none⟩ = y0 ∧ Wn.cell? ⟨B + 1, 2, none⟩ = y2 ∧ Below w2.heap.size w2 Wn := by
  obtain ⟨h1, h2, h3, h4, h5⟩ := h
  have hs := h5.size
  exact ⟨(hb.cell (p := ⟨B, 0, none⟩) (by show B < W.heap.size; omega)).trans h1, (hb.cell (p := ⟨B, 2, none⟩) (by show B < W.heap.size; omega)).trans h2,
    (hb.cell (p := ⟨B + 1, 0, none⟩) (by show B + 1 < W.heap.size; omega)).trans h3, (hb.cell (p := ⟨B + 1, 2, none⟩) (by show B + 1 < W.heap.size; omega)).trans h4, h5.trans (hb.mono hs)⟩
set_option maxHeartbeats 2000000 in
set_option maxRecDepth 100000 in
theorem mountOrder_any (s p s' p' : ByteArray) (f t f' t' : Int) (w : World) :
    Calls Try.prog 90 #[mountV s p f t, mountV s' p' f' t'] w fun e w' => e = .returned (.int .i64 (ordI f f' s s')) ∧ Below w.heap.size w w' := by
  have D1 := Lib.hid (fun W => Try.cmp_Compare_int f f' W)
  have D2 := Lib.hid (fun W => Try.strings_Compare s s' W)
  unfold mountV
  rw [show ordI f f' s s' = orI (Lib.compareInt f f') (Lib.compareBytes s.data.toList s'.data.toList) from rfl]
  generalize Lib.compareInt f f' = ci at D1 ⊢
  generalize Lib.compareBytes s.data.toList s'.data.toList = cb at D2 ⊢
  have DO := Lib.hid (fun b W h0 h1 => or_any ci cb b W h0 h1)
  have HB := Lib.hid (((Below.refl w.heap.size w).alloc (Nat.le_refl _) (.cells #[.string s, .string p, .int .i64 f, .int .i64 t] 54)).alloc (by simp) (.cells #[.string s', .string p', .int .i64 f', .int .i64 t'] 54))
  have c0 : ∀ i, ((w.alloc (.cells #[.string s, .string p, .int .i64 f, .int .i64 t] 54)).alloc (.cells #[.string s', .string p', .int .i64 f', .int .i64 t'] 54)).cell? ⟨w.heap.size, i, none⟩ = (#[.string s, .string p, .int .i64 f, .int .i64 t] : Array Value)[i]? := by
    intro i
    rw [World.cell?_alloc_past _ _ _ (by simp), World.cell?_alloc_at _ _ _ _ rfl]
  have c1 : ∀ i, ((w.alloc (.cells #[.string s, .string p, .int .i64 f, .int .i64 t] 54)).alloc (.cells #[.string s', .string p', .int .i64 f', .int .i64 t'] 54)).cell? ⟨w.heap.size + 1, i, none⟩ = (#[.string s', .string p', .int .i64 f', .int .i64 t'] : Array Value)[i]? := by
    intro i
    rw [World.cell?_alloc_at _ _ _ _ (by simp)]
  have a0 : ((w.alloc (.cells #[.string s, .string p, .int .i64 f, .int .i64 t] 54)).alloc (.cells #[.string s', .string p', .int .i64 f', .int .i64 t'] 54)).cell? ⟨w.heap.size, 0, none⟩ = some (.string s) := c0 0
  have a2 : ((w.alloc (.cells #[.string s, .string p, .int .i64 f, .int .i64 t] 54)).alloc (.cells #[.string s', .string p', .int .i64 f', .int .i64 t'] 54)).cell? ⟨w.heap.size, 2, none⟩ = some (.int .i64 f) := c0 2
  have b0 : ((w.alloc (.cells #[.string s, .string p, .int .i64 f, .int .i64 t] 54)).alloc (.cells #[.string s', .string p', .int .i64 f', .int .i64 t'] 54)).cell? ⟨w.heap.size + 1, 0, none⟩ = some (.string s') := c1 0
  have b2 : ((w.alloc (.cells #[.string s, .string p, .int .i64 f, .int .i64 t] 54)).alloc (.cells #[.string s', .string p', .int .i64 f', .int .i64 t'] 54)).cell? ⟨w.heap.size + 1, 2, none⟩ = some (.int .i64 f') := c1 2
  clear c0 c1
  go_enter Try.func90, Try.ntmps90
  go_wp2_with fail
  have hz : w.heap.size + 1 < ((w.alloc (.cells #[.string s, .string p, .int .i64 f, .int .i64 t] 54)).alloc (.cells #[.string s', .string p', .int .i64 f', .int .i64 t'] 54)).heap.size := by simp only [World.size_alloc]; omega
  generalize ((w.alloc (.cells #[.string s, .string p, .int .i64 f, .int .i64 t] 54)).alloc (.cells #[.string s', .string p', .int .i64 f', .int .i64 t'] 54)) = w2 at HB a0 a2 b0 b2 hz ⊢
  obtain ⟨B, e1⟩ : ∃ B, w.heap.size = B := ⟨_, rfl⟩
  rw [e1] at a0 a2 b0 b2 hz ⊢
  have E1 := Lib.hid e1
  have HZ := Lib.hid hz
  have hbd : Below w2.heap.size w2 w2.drew := (Below.refl _ _).drew
  clear e1 hz
  have hkeep := keep4 (W := w2) (Wn := (w2.alloc (.cells #[.int .i64 ci, .int .i64 cb] 3)).drew) HZ.out ⟨a0, a2, b0, b2, Below.refl _ _⟩ (((Below.refl _ _).alloc (Nat.le_refl _) _).drew)
  have HF := Lib.hid ((HB.out.alloc HB.out.size (.cells #[.int .i64 ci, .int .i64 cb] 3)).drew)
  go_region_held3 (fun w' => w'.cell? ⟨B, 0, none⟩ = some (.string s) ∧ w'.cell? ⟨B, 2, none⟩ = some (.int .i64 f) ∧ w'.cell? ⟨B + 1, 0, none⟩ = some (.string s') ∧ w'.cell? ⟨B + 1, 2, none⟩ = some (.int .i64 f') ∧ Below w2.heap.size w2 w')
    (first
      | go_keep
      | assumption
      | exact keep4 (W := w2) HZ.out ⟨a0, a2, b0, b2, Below.refl _ _⟩ (((Below.refl _ _).alloc (Nat.le_refl _) _).drew)
      | exact keep4 HZ.out (by assumption) ((Below.refl _ _).alloc (Nat.le_refl _) _)
      | (go_split_ands; exact keep4 HZ.out ⟨by assumption, by assumption, by assumption, by assumption, by assumption⟩ ((Below.refl _ _).alloc (Nat.le_refl _) _)))
    (first
      | (go_at_call 105; refine (D1.out _).mono ?_; rintro e wn ⟨rfl, rfl⟩)
      | (go_at_call 106; refine (D2.out _).mono ?_; rintro e wn ⟨rfl, rfl⟩)
      | (go_at_call 104; refine (DO.out _ _ (by show (w2.alloc _).cell? _ = _; rw [World.cell?_alloc_at _ _ _ _ rfl]; rfl) (by show (w2.alloc _).cell? _ = _; rw [World.cell?_alloc_at _ _ _ _ rfl]; rfl)).mono ?_; rintro e wn ⟨rfl, rfl⟩))
  go_wp2
  go_ret
  exact ⟨rfl, HF.out⟩
set_option maxHeartbeats 2000000 in
set_option maxRecDepth 100000 in
theorem useOrder_any (s p s' p' : ByteArray) (f t x f' t' x' : Int) (w : World) :
    Calls Try.prog 53 #[useV s p f t x, useV s' p' f' t' x'] w fun e w' => e = .returned (.int .i64 (ordI f f' s s')) ∧ Below w.heap.size w w' := by
  have D1 := Lib.hid (fun W => Try.cmp_Compare_int f f' W)
  have D2 := Lib.hid (fun W => Try.strings_Compare s s' W)
  unfold useV
  rw [show ordI f f' s s' = orI (Lib.compareInt f f') (Lib.compareBytes s.data.toList s'.data.toList) from rfl]
  generalize Lib.compareInt f f' = ci at D1 ⊢
  generalize Lib.compareBytes s.data.toList s'.data.toList = cb at D2 ⊢
  have DO := Lib.hid (fun b W h0 h1 => or_any ci cb b W h0 h1)
  have HB := Lib.hid (((Below.refl w.heap.size w).alloc (Nat.le_refl _) (.cells #[.string s, .string p, .int .i64 f, .int .i64 t, .int .i64 x] 38)).alloc (by simp) (.cells #[.string s', .string p', .int .i64 f', .int .i64 t', .int .i64 x'] 38))
  have c0 : ∀ i, ((w.alloc (.cells #[.string s, .string p, .int .i64 f, .int .i64 t, .int .i64 x] 38)).alloc (.cells #[.string s', .string p', .int .i64 f', .int .i64 t', .int .i64 x'] 38)).cell? ⟨w.heap.size, i, none⟩ = (#[.string s, .string p, .int .i64 f, .int .i64 t, .int .i64 x] : Array Value)[i]? := by
    intro i
    rw [World.cell?_alloc_past _ _ _ (by simp), World.cell?_alloc_at _ _ _ _ rfl]
  have c1 : ∀ i, ((w.alloc (.cells #[.string s, .string p, .int .i64 f, .int .i64 t, .int .i64 x] 38)).alloc (.cells #[.string s', .string p', .int .i64 f', .int .i64 t', .int .i64 x'] 38)).cell? ⟨w.heap.size + 1, i, none⟩ = (#[.string s', .string p', .int .i64 f', .int .i64 t', .int .i64 x'] : Array Value)[i]? := by
    intro i
    rw [World.cell?_alloc_at _ _ _ _ (by simp)]
  have a0 : ((w.alloc (.cells #[.string s, .string p, .int .i64 f, .int .i64 t, .int .i64 x] 38)).alloc (.cells #[.string s', .string p', .int .i64 f', .int .i64 t', .int .i64 x'] 38)).cell? ⟨w.heap.size, 0, none⟩ = some (.string s) := c0 0
  have a2 : ((w.alloc (.cells #[.string s, .string p, .int .i64 f, .int .i64 t, .int .i64 x] 38)).alloc (.cells #[.string s', .string p', .int .i64 f', .int .i64 t', .int .i64 x'] 38)).cell? ⟨w.heap.size, 2, none⟩ = some (.int .i64 f) := c0 2
  have b0 : ((w.alloc (.cells #[.string s, .string p, .int .i64 f, .int .i64 t, .int .i64 x] 38)).alloc (.cells #[.string s', .string p', .int .i64 f', .int .i64 t', .int .i64 x'] 38)).cell? ⟨w.heap.size + 1, 0, none⟩ = some (.string s') := c1 0
  have b2 : ((w.alloc (.cells #[.string s, .string p, .int .i64 f, .int .i64 t, .int .i64 x] 38)).alloc (.cells #[.string s', .string p', .int .i64 f', .int .i64 t', .int .i64 x'] 38)).cell? ⟨w.heap.size + 1, 2, none⟩ = some (.int .i64 f') := c1 2
  clear c0 c1
  go_enter Try.func53, Try.ntmps53
  go_wp2_with fail
  have hz : w.heap.size + 1 < ((w.alloc (.cells #[.string s, .string p, .int .i64 f, .int .i64 t, .int .i64 x] 38)).alloc (.cells #[.string s', .string p', .int .i64 f', .int .i64 t', .int .i64 x'] 38)).heap.size := by simp only [World.size_alloc]; omega
  generalize ((w.alloc (.cells #[.string s, .string p, .int .i64 f, .int .i64 t, .int .i64 x] 38)).alloc (.cells #[.string s', .string p', .int .i64 f', .int .i64 t', .int .i64 x'] 38)) = w2 at HB a0 a2 b0 b2 hz ⊢
  obtain ⟨B, e1⟩ : ∃ B, w.heap.size = B := ⟨_, rfl⟩
  rw [e1] at a0 a2 b0 b2 hz ⊢
  have E1 := Lib.hid e1
  have HZ := Lib.hid hz
  have hbd : Below w2.heap.size w2 w2.drew := (Below.refl _ _).drew
  clear e1 hz
  have hkeep := keep4 (W := w2) (Wn := (w2.alloc (.cells #[.int .i64 ci, .int .i64 cb] 3)).drew) HZ.out ⟨a0, a2, b0, b2, Below.refl _ _⟩ (((Below.refl _ _).alloc (Nat.le_refl _) _).drew)
  have HF := Lib.hid ((HB.out.alloc HB.out.size (.cells #[.int .i64 ci, .int .i64 cb] 3)).drew)
  go_region_held3 (fun w' => w'.cell? ⟨B, 0, none⟩ = some (.string s) ∧ w'.cell? ⟨B, 2, none⟩ = some (.int .i64 f) ∧ w'.cell? ⟨B + 1, 0, none⟩ = some (.string s') ∧ w'.cell? ⟨B + 1, 2, none⟩ = some (.int .i64 f') ∧ Below w2.heap.size w2 w')
    (first
      | go_keep
      | assumption
      | exact keep4 (W := w2) HZ.out ⟨a0, a2, b0, b2, Below.refl _ _⟩ (((Below.refl _ _).alloc (Nat.le_refl _) _).drew)
      | exact keep4 HZ.out (by assumption) ((Below.refl _ _).alloc (Nat.le_refl _) _)
      | (go_split_ands; exact keep4 HZ.out ⟨by assumption, by assumption, by assumption, by assumption, by assumption⟩ ((Below.refl _ _).alloc (Nat.le_refl _) _)))
    (first
      | (go_at_call 105; refine (D1.out _).mono ?_; rintro e wn ⟨rfl, rfl⟩)
      | (go_at_call 106; refine (D2.out _).mono ?_; rintro e wn ⟨rfl, rfl⟩)
      | (go_at_call 104; refine (DO.out _ _ (by show (w2.alloc _).cell? _ = _; rw [World.cell?_alloc_at _ _ _ _ rfl]; rfl) (by show (w2.alloc _).cell? _ = _; rw [World.cell?_alloc_at _ _ _ _ rfl]; rfl)).mono ?_; rintro e wn ⟨rfl, rfl⟩))
  go_wp2
  go_ret
  exact ⟨rfl, HF.out⟩
end Go.Proofs.Ytbkpoepacjinlaa
