/- Several texts of this claim in one. -/
import Derived.Test.YtcdilamkkodjjaaGreatDoorDt2
import Derived.WalkSmall
import Derived.Laws.EntriesVeiled
import Derived.Handy
import Derived.StillTailTactics
import Derived.Deep.QuietTactic
import Derived.BigQuiet
import Derived.Deep.Cut
import Derived.Test.YtcdilamkkodjjaaGreatDoorProg
import Derived.Deep.Slices
import Derived.ChangeSame
import Derived.Below
import Derived.Lib.SmallJoins
import Derived.OrdersHeld
import Derived.Test.YtcdilamkkodjjaaGreatDoorShelf
import Derived.Lib.LaidTab
import Derived.Laws.AppendOwn
/- The reader: readerOf and its functions, each by its contract. -/
namespace Go.Proofs.YtcdilamkkodjjaaGreatDoor
open Go.RowKit Go.BigFrame

def pt (b : Nat) : Value := .pointer (some ⟨b, 0, none⟩)
def digF (B : Nat) : Value := .func (.func 96) #[] #[pt (B + 3), pt (B + 2), pt B]
def takeF (B : Nat) : Value := .func (.func 98) #[] #[pt (B + 2), pt B]
def rdVals (B : Nat) : Array Value := #[
  .func (.func 99) #[] #[pt (B + 4), pt B, pt (B + 2), pt (B + 5), pt (B + 3)],
  .func (.func 100) #[] #[pt (B + 4), pt (B + 5), pt (B + 3)],
  .func (.func 101) #[] #[pt (B + 4), pt B, pt (B + 2), pt (B + 3), pt (B + 5)],
  .func (.func 102) #[] #[pt (B + 3), pt (B + 2), pt B],
  .func (.func 103) #[] #[pt (B + 3), pt (B + 2), pt B],
  .func (.func 105) #[] #[pt (B + 3), pt B, pt (B + 2)],
  .func (.func 107) #[] #[pt (B + 3), pt B, pt (B + 2)],
  digF B,
  .func (.func 108) #[] #[pt (B + 2), pt (B + 3), pt B]]
/-- a reader of the text s, at p -/
structure IsRd (w : World) (B : Nat) (s : ByteArray) (p : Nat) (ok : Bool) : Prop where
  size : B + 6 ≤ w.heap.size
  text : w.cell? ⟨B, 0, none⟩ = some (.string s)
  place : w.cell? ⟨B + 2, 0, none⟩ = some (.int .i64 p)
  placeF : w.frozen? ⟨B + 2, 0, none⟩ = false
  flag : w.cell? ⟨B + 3, 0, none⟩ = some (.bool ok)
  flagF : w.frozen? ⟨B + 3, 0, none⟩ = false
  dig : w.cell? ⟨B + 4, 7, none⟩ = some (digF B)
  take : w.cell? ⟨B + 5, 0, none⟩ = some (takeF B)

theorem cell_past {w : World} {o : Obj} {b j : Nat} {v : Value} (h : w.cell? ⟨b, j, none⟩ = some v) : (w.alloc o).cell? ⟨b, j, none⟩ = some v := by
  rw [World.cell?_alloc_past _ _ _ ?_]; exact h
  rcases Nat.lt_or_ge b w.heap.size with h1 | h1
  · exact h1
  · simp [World.cell?, Array.getElem?_eq_none h1] at h
theorem frozen_past {w : World} {o : Obj} {b j : Nat} (hb : b < w.heap.size) (h : w.frozen? ⟨b, j, none⟩ = false) : (w.alloc o).frozen? ⟨b, j, none⟩ = false := by
  rw [World.frozen?_alloc_past _ _ _ hb]; exact h
theorem isRd_new (w : World) (s : ByteArray) (o1 : Obj) (row : Array Value) (T0 T2 T3 T4 T5 : TypeId) (hr : row[7]? = some (digF w.heap.size)) :
    IsRd ((((((w.alloc (.cells #[.string s] T0)).alloc o1).alloc (.cells #[.int .i64 0] T2)).alloc (.cells #[.bool true] T3)).alloc (.cells row T4)).alloc (.cells #[takeF w.heap.size] T5)) w.heap.size s 0 true := by
  refine ⟨by simp, ?_, ?_, ?_, ?_, ?_, ?_, ?_⟩
  · iterate 5 refine cell_past ?_
    rw [World.cell?_alloc_at _ _ _ _ (by simp)]; rfl
  · iterate 3 refine cell_past ?_
    rw [World.cell?_alloc_at _ _ _ _ (by simp)]; rfl
  · iterate 3 refine frozen_past (by simp) ?_
    exact World.frozen?_alloc_at _ _ _ _ (by simp)
  · iterate 2 refine cell_past ?_
    rw [World.cell?_alloc_at _ _ _ _ (by simp)]; rfl
  · iterate 2 refine frozen_past (by simp) ?_
    exact World.frozen?_alloc_at _ _ _ _ (by simp)
  · refine cell_past ?_
    rw [World.cell?_alloc_at _ _ _ _ (by simp)]; exact hr
  · rw [World.cell?_alloc_at _ _ _ _ (by simp)]; rfl
theorem readerOf_any (s : ByteArray) (w : World) :
    Calls Tryz.prog 64 #[.string s] w fun e w' => e = .returned (.agg (rdVals w.heap.size)) ∧ IsRd w' w.heap.size s 0 true ∧ Below w.heap.size w w' := by
  have hmf : ∀ (fn : Fn) (first cap : Array Value) (w : World), (Instr.makeFunc fn first cap).run Tryz.prog w = .ok (.func fn first cap) w := fun _ _ _ _ => rfl
  go_enter Tryz.func64, Tryz.ntmps64
  go_wp2
  refine bodyPost_ret (v := .agg (rdVals w.heap.size)) (by simp [results, Tryz.results64, go_sem, rdVals, digF, pt]) rfl ⟨rfl, ?_, ?_⟩
  · exact isRd_new w s _ _ _ _ _ _ _ rfl
  · go_grown

/-! ### how the world moves under a reader -/
theorem cell_set_same {w : World} {b j : Nat} {v : Value} (h : w.cell? ⟨b, j, none⟩ = some v) (u : Value) : (w.setCell ⟨b, j, none⟩ u).cell? ⟨b, j, none⟩ = some u := by
  unfold World.cell? at h ⊢
  simp only [World.setCell, Array.getElem?_modify, if_true]
  cases hb : w.heap[b]? with
  | none => simp [hb] at h
  | some o =>
    cases o with
    | cells c e f =>
      simp [hb] at h ⊢
      obtain ⟨hj, _⟩ := Array.getElem?_eq_some_iff.1 h
      rw [Array.getElem?_setIfInBounds_self_of_lt hj]
    | _ => simp [hb] at h
theorem cell_set_far {w : World} {b j b' j' : Nat} (hne : b' ≠ b) (u : Value) : (w.setCell ⟨b, j, none⟩ u).cell? ⟨b', j', none⟩ = w.cell? ⟨b', j', none⟩ :=
  World.cell?_of_block (w := w) (Below.heap_setCell w ⟨b, j, none⟩ u b' hne)
theorem frozen_set_far {w : World} {b j b' j' : Nat} (hne : b' ≠ b) (u : Value) : (w.setCell ⟨b, j, none⟩ u).frozen? ⟨b', j', none⟩ = w.frozen? ⟨b', j', none⟩ :=
  World.frozen?_of_block (w := w) (Below.heap_setCell w ⟨b, j, none⟩ u b' hne)
theorem frozen_set_same {w : World} {b j : Nat} (h : w.frozen? ⟨b, j, none⟩ = false) (u : Value) : (w.setCell ⟨b, j, none⟩ u).frozen? ⟨b, j, none⟩ = false := by
  unfold World.frozen? at h ⊢
  simp only [World.setCell, Array.getElem?_modify, if_true]
  cases hb : w.heap[b]? with
  | none => simp
  | some o => cases o <;> simp_all
theorem IsRd.setAt {w : World} {B : Nat} {s : ByteArray} {p : Nat} {ok : Bool} (h : IsRd w B s p ok) (q : Nat) : IsRd (w.setCell ⟨B + 2, 0, none⟩ (.int .i64 q)) B s q ok :=
  ⟨by rw [World.size_setCell]; exact h.size, by rw [cell_set_far (by omega)]; exact h.text, cell_set_same h.place _, frozen_set_same h.placeF _, by rw [cell_set_far (by omega)]; exact h.flag, by rw [frozen_set_far (by omega)]; exact h.flagF, by rw [cell_set_far (by omega)]; exact h.dig, by rw [cell_set_far (by omega)]; exact h.take⟩
theorem IsRd.setOk {w : World} {B : Nat} {s : ByteArray} {p : Nat} {ok : Bool} (h : IsRd w B s p ok) (q : Bool) : IsRd (w.setCell ⟨B + 3, 0, none⟩ (.bool q)) B s p q :=
  ⟨by rw [World.size_setCell]; exact h.size, by rw [cell_set_far (by omega)]; exact h.text, by rw [cell_set_far (by omega)]; exact h.place, by rw [frozen_set_far (by omega)]; exact h.placeF, cell_set_same h.flag _, frozen_set_same h.flagF _, by rw [cell_set_far (by omega)]; exact h.dig, by rw [cell_set_far (by omega)]; exact h.take⟩
theorem IsRd.kept {w w' : World} {B : Nat} {s : ByteArray} {p : Nat} {ok : Bool} (h : IsRd w B s p ok) (hb : Below w.heap.size w w') : IsRd w' B s p ok :=
  have hs := h.size
  ⟨Nat.le_trans hs hb.size, (hb.cell (p := ⟨B, 0, none⟩) (by show B < _; omega)).trans h.text, (hb.cell (p := ⟨B + 2, 0, none⟩) (by show B + 2 < _; omega)).trans h.place, (hb.frozen (p := ⟨B + 2, 0, none⟩) (by show B + 2 < _; omega)).trans h.placeF,
   (hb.cell (p := ⟨B + 3, 0, none⟩) (by show B + 3 < _; omega)).trans h.flag, (hb.frozen (p := ⟨B + 3, 0, none⟩) (by show B + 3 < _; omega)).trans h.flagF, (hb.cell (p := ⟨B + 4, 7, none⟩) (by show B + 4 < _; omega)).trans h.dig, (hb.cell (p := ⟨B + 5, 0, none⟩) (by show B + 5 < _; omega)).trans h.take⟩
/-- nothing but the reader's place and flag has turned -/
structure Kp (B : Nat) (w w' : World) : Prop where
  os : w'.os = w.os
  tape : w'.tape = w.tape
  output : w'.output = w.output
  size : w.heap.size ≤ w'.heap.size
  block : ∀ k, k < w.heap.size → k ≠ B + 2 → k ≠ B + 3 → w'.heap[k]? = w.heap[k]?
theorem Kp.refl (B : Nat) (w : World) : Kp B w w := ⟨rfl, rfl, rfl, Nat.le_refl _, fun _ _ _ _ => rfl⟩
theorem Kp.trans {B : Nat} {a b c : World} (h : Kp B a b) (k : Kp B b c) : Kp B a c :=
  ⟨k.os.trans h.os, k.tape.trans h.tape, k.output.trans h.output, Nat.le_trans h.size k.size, fun i h1 h2 h3 => (k.block i (Nat.lt_of_lt_of_le h1 h.size) h2 h3).trans (h.block i h1 h2 h3)⟩
theorem Kp.of_below {B : Nat} {w w' : World} (h : Below w.heap.size w w') : Kp B w w' := ⟨h.os, h.tape, h.output, h.size, fun k hk _ _ => h.block k hk⟩
theorem Kp.setAt {B : Nat} {a w : World} (h : Kp B a w) (v : Value) : Kp B a (w.setCell ⟨B + 2, 0, none⟩ v) :=
  h.trans ⟨rfl, rfl, rfl, by rw [World.size_setCell]; exact Nat.le_refl _, fun k _ h2 _ => Below.heap_setCell _ _ _ _ h2⟩
theorem Kp.setOk {B : Nat} {a w : World} (h : Kp B a w) (v : Value) : Kp B a (w.setCell ⟨B + 3, 0, none⟩ v) :=
  h.trans ⟨rfl, rfl, rfl, by rw [World.size_setCell]; exact Nat.le_refl _, fun k _ _ h3 => Below.heap_setCell _ _ _ _ h3⟩
theorem Kp.drewN {B : Nat} {a w : World} (h : Kp B a w) (n : Nat) : Kp B a (w.drewN n) := h.trans ⟨rfl, rfl, rfl, Nat.le_refl _, fun _ _ _ _ => rfl⟩
theorem Kp.alloc {B : Nat} {a w : World} (h : Kp B a w) (o : Obj) : Kp B a (w.alloc o) := h.trans (Kp.of_below ((Below.refl _ _).alloc (Nat.le_refl _) o))
theorem Kp.below {B C : Nat} {w w' : World} (h : Kp B w w') (hB : C ≤ B) (hs : C ≤ w.heap.size) : Below C w w' := ⟨h.os, h.tape, h.output, h.size, fun k hk => h.block k (by omega) (by omega) (by omega)⟩

/-! ### the functions -/
theorem isDigit_any (c : Nat) (w : World) : Calls Tryz.prog 97 #[.int .u8 c] w fun e w' => e = .returned (.bool (Rd.isD c)) ∧ w = w' := by
  by_cases h : 48 ≤ c
  · have h1 : decide ((48 : Int) ≤ (c : Int)) = true := by rw [decide_eq_true_eq]; omega
    by_cases h2 : c ≤ 57
    · have h3 : decide ((c : Int) ≤ 57) = true := by rw [decide_eq_true_eq]; omega
      go_enter Tryz.func97, Tryz.ntmps97
      go_wp2
      go_ret
      exact ⟨ret_bool (by simp [Rd.isD, h, h2]), rfl⟩
    · have h3 : decide ((c : Int) ≤ 57) = false := by rw [decide_eq_false_iff_not]; omega
      go_enter Tryz.func97, Tryz.ntmps97
      go_wp2
      go_ret
      exact ⟨ret_bool (by simp [Rd.isD, h2]), rfl⟩
  · have h1 : decide ((48 : Int) ≤ (c : Int)) = false := by rw [decide_eq_false_iff_not]; omega
    go_enter Tryz.func97, Tryz.ntmps97
    go_wp2
    go_ret
    exact ⟨ret_bool (by simp [Rd.isD, h]), rfl⟩

theorem digit_any {B : Nat} {s : ByteArray} {p : Nat} {ok : Bool} (w : World) (h : IsRd w B s p ok) :
    Calls Tryz.prog 96 #[pt (B + 3), pt (B + 2), pt B] w fun e w' => e = .returned (.bool (Rd.digAt s p ok)) ∧ w = w' := by
  obtain ⟨_, c0, c2, _, c3, _, _, _⟩ := h
  unfold pt
  cases ok
  · go_enter Tryz.func96, Tryz.ntmps96
    go_wp2
    go_ret
    exact ⟨ret_bool (by simp [Rd.digAt]), rfl⟩
  · by_cases hp : p < s.size
    · have h1 : decide ((p : Int) < (s.size : Int)) = true := by rw [decide_eq_true_eq]; omega
      have hd := Lib.hid (isDigit_any (s[p].toNat))
      go_enter Tryz.func96, Tryz.ntmps96
      go_wp2_with fail
      refine (hd.out _).mono ?_
      rintro e w1 ⟨rfl, rfl⟩
      go_wp2
      go_ret
      exact ⟨ret_bool (by simp [Rd.digAt, hp, Rd.byte_lt hp]), rfl⟩
    · have h1 : decide ((p : Int) < (s.size : Int)) = false := by rw [decide_eq_false_iff_not]; omega
      have h2 : decide (p < s.size) = false := by simpa using hp
      go_enter Tryz.func96, Tryz.ntmps96
      go_wp2
      go_ret
      exact ⟨ret_bool (by simp [Rd.digAt, hp]), rfl⟩
theorem take_any {B : Nat} {s : ByteArray} {p : Nat} {ok : Bool} (w : World) (h : IsRd w B s p ok) (hs : s.size ≤ 9223372036854775807) (hp : p < s.size) (hd : 48 ≤ Rd.byte s p) :
    Calls Tryz.prog 98 #[pt (B + 2), pt B] w fun e w' => e = .returned (.int .i64 ((Rd.byte s p : Int) - 48)) ∧ IsRd w' B s (p + 1) ok ∧ Kp B w w' := by
  have h' := h
  obtain ⟨_, c0, c2, cf, _, _, _, _⟩ := h
  have hb := Rd.byte_lt hp
  have hle := Rd.byte_le s p
  rw [hb] at hd hle
  unfold pt
  go_enter Tryz.func98, Tryz.ntmps98
  go_wp2
  go_ret
  exact ⟨ret_int (by rw [hb]), h'.setAt (p + 1), (Kp.refl _ _).setAt _⟩
end Go.Proofs.YtcdilamkkodjjaaGreatDoor

/- The reader's number. -/
namespace Go.Proofs.YtcdilamkkodjjaaGreatDoor
open Go.RowKit Go.BigFrame

theorem numEnd {B : Nat} {s : ByteArray} {p : Nat} {ok : Bool} {digits : Nat} {least most : Int} {w wr : World} {n : Int} {k q : Nat} {b : Bool} (hR : IsRd wr B s q ok) (hK : Kp B w wr)
    (hX : Rd.numAt s digits least most ok p = (n, k, q)) (hb : Rd.numOk least ok (n, k, q) = b) :
    Ending.returned (.int .i64 n) = .returned (.int .i64 (Rd.numAt s digits least most ok p).1) ∧
      IsRd (wr.setCell ⟨B + 3, 0, none⟩ (.bool b)) B s (Rd.numAt s digits least most ok p).2.2 (Rd.numOk least ok (Rd.numAt s digits least most ok p)) ∧ Kp B w (wr.setCell ⟨B + 3, 0, none⟩ (.bool b)) := by
  rw [hX, hb]; exact ⟨rfl, hR.setOk b, hK.setOk _⟩

set_option maxHeartbeats 1000000 in
set_option maxRecDepth 100000 in
theorem number_any {B : Nat} {s : ByteArray} {p : Nat} {ok : Bool} (digits : Nat) (least most : Int) (w : World) (h : IsRd w B s p ok) (hs : s.size ≤ 9223372036854775807) (hd : digits ≤ 18) :
    Calls Tryz.prog 99 #[.int .i64 digits, .int .i64 least, .int .i64 most, pt (B + 4), pt B, pt (B + 2), pt (B + 5), pt (B + 3)] w fun e w' =>
      e = .returned (.int .i64 (Rd.numAt s digits least most ok p).1) ∧ IsRd w' B s (Rd.numAt s digits least most ok p).2.2 (Rd.numOk least ok (Rd.numAt s digits least most ok p)) ∧ Kp B w w' := by
  have h' := Lib.hid h
  clear h
  unfold pt
  go_enter Tryz.func99, Tryz.ntmps99
  go_wp2_with fail
  go_loopw [12, 13] (fun n m wr => ∃ (nn : Int) (k q : Nat), n = .int .i64 nn ∧ m = .int .i64 k ∧ k ≤ digits ∧ 0 ≤ nn ∧ nn < 10 ^ k ∧ IsRd wr B s q ok ∧ Kp B w wr ∧
      Rd.numLoop s digits least most ok (digits - k) nn k q = Rd.numAt s digits least most ok p) (fun _ m _ => digits - (intOf m).toNat)
  case atStart => exact ⟨0, 0, p, rfl, rfl, by omega, by omega, by decide, h'.out, Kp.refl _ _, rfl⟩
  case round =>
    obtain ⟨n, k, q, rfl, rfl, hk, hn0, hn1, hR, hK, hF⟩ := hrel
    have HR := Lib.hid hR
    have HK := Lib.hid hK
    have HF := Lib.hid hF
    have HN := Lib.hid hn1
    obtain ⟨_, c0, c2, cf2, c3, cf3, cd, ct⟩ := hR
    unfold digF pt at cd
    unfold takeF pt at ct
    clear hK hF hn1 h'
    by_cases hkd : k < digits
    · have t1 : decide ((k : Int) < (digits : Int)) = true := by rw [decide_eq_true_eq]; omega
      have t1' : decide (k < digits) = true := by simpa using hkd
      go_wp2_with fail
      refine (digit_any wr HR.out).mono ?_
      rintro e w1 ⟨rfl, rfl⟩
      cases hdg : Rd.digAt s q ok
      · have HX := Lib.hid (HF.out.symm.trans (Rd.numLoop_stop (s := s) (digits := digits) (least := least) (most := most) (ok := ok) (f := digits - k) (n := n) (m := k) (p := q) (by simp [hdg])))
        clear hdg HF
        go_wp2
        all_goals go_ret
        all_goals refine numEnd HR.out HK.out HX.out ?_
        all_goals simp_all [Rd.numOk]
      · obtain ⟨hok, hq, hb0, hb1⟩ := Rd.digAt_true hdg
        subst hok
        have HD := Lib.hid hdg
        have e1 := Rd.byte_lt hq
        have He1 := Lib.hid e1
        rw [e1] at hb0 hb1
        have hn9 : n ≤ 99999999999999999 := by
          have h1 := HN.out
          have h2 : (10 : Int) ^ k ≤ 10 ^ 17 := by exact_mod_cast Nat.pow_le_pow_right (show 0 < 10 by omega) (show k ≤ 17 by omega)
          have h3 : (10 : Int) ^ 17 = 100000000000000000 := by decide
          omega
        clear hdg e1
        cases bk : decide (0 < k)
        · skip
          cases bm : decide (most < 10 * n + ((s[q].toNat : Int) - 48))
          · cases bx : (10 * n + ((s[q].toNat : Int) - 48) == 0)
            · have cx : decide (10 * n + ((s[q].toNat : Int) - 48) = 0) = false := by simpa using bx
              have HX := Lib.hid (Rd.numLoop_next (s := s) (digits := digits) (least := least) (most := most) (ok := true) (f := digits - k - 1) (n := n) (m := k) (p := q) ⟨hkd, HD.out⟩ (by rw [He1.out]; simp [Rd.stops, bk, bm, cx]))
              go_wp2_with fail
              refine (take_any wr HR.out hs hq (by rw [He1.out]; exact hb0)).mono ?_
              rintro e w1 ⟨rfl, hR1, hK1⟩
              rw [He1.out]
              have HR1 := Lib.hid hR1
              have HK1 := Lib.hid (HK.out.trans hK1)
              clear hR1 hK1
              go_wp2
              go_roundw
              case rel =>
                refine ⟨10 * n + ((s[q].toNat : Int) - 48), k + 1, q + 1, rfl, by go_num, by omega, by omega, ?_, HR1.out, HK1.out, ?_⟩
                · have := HN.out
                  rw [Int.pow_succ]; omega
                · rw [← HF.out, show digits - k = (digits - k - 1) + 1 by omega, HX.out, He1.out, show digits - (k + 1) = digits - k - 1 by omega]
              case measure => simp [intOf]; omega
            · have cx : decide (10 * n + ((s[q].toNat : Int) - 48) = 0) = true := by simpa using bx
              cases bl : decide (0 < least)
              · skip
                have HX := Lib.hid (Rd.numLoop_next (s := s) (digits := digits) (least := least) (most := most) (ok := true) (f := digits - k - 1) (n := n) (m := k) (p := q) ⟨hkd, HD.out⟩ (by rw [He1.out]; simp [Rd.stops, bk, bm, cx, bl]))
                go_wp2_with fail
                refine (take_any wr HR.out hs hq (by rw [He1.out]; exact hb0)).mono ?_
                rintro e w1 ⟨rfl, hR1, hK1⟩
                rw [He1.out]
                have HR1 := Lib.hid hR1
                have HK1 := Lib.hid (HK.out.trans hK1)
                clear hR1 hK1
                go_wp2
                go_roundw
                case rel =>
                  refine ⟨10 * n + ((s[q].toNat : Int) - 48), k + 1, q + 1, rfl, by go_num, by omega, by omega, ?_, HR1.out, HK1.out, ?_⟩
                  · have := HN.out
                    rw [Int.pow_succ]; omega
                  · rw [← HF.out, show digits - k = (digits - k - 1) + 1 by omega, HX.out, He1.out, show digits - (k + 1) = digits - k - 1 by omega]
                case measure => simp [intOf]; omega
              · skip
                have HX := Lib.hid (HF.out.symm.trans (Rd.numLoop_break (s := s) (digits := digits) (least := least) (most := most) (ok := true) (f := digits - k) (n := n) (m := k) (p := q) ⟨hkd, HD.out⟩ (by rw [He1.out]; simp [Rd.stops, bk, bm, cx, bl])))
                clear HF
                go_wp2
                go_ret
                refine numEnd HR.out HK.out HX.out ?_
                simp [Rd.numOk, bk]
          · skip
            have HX := Lib.hid (HF.out.symm.trans (Rd.numLoop_break (s := s) (digits := digits) (least := least) (most := most) (ok := true) (f := digits - k) (n := n) (m := k) (p := q) ⟨hkd, HD.out⟩ (by rw [He1.out]; simp [Rd.stops, bk, bm])))
            clear HF
            go_wp2
            go_ret
            refine numEnd HR.out HK.out HX.out ?_
            simp [Rd.numOk, bk]
        · cases bn : (n == 0)
          · have cn : decide (n = 0) = false := by simpa using bn
            cases bm : decide (most < 10 * n + ((s[q].toNat : Int) - 48))
            · cases bx : (10 * n + ((s[q].toNat : Int) - 48) == 0)
              · have cx : decide (10 * n + ((s[q].toNat : Int) - 48) = 0) = false := by simpa using bx
                have HX := Lib.hid (Rd.numLoop_next (s := s) (digits := digits) (least := least) (most := most) (ok := true) (f := digits - k - 1) (n := n) (m := k) (p := q) ⟨hkd, HD.out⟩ (by rw [He1.out]; simp [Rd.stops, bk, cn, bm, cx]))
                go_wp2_with fail
                refine (take_any wr HR.out hs hq (by rw [He1.out]; exact hb0)).mono ?_
                rintro e w1 ⟨rfl, hR1, hK1⟩
                rw [He1.out]
                have HR1 := Lib.hid hR1
                have HK1 := Lib.hid (HK.out.trans hK1)
                clear hR1 hK1
                go_wp2
                go_roundw
                case rel =>
                  refine ⟨10 * n + ((s[q].toNat : Int) - 48), k + 1, q + 1, rfl, by go_num, by omega, by omega, ?_, HR1.out, HK1.out, ?_⟩
                  · have := HN.out
                    rw [Int.pow_succ]; omega
                  · rw [← HF.out, show digits - k = (digits - k - 1) + 1 by omega, HX.out, He1.out, show digits - (k + 1) = digits - k - 1 by omega]
                case measure => simp [intOf]; omega
              · have cx : decide (10 * n + ((s[q].toNat : Int) - 48) = 0) = true := by simpa using bx
                cases bl : decide (0 < least)
                · skip
                  have HX := Lib.hid (Rd.numLoop_next (s := s) (digits := digits) (least := least) (most := most) (ok := true) (f := digits - k - 1) (n := n) (m := k) (p := q) ⟨hkd, HD.out⟩ (by rw [He1.out]; simp [Rd.stops, bk, cn, bm, cx, bl]))
                  go_wp2_with fail
                  refine (take_any wr HR.out hs hq (by rw [He1.out]; exact hb0)).mono ?_
                  rintro e w1 ⟨rfl, hR1, hK1⟩
                  rw [He1.out]
                  have HR1 := Lib.hid hR1
                  have HK1 := Lib.hid (HK.out.trans hK1)
                  clear hR1 hK1
                  go_wp2
                  go_roundw
                  case rel =>
                    refine ⟨10 * n + ((s[q].toNat : Int) - 48), k + 1, q + 1, rfl, by go_num, by omega, by omega, ?_, HR1.out, HK1.out, ?_⟩
                    · have := HN.out
                      rw [Int.pow_succ]; omega
                    · rw [← HF.out, show digits - k = (digits - k - 1) + 1 by omega, HX.out, He1.out, show digits - (k + 1) = digits - k - 1 by omega]
                  case measure => simp [intOf]; omega
                · skip
                  have HX := Lib.hid (HF.out.symm.trans (Rd.numLoop_break (s := s) (digits := digits) (least := least) (most := most) (ok := true) (f := digits - k) (n := n) (m := k) (p := q) ⟨hkd, HD.out⟩ (by rw [He1.out]; simp [Rd.stops, bk, cn, bm, cx, bl])))
                  clear HF
                  go_wp2
                  go_ret
                  refine numEnd HR.out HK.out HX.out ?_
                  simp [Rd.numOk, bk]
            · skip
              have HX := Lib.hid (HF.out.symm.trans (Rd.numLoop_break (s := s) (digits := digits) (least := least) (most := most) (ok := true) (f := digits - k) (n := n) (m := k) (p := q) ⟨hkd, HD.out⟩ (by rw [He1.out]; simp [Rd.stops, bk, cn, bm])))
              clear HF
              go_wp2
              go_ret
              refine numEnd HR.out HK.out HX.out ?_
              simp [Rd.numOk, bk]
          · have cn : decide (n = 0) = true := by simpa using bn
            have HX := Lib.hid (HF.out.symm.trans (Rd.numLoop_break (s := s) (digits := digits) (least := least) (most := most) (ok := true) (f := digits - k) (n := n) (m := k) (p := q) ⟨hkd, HD.out⟩ (by rw [He1.out]; simp [Rd.stops, bk, cn])))
            clear HF
            go_wp2
            go_ret
            refine numEnd HR.out HK.out HX.out ?_
            simp [Rd.numOk, bk]
    · have t1 : decide ((k : Int) < (digits : Int)) = false := by rw [decide_eq_false_iff_not]; omega
      have t1' : decide (k < digits) = false := by simpa using hkd
      have HX := Lib.hid (HF.out.symm.trans (Rd.numLoop_stop (s := s) (digits := digits) (least := least) (most := most) (ok := ok) (f := digits - k) (n := n) (m := k) (p := q) (by simp [hkd])))
      clear HF
      go_wp2
      all_goals go_ret
      all_goals refine numEnd HR.out HK.out HX.out ?_
      all_goals simp_all [Rd.numOk]
end Go.Proofs.YtcdilamkkodjjaaGreatDoor

/- The reader's exact, pair, one, place. -/
namespace Go.Proofs.YtcdilamkkodjjaaGreatDoor
open Go.RowKit Go.BigFrame

theorem IsRd.drew {w : World} {B : Nat} {s : ByteArray} {p : Nat} {ok : Bool} (h : IsRd w B s p ok) : IsRd w.drew B s p ok := h.kept (Below.refl _ _).drew
theorem Kp.drew {B : Nat} {a w : World} (h : Kp B a w) : Kp B a w.drew := h.trans (Kp.of_below (Below.refl _ _).drew)
def ExactTo (s t : ByteArray) (i q : Nat) (b : Bool) (z : Nat × Bool) : Prop := (b = false → z = (q, false)) ∧ (b = true → Rd.exactLoop s t (t.size - i) i q = z)

theorem ExactTo.no {s t : ByteArray} {i q : Nat} {z : Nat × Bool} (h : z = (q, false)) : ExactTo s t i q false z := ⟨fun _ => h, fun h => by cases h⟩
theorem ExactTo.yes {s t : ByteArray} {i q : Nat} {z : Nat × Bool} (h : Rd.exactLoop s t (t.size - i) i q = z) : ExactTo s t i q true z := ⟨fun h => (by cases h), fun _ => h⟩
set_option maxHeartbeats 1000000 in
set_option maxRecDepth 100000 in
theorem exact_any {B : Nat} {s : ByteArray} {p : Nat} {ok : Bool} (t : ByteArray) (w : World) (h : IsRd w B s p ok) (hs : s.size ≤ 9223372036854775807) (ht : t.size ≤ 9223372036854775807) :
    Calls Tryz.prog 102 #[.string t, pt (B + 3), pt (B + 2), pt B] w fun e w' =>
      e = .returned (.tuple #[]) ∧ IsRd w' B s (Rd.exactAt s t p ok).1 (Rd.exactAt s t p ok).2 ∧ Kp B w w' := by
  have h' := Lib.hid h
  have hst : ExactTo s t 0 p ok (Rd.exactAt s t p ok) := by
    unfold ExactTo Rd.exactAt
    cases ok <;> simp
  have Hst := Lib.hid hst
  generalize hz : Rd.exactAt s t p ok = z at Hst ⊢
  clear h hst hz
  unfold pt
  go_enter Tryz.func102, Tryz.ntmps102
  go_wp2_with fail
  go_loopw [5] (fun iv wr => ∃ (i q : Nat) (b : Bool), iv = .int .i64 i ∧ i ≤ t.size ∧ IsRd wr B s q b ∧ Kp B w wr ∧ ExactTo s t i q b z) (fun iv _ => t.size - (intOf iv).toNat)
  case atStart => exact ⟨0, p, ok, rfl, by omega, h'.out, Kp.refl _ _, Hst.out⟩
  case round =>
    obtain ⟨i, q, b, rfl, hi, hR, hK, hE⟩ := hrel
    have HR := Lib.hid hR
    have HK := Lib.hid hK
    have HE := Lib.hid hE
    obtain ⟨_, c0, c2, cf2, c3, cf3, _, _⟩ := hR
    clear hK hE h' Hst
    cases b
    · have hz := Lib.hid (HE.out.1 rfl)
      go_wp2
      go_end0
      rw [hz.out]
      exact ⟨rfl, HR.out, HK.out⟩
    · by_cases hit : i < t.size
      · have t1 : decide (i < t.size) = true := by simpa using hit
        by_cases hq : q < s.size
        · have t2 : decide (q < s.size) = true := by simpa using hq
          cases he : (((s[q]).toNat : Int) == ((t[i]).toNat : Int))
          · have hz : z = (q, false) := by
              rw [← HE.out.2 rfl, show t.size - i = (t.size - i - 1) + 1 by omega, Rd.exactLoop, if_pos hit, if_neg]
              rw [Rd.byte_lt hq, Rd.byte_lt hit]
              simp only [beq_eq_false_iff_ne, ne_eq] at he
              omega
            have Hz := Lib.hid hz
            clear hz HE
            go_wp2_with fail
            go_still_tail 13, (by kernel_rfl)
            change wpList _ _ _ _ _ wr.drew
            clear c0 c2 cf2 c3 cf3
            have hR2 := HR.out.drew
            have hK2 := HK.out.drew
            clear HR HK
            generalize wr.drew = w2 at hR2 hK2 ⊢
            have HR := Lib.hid hR2
            have HK := Lib.hid hK2
            obtain ⟨_, c0, c2, cf2, c3, cf3, _, _⟩ := hR2
            clear hK2
            go_wp2
            go_roundw
            case rel => exact ⟨i + 1, q, false, by go_num, by omega, HR.out.setOk false, HK.out.setOk _, ExactTo.no Hz.out⟩
            case measure => simp [intOf]; omega
          · have hz : Rd.exactLoop s t (t.size - (i + 1)) (i + 1) (q + 1) = z := by
              rw [← HE.out.2 rfl, show t.size - i = (t.size - (i + 1)) + 1 by omega]
              conv => rhs; rw [Rd.exactLoop, if_pos hit]
              rw [if_pos]
              rw [Rd.byte_lt hq, Rd.byte_lt hit]
              simp only [beq_iff_eq] at he
              exact ⟨hq, by omega⟩
            have Hz := Lib.hid hz
            clear hz HE
            go_wp2_with fail
            go_still_tail 13, (by kernel_rfl)
            change wpList _ _ _ _ _ wr.drew
            clear c0 c2 cf2 c3 cf3
            have hR2 := HR.out.drew
            have hK2 := HK.out.drew
            clear HR HK
            generalize wr.drew = w2 at hR2 hK2 ⊢
            have HR := Lib.hid hR2
            have HK := Lib.hid hK2
            obtain ⟨_, c0, c2, cf2, c3, cf3, _, _⟩ := hR2
            clear hK2
            go_wp2
            go_roundw
            case rel => exact ⟨i + 1, q + 1, true, by go_num, by omega, (HR.out.setOk true).setAt (q + 1), (HK.out.setOk _).setAt _, ExactTo.yes Hz.out⟩
            case measure => simp [intOf]; omega
        · have t2 : decide (q < s.size) = false := by simpa using hq
          have hz : z = (q, false) := by
            rw [← HE.out.2 rfl, show t.size - i = (t.size - i - 1) + 1 by omega, Rd.exactLoop, if_pos hit, if_neg]
            omega
          have Hz := Lib.hid hz
          clear hz HE
          go_wp2_with fail
          go_region
          go_wp2
          go_roundw
          case rel => exact ⟨i + 1, q, false, by go_num, by omega, (HR.out.setOk false).drew, (HK.out.setOk _).drew, ExactTo.no Hz.out⟩
          case measure => simp [intOf]; omega
      · have t1 : decide (i < t.size) = false := by simpa using hit
        have hz := Lib.hid (HE.out.2 rfl)
        go_wp2
        go_end0
        rw [← hz.out]
        have : Rd.exactLoop s t (t.size - i) i q = (q, true) := by rw [show t.size - i = 0 by omega]; rfl
        rw [this]
        exact ⟨rfl, HR.out, HK.out⟩

theorem place_any {B : Nat} {s : ByteArray} {p : Nat} {ok : Bool} (w : World) (h : IsRd w B s p ok) :
    Calls Tryz.prog 108 #[pt (B + 2), pt (B + 3), pt B] w fun e w' => e = .returned (.tuple #[.int .i64 p, .bool (ok && decide (p = s.size))]) ∧ ∃ n, w' = w.drewN n := by
  obtain ⟨_, c0, c2, cf2, c3, cf3, _, _⟩ := h
  unfold pt
  cases ok
  · go_enter Tryz.func108, Tryz.ntmps108
    go_wp2_with fail
    go_quiet (fail)
    go_wp2
    go_ret2
    exact ⟨by simp, _, rfl⟩
  · go_enter Tryz.func108, Tryz.ntmps108
    go_wp2_with fail
    go_quiet (fail)
    go_wp2
    go_ret2
    refine ⟨?_, _, rfl⟩
    have : ((p : Int) == (s.size : Int)) = (true && decide (p = s.size)) := by rw [Bool.eq_iff_iff, Bool.true_and, beq_iff_eq, decide_eq_true_eq]; omega
    rw [← this]; rfl
/-- one of these bytes: which -/
theorem one_any {B : Nat} {s : ByteArray} {p : Nat} {ok : Bool} (t : ByteArray) (w : World) (h : IsRd w B s p ok) (hs : s.size ≤ 9223372036854775807) :
    Calls Tryz.prog 103 #[.string t, pt (B + 3), pt (B + 2), pt B] w fun e w' =>
      e = .returned (.int .i64 (Rd.oneAt s t p ok).1) ∧ IsRd w' B s (Rd.oneAt s t p ok).2.1 (Rd.oneAt s t p ok).2.2 ∧ Kp B w w' := by
  have HR := Lib.hid h
  obtain ⟨_, c0, c2, cf2, c3, cf3, _, _⟩ := h
  unfold pt
  cases ok
  · go_enter Tryz.func103, Tryz.ntmps103
    go_wp2
    go_ret
    exact ⟨rfl, HR.out.setOk false, (Kp.refl _ _).setOk _⟩
  · by_cases hp : p < s.size
    · have t2 : decide (p < s.size) = true := by simpa using hp
      have hib := Lib.hid (Go.Proofs.Tryz.strings_IndexByte t ((s[p]).toNat : Int))
      go_enter Tryz.func103, Tryz.ntmps103
      go_wp2_with fail
      refine (hib.out _).mono ?_
      rintro e w1 ⟨rfl, rfl⟩
      have hby : (((s[p]).toNat : Int).toNat).toUInt8 = (Rd.byte s p).toUInt8 := by rw [Rd.byte_lt hp, Int.toNat_natCast]
      rw [hby]
      have hz := Lib.hid (show Rd.oneAt s t p true = if 0 ≤ Lib.indexByte t.data.toList (Rd.byte s p).toUInt8 then (Lib.indexByte t.data.toList (Rd.byte s p).toUInt8, p + 1, true) else (Lib.indexByte t.data.toList (Rd.byte s p).toUInt8, p, false) by unfold Rd.oneAt; rw [if_pos ⟨rfl, hp⟩])
      generalize Lib.indexByte t.data.toList (Rd.byte s p).toUInt8 = k at hz ⊢
      clear hib hby
      by_cases hk : 0 ≤ k
      · have t3 : decide (0 ≤ k) = true := by simpa using hk
        go_wp2
        go_ret
        have hz' := hz.out
        rw [if_pos hk] at hz'
        rw [hz']
        exact ⟨rfl, (HR.out.setOk true).setAt (p + 1), ((Kp.refl _ _).setOk _).setAt _⟩
      · have t3 : decide (0 ≤ k) = false := by simpa using hk
        have hk2 : k < 0 := by omega
        go_wp2
        go_ret
        have hz' := hz.out
        rw [if_neg (by omega)] at hz'
        rw [hz']
        exact ⟨rfl, HR.out.setOk false, (Kp.refl _ _).setOk _⟩
    · have t2 : decide (p < s.size) = false := by simpa using hp
      go_enter Tryz.func103, Tryz.ntmps103
      go_wp2
      go_ret
      have hz : Rd.oneAt s t p true = (-1, p, false) := by unfold Rd.oneAt; rw [if_neg (by simp [hp])]
      rw [hz]
      exact ⟨rfl, HR.out.setOk false, (Kp.refl _ _).setOk _⟩

theorem IsRd.of_kp {w w' : World} {B b j : Nat} {v : Value} (hk : Kp B w w') (h : w.cell? ⟨b, j, none⟩ = some v) (h2 : b ≠ B + 2) (h3 : b ≠ B + 3) : w'.cell? ⟨b, j, none⟩ = some v := by
  rcases Nat.lt_or_ge b w.heap.size with h1 | h1
  · rw [World.cell?_of_block (w := w) (hk.block b h1 h2 h3)]; exact h
  · simp [World.cell?, Array.getElem?_eq_none h1] at h
end Go.Proofs.YtcdilamkkodjjaaGreatDoor

/- The reader's pair. -/
namespace Go.Proofs.YtcdilamkkodjjaaGreatDoor
open Go.RowKit Go.BigFrame

def PairTo (s : ByteArray) (most : Int) (p : Nat) (ok : Bool) (i : Nat) (x : Int × Nat × Bool) : Prop :=
  (i = 0 → x = (0, p, ok)) ∧ (i = 1 → x = Rd.pairStep s most 10 (0, p, ok)) ∧ (i = 2 → x = Rd.pairAt s most p ok)
theorem PairTo.start (s : ByteArray) (most : Int) (p : Nat) (ok : Bool) : PairTo s most p ok 0 (0, p, ok) := ⟨fun _ => rfl, fun h => (by cases h), fun h => by cases h⟩
theorem PairTo.step {s : ByteArray} {most : Int} {p : Nat} {ok : Bool} {i : Nat} {x y : Int × Nat × Bool} (h : PairTo s most p ok i x) (hi : i = 0 ∧ y = Rd.pairStep s most 10 x ∨ i = 1 ∧ y = Rd.pairStep s most 1 x) : PairTo s most p ok (i + 1) y := by
  rcases hi with ⟨rfl, rfl⟩ | ⟨rfl, rfl⟩
  · refine ⟨fun h => (by omega), fun _ => ?_, fun h => (by omega)⟩
    rw [h.1 rfl]
  · refine ⟨fun h => (by omega), fun h => (by omega), fun _ => ?_⟩
    rw [h.2.1 rfl]; rfl
theorem pairStep_no {s : ByteArray} {most u n : Int} {q : Nat} {b : Bool} (h : ¬ (Rd.digAt s q b = true ∧ n + u * ((Rd.byte s q : Int) - 48) ≤ most)) : Rd.pairStep s most u (n, q, b) = (n, q, false) := by
  unfold Rd.pairStep; rw [if_neg h]
theorem pairStep_yes {s : ByteArray} {most u n : Int} {q : Nat} {b : Bool} (h : Rd.digAt s q b = true ∧ n + u * ((Rd.byte s q : Int) - 48) ≤ most) : Rd.pairStep s most u (n, q, b) = (n + u * ((Rd.byte s q : Int) - 48), q + 1, true) := by
  unfold Rd.pairStep; rw [if_pos h]

set_option maxHeartbeats 2000000 in
set_option maxRecDepth 100000 in
theorem pair_any {B : Nat} {s : ByteArray} {p : Nat} {ok : Bool} (most : Int) (w : World) (h : IsRd w B s p ok) (hs : s.size ≤ 9223372036854775807) :
    Calls Tryz.prog 101 #[.int .i64 most, pt (B + 4), pt B, pt (B + 2), pt (B + 3), pt (B + 5)] w fun e w' =>
      e = .returned (.int .i64 (Rd.pairAt s most p ok).1) ∧ IsRd w' B s (Rd.pairAt s most p ok).2.1 (Rd.pairAt s most p ok).2.2 ∧ Kp B w w' := by
  have hsz := h.size
  have h0 := Lib.hid ((Below.refl w.heap.size w).alloc (Nat.le_refl _) (.cells #[.int .i64 10, .int .i64 1] 3))
  have h' := Lib.hid (h.kept h0.out)
  clear h
  unfold pt
  go_enter Tryz.func101, Tryz.ntmps101
  go_wp2_with fail
  go_loopw [8, 13] (fun nv iv wr => ∃ (n : Int) (i q : Nat) (b : Bool), nv = .int .i64 n ∧ iv = .int .i64 i ∧ i ≤ 2 ∧ 0 ≤ n ∧ n ≤ 90 * i ∧ IsRd wr B s q b ∧ Kp B w wr ∧
      wr.cell? ⟨w.heap.size, 0, none⟩ = some (.int .i64 10) ∧ wr.cell? ⟨w.heap.size, 1, none⟩ = some (.int .i64 1) ∧ PairTo s most p ok i (n, q, b)) (fun _ iv _ => 2 - (intOf iv).toNat)
  case atStart => exact ⟨0, 0, p, ok, rfl, rfl, by omega, by omega, by omega, h'.out, Kp.of_below h0.out, by rw [World.cell?_alloc_at _ _ _ _ rfl]; rfl, by rw [World.cell?_alloc_at _ _ _ _ rfl]; rfl, PairTo.start s most p ok⟩
  case round =>
    obtain ⟨n, i, q, b, rfl, rfl, hi, hn0, hn1, hR, hK, u0, u1, hE⟩ := hrel
    have HR := Lib.hid hR
    have HK := Lib.hid hK
    have HE := Lib.hid hE
    have U0 := Lib.hid u0
    have U1 := Lib.hid u1
    obtain ⟨_, c0, c2, cf2, c3, cf3, cd, ct⟩ := hR
    unfold digF pt at cd
    unfold takeF pt at ct
    clear hK hE h' h0
    by_cases h2 : i = 2
    · subst h2
      have hz := Lib.hid (HE.out.2.2 rfl)
      go_wp2
      go_ret
      rw [← hz.out]
      exact ⟨rfl, HR.out, HK.out⟩
    by_cases h1 : i = 1
    · subst h1
      go_wp2_with fail
      refine (digit_any wr HR.out).mono ?_
      rintro e w1 ⟨rfl, rfl⟩
      cases hdg : Rd.digAt s q b
      · skip
        have HZ := Lib.hid (pairStep_no (s := s) (most := most) (u := 1) (n := n) (q := q) (b := b) (by simp [hdg])).symm
        clear hdg
        go_wp2
        go_roundw
        case rel =>
          exact ⟨n, 2, q, false, rfl, by go_num, by omega, by omega, by omega, HR.out.setOk false, HK.out.setOk _, by rw [cell_set_far (by omega)]; exact U0.out, by rw [cell_set_far (by omega)]; exact U1.out, HE.out.step (.inr ⟨rfl, HZ.out⟩)⟩
        case measure => simp [intOf]
      · obtain ⟨hok, hq, hb0, hb1⟩ := Rd.digAt_true hdg
        subst hok
        have HD := Lib.hid hdg
        have e1 := Rd.byte_lt hq
        have He1 := Lib.hid e1
        rw [e1] at hb0 hb1
        clear hdg e1
        by_cases hm : n + ((s[q].toNat : Int) - 48) ≤ most
        · have t3 : decide (n + ((s[q].toNat : Int) - 48) ≤ most) = true := by simpa using hm
          have HZ := Lib.hid (pairStep_yes (s := s) (most := most) (u := 1) (n := n) (q := q) (b := true) ⟨HD.out, by rw [He1.out]; omega⟩).symm
          clear hm
          go_wp2_with fail
          have hR2 := HR.out.setOk true
          have hK2 := HK.out.setOk (.bool true)
          have v0 : (wr.setCell ⟨B + 3, 0, none⟩ (.bool true)).cell? ⟨w.heap.size, 0, none⟩ = some (.int .i64 10) := by rw [cell_set_far (by omega)]; exact U0.out
          have v1 : (wr.setCell ⟨B + 3, 0, none⟩ (.bool true)).cell? ⟨w.heap.size, 1, none⟩ = some (.int .i64 1) := by rw [cell_set_far (by omega)]; exact U1.out
          generalize wr.setCell ⟨B + 3, 0, none⟩ (.bool true) = w2 at hR2 hK2 v0 v1 ⊢
          refine (take_any w2 hR2 hs hq (by rw [He1.out]; exact hb0)).mono ?_
          rintro e w1 ⟨rfl, hR1, hK1⟩
          rw [He1.out]
          have HR1 := Lib.hid hR1
          have HK1 := Lib.hid (hK2.trans hK1)
          have V0 := Lib.hid (IsRd.of_kp hK1 v0 (by omega) (by omega))
          have V1 := Lib.hid (IsRd.of_kp hK1 v1 (by omega) (by omega))
          clear hR1 hK1 hR2 hK2 v0 v1 c0 c2 cf2 c3 cf3 cd ct u0 u1
          go_wp2
          go_roundw
          case rel =>
            refine ⟨_, 2, q + 1, true, rfl, by go_num, by omega, by omega, by omega, HR1.out, HK1.out, V0.out, V1.out, HE.out.step ?_⟩
            rw [← He1.out]
            have HZ' := HZ.out
            rw [Int.one_mul] at HZ'; exact .inr ⟨rfl, HZ'⟩
          case measure => simp [intOf]
        · have t3 : decide (n + ((s[q].toNat : Int) - 48) ≤ most) = false := by simpa using hm
          have HZ := Lib.hid (pairStep_no (s := s) (most := most) (u := 1) (n := n) (q := q) (b := true) (by rw [He1.out]; omega)).symm
          go_wp2
          go_roundw
          case rel =>
            exact ⟨n, 2, q, false, rfl, by go_num, by omega, by omega, by omega, HR.out.setOk false, HK.out.setOk _, by rw [cell_set_far (by omega)]; exact U0.out, by rw [cell_set_far (by omega)]; exact U1.out, HE.out.step (.inr ⟨rfl, HZ.out⟩)⟩
          case measure => simp [intOf]
    · obtain rfl : i = 0 := by omega
      go_wp2_with fail
      refine (digit_any wr HR.out).mono ?_
      rintro e w1 ⟨rfl, rfl⟩
      cases hdg : Rd.digAt s q b
      · skip
        have HZ := Lib.hid (pairStep_no (s := s) (most := most) (u := 10) (n := n) (q := q) (b := b) (by simp [hdg])).symm
        clear hdg
        go_wp2
        go_roundw
        case rel =>
          exact ⟨n, 1, q, false, rfl, by go_num, by omega, by omega, by omega, HR.out.setOk false, HK.out.setOk _, by rw [cell_set_far (by omega)]; exact U0.out, by rw [cell_set_far (by omega)]; exact U1.out, HE.out.step (.inl ⟨rfl, HZ.out⟩)⟩
        case measure => simp [intOf]
      · obtain ⟨hok, hq, hb0, hb1⟩ := Rd.digAt_true hdg
        subst hok
        have HD := Lib.hid hdg
        have e1 := Rd.byte_lt hq
        have He1 := Lib.hid e1
        rw [e1] at hb0 hb1
        clear hdg e1
        by_cases hm : n + 10 * ((s[q].toNat : Int) - 48) ≤ most
        · have t3 : decide (n + 10 * ((s[q].toNat : Int) - 48) ≤ most) = true := by simpa using hm
          have HZ := Lib.hid (pairStep_yes (s := s) (most := most) (u := 10) (n := n) (q := q) (b := true) ⟨HD.out, by rw [He1.out]; omega⟩).symm
          clear hm
          go_wp2_with fail
          have hR2 := HR.out.setOk true
          have hK2 := HK.out.setOk (.bool true)
          have v0 : (wr.setCell ⟨B + 3, 0, none⟩ (.bool true)).cell? ⟨w.heap.size, 0, none⟩ = some (.int .i64 10) := by rw [cell_set_far (by omega)]; exact U0.out
          have v1 : (wr.setCell ⟨B + 3, 0, none⟩ (.bool true)).cell? ⟨w.heap.size, 1, none⟩ = some (.int .i64 1) := by rw [cell_set_far (by omega)]; exact U1.out
          generalize wr.setCell ⟨B + 3, 0, none⟩ (.bool true) = w2 at hR2 hK2 v0 v1 ⊢
          refine (take_any w2 hR2 hs hq (by rw [He1.out]; exact hb0)).mono ?_
          rintro e w1 ⟨rfl, hR1, hK1⟩
          rw [He1.out]
          have HR1 := Lib.hid hR1
          have HK1 := Lib.hid (hK2.trans hK1)
          have V0 := Lib.hid (IsRd.of_kp hK1 v0 (by omega) (by omega))
          have V1 := Lib.hid (IsRd.of_kp hK1 v1 (by omega) (by omega))
          clear hR1 hK1 hR2 hK2 v0 v1 c0 c2 cf2 c3 cf3 cd ct u0 u1
          go_wp2
          go_roundw
          case rel =>
            refine ⟨_, 1, q + 1, true, rfl, by go_num, by omega, by omega, by omega, HR1.out, HK1.out, V0.out, V1.out, HE.out.step ?_⟩
            rw [← He1.out]
            have HZ' := HZ.out
            exact .inl ⟨rfl, HZ'⟩
          case measure => simp [intOf]
        · have t3 : decide (n + 10 * ((s[q].toNat : Int) - 48) ≤ most) = false := by simpa using hm
          have HZ := Lib.hid (pairStep_no (s := s) (most := most) (u := 10) (n := n) (q := q) (b := true) (by rw [He1.out]; omega)).symm
          go_wp2
          go_roundw
          case rel =>
            exact ⟨n, 1, q, false, rfl, by go_num, by omega, by omega, by omega, HR.out.setOk false, HK.out.setOk _, by rw [cell_set_far (by omega)]; exact U0.out, by rw [cell_set_far (by omega)]; exact U1.out, HE.out.step (.inl ⟨rfl, HZ.out⟩)⟩
          case measure => simp [intOf]
end Go.Proofs.YtcdilamkkodjjaaGreatDoor

/- Forms of durations. -/
namespace Go.Proofs.YtcdilamkkodjjaaGreatDoor
open Go.RowKit Go.BigFrame

def FormOk (f : FuncId) (F : ByteArray → Int × Nat × Bool) : Prop := ∀ (B : Nat) (s : ByteArray) (w : World), IsRd w B s 0 true → s.size ≤ 1000 →
  Calls Tryz.prog f #[.agg (rdVals B)] w fun e w' => e = .returned (.int .i64 (F s).1) ∧ IsRd w' B s (F s).2.1 (F s).2.2 ∧ Kp B w w'
theorem cell_box {w : World} {vs : Array Value} {T : TypeId} (j : Nat) (v : Value) (h : vs[j]? = some v) : (w.alloc (.cells vs T)).cell? ⟨w.heap.size, j, none⟩ = some v := by
  rw [World.cell?_alloc_at _ _ _ _ rfl]; exact h
theorem IsRd.boxed {w : World} {B : Nat} {s : ByteArray} {p : Nat} {ok : Bool} (h : IsRd w B s p ok) (o : Obj) : IsRd (w.alloc o) B s p ok := h.kept ((Below.refl _ _).alloc (Nat.le_refl _) o)

def numF (B : Nat) : Value := .func (.func 99) #[] #[.pointer (some ⟨B + 4, 0, none⟩), .pointer (some ⟨B, 0, none⟩), .pointer (some ⟨B + 2, 0, none⟩), .pointer (some ⟨B + 5, 0, none⟩), .pointer (some ⟨B + 3, 0, none⟩)]
def pairF (B : Nat) : Value := .func (.func 101) #[] #[.pointer (some ⟨B + 4, 0, none⟩), .pointer (some ⟨B, 0, none⟩), .pointer (some ⟨B + 2, 0, none⟩), .pointer (some ⟨B + 3, 0, none⟩), .pointer (some ⟨B + 5, 0, none⟩)]
def exactF (B : Nat) : Value := .func (.func 102) #[] #[.pointer (some ⟨B + 3, 0, none⟩), .pointer (some ⟨B + 2, 0, none⟩), .pointer (some ⟨B, 0, none⟩)]
def oneF (B : Nat) : Value := .func (.func 103) #[] #[.pointer (some ⟨B + 3, 0, none⟩), .pointer (some ⟨B + 2, 0, none⟩), .pointer (some ⟨B, 0, none⟩)]
def digF' (B : Nat) : Value := .func (.func 96) #[] #[.pointer (some ⟨B + 3, 0, none⟩), .pointer (some ⟨B + 2, 0, none⟩), .pointer (some ⟨B, 0, none⟩)]
def placeF (B : Nat) : Value := .func (.func 108) #[] #[.pointer (some ⟨B + 2, 0, none⟩), .pointer (some ⟨B + 3, 0, none⟩), .pointer (some ⟨B, 0, none⟩)]
/-- a variable of type reader, in block C -/
structure IsBox (w : World) (C B : Nat) : Prop where
  num : w.cell? ⟨C, 0, none⟩ = some (numF B)
  pair : w.cell? ⟨C, 2, none⟩ = some (pairF B)
  exact_ : w.cell? ⟨C, 3, none⟩ = some (exactF B)
  one : w.cell? ⟨C, 4, none⟩ = some (oneF B)
  dig : w.cell? ⟨C, 7, none⟩ = some (digF' B)
  place : w.cell? ⟨C, 8, none⟩ = some (placeF B)
theorem isBox_new (w : World) (B : Nat) (T : TypeId) : IsBox (w.alloc (.cells (rdVals B) T)) w.heap.size B :=
  ⟨cell_box 0 _ rfl, cell_box 2 _ rfl, cell_box 3 _ rfl, cell_box 4 _ rfl, cell_box 7 _ rfl, cell_box 8 _ rfl⟩
theorem IsBox.kp {w w' : World} {C B : Nat} (h : IsBox w C B) (hk : Kp B w w') (hC : B + 4 ≤ C) : IsBox w' C B :=
  ⟨IsRd.of_kp hk h.num (by omega) (by omega), IsRd.of_kp hk h.pair (by omega) (by omega), IsRd.of_kp hk h.exact_ (by omega) (by omega), IsRd.of_kp hk h.one (by omega) (by omega), IsRd.of_kp hk h.dig (by omega) (by omega), IsRd.of_kp hk h.place (by omega) (by omega)⟩

set_option maxHeartbeats 1000000 in
set_option maxRecDepth 100000 in
theorem short_form : FormOk 51 Rd.shortF := by
  intro B s w h hs
  have hsz := h.size
  have hR0 := h.boxed (.cells (rdVals B) 50)
  have hK0 := (Kp.refl B w).alloc (.cells (rdVals B) 50)
  have hX := isBox_new w B 50
  have HX := Lib.hid hX
  have k0 := hX.num
  unfold numF at k0
  clear hX
  have hnum := Lib.hid (fun w (h : IsRd w B s 0 true) => number_any 2 0 59 w h (by omega) (by omega))
  generalize hm : Rd.numAt s 2 0 59 true 0 = m at hnum
  have hv : 0 ≤ m.1 ∧ m.1 ≤ 59 := by
    have := Rd.numLoop_val s 2 0 59 true 2 0 0 0 (by omega) (by omega)
    rw [← hm]; unfold Rd.numAt; omega
  have hex := Lib.hid (fun w (h : IsRd w B s m.2.2 (Rd.numOk 0 true m)) => exact_any Rd.colon w h (by omega) (by decide))
  generalize hc : Rd.exactAt s Rd.colon m.2.2 (Rd.numOk 0 true m) = c at hex
  have hpr := Lib.hid (fun w (h : IsRd w B s c.1 c.2) => pair_any 59 w h (by omega))
  have hx := Rd.pairAt_val s (most := 59) c.1 c.2 (by omega)
  generalize hxx : Rd.pairAt s 59 c.1 c.2 = x at hpr hx
  have hF : Rd.shortF s = (60 * m.1 + x.1, x.2.1, x.2.2) := by unfold Rd.shortF; simp only [hm, hc, hxx]
  rw [hF]
  have v0 := hv.1
  have v1 := hv.2
  have x0 := hx.1
  have x1 := hx.2
  clear hF hm hc hxx hv hx
  generalize hn1 : m.1 = mv at *
  generalize hn2 : x.1 = xv at *
  have hK0' := Lib.hid hK0
  have hR0' := Lib.hid hR0
  clear hK0 hR0 h hn1 hn2
  go_enter Tryz.func51, Tryz.ntmps51
  go_wp2_with fail
  refine (hnum.out _ hR0'.out).mono ?_
  rintro e w1 ⟨rfl, hR1, hK1⟩
  have HX1 := Lib.hid (HX.out.kp hK1 (by omega))
  have k3 := HX1.out.exact_
  unfold exactF at k3
  have HR1 := Lib.hid hR1
  have HK1 := Lib.hid (hK0'.out.trans hK1)
  clear hR1 hK1 k0 HX
  go_wp2_with fail
  refine (hex.out _ HR1.out).mono ?_
  rintro e w2 ⟨rfl, hR2, hK2⟩
  have HX2 := Lib.hid (HX1.out.kp hK2 (by omega))
  have k2 := HX2.out.pair
  unfold pairF at k2
  have HR2 := Lib.hid hR2
  have HK2 := Lib.hid (HK1.out.trans hK2)
  clear hR2 hK2 k3 HX1
  go_wp2_with fail
  refine (hpr.out _ HR2.out).mono ?_
  rintro e w3 ⟨rfl, hR3, hK3⟩
  have HR3 := Lib.hid hR3
  have HK3 := Lib.hid (HK2.out.trans hK3)
  clear hR3 hK3 k2
  go_wp2
  go_ret
  exact ⟨rfl, HR3.out, HK3.out⟩
end Go.Proofs.YtcdilamkkodjjaaGreatDoor

/- The reader's row of digits. -/
namespace Go.Proofs.YtcdilamkkodjjaaGreatDoor
open Go.RowKit Go.BigFrame

theorem rowEnd {B : Nat} {s : ByteArray} {p : Nat} {ok : Bool} {most least : Nat} {w wr : World} {n : Int} {k q : Nat} (b : Bool) (hR : IsRd wr B s q ok) (hK : Kp B w wr)
    (hX : Rd.rowAt s most ok p = (n, k, q)) (hb : (ok && decide (least ≤ k)) = b) :
    Ending.returned (.tuple #[.int .i64 n, .int .i64 k]) = .returned (.tuple #[.int .i64 (Rd.rowAt s most ok p).1, .int .i64 ((Rd.rowAt s most ok p).2.1 : Nat)]) ∧
      IsRd (wr.setCell ⟨B + 3, 0, none⟩ (.bool b)) B s (Rd.rowAt s most ok p).2.2 (ok && decide (least ≤ (Rd.rowAt s most ok p).2.1)) ∧ Kp B w (wr.setCell ⟨B + 3, 0, none⟩ (.bool b)) := by
  rw [hX]
  refine ⟨rfl, ?_, hK.setOk _⟩
  show IsRd _ B s q (ok && decide (least ≤ k))
  rw [hb]; exact hR.setOk b
set_option maxHeartbeats 2000000 in
set_option maxRecDepth 100000 in
theorem row_any {B : Nat} {s : ByteArray} {p : Nat} {ok : Bool} (least most : Nat) (w : World) (h : IsRd w B s p ok) (hs : s.size ≤ 9223372036854775807) (hd : most ≤ 17) :
    Calls Tryz.prog 100 #[.int .i64 least, .int .i64 most, pt (B + 4), pt (B + 5), pt (B + 3)] w fun e w' =>
      e = .returned (.tuple #[.int .i64 (Rd.rowAt s most ok p).1, .int .i64 ((Rd.rowAt s most ok p).2.1 : Nat)]) ∧ IsRd w' B s (Rd.rowAt s most ok p).2.2 (ok && decide (least ≤ (Rd.rowAt s most ok p).2.1)) ∧ Kp B w w' := by
  have h' := Lib.hid h
  clear h
  unfold pt
  go_enter Tryz.func100, Tryz.ntmps100
  go_wp2_with fail
  go_loopw [7, 8] (fun n m wr => ∃ (nn : Int) (k q : Nat), n = .int .i64 nn ∧ m = .int .i64 k ∧ k ≤ most ∧ 0 ≤ nn ∧ Hid (nn < 10 ^ k) ∧ Hid (IsRd wr B s q ok) ∧ Hid (Kp B w wr) ∧
      Hid (Rd.rowLoop s most ok (most - k) nn k q = Rd.rowAt s most ok p)) (fun _ m _ => most - (intOf m).toNat)
  case atStart => exact ⟨0, 0, p, rfl, rfl, by omega, by omega, Lib.hid (by decide), h', Lib.hid (Kp.refl _ _), Lib.hid rfl⟩
  case round =>
    obtain ⟨n, k, q, rfl, rfl, hk, hn0, HN, HR, HK, HF⟩ := hrel
    obtain ⟨_, c0, c2, cf2, c3, cf3, cd, ct⟩ := HR.out
    unfold digF pt at cd
    unfold takeF pt at ct
    clear h'
    by_cases hkd : k < most
    case neg =>
      have t1 : decide ((k : Int) < (most : Int)) = false := by rw [decide_eq_false_iff_not]; omega
      have t1' : decide (k < most) = false := by simpa using hkd
      have HX := Lib.hid (HF.out.symm.trans (Rd.rowLoop_stop (by simp [hkd])))
      clear HF
      cases ok
      · go_wp2
        go_ret2
        exact rowEnd false HR.out HK.out HX.out rfl
      · obtain ⟨bl, hbl⟩ : ∃ x, decide (least ≤ k) = x := ⟨_, rfl⟩
        have l1 : decide ((least : Int) ≤ (k : Int)) = bl := by
          rw [← hbl]
          by_cases e : least ≤ k
          · rw [decide_eq_true e, decide_eq_true_eq]; omega
          · rw [decide_eq_false e, decide_eq_false_iff_not]; omega
        cases bl
        all_goals
          go_wp2
          go_ret2
          exact rowEnd _ HR.out HK.out HX.out (by rw [hbl]; rfl)
    case pos =>
      have t1 : decide ((k : Int) < (most : Int)) = true := by rw [decide_eq_true_eq]; omega
      have t1' : decide (k < most) = true := by simpa using hkd
      cases hdg : Rd.digAt s q ok
      case false =>
        have HX := Lib.hid (HF.out.symm.trans (Rd.rowLoop_stop (by simp [hdg])))
        have DG := Lib.hid (digit_any wr HR.out)
        rw [hdg] at DG
        clear HF hdg
        go_wp2_with fail
        refine DG.out.mono ?_
        rintro e w1 ⟨rfl, rfl⟩
        cases ok
        · go_wp2
          go_ret2
          exact rowEnd false HR.out HK.out HX.out rfl
        · obtain ⟨bl, hbl⟩ : ∃ x, decide (least ≤ k) = x := ⟨_, rfl⟩
          have l1 : decide ((least : Int) ≤ (k : Int)) = bl := by
            rw [← hbl]
            by_cases e : least ≤ k
            · rw [decide_eq_true e, decide_eq_true_eq]; omega
            · rw [decide_eq_false e, decide_eq_false_iff_not]; omega
          cases bl
          all_goals
            go_wp2
            go_ret2
            exact rowEnd _ HR.out HK.out HX.out (by rw [hbl]; rfl)
      case true =>
        obtain ⟨hok, hq, hb0, hb1⟩ := Rd.digAt_true hdg
        subst hok
        have DG := Lib.hid (digit_any wr HR.out)
        rw [hdg] at DG
        have HD := Lib.hid hdg
        have DT := Lib.hid (fun (W : World) (h : IsRd W B s q true) => take_any W h hs hq hb0)
        have hn9 : n ≤ 99999999999999999 := by
          have h1 := HN.out
          have h2 : (10 : Int) ^ k ≤ 10 ^ 17 := by exact_mod_cast Nat.pow_le_pow_right (show 0 < 10 by omega) (show k ≤ 17 by omega)
          have h3 : (10 : Int) ^ 17 = 100000000000000000 := by decide
          omega
        obtain ⟨d, hdd⟩ : ∃ d : Int, (Rd.byte s q : Int) - 48 = d := ⟨_, rfl⟩
        have hd0 : 0 ≤ d ∧ d ≤ 9 := by omega
        have HST := Lib.hid (show Rd.rowLoop s most true (most - (k + 1)) (10 * n + d) (k + 1) (q + 1) = Rd.rowAt s most true p by
          rw [← HF.out, show most - k = (most - (k + 1)) + 1 by omega, ← hdd]
          conv => rhs; rw [Rd.rowLoop]
          rw [if_pos ⟨hkd, hdg⟩])
        rw [hdd] at DT
        clear hdg HF hdd hb0 hb1
        go_wp2_with fail
        refine DG.out.mono ?_
        rintro e w1 ⟨rfl, rfl⟩
        go_wp2_with fail
        refine (DT.out _ HR.out).mono ?_
        rintro e w2 ⟨rfl, hR1, hK1⟩
        have HR1 := Lib.hid hR1
        have HK1 := Lib.hid (HK.out.trans hK1)
        clear hR1 hK1
        go_wp2
        go_roundw
        case rel =>
          refine ⟨10 * n + d, k + 1, q + 1, rfl, by go_num, by omega, by omega, Lib.hid ?_, HR1, HK1, HST⟩
          have := HN.out
          rw [Int.pow_succ]; omega
        case measure => simp [intOf]; omega
end Go.Proofs.YtcdilamkkodjjaaGreatDoor

/- Small lemmas on memory: what a world keeps. -/
namespace Go.Proofs.YtcdilamkkodjjaaGreatDoor
open Go.RowKit

theorem below_cell {w w' : World} {p : Addr} {v : Value} (hb : Below w.heap.size w w') (h : w.cell? p = some v) : w'.cell? p = some v :=
  (hb.cell (World.block_lt_of_cell? w p h)).trans h
theorem below_al (w : World) (o : Obj) : Below w.heap.size w (w.alloc o) := (Below.refl _ _).alloc (Nat.le_refl _) _
theorem below_ad (w : World) (o : Obj) (n : Nat) : Below w.heap.size w ((w.alloc o).drewN n) := below_drewN (below_al w o) n
/-- two steps, each of which keeps all that was there -/
theorem below_tr {B : Nat} {a b c : World} (h : Below B a b) (hB : B ≤ b.heap.size) (k : Below b.heap.size b c) : Below B a c := h.trans (k.mono hB)
theorem below_step {a b c : World} (h : Below a.heap.size a b) (k : Below b.heap.size b c) : Below a.heap.size a c := h.trans (k.mono h.size)
end Go.Proofs.YtcdilamkkodjjaaGreatDoor

/- A region that draws its order, whose operations only read, but whose callees may make memory: one walk in the order of the text (the kit's law wp_region_quiet at the class 'all that was there is as it was'). -/
namespace Go.Proofs.YtcdilamkkodjjaaGreatDoor
open Go.RowKit Go.BigFrame

/-- a world in which all that was there is as it was -/
def Ext (W : World) : Type := { w : World // Below W.heap.size W w }
instance (W : World) : Nonempty (Ext W) := ⟨⟨W, Below.refl _ _⟩⟩
theorem Ext.ex {W : World} {p : Addr} {v : Value} (h : W.cell? p = some v) : ∀ X : Ext W, X.1.cell? p = some v := fun X => below_cell X.2 h
theorem Ext.exa {W : World} {p : Addr} {v : Value} (e : ∀ X : Ext W, X.1.cell? p = some v) : ∀ (X : Ext W) (o : Obj), (X.1.alloc o).cell? p = some v := fun X o => below_cell (below_al _ o) (e X)
theorem Ext.calls {P : Program} {W : World} {f : FuncId} {args : Array Value} {v : Value} (X : Ext W) (h : Calls P f args X.1 fun e w' => e = .returned v ∧ Below X.1.heap.size X.1 w') : Calls P f args X.1 fun e w'' => e = .returned v ∧ ∃ Y : Ext W, w'' = Y.1 :=
  h.mono fun _ w'' ⟨he, hb⟩ => ⟨he, ⟨w'', below_step X.2 hb⟩, rfl⟩
theorem Ext.same {P : Program} {W : World} {f : FuncId} {args : Array Value} {v : Value} (X : Ext W) (h : Calls P f args X.1 fun e w' => e = .returned v ∧ X.1 = w') : Calls P f args X.1 fun e w'' => e = .returned v ∧ ∃ Y : Ext W, w'' = Y.1 :=
  h.mono fun _ _ ⟨he, hb⟩ => ⟨he, X, hb.symm⟩
theorem wp_region_ext {P : Program} {id : Nat} {Q : Exit → Act → World → Prop} {a : Act} {W : World} (X : Ext W) {l : List Oper} (hm : P.follows .mixedOrders = true) (hB : Region.lexB .any l.toArray = true)
    (h : wpQuiet P l.toArray (fun w' => ∃ Y : Ext W, w' = Y.1) (fun a' => ∀ w', (∃ Y : Ext W, w' = Y.1) → Q .normal a' w') l a) : (Code.region id l.toArray true).wp P Q a X.1 :=
  wp_region_quiet (C := fun w' => ∃ Y : Ext W, w' = Y.1) hm hB ⟨⟨{ X.1 with drawn := X.1.drawn + 1 }, below_step X.2 ⟨rfl, rfl, rfl, Nat.le_refl _, fun _ _ => rfl⟩⟩, rfl⟩ (by simpa using h)
/-- the world behind an allocation of cells, under one name -/
theorem alloc_cells (w : World) (cs : Array Value) (T : TypeId) : ∃ W, w.alloc (.cells cs T) = W ∧ Below w.heap.size w W ∧ W.heap.size = w.heap.size + 1 ∧ ∀ i v, cs[i]? = some v → W.cell? ⟨w.heap.size, i, none⟩ = some v :=
  ⟨_, rfl, below_al _ _, by simp, fun i v h => by rw [World.cell?_alloc_at _ _ _ _ rfl, h]⟩
/-- go on in an arbitrary later world -/
theorem ext_wp {P : Program} {c : Code} {Q : Exit → Act → World → Prop} {a : Act} {W : World} (h : ∀ X : Ext W, c.wp P Q a X.1) : c.wp P Q a W := h ⟨W, Below.refl _ _⟩
theorem ext_calls {P : Program} {f : FuncId} {args : Array Value} {R : Ending → World → Prop} {W : World} (h : ∀ X : Ext W, Calls P f args X.1 R) : Calls P f args W R := h ⟨W, Below.refl _ _⟩
theorem Ext.down {W : World} (X : Ext W) {B : Nat} {w : World} (h : Below B w W) (hB : B ≤ W.heap.size) : Below B w X.1 := h.trans (X.2.mono hB)
/-- a later base -/
theorem Ext.re {W W' : World} (h : Below W.heap.size W W') {p : Addr} {v : Value} (e : ∀ X : Ext W, X.1.cell? p = some v) : ∀ X : Ext W', X.1.cell? p = some v := fun X => e ⟨X.1, below_step h X.2⟩
end Go.Proofs.YtcdilamkkodjjaaGreatDoor

/- Slices of structs of one-cell fields that came in: how they read (any program). -/
namespace Go.Proofs.YtcdilamkkodjjaaGreatDoor
open Go.RowKit Go.ChangeShapes Go.WideShapes Go.Deep

/-- a slice of structs of k one-cell fields, as it lies in memory: element i has the cells V i -/
structure RowK (w : World) (a : Option Addr) (len k : Nat) (V : Nat → List Value) : Prop where
  here : 0 < len → ∃ b off, a = some ⟨b, off, none⟩ ∧ b < w.heap.size ∧ ∀ i, i < len → ∀ j, j < k → w.cell? ⟨b, off + i * k + j, none⟩ = (V i)[j]?
theorem RowK.below {w w' : World} {a : Option Addr} {len k B : Nat} {V : Nat → List Value} (h : RowK w a len k V) (hb : Below B w w') (hB : w.heap.size ≤ B) : RowK w' a len k V := by
  refine ⟨fun hl => ?_⟩
  obtain ⟨b, off, rfl, hlt, hc⟩ := h.here hl
  exact ⟨b, off, rfl, Nat.lt_of_lt_of_le hlt hb.size, fun i hi j hj => (hb.cell (p := ⟨b, off + i * k + j, none⟩) (Nat.lt_of_lt_of_le hlt hB)).trans (hc i hi j hj)⟩

theorem RowK.at {w : World} {b off len k : Nat} {V : Nat → List Value} (h : RowK w (some ⟨b, off, none⟩) len k V) {i j : Nat} (hi : i < len) (hj : j < k) : w.cell? ⟨b, off + i * k + j, none⟩ = (V i)[j]? := by
  obtain ⟨b', off', he, _, hc⟩ := h.here (by omega)
  injection he with he
  injection he with h1 h2
  subst h1
  subst h2
  exact hc i hi j hj

section
variable {H : Type} {enc : TypeId × Value → H} {P : Program} {w : World} {base : Nat}
theorem open_rowK {t e : TypeId} {fs : Array Field} {fuel : Nat} {v : Value} {x : DataW H × List MemPlace} (ht : P.underlying t = some (.slice e)) (he : P.underlying e = some (.struct fs)) (hC : P.cellsOf e = fs.size) (hfs : 0 < fs.size)
    (hone : ∀ (i : Nat) (f : Field), fs[i]? = some f → f.offset = i ∧ P.cellsOf f.type = 1) (h : DataW.trod enc P w base (fun _ => true) true fuel t [v] = some x) :
    ∃ (a : Option Addr) (len cap : Nat) (V : Nat → List Value), v = .slice a len cap ∧ len ≤ cap ∧ cap ≤ maxLen ∧ RowK w a len fs.size V ∧
      ∀ i, i < len → (V i).length = fs.size ∧ ∀ (j : Nat) (f : Field), fs[j]? = some f → ∃ u n y, (V i)[j]? = some u ∧ DataW.trod enc P w base (fun _ => true) true n f.type [u] = some y := by
  rcases open_slice ht h with ⟨hc, _⟩ | ⟨a, len, cap, m, n, D, Pl, hc, _, hl, hm, hmm, _, hx⟩
  · simp only [List.cons.injEq, and_true] at hc
    exact ⟨none, 0, 0, fun _ => [], hc, Nat.le_refl _, Nat.zero_le _, ⟨fun h => absurd h (by omega)⟩, fun i hi => absurd hi (by omega)⟩
  · simp only [List.cons.injEq, and_true] at hc
    simp only [if_true] at hmm
    subst hmm
    have each : ∀ i, i < m → ∃ cs : List Value, cs.length = fs.size ∧ (∀ j, j < fs.size → w.cell? (a.add (i * fs.size + j)) = cs[j]?) ∧ ∀ (j : Nat) (f : Field), fs[j]? = some f → ∃ u n y, cs[j]? = some u ∧ DataW.trod enc P w base (fun _ => true) true n f.type [u] = some y := by
      intro i hi
      obtain ⟨cs, h1, h2⟩ := hx i hi
      rw [hC] at h1
      obtain ⟨_, hlen, hcell⟩ := World.cells?_some h1
      obtain ⟨xs, k, _, _, _, hxl, hf⟩ := DataW.trod_struct he h2
      refine ⟨cs, hlen, fun j hj => by rw [← add_add]; exact hcell j (by omega), fun j f hj => ?_⟩
      obtain ⟨o1, o2⟩ := hone j f hj
      have g := hf j f hj
      rw [o1, o2] at g
      have hjl : j < cs.length := by
        rw [hlen]
        exact (Array.getElem?_eq_some_iff.1 hj).1
      have hjx : j < xs.length := by rw [hxl]; rw [hlen] at hjl; exact hjl
      have e1 : (cs.drop j).take 1 = [cs[j]] := by rw [List.drop_eq_getElem_cons hjl]; rfl
      rw [e1, List.getElem?_eq_getElem hjx] at g
      exact ⟨cs[j], k, xs[j], List.getElem?_eq_getElem hjl, g⟩
    obtain ⟨V, hV⟩ := choose_lt each
    refine ⟨some a, len, m, V, hc, hl, hm, ⟨fun hl0 => ?_⟩, fun i hi => ⟨(hV i (by omega)).1, (hV i (by omega)).2.2⟩⟩
    obtain ⟨b, o, sp⟩ := a
    have hc0 : ∃ u, w.cell? ((⟨b, o, sp⟩ : Addr).add (0 * fs.size + 0)) = some u := by
      obtain ⟨g1, g2, g3⟩ := hV 0 (by omega)
      exact ⟨(V 0)[0]'(by omega), by rw [g2 0 hfs, List.getElem?_eq_getElem]⟩
    obtain ⟨u, hu⟩ := hc0
    have hspot : sp = none := by simpa [Addr.add] using World.cell?_spot hu
    subst hspot
    rw [Nat.zero_mul, add_plain] at hu
    refine ⟨b, o, rfl, World.block_lt_of_cell? w _ hu, fun i hi j hj => ?_⟩
    have := (hV i (by omega)).2.1 j hj
    rw [add_plain, ← Nat.add_assoc] at this
    exact this
end
end Go.Proofs.YtcdilamkkodjjaaGreatDoor

/- Worlds in which all that was there is as it was, but for some blocks of the call's own; and drawn regions walked in an order of one's own: quiet operations as soon as they may come up, the others one by one. -/
namespace Go.Proofs.YtcdilamkkodjjaaGreatDoor
open Go.RowKit Go.BigFrame

/-- all blocks but those in O are as they were -/
structure Kept (O : Nat → Prop) (w w' : World) : Prop where
  os : w'.os = w.os
  tape : w'.tape = w.tape
  output : w'.output = w.output
  size : w.heap.size ≤ w'.heap.size
  block : ∀ k, k < w.heap.size → ¬ O k → w'.heap[k]? = w.heap[k]?
theorem Kept.refl (O : Nat → Prop) (w : World) : Kept O w w := ⟨rfl, rfl, rfl, Nat.le_refl _, fun _ _ _ => rfl⟩
theorem Kept.trans {O : Nat → Prop} {a b c : World} (h : Kept O a b) (k : Kept O b c) : Kept O a c :=
  ⟨k.os.trans h.os, k.tape.trans h.tape, k.output.trans h.output, Nat.le_trans h.size k.size, fun i hi ho => (k.block i (Nat.lt_of_lt_of_le hi h.size) ho).trans (h.block i hi ho)⟩
theorem Kept.of_below {O : Nat → Prop} {a b : World} (h : Below a.heap.size a b) : Kept O a b := ⟨h.os, h.tape, h.output, h.size, fun k hk _ => h.block k hk⟩
theorem Kept.of_grown {O : Nat → Prop} {a b : World} {row : Option Nat} (h : a.grownBy b row) (hr : ∀ g, row = some g → g < a.heap.size → O g) : Kept O a b :=
  ⟨h.os, h.tape, h.output, h.size, fun k hk ho => h.block k hk (fun e => ho (hr k e.symm hk))⟩
theorem Kept.cell {O : Nat → Prop} {w w' : World} {p : Addr} {v : Value} (h : Kept O w w') (ho : ¬ O p.block) (hc : w.cell? p = some v) : w'.cell? p = some v :=
  (World.cell?_of_block (h.block p.block (World.block_lt_of_cell? w p hc) ho)).trans hc
theorem Kept.grown {O : Nat → Prop} {a b c : World} (h : Kept O a b) {row : Option Nat} (hg : b.grownBy c row) (hr : ∀ g, row = some g → g < a.heap.size → O g) : Kept O a c :=
  ⟨hg.os.trans h.os, hg.tape.trans h.tape, hg.output.trans h.output, Nat.le_trans h.size hg.size, fun k hk ho => (hg.block k (Nat.lt_of_lt_of_le hk h.size) (fun e => ho (hr k e.symm hk))).trans (h.block k hk ho)⟩
/-- below the base of the call, nothing has turned -/
theorem Kept.below {O : Nat → Prop} {B : Nat} {w a b : World} (hb : Below B w a) (h : Kept O a b) (hB : B ≤ a.heap.size) (hO : ∀ k, k < B → ¬ O k) : Below B w b :=
  hb.trans ⟨h.os, h.tape, h.output, h.size, fun k hk => h.block k (Nat.lt_of_lt_of_le hk hB) (hO k hk)⟩
theorem Kept.row {O : Nat → Prop} {w w' : World} {a : Option Addr} {len k : Nat} {V : Nat → List Value} (h : RowK w a len k V) (hk : Kept O w w') (hO : ∀ b off, a = some ⟨b, off, none⟩ → ¬ O b) : RowK w' a len k V := by
  refine ⟨fun hl => ?_⟩
  obtain ⟨b, off, rfl, hlt, hc⟩ := h.here hl
  exact ⟨b, off, rfl, Nat.lt_of_lt_of_le hlt hk.size, fun i hi j hj => (World.cell?_of_block (hk.block b hlt (hO _ _ rfl))).trans (hc i hi j hj)⟩
def ExtO (O : Nat → Prop) (W : World) : Type := { w : World // Kept O W w }
instance (O : Nat → Prop) (W : World) : Nonempty (ExtO O W) := ⟨⟨W, Kept.refl _ _⟩⟩
section
variable {O : Nat → Prop} {W : World}
theorem ExtO.ex {p : Addr} {v : Value} (ho : ¬ O p.block) (h : W.cell? p = some v) : ∀ X : ExtO O W, X.1.cell? p = some v := fun X => X.2.cell ho h
theorem ExtO.exa {p : Addr} {v : Value} (e : ∀ X : ExtO O W, X.1.cell? p = some v) : ∀ (X : ExtO O W) (o : Obj), (X.1.alloc o).cell? p = some v := fun X o => below_cell (below_al _ o) (e X)
theorem ExtO.re {W' : World} (h : Kept O W W') {p : Addr} {v : Value} (e : ∀ X : ExtO O W, X.1.cell? p = some v) : ∀ X : ExtO O W', X.1.cell? p = some v := fun X => e ⟨X.1, h.trans X.2⟩
theorem ExtO.calls {P : Program} {f : FuncId} {args : Array Value} {v : Value} (X : ExtO O W) (h : Calls P f args X.1 fun e w' => e = .returned v ∧ Below X.1.heap.size X.1 w') : Calls P f args X.1 fun e w'' => e = .returned v ∧ ∃ Y : ExtO O W, w'' = Y.1 :=
  h.mono fun _ w' ⟨he, hb⟩ => ⟨he, ⟨w', X.2.trans (Kept.of_below hb)⟩, rfl⟩
theorem ExtO.same {P : Program} {f : FuncId} {args : Array Value} {v : Value} (X : ExtO O W) (h : Calls P f args X.1 fun e w' => e = .returned v ∧ X.1 = w') : Calls P f args X.1 fun e w'' => e = .returned v ∧ ∃ Y : ExtO O W, w'' = Y.1 :=
  h.mono fun _ _ ⟨he, hb⟩ => ⟨he, X, hb.symm⟩
/-- go on in an arbitrary later world -/
theorem extO_wp {P : Program} {c : Code} {Q : Exit → Act → World → Prop} {a : Act} (h : ∀ X : ExtO O W, c.wp P Q a X.1) : c.wp P Q a W := h ⟨W, Kept.refl _ _⟩
theorem extO_calls {P : Program} {f : FuncId} {args : Array Value} {R : Ending → World → Prop} (h : ∀ X : ExtO O W, Calls P f args X.1 R) : Calls P f args W R := h ⟨W, Kept.refl _ _⟩
theorem ExtO.down (X : ExtO O W) {B : Nat} {w : World} (h : Below B w W) (hB : B ≤ W.heap.size) (hO : ∀ k, k < B → ¬ O k) : Below B w X.1 := Kept.below h X.2 hB hO
theorem wp_region_extO {P : Program} {id : Nat} {Q : Exit → Act → World → Prop} {a : Act} (X : ExtO O W) {l : List Oper} (hm : P.follows .mixedOrders = true) (hB : Region.lexB .any l.toArray = true)
    (h : wpQuiet P l.toArray (fun w' => ∃ Y : ExtO O W, w' = Y.1) (fun a' => ∀ w', (∃ Y : ExtO O W, w' = Y.1) → Q .normal a' w') l a) : (Code.region id l.toArray true).wp P Q a X.1 :=
  wp_region_quiet (C := fun w' => ∃ Y : ExtO O W, w' = Y.1) hm hB ⟨⟨{ X.1 with drawn := X.1.drawn + 1 }, X.2.trans ⟨rfl, rfl, rfl, Nat.le_refl _, fun _ _ _ => rfl⟩⟩, rfl⟩ (by simpa using h)
end

/-- operations that yield a value and do nothing else -/
def isCalm : Op → Bool
  | .move _ | .assign _ | .pick .. | .build .. | .load .. | .binOp .. | .unOp .. | .fieldAddr .. | .field .. | .indexAddr .. | .index .. | .lookup .. | .extract .. | .slice .. => true
  | _ => false
theorem run_val {α : Type} {P : Program} {s : Sem α} (f : α → Value) {w w' : World} {n : Next} (h : (do pure (Next.value (f (← s))) : Sem Next).run P w = .ok n w') : ∃ x, n = .value x := by
  rw [Sem.run_bind] at h
  cases hs : s.run P w with
  | ok x w1 => rw [hs] at h; simp at h; exact ⟨f x, h.1.symm⟩
  | halt e w1 => rw [hs] at h; simp at h
theorem calm_value {P : Program} {o : Oper} {ρ : Operand → Value} {w w' : World} {n : Next} (hc : isCalm o.op = true) (h : (execOp ρ o).run P w = .ok n w') : ∃ x, n = .value x := by
  obtain ⟨dst, op, type, pos, after, guard⟩ := o
  cases op <;> first | (simp [isCalm] at hc; done) | (simp only [execOp] at h; first | exact run_val (fun x => x) h | exact run_val (fun b : Bool => if b then _ else _) h | (simp at h; exact ⟨_, h.1.symm⟩))
section
variable {P : Program} {ops : Array Oper} {Q : Exit → Act → World → Prop} {C : World → Prop}
theorem yieldsIf_of_quiet {o : Oper} {a : Act} {v : Value} (hc : isCalm o.op = true) (hw : Region.wanted o (yielded ops a.tmps) = true) (h : ∀ w, C w → o.quietAt P a C w v) : YieldsIf P ops C o v a := by
  refine Or.inl ⟨hw, fun w hC => ?_⟩
  have h1 := h w hC
  unfold Oper.quietAt at h1
  cases hr : (execOp a.eval o).run P w with
  | ok n w' =>
    rw [hr] at h1
    obtain ⟨x, rfl⟩ := calm_value hc hr
    simp only [Oper.quietUpon] at h1
    rw [h1.1, h1.2]
  | halt e w' => rw [hr] at h1; simp [Oper.quietUpon] at h1
/-- may these come up now, one behind the other, and is each apart from all that could come before it? -/
def calmB (ops : Array Oper) : List Nat → Array Bool → Bool
  | [], _ => true
  | i :: is, listed => ((ops[i]?).map fun o => isCalm o.op).getD false && Region.free .any ops listed i && (Region.ready .any ops listed).contains i && calmB ops is (listed.setIfInBounds i true)
def listAll (is : List Nat) (listed : Array Bool) : Array Bool := is.foldl (fun l i => l.setIfInBounds i true) listed
theorem held_calm (hsel : Region.noSelect ops = true) (hQ : ∀ c a d v w, Q (.panic c) (Act.put a d v) w → Q (.panic c) a w) {w : World} (hC : C w) : ∀ (is : List Nat) (fuel : Nat) (listed : Array Bool) (a : Act),
    calmB ops is listed = true → wpQuiet P ops C (fun a' => wpAnyH P .any ops Q C fuel (listAll is listed) a' w) (is.filterMap fun i => ops[i]?) a → wpAnyH P .any ops Q C (fuel + is.length) listed a w
  | [], _, _, _, _, h => h
  | i :: is, fuel, listed, a, hB, h => by
    simp only [calmB, Bool.and_eq_true] at hB
    obtain ⟨⟨⟨h1, h2⟩, h3⟩, h4⟩ := hB
    cases ho : ops[i]? with
    | none => rw [ho] at h1; simp at h1
    | some o =>
      rw [ho] at h1
      simp only [Option.map_some, Option.getD_some] at h1
      rw [List.filterMap_cons, ho] at h
      simp only [wpQuiet] at h
      have e : fuel + (i :: is).length = (fuel + is.length) + 1 := by simp; omega
      rw [e]
      by_cases hw : Region.wanted o (yielded ops a.tmps) = true
      · rw [if_pos hw] at h
        obtain ⟨v, hv, hn⟩ := h
        exact wpAnyH_take ho hsel h2 h3 (fun c a w => hQ c a _ _ w) (yieldsIf_of_quiet h1 hw hv) hC (held_calm hsel hQ hC is fuel _ _ h4 hn)
      · rw [if_neg hw] at h
        exact wpAnyH_take ho hsel h2 h3 (fun c a w => hQ c a _ _ w) (Or.inr ⟨by simpa using hw, rfl⟩) hC (held_calm hsel hQ hC is fuel _ _ h4 h)
/-- the i-th of a list, by looking -/
def nth : List Oper → Nat → Option Oper
  | [], _ => none
  | o :: _, 0 => some o
  | _ :: l, i + 1 => nth l i
theorem nth_eq : ∀ (l : List Oper) (i : Nat), nth l i = l.toArray[i]?
  | [], i => by simp [nth]
  | o :: l, 0 => by simp [nth]
  | o :: l, i + 1 => by
    rw [nth, nth_eq l i]
    simp
theorem held_quiet {l : List Oper} (hsel : Region.noSelect l.toArray = true) (hQ : ∀ c a d v w, Q (.panic c) (Act.put a d v) w → Q (.panic c) a w) {w : World} (hC : C w) (is : List Nat) (fuel : Nat) (listed : Array Bool) (a : Act)
    (hB : calmB l.toArray is listed = true) (h : wpQuiet P l.toArray C (fun a' => wpAnyH P .any l.toArray Q C fuel (listAll is listed) a' w) (is.filterMap (nth l)) a) : wpAnyH P .any l.toArray Q C (fuel + is.length) listed a w :=
  held_calm hsel hQ hC is fuel listed a hB (by rw [show (fun i => l.toArray[i]?) = nth l from funext fun i => (nth_eq l i).symm]; exact h)
/-- one operation that alone may come up -/
theorem held_do {l : List Oper} {i fuel : Nat} {listed : Array Bool} {a : Act} {w : World} (o : Oper) (hi : nth l i = some o) (hr : Region.ready .any l.toArray listed = [i]) (hw : Region.wanted o (yielded l.toArray a.tmps) = true)
    (h : ∀ K : Act → World → Prop, (∀ a' w', C w' → wpAnyH P .any l.toArray Q C fuel (listed.setIfInBounds i true) a' w' → K a' w') → o.wp P a w K Q) : wpAnyH P .any l.toArray Q C (fuel + 1) listed a w := by
  rw [nth_eq] at hi
  refine wpAnyH_all hr (by simp) fun j hj => ?_
  simp only [List.mem_singleton] at hj
  subst hj
  unfold wpOp
  simp only [hi, hw, if_true]
  exact Or.inl (h _ fun a' w' h1 h2 => ⟨h1, h2⟩)
theorem held_start {id : Nat} {a : Act} {w : World} {l : List Oper} (hm : P.follows .mixedOrders = true)
    (h : wpAnyH P .any l.toArray Q C l.length (Array.replicate l.length false) a { w with drawn := w.drawn + 1 }) : (Code.region id l.toArray true).wp P Q a w :=
  wp_region_held hm (by simpa using h)
end
end Go.Proofs.YtcdilamkkodjjaaGreatDoor

/- What stays of the library's variables; numbers as texts and back (contracts). -/
namespace Go.Proofs.YtcdilamkkodjjaaGreatDoor
open Go.RowKit Go.BigFrame
open Rd (sB sB_inj bt itoaB padB zeroB DigRow)

/-- what the variables of the library hold -/
structure Glo (w : World) : Prop where
  t : Lib.TabIs Tryz.prog w "internal/strconv.uint64pow10" .u64 Lib.pow10Tab
  s : ∃ tp p, w.var? Tryz.prog "strconv.ErrSyntax" = some #[.iface tp p]
  r : ∃ tp p, w.var? Tryz.prog "strconv.ErrRange" = some #[.iface tp p]
theorem var_below {w w' : World} {nm : String} {cs : Array Value} (h : w.var? Tryz.prog nm = some cs) (hb : Below w.heap.size w w') : w'.var? Tryz.prog nm = some cs := by
  unfold World.var? at h ⊢
  cases hg : Tryz.prog.globalNamed nm with
  | none => rw [hg] at h; cases h
  | some g =>
    rw [hg] at h
    simp only [Option.bind_some] at h ⊢
    have hl : g < w.heap.size := by
      rcases Nat.lt_or_ge g w.heap.size with h' | h'
      · exact h'
      · rw [Array.getElem?_eq_none h'] at h
        cases h
    rw [hb.block g hl]
    exact h
theorem Glo.below {w w' : World} (h : Glo w) (hb : Below w.heap.size w w') : Glo w' := by
  obtain ⟨t1, p1, h1⟩ := h.s
  obtain ⟨t2, p2, h2⟩ := h.r
  exact ⟨var_below h.t hb, ⟨t1, p1, var_below h1 hb⟩, ⟨t2, p2, var_below h2 hb⟩⟩
theorem below_grow (w : World) (k : Nat) (os : Array Obj) : Below w.heap.size w (Go.Sort.grow (w.drewN k) os) := by
  refine ⟨rfl, rfl, rfl, ?_, ?_⟩
  · simp [Go.Sort.grow]
  · intro i hi
    simp only [Go.Sort.grow, World.drewN]
    exact Array.getElem?_append_left hi
theorem itoa_any (n : Int) (h0 : -9223372036854775808 ≤ n) (h1 : n ≤ 9223372036854775807) (w : World) (hg : Glo w) :
    Calls Tryz.prog 21 #[.int .i64 n] w fun e w' => e = .returned (.string (itoaB n)) ∧ Below w.heap.size w w' := by
  refine (Tryz.strconv_Itoa n h0 h1 w hg.t).mono ?_
  rintro e w' ⟨rfl, k, os, rfl⟩
  exact ⟨rfl, below_grow w k os⟩
/-- Atoi at every text that is not too long -/
theorem atoi_every (s : ByteArray) (hs : s.size ≤ 1000000) (w : World) (hg : Glo w) :
    Calls Tryz.prog 138 #[.string s] w fun e w' => ∃ (n : Int) (ev : Value), e = .returned (.tuple #[.int .i64 n, ev]) ∧ Below w.heap.size w w' ∧ -9223372036854775808 ≤ n ∧ n ≤ 9223372036854775807 ∧ (∀ v, Lib.atoiAll (sB s) = .ok v → n = v) := by
  cases h : Lib.atoiAll s.data.toList
  case ok v =>
    have hb := Lib.atoiAll_bounds h
    refine (Tryz.strconv_Atoi_ok s (by omega) v h w).mono ?_
    rintro e w' ⟨rfl, hw⟩
    refine ⟨v, _, rfl, ?_, by omega, by omega, fun v' e => by rw [show sB s = s.data.toList from rfl, h] at e; injection e⟩
    rcases hw with rfl | ⟨t, rfl⟩
    · exact Below.refl _ _
    · exact Lib.bytesWorld_below _ _ _
  case range =>
    obtain ⟨tp, p, hv⟩ := hg.r
    refine (Tryz.strconv_Atoi_range_var s (by omega) h tp p w hv).mono ?_
    rintro e w' ⟨N, rfl, _, _, hb⟩
    refine ⟨_, _, rfl, hb, ?_, ?_, fun v e => by rw [show sB s = s.data.toList from rfl, h] at e; cases e⟩
    · unfold Lib.atoiSat
      split <;> omega
    · unfold Lib.atoiSat
      split <;> omega
  · obtain ⟨tp, p, hv⟩ := hg.s
    refine (Tryz.strconv_Atoi_syntax_var s (by omega) h tp p w hv).mono ?_
    rintro e w' ⟨N, rfl, _, _, hb⟩
    exact ⟨0, _, rfl, hb, by omega, by omega, fun v e => by rw [show sB s = s.data.toList from rfl, h] at e; cases e⟩
end Go.Proofs.YtcdilamkkodjjaaGreatDoor

/- An append to a row of the call's own: where the new row lies (the old block, or a new one). -/
namespace Go.Proofs.YtcdilamkkodjjaaGreatDoor
open Go.RowKit

theorem append_where {P : Program} (w : World) (base : Nat) (t ty e : TypeId) (i : TypeInfo) (z : Value) (size bytes : Nat) (ht : P.underlying t = some (.slice e)) (hi : P.info? e = some i) (hz : i.zero = some z)
    (hsize : i.size = size) (hby : i.bytes = bytes) (hsz : 0 < size) (v : Value) (n : Nat) (xs : List Value) (hown : w.ownsRow base e size v n xs)
    (a : Addr) (m c : Nat) (news : List Value) (hl : news.length = m * size) (hnews : ∀ j u, news[j]? = some u → w.cell? (a.add j) = some u) (h1 : ∀ u ∈ news, u.oneCell' = true) (hm : 0 < m)
    (h63 : n + m ≤ maxLen) (hbytes : (n + m) * bytes ≤ 140737488355328) :
    ∃ v' w', (Builtin.append_ #[t, t] ty #[v, .slice (some a) m c]).run P w = .ok v' w' ∧ (v'.ownBlock = v.ownBlock ∨ v'.ownBlock = some w.heap.size) := by
  subst hsize
  subst hby
  have hsmall : n + m ≤ 9223372036854775807 := by simp only [maxLen] at h63; omega
  rcases hown.2 with ⟨rfl, rfl⟩ | ⟨g, cap, cur, rfl, _, hg, hnc, _, hcs, _⟩
  · exact ⟨_, _, run_append_nil w t ty e i z ht hi hz a m c news hl hnews hm (by omega) (by have hb := hbytes; simp only [Nat.zero_add] at hb; omega), Or.inr rfl⟩
  · by_cases hroom : n + m ≤ cap
    · have hfit : n * i.size + news.length ≤ cur.size := by rw [hl, hcs, ← Nat.add_mul]; exact Nat.mul_le_mul_right _ hroom
      exact ⟨_, _, run_append_room w t ty e i ht hi g n cap cur hg a m c news hl hnews h1 hroom hfit, Or.inl rfl⟩
    · have holds : ∀ j u, xs[j]? = some u → w.cell? ((⟨g, 0, none⟩ : Addr).add j) = some u := hown.cells (g := g) rfl
      exact ⟨_, _, run_append_grow w t ty e i z ht hi hz ⟨g, 0, none⟩ n cap xs hown.1 holds a m c news hl hnews (by omega) (by omega) (growslice_fits (by omega) hbytes), Or.inr rfl⟩
theorem wpList_append_where {P : Program} (w : World) {ops : Array Oper} {rest : List Oper} {o : Oper} {a : Act} {Q : Exit → Act → World → Prop} (hgd : o.guard = none) (s x : Operand) (t : TypeId)
    (ho : o.op = .call { callee := .builtin .append, args := #[s, x], argTypes := #[t, t] })
    (base : Nat) (e : TypeId) (i : TypeInfo) (z : Value) (size bytes : Nat) (ht : P.underlying t = some (.slice e)) (hi : P.info? e = some i) (hz : i.zero = some z)
    (hsize : i.size = size) (hby : i.bytes = bytes) (hzs : z.cells.size = size) (hsz : 0 < size)
    (v : Value) (n : Nat) (xs : List Value) (hs : a.eval s = v) (hown : w.ownsRow base e size v n xs)
    (ad : Addr) (m c : Nat) (news : List Value) (hx : a.eval x = .slice (some ad) m c) (hm : 0 < m) (hl : news.length = m * size) (hnews : ∀ j u, news[j]? = some u → w.cell? (ad.add j) = some u) (h1 : ∀ u ∈ news, u.oneCell' = true)
    (h63 : n + m ≤ maxLen) (hbytes : (n + m) * bytes ≤ 140737488355328) (hbase : base ≤ w.heap.size)
    (h : ∀ v' w', w'.ownsRow base e size v' (n + m) (xs ++ news) → w.grownBy w' v.ownBlock → (v'.ownBlock = v.ownBlock ∨ v'.ownBlock = some w.heap.size) → wpList P ops Q rest (a.put o.dst v') w') : wpList P ops Q (o :: rest) a w := by
  refine wpList_plain hgd fun K hK => ?_
  obtain ⟨v', w', hr, h2, h3, _⟩ := run_append_own (P := P) w base t o.type e i z size bytes ht hi hz hsize hby hzs hsz v n xs hown ad m c news hl hnews h1 h63 hbytes hbase
  obtain ⟨v2, w2, hr2, h4⟩ := append_where (P := P) w base t o.type e i z size bytes ht hi hz hsize hby hsz v n xs hown ad m c news hl hnews h1 hm h63 hbytes
  rw [hr] at hr2
  injection hr2 with e1 e2
  subst e1
  unfold Oper.wp execOp
  simp only [ho, resolve, invoke, builtin, Sem.run_bind, Sem.run_pure, Result.andThen_ok, List.map_toArray, List.map_cons, List.map_nil, hs, hx, hr]
  exact hK _ _ (h v' w' h2 h3 h4)
end Go.Proofs.YtcdilamkkodjjaaGreatDoor

/- A row of a call's own in a loop that appends to it: what is kept (tools). -/
namespace Go.Proofs.YtcdilamkkodjjaaGreatDoor
open Go.RowKit Go.BigFrame

theorem ownsRow_below {W W' : World} {base e k n : Nat} {v : Value} {xs : List Value} (h : W.ownsRow base e k v n xs) (hb : Below W.heap.size W W') : W'.ownsRow base e k v n xs :=
  h.kept (row := none) ⟨hb.os, hb.tape, hb.output, hb.size, fun k hk _ => hb.block k hk⟩ (by cases v.ownBlock <;> simp)
/-- the row v, which began as v0 in the world V: whatever else was there is kept -/
structure OwnR (V wr : World) (base e k : Nat) (v0 v : Value) (n : Nat) (xs : List Value) : Prop where
  own : wr.ownsRow base e k v n xs
  kept : Kept (fun b => v0.ownBlock = some b) V wr
  lies : ∀ b, v.ownBlock = some b → v0.ownBlock = some b ∨ V.heap.size ≤ b
section
variable {V wr wr' : World} {base e k n : Nat} {v0 v : Value} {xs : List Value}
theorem OwnR.start (h : V.ownsRow base e k v n xs) : OwnR V V base e k v v n xs := ⟨h, Kept.refl _ _, fun _ h => Or.inl h⟩
theorem OwnR.below (h : OwnR V wr base e k v0 v n xs) (hb : Below wr.heap.size wr wr') : OwnR V wr' base e k v0 v n xs := ⟨ownsRow_below h.own hb, h.kept.trans (Kept.of_below hb), h.lies⟩
theorem OwnR.back {V' : World} {n' : Nat} {v' : Value} {xs' : List Value} (h : OwnR V wr base e k v0 v n xs) (hb : Below wr.heap.size wr V') (h' : OwnR V' wr' base e k v v' n' xs') : OwnR V wr' base e k v0 v' n' xs' := by
  have hs : V.heap.size ≤ V'.heap.size := Nat.le_trans h.kept.size hb.size
  refine ⟨h'.own, ⟨h'.kept.os.trans (hb.os.trans h.kept.os), h'.kept.tape.trans (hb.tape.trans h.kept.tape), h'.kept.output.trans (hb.output.trans h.kept.output), Nat.le_trans hs h'.kept.size, fun b hb1 ho => ?_⟩, fun b hb' => ?_⟩
  · have hn : ¬ v.ownBlock = some b := fun e => (h.lies b e).elim ho (fun h => by omega)
    exact (h'.kept.block b (by omega) hn).trans ((hb.block b (Nat.lt_of_lt_of_le hb1 h.kept.size)).trans (h.kept.block b hb1 ho))
  · rcases h'.lies b hb' with e | e
    · exact h.lies b e
    · exact Or.inr (by omega)
theorem OwnR.append {W2 w' : World} {v' : Value} {n' : Nat} {xs' : List Value} (h : OwnR V wr base e k v0 v n xs) (hb : Below wr.heap.size wr W2) (ho : w'.ownsRow base e k v' n' xs') (hg : W2.grownBy w' v.ownBlock) (hw : v'.ownBlock = v.ownBlock ∨ v'.ownBlock = some W2.heap.size) :
    OwnR V w' base e k v0 v' n' xs' := by
  refine ⟨ho, (h.kept.trans (Kept.of_below hb)).grown hg (fun q hq hl => (h.lies q hq).elim id (fun h => by omega)), fun b hb' => ?_⟩
  rcases hw with e | e
  · exact h.lies b (by rw [← e]; exact hb')
  · rw [e] at hb'
    injection hb' with hb'
    exact Or.inr (by have := h.kept.size; have := hb.size; omega)
theorem OwnR.down {n0 B : Nat} {xs0 : List Value} (h : OwnR V wr base e k v0 v n xs) {w : World} (hb : Below B w V) (hB : B ≤ V.heap.size) (hBb : B ≤ base) (ho : V.ownsRow base e k v0 n0 xs0) : Below B w wr :=
  Kept.below hb h.kept hB (fun b hb1 e => by have := (ho.lt b e).1; omega)
theorem OwnR.row (h : OwnR V wr base e k v0 v n xs) {a : Option Addr} {len kk : Nat} {R : Nat → List Value} (hr : RowK V a len kk R) (hn : ∀ b off, a = some ⟨b, off, none⟩ → ¬ v0.ownBlock = some b) : RowK wr a len kk R := Kept.row hr h.kept hn
theorem OwnR.cell (h : OwnR V wr base e k v0 v n xs) {p : Addr} {u : Value} (hn : ¬ v0.ownBlock = some p.block) (hc : V.cell? p = some u) : wr.cell? p = some u := h.kept.cell hn hc
end
end Go.Proofs.YtcdilamkkodjjaaGreatDoor

/- Tokens: the functions that make them; are digits the beginning of a number (reference). -/
namespace Go.Proofs.YtcdilamkkodjjaaGreatDoor
open Go.RowKit Go.BigFrame
open Rd (sB bt itoaB Tok begF)

def tokCells (t : Tok) : List Value := [.int .i64 t.kind, .string t.text, .int .i64 t.low, .int .i64 t.high, .int .i64 t.digits]
def tokV (t : Tok) : Value := .agg #[.int .i64 t.kind, .string t.text, .int .i64 t.low, .int .i64 t.high, .int .i64 t.digits]
theorem rIsDigit_any (c : Nat) (w : World) : Calls Tryz.prog 136 #[.int .u8 c] w fun e w' => e = .returned (.bool (Rd.isD c)) ∧ w = w' := by
  by_cases h : 48 ≤ c
  · have h1 : decide ((48 : Int) ≤ (c : Int)) = true := by rw [decide_eq_true_eq]; omega
    by_cases h2 : c ≤ 57
    · have h3 : decide ((c : Int) ≤ 57) = true := by rw [decide_eq_true_eq]; omega
      go_enter Tryz.func136, Tryz.ntmps136
      go_wp2
      go_ret
      exact ⟨ret_bool (by simp [Rd.isD, h, h2]), rfl⟩
    · have h3 : decide ((c : Int) ≤ 57) = false := by rw [decide_eq_false_iff_not]; omega
      go_enter Tryz.func136, Tryz.ntmps136
      go_wp2
      go_ret
      exact ⟨ret_bool (by simp [Rd.isD, h2]), rfl⟩
  · have h1 : decide ((48 : Int) ≤ (c : Int)) = false := by rw [decide_eq_false_iff_not]; omega
    go_enter Tryz.func136, Tryz.ntmps136
    go_wp2
    go_ret
    exact ⟨ret_bool (by simp [Rd.isD, h]), rfl⟩
theorem num_any (lo hi : Int) (dg : Nat) (w : World) : Calls Tryz.prog 30 #[.int .i64 lo, .int .i64 hi, .int .i64 dg] w fun e w' => e = .returned (tokV (Rd.numT lo hi dg)) ∧ Below w.heap.size w w' := by
  obtain ⟨V, hV, hbV, hsV, hcV⟩ := alloc_cells w #[.int .i64 2, .string ⟨#[]⟩, .int .i64 lo, .int .i64 hi, .int .i64 dg] 63
  have g0 := hcV 0 _ rfl
  have g1 := hcV 1 _ rfl
  have g2 := hcV 2 _ rfl
  have g3 := hcV 3 _ rfl
  have g4 := hcV 4 _ rfl
  have HV := Lib.hid hV
  have HB := Lib.hid hbV
  clear hcV hV hbV hsV
  go_enter Tryz.func30, Tryz.ntmps30
  go_wp2_with fail
  rw [HV.out]
  exact bodyPost_ret (v := .agg #[.int .i64 2, .string ⟨#[]⟩, .int .i64 lo, .int .i64 hi, .int .i64 dg]) (by simp [results, Tryz.results30, go_sem, g0, g1, g2, g3, g4]) rfl ⟨rfl, HB.out⟩
theorem lit_any (tx : ByteArray) (w : World) : Calls Tryz.prog 32 #[.string tx] w fun e w' => e = .returned (tokV (Rd.litT tx)) ∧ Below w.heap.size w w' := by
  obtain ⟨V, hV, hbV, hsV, hcV⟩ := alloc_cells w #[.int .i64 1, .string tx, .int .i64 0, .int .i64 0, .int .i64 0] 63
  have g0 := hcV 0 _ rfl
  have g1 := hcV 1 _ rfl
  have g2 := hcV 2 _ rfl
  have g3 := hcV 3 _ rfl
  have g4 := hcV 4 _ rfl
  have HV := Lib.hid hV
  have HB := Lib.hid hbV
  clear hcV hV hbV hsV
  go_enter Tryz.func32, Tryz.ntmps32
  go_wp2_with fail
  rw [HV.out]
  exact bodyPost_ret (v := .agg #[.int .i64 1, .string tx, .int .i64 0, .int .i64 0, .int .i64 0]) (by simp [results, Tryz.results32, go_sem, g0, g1, g2, g3, g4]) rfl ⟨rfl, HB.out⟩
theorem rpair_any (hi : Int) (w : World) : Calls Tryz.prog 48 #[.int .i64 hi] w fun e w' => e = .returned (tokV (Rd.pairT hi)) ∧ Below w.heap.size w w' := by
  obtain ⟨V, hV, hbV, hsV, hcV⟩ := alloc_cells w #[.int .i64 3, .string ⟨#[]⟩, .int .i64 0, .int .i64 hi, .int .i64 0] 63
  have g0 := hcV 0 _ rfl
  have g1 := hcV 1 _ rfl
  have g2 := hcV 2 _ rfl
  have g3 := hcV 3 _ rfl
  have g4 := hcV 4 _ rfl
  have HV := Lib.hid hV
  have HB := Lib.hid hbV
  clear hcV hV hbV hsV
  go_enter Tryz.func48, Tryz.ntmps48
  go_wp2_with fail
  rw [HV.out]
  exact bodyPost_ret (v := .agg #[.int .i64 3, .string ⟨#[]⟩, .int .i64 0, .int .i64 hi, .int .i64 0]) (by simp [results, Tryz.results48, go_sem, g0, g1, g2, g3, g4]) rfl ⟨rfl, HB.out⟩
theorem form_any (v : Value) (w : World) : Calls Tryz.prog 29 #[v] w fun e w' => e = .returned v ∧ w = w' := by
  go_enter Tryz.func29, Tryz.ntmps29
  go_wp2
  go_ret
  exact ⟨rfl, rfl⟩
set_option maxHeartbeats 4000000 in
set_option maxRecDepth 100000 in
/-- digits that spell n -/
theorem begins_any (t : Tok) (s : ByteArray) (n : Int) (w : World) (hg : Glo w) (h0 : 0 < s.size) (h18 : s.size ≤ 18) (hn : Lib.atoiAll (sB s) = .ok n) (hn0 : 0 ≤ n) (hlow : t.low = 0 ∨ t.low = 1) :
    Calls Tryz.prog 137 #[tokV t, .string s] w fun e w' => e = .returned (.bool (begF t.digits t.low t.high s.size (Rd.byte s 0) n)) ∧ Below w.heap.size w w' := by
  obtain ⟨kd, tx, lo, hi, dg⟩ := t
  unfold tokV
  simp only at hlow ⊢
  obtain ⟨V, hV, hbV, hsV, hcV⟩ := alloc_cells w #[.int .i64 kd, .string tx, .int .i64 lo, .int .i64 hi, .int .i64 dg] 63
  have c2 := Ext.ex (hcV 2 _ rfl)
  have c3 := Ext.ex (hcV 3 _ rfl)
  have c4 := Ext.ex (hcV 4 _ rfl)
  have DA := Lib.hid (fun (X : Ext V) => atoi_every s (by omega) X.1 (hg.below (below_step hbV X.2)))
  have END := Lib.hid (fun (X : Ext V) => below_step hbV X.2)
  have HV := Lib.hid hV
  have HN := Lib.hid hn
  have e0 := Rd.byte_lt h0
  clear hcV hV hg hn hbV
  obtain ⟨bt0, hbt⟩ : ∃ x : Bool, decide (s[0].toNat = 48) = x := ⟨_, rfl⟩
  have hbi : (((s[0].toNat : Nat) : Int) == 48) = bt0 := by
    rw [← hbt]
    by_cases e : s[0].toNat = 48
    · simp [e]
    · simp [e]; omega
  by_cases hA : dg < s.size
  · have t1 : decide ((dg : Int) < (s.size : Int)) = true := by rw [decide_eq_true_eq]; omega
    have t2 : decide (dg < s.size) = true := by simpa using hA
    go_enter Tryz.func137, Tryz.ntmps137
    go_upto_region 1 with fail
    rw [HV.out]
    refine ext_wp fun X => ?_
    have c4' := c4 X
    go_wp2_with fail
    go_ret
    refine ⟨ret_bool ?_, END.out X⟩
    unfold begF
    have : decide (s.size ≤ dg) = false := by rw [decide_eq_false_iff_not]; omega
    rw [this]; rfl
  have t1 : decide ((dg : Int) < (s.size : Int)) = false := by rw [decide_eq_false_iff_not]; omega
  have t2 : decide (dg < s.size) = false := by simpa using hA
  have B1 : decide (s.size ≤ dg) = true := by rw [decide_eq_true_eq]; omega
  have FIRST : Hid (∀ b : Bool, b = (decide (1 < s.size) && bt0) → b = true → Calls Tryz.prog 137 #[.agg #[.int .i64 kd, .string tx, .int .i64 lo, .int .i64 hi, .int .i64 dg], .string s] w fun e w' => e = .returned (.bool (begF dg lo hi s.size (Rd.byte s 0) n)) ∧ Below w.heap.size w w') := Lib.hid (by
    intro b hb hbt'
    rw [hbt', eq_comm, Bool.and_eq_true] at hb
    obtain ⟨u1, u2⟩ := hb
    have u1' : decide ((1 : Int) < (s.size : Int)) = true := by
      rw [decide_eq_true_eq] at u1 ⊢; omega
    rw [u2] at hbi hbt
    go_enter Tryz.func137, Tryz.ntmps137
    go_upto_region 1 with fail
    rw [HV.out]
    refine ext_wp fun X => ?_
    have c4' := c4 X
    go_wp2_with fail
    go_ret
    refine ⟨ret_bool ?_, END.out X⟩
    unfold begF
    rw [u1, e0, hbt, Bool.and_self, Bool.not_true, Bool.and_false]; rfl)
  obtain ⟨bz, hbz⟩ : ∃ x : Bool, x = (decide (1 < s.size) && bt0) := ⟨_, rfl⟩
  cases bz
  case true => exact FIRST.out true hbz rfl
  clear FIRST
  have B2 : (decide (1 < s.size) && decide (Rd.byte s 0 = 48)) = false := by rw [e0, hbt, ← hbz]
  have RES : begF dg lo hi s.size (Rd.byte s 0) n = (decide (n ≤ hi) && decide (lo ≤ n)) := by
    unfold begF
    rw [B1, B2]; rfl
  rw [RES]
  have u1 : decide ((1 : Int) < (s.size : Int)) = decide (1 < s.size) := by
    by_cases e : 1 < s.size
    · rw [decide_eq_true e, decide_eq_true_eq]; omega
    · rw [decide_eq_false e, decide_eq_false_iff_not]; omega
  clear RES B1 B2 e0
  obtain ⟨bs1, hbs1⟩ : ∃ x : Bool, decide (1 < s.size) = x := ⟨_, rfl⟩
  rw [hbs1] at u1 hbz
  go_enter Tryz.func137, Tryz.ntmps137
  go_upto_region 1 with fail
  rw [HV.out]
  refine ext_wp fun X => ?_
  have c4' := c4 X
  have HZ : Hid (false = (bs1 && bt0)) := Lib.hid hbz
  clear hbz
  have GO : Hid (∀ (X : Ext V), True) := Lib.hid fun _ => trivial
  cases bs1
  all_goals cases bt0
  case true.true => exact absurd HZ.out (by decide)
  all_goals
    go_upto_region 4 with (go_at_call 138; refine (DA.out X).mono ?_; rintro e w2 ⟨nn, ev, rfl, hb2, _, _, hv⟩; obtain rfl := hv n HN.out)
    obtain ⟨Y, rfl⟩ : ∃ Y : Ext V, w2 = Y.1 := ⟨⟨w2, below_step X.2 hb2⟩, rfl⟩
    clear hb2
    go_wp2_with fail
    go_loopw [7] (fun mv wr => mv = .int .i64 nn ∧ wr = Y.1) (fun _ _ => 1)
    case atStart => exact ⟨rfl, rfl⟩
    case round =>
      obtain ⟨rfl, rfl⟩ := hrel
      have c2' := c2 Y
      have c3' := c3 Y
      by_cases hH : nn ≤ hi
      · have v1 : decide (nn ≤ hi) = true := by simpa using hH
        by_cases hL : lo ≤ nn
        · have v2 : decide (lo ≤ nn) = true := by simpa using hL
          go_wp2_with fail
          go_ret
          exact ⟨ret_bool (by first | rfl | (rw [v1, v2]; rfl) | simp_all), END.out Y⟩
        · have v2 : decide (lo ≤ nn) = false := by simpa using hL
          obtain rfl : nn = 0 := by omega
          go_wp2_with fail
          go_ret
          exact ⟨ret_bool (by first | rfl | (rw [v1, v2]; rfl) | simp_all), END.out Y⟩
      · have v1 : decide (nn ≤ hi) = false := by simpa using hH
        go_wp2_with fail
        go_ret
        exact ⟨ret_bool (by first | rfl | (rw [v1]; rfl) | simp_all), END.out Y⟩
end Go.Proofs.YtcdilamkkodjjaaGreatDoor

/- A token's way along a text (reference). -/
namespace Go.Proofs.YtcdilamkkodjjaaGreatDoor
open Go.RowKit Go.BigFrame
open Rd (sB bt itoaB Tok begF numAt pairAt exactAt NumSt RowSt DigRow byte isD digAt)

/-- what run hands back -/
def RunRet (s : ByteArray) (t : Tok) (p : Nat) (w : World) (e : Ending) (w' : World) : Prop :=
  ∃ v : Int, e = .returned (.tuple #[.int .i64 (Rd.runT s t p).1, .int .i64 v, .bool (Rd.runT s t p).2.2]) ∧ ((Rd.runT s t p).2.2 = true → v = (Rd.runT s t p).2.1) ∧ Below w.heap.size w w'
theorem RunRet.mk {s : ByteArray} {t : Tok} {p : Nat} {w w' : World} {e : Ending} (q : Nat) (v : Int) (b : Bool) {u : Int} (he : e = .returned (.tuple #[.int .i64 q, .int .i64 v, .bool b])) (h : Rd.runT s t p = (q, u, b)) (hv : b = true → v = u) (hb : Below w.heap.size w w') : RunRet s t p w e w' := by
  refine ⟨v, ?_, ?_, hb⟩
  · rw [h]; exact he
  · rw [h]; exact hv
theorem dig_cases (s : ByteArray) (q : Nat) (hq : q ≤ s.size) : q = s.size ∧ digAt s q true = false ∨ (∃ h : q < s.size, isD (s[q].toNat) = false ∧ digAt s q true = false) ∨ (∃ h : q < s.size, isD (s[q].toNat) = true ∧ digAt s q true = true ∧ 48 ≤ s[q].toNat ∧ s[q].toNat ≤ 57 ∧ byte s q = s[q].toNat) := by
  unfold digAt
  rcases Nat.lt_or_ge q s.size with h | h
  · have e := Rd.byte_lt h
    cases hd : isD (s[q].toNat)
    · exact Or.inr (Or.inl ⟨h, hd, by rw [e, hd]; simp⟩)
    · have := Rd.isD_bounds hd
      exact Or.inr (Or.inr ⟨h, hd, by rw [e, hd]; simp [h], this.1, this.2, e⟩)
  · exact Or.inl ⟨by omega, by simp; omega⟩
theorem lt_b {a b : Nat} : decide ((a : Int) < (b : Int)) = decide (a < b) := by
  by_cases h : a < b
  · rw [decide_eq_true h, decide_eq_true_eq]; omega
  · rw [decide_eq_false h, decide_eq_false_iff_not]; omega
theorem eq_b {a b : Nat} : ((a : Int) == (b : Int)) = decide (a = b) := by
  by_cases h : a = b
  · simp [h]
  · rw [decide_eq_false h]; simp; omega
set_option maxHeartbeats 8000000 in
set_option maxRecDepth 100000 in
theorem runNum_any (t : Tok) (hk : t.kind = 2) (s : ByteArray) (p : Nat) (hs : s.size ≤ 1000000) (hp : p ≤ s.size) (hT : (t.low = 0 ∨ t.low = 1) ∧ 0 ≤ t.high ∧ t.high ≤ 9999999999999 ∧ t.digits ≤ 13) (w : World) (hg : Glo w) :
    Calls Tryz.prog 116 #[tokV t, .string s, .int .i64 p] w fun e w' => RunRet s t p w e w' := by
  obtain ⟨kd, tx, lo, hi, dg⟩ := t
  simp only at hk hT
  subst hk
  unfold tokV
  simp only
  obtain ⟨V, hV, hbV, hsV, hcV⟩ := alloc_cells w #[.int .i64 (2 : Nat), .string tx, .int .i64 lo, .int .i64 hi, .int .i64 dg] 63
  have hkI : ((2 : Nat) : Int) = 2 := rfl
  rw [hkI] at hV hcV ⊢
  have c0 := Ext.ex (hcV 0 _ rfl)
  have c1 := Ext.ex (hcV 1 _ rfl)
  have c2 := Ext.ex (hcV 2 _ rfl)
  have c3 := Ext.ex (hcV 3 _ rfl)
  have c4 := Ext.ex (hcV 4 _ rfl)
  have END := Lib.hid (fun (X : Ext V) => below_step hbV X.2)
  have HG := Lib.hid (fun (X : Ext V) => hg.below (below_step hbV X.2))
  have HD := Lib.hid (fun (c : Nat) (X : Ext V) => Ext.same X (rIsDigit_any c X.1))
  have HV := Lib.hid hV
  have HP := Lib.hid hp
  have HS := Lib.hid hs
  clear hcV hV hbV hg hkI
  have RT : ∀ x, numAt s dg lo hi true p = x → Rd.runT s ⟨2, tx, lo, hi, dg⟩ p = (x.2.2, x.1, Rd.numOk lo true x) := fun x hx => by simp [Rd.runT, hx]
  have RT := Lib.hid RT
  have HTT := Lib.hid hT
  go_enter Tryz.func116, Tryz.ntmps116
  go_upto_region 1 with fail
  rw [HV.out]
  refine ext_wp fun X => ?_
  have x0 := c0 X
  go_upto_region 18 with fail
  go_wp2_with fail
  go_loopw [2] (fun mv wr => ∃ (q m : Nat) (n : Int) (Y : Ext V), mv = .int .i64 q ∧ q = p + m ∧ wr = Y.1 ∧ NumSt s dg lo hi p m n) (fun mv _ => s.size - (intOf mv).toNat)
  case atStart => exact ⟨p, 0, 0, X, rfl, rfl, rfl, NumSt.start HP.out⟩
  case round =>
    obtain ⟨q, m, n, Y, rfl, hqm, rfl, hN⟩ := hrel
    have y0 := c0 Y
    have y1 := c1 Y
    have y2 := c2 Y
    have y3 := c3 Y
    have y4 := c4 Y
    have hle := hN.row.le
    have hm13 := hN.le
    have HN := Lib.hid hN
    have hq1 : q ≤ 1000000 := by omega
    clear hN x0
    rcases dig_cases s q (by omega) with ⟨hq, hd⟩ | ⟨hq, hisd, hd⟩ | ⟨hq, hisd, hd, h48, h57, hby⟩
    rotate_left
    rotate_left
    · have hqd : decide ((q : Int) < (s.size : Int)) = true := by rw [decide_eq_true_eq]; omega
      have hqd' : decide (q < s.size) = true := by simpa using hq
      have hd' : digAt s (p + m) true = true := by rw [← hqm]; exact hd
      have hrow := HN.out.row.next hd'
      have hex : p + (m + 1) ≤ s.size := by omega
      have DB := Lib.hid (fun (X : Ext V) => Ext.calls X (begins_any ⟨2, tx, lo, hi, dg⟩ (s.extract p (p + (m + 1))) _ X.1 (HG.out X) (by rw [Rd.ext_size hex]; omega) (by rw [Rd.ext_size hex]; have := HTT.out.2.2.2; omega) (hrow.num (by omega) (by have := HTT.out.2.2.2; omega)) hrow.lt.1 HTT.out.1))
      rw [Rd.ext_size hex, Rd.ext_byte hex (by omega)] at DB
      simp only at DB
      unfold tokV at DB
      simp only at DB
      rw [show ((2 : Nat) : Int) = 2 from rfl] at DB
      have HNX := Lib.hid (HN.out.next hd')
      have HHA := Lib.hid (HN.out.halt HTT.out.1 hd')
      have HR := Lib.hid (hrow)
      have hlt := hrow.lt
      obtain ⟨bb, hbb⟩ : ∃ x, begF dg lo hi (m + 1) (byte s p) (10 * n + ((byte s (p + m) : Int) - 48)) = x := ⟨_, rfl⟩
      rw [hbb] at DB HNX HHA
      obtain ⟨nn, hnn⟩ : ∃ x, 10 * n + ((byte s (p + m) : Int) - 48) = x := ⟨_, rfl⟩
      rw [hnn] at HNX
      rw [show p + (m + 1) = q + 1 by omega] at DB
      have hsl : ∀ W : World, (Instr.slice 9 (.string s) (some (.int .i64 (p : Int))) (some (.int .i64 ((q : Int) + 1))) none).run Tryz.prog W = .ok (.string (s.extract p (q + 1))) W := fun W => by
        rw [run_slice_string W _ _ _ _ _ _ (by kernel_rfl) (by omega) (by omega) (by omega)]
        rw [show ((p : Int)).toNat = p by omega, show ((q : Int) + 1).toNat = q + 1 by omega]
      clear hrow hlt hbb hnn hd hd' HR
      cases bb
      case true =>
        clear HHA
        have HQM := Lib.hid hqm
        clear hqm
        go_upto_region 19 with fail
        refine wp_region_ext Y (by kernel_rfl) (by kernel_rfl) ?_
        repeat (go_big_quiet_step ((first
          | (go_at_call 136; with_reducible exact HD.out _ _)
          | (go_at_call 137; with_reducible exact DB.out _))))
        refine wpQuiet_nil ?_
        intro _ hw'
        obtain ⟨Z, rfl⟩ := hw'
        go_wp2_with fail
        go_roundw
        case rel => exact ⟨q + 1, m + 1, nn, Z, by go_num, by have := HQM.out; omega, rfl, HNX.out rfl⟩
        case measure => simp [intOf]; omega
      case false =>
        have HX := Lib.hid (HHA.out rfl)
        clear HNX HHA
        have HQM := Lib.hid hqm
        clear hqm
        go_upto_region 19 with fail
        refine wp_region_ext Y (by kernel_rfl) (by kernel_rfl) ?_
        repeat (go_big_quiet_step ((first
          | (go_at_call 136; with_reducible exact HD.out _ _)
          | (go_at_call 137; with_reducible exact DB.out _))))
        refine wpQuiet_nil ?_
        intro _ hw'
        obtain ⟨Z, rfl⟩ := hw'
        have HXT := Lib.hid (RT.out _ HX.out)
        have HROW := Lib.hid (HN.out.row)
        have hle2 := HROW.out.le
        have DA := Lib.hid (atoi_every (s.extract p (p + m)) (by rw [Rd.ext_size hle2]; omega) Z.1 (HG.out Z))
        rw [← HQM.out] at DA
        have hsl2 : ∀ W : World, (Instr.slice 9 (.string s) (some (.int .i64 (p : Int))) (some (.int .i64 (q : Int))) none).run Tryz.prog W = .ok (.string (s.extract p q)) W := fun W => by
          have := HQM.out
          rw [run_slice_string W _ _ _ _ _ _ (by kernel_rfl) (by omega) (by omega) (by omega)]
          rw [show ((p : Int)).toNat = p by omega, show ((q : Int)).toNat = q by omega]
        go_upto_region 22 with (go_at_call 138; refine DA.out.mono ?_; rintro e w3 ⟨nn, ev, rfl, hb3, _, _, hv⟩)
        obtain ⟨U, rfl⟩ : ∃ U : Ext V, w3 = U.1 := ⟨⟨w3, below_step Z.2 hb3⟩, rfl⟩
        have u2 := c2 U
        have hpq : decide ((p : Int) < (q : Int)) = decide (0 < m) := by rw [lt_b]; congr 1; rw [eq_iff_iff]; have := HQM.out; omega
        have hpq' : decide (p < q) = decide (0 < m) := by congr 1; rw [eq_iff_iff]; have := HQM.out; omega
        have HVN : Hid (0 < m → nn = n) := Lib.hid (fun h0 => hv n (by have := HROW.out.num h0 (by have := HTT.out.2.2.2; omega); rw [← HQM.out] at this; exact this))
        clear hb3 hv DA
        obtain ⟨bm, hbm⟩ : ∃ x, decide (0 < m) = x := ⟨_, rfl⟩
        rw [hbm] at hpq hpq'
        cases bm
        · refine wp_region_ext U (by kernel_rfl) (by kernel_rfl) ?_
          repeat (go_big_quiet_step (fail))
          refine wpQuiet_nil ?_
          intro _ hw'
          obtain ⟨Z2, rfl⟩ := hw'
          go_wp2_with fail
          go_ret3
          refine RunRet.mk q nn false (u := n) rfl (HXT.out.trans ?_) (fun h => by cases h) (END.out _)
          have := HQM.out
          simp [Rd.numOk, hbm]
          omega
        · obtain rfl := HVN.out (by simpa using hbm)
          obtain ⟨bl, hbl⟩ : ∃ x, decide (lo ≤ nn) = x := ⟨_, rfl⟩
          cases bl
          all_goals
            refine wp_region_ext U (by kernel_rfl) (by kernel_rfl) ?_
            repeat (go_big_quiet_step (fail))
            refine wpQuiet_nil ?_
            intro _ hw'
            obtain ⟨Z2, rfl⟩ := hw'
            go_wp2_with fail
            go_ret3
          · refine RunRet.mk q nn false (u := nn) rfl (HXT.out.trans ?_) (fun _ => rfl) (END.out _)
            have := HQM.out
            simp [Rd.numOk, hbm, hbl]
            omega
          · refine RunRet.mk q nn true (u := nn) rfl (HXT.out.trans ?_) (fun _ => rfl) (END.out _)
            have := HQM.out
            simp [Rd.numOk, hbm, hbl]
            omega
    · have hqd : decide ((q : Int) < (s.size : Int)) = false := by rw [decide_eq_false_iff_not]; omega
      have hqd' : decide (q < s.size) = false := by rw [decide_eq_false_iff_not]; omega
      have HX := Lib.hid (HN.out.stop (by rw [← hqm]; exact hd))
      clear hd hq
      have HQM := Lib.hid hqm
      clear hqm
      go_upto_region 19 with fail
      refine wp_region_ext Y (by kernel_rfl) (by kernel_rfl) ?_
      repeat (go_big_quiet_step ((first
        | (go_at_call 136; with_reducible exact HD.out _ _))))
      refine wpQuiet_nil ?_
      intro _ hw'
      obtain ⟨Z, rfl⟩ := hw'
      have HXT := Lib.hid (RT.out _ HX.out)
      have HROW := Lib.hid (HN.out.row)
      have hle2 := HROW.out.le
      have DA := Lib.hid (atoi_every (s.extract p (p + m)) (by rw [Rd.ext_size hle2]; omega) Z.1 (HG.out Z))
      rw [← HQM.out] at DA
      have hsl2 : ∀ W : World, (Instr.slice 9 (.string s) (some (.int .i64 (p : Int))) (some (.int .i64 (q : Int))) none).run Tryz.prog W = .ok (.string (s.extract p q)) W := fun W => by
        have := HQM.out
        rw [run_slice_string W _ _ _ _ _ _ (by kernel_rfl) (by omega) (by omega) (by omega)]
        rw [show ((p : Int)).toNat = p by omega, show ((q : Int)).toNat = q by omega]
      go_upto_region 22 with (go_at_call 138; refine DA.out.mono ?_; rintro e w3 ⟨nn, ev, rfl, hb3, _, _, hv⟩)
      obtain ⟨U, rfl⟩ : ∃ U : Ext V, w3 = U.1 := ⟨⟨w3, below_step Z.2 hb3⟩, rfl⟩
      have u2 := c2 U
      have hpq : decide ((p : Int) < (q : Int)) = decide (0 < m) := by rw [lt_b]; congr 1; rw [eq_iff_iff]; have := HQM.out; omega
      have hpq' : decide (p < q) = decide (0 < m) := by congr 1; rw [eq_iff_iff]; have := HQM.out; omega
      have HVN : Hid (0 < m → nn = n) := Lib.hid (fun h0 => hv n (by have := HROW.out.num h0 (by have := HTT.out.2.2.2; omega); rw [← HQM.out] at this; exact this))
      clear hb3 hv DA
      obtain ⟨bm, hbm⟩ : ∃ x, decide (0 < m) = x := ⟨_, rfl⟩
      rw [hbm] at hpq hpq'
      cases bm
      · refine wp_region_ext U (by kernel_rfl) (by kernel_rfl) ?_
        repeat (go_big_quiet_step (fail))
        refine wpQuiet_nil ?_
        intro _ hw'
        obtain ⟨Z2, rfl⟩ := hw'
        go_wp2_with fail
        go_ret3
        refine RunRet.mk q nn false (u := n) rfl (HXT.out.trans ?_) (fun h => by cases h) (END.out _)
        have := HQM.out
        simp [Rd.numOk, hbm]
        omega
      · obtain rfl := HVN.out (by simpa using hbm)
        obtain ⟨bl, hbl⟩ : ∃ x, decide (lo ≤ nn) = x := ⟨_, rfl⟩
        cases bl
        all_goals
          refine wp_region_ext U (by kernel_rfl) (by kernel_rfl) ?_
          repeat (go_big_quiet_step (fail))
          refine wpQuiet_nil ?_
          intro _ hw'
          obtain ⟨Z2, rfl⟩ := hw'
          go_wp2_with fail
          go_ret3
        · refine RunRet.mk q nn false (u := nn) rfl (HXT.out.trans ?_) (fun _ => rfl) (END.out _)
          have := HQM.out
          simp [Rd.numOk, hbm, hbl]
          omega
        · refine RunRet.mk q nn true (u := nn) rfl (HXT.out.trans ?_) (fun _ => rfl) (END.out _)
          have := HQM.out
          simp [Rd.numOk, hbm, hbl]
          omega
    · have hqd : decide ((q : Int) < (s.size : Int)) = true := by rw [decide_eq_true_eq]; omega
      have hqd' : decide (q < s.size) = true := by simpa using hq
      have HX := Lib.hid (HN.out.stop (by rw [← hqm]; exact hd))
      clear hd
      have HQM := Lib.hid hqm
      clear hqm
      go_upto_region 19 with fail
      refine wp_region_ext Y (by kernel_rfl) (by kernel_rfl) ?_
      repeat (go_big_quiet_step ((first
        | (go_at_call 136; with_reducible exact HD.out _ _))))
      refine wpQuiet_nil ?_
      intro _ hw'
      obtain ⟨Z, rfl⟩ := hw'
      have HXT := Lib.hid (RT.out _ HX.out)
      have HROW := Lib.hid (HN.out.row)
      have hle2 := HROW.out.le
      have DA := Lib.hid (atoi_every (s.extract p (p + m)) (by rw [Rd.ext_size hle2]; omega) Z.1 (HG.out Z))
      rw [← HQM.out] at DA
      have hsl2 : ∀ W : World, (Instr.slice 9 (.string s) (some (.int .i64 (p : Int))) (some (.int .i64 (q : Int))) none).run Tryz.prog W = .ok (.string (s.extract p q)) W := fun W => by
        have := HQM.out
        rw [run_slice_string W _ _ _ _ _ _ (by kernel_rfl) (by omega) (by omega) (by omega)]
        rw [show ((p : Int)).toNat = p by omega, show ((q : Int)).toNat = q by omega]
      go_upto_region 22 with (go_at_call 138; refine DA.out.mono ?_; rintro e w3 ⟨nn, ev, rfl, hb3, _, _, hv⟩)
      obtain ⟨U, rfl⟩ : ∃ U : Ext V, w3 = U.1 := ⟨⟨w3, below_step Z.2 hb3⟩, rfl⟩
      have u2 := c2 U
      have hpq : decide ((p : Int) < (q : Int)) = decide (0 < m) := by rw [lt_b]; congr 1; rw [eq_iff_iff]; have := HQM.out; omega
      have hpq' : decide (p < q) = decide (0 < m) := by congr 1; rw [eq_iff_iff]; have := HQM.out; omega
      have HVN : Hid (0 < m → nn = n) := Lib.hid (fun h0 => hv n (by have := HROW.out.num h0 (by have := HTT.out.2.2.2; omega); rw [← HQM.out] at this; exact this))
      clear hb3 hv DA
      obtain ⟨bm, hbm⟩ : ∃ x, decide (0 < m) = x := ⟨_, rfl⟩
      rw [hbm] at hpq hpq'
      cases bm
      · refine wp_region_ext U (by kernel_rfl) (by kernel_rfl) ?_
        repeat (go_big_quiet_step (fail))
        refine wpQuiet_nil ?_
        intro _ hw'
        obtain ⟨Z2, rfl⟩ := hw'
        go_wp2_with fail
        go_ret3
        refine RunRet.mk q nn false (u := n) rfl (HXT.out.trans ?_) (fun h => by cases h) (END.out _)
        have := HQM.out
        simp [Rd.numOk, hbm]
        omega
      · obtain rfl := HVN.out (by simpa using hbm)
        obtain ⟨bl, hbl⟩ : ∃ x, decide (lo ≤ nn) = x := ⟨_, rfl⟩
        cases bl
        all_goals
          refine wp_region_ext U (by kernel_rfl) (by kernel_rfl) ?_
          repeat (go_big_quiet_step (fail))
          refine wpQuiet_nil ?_
          intro _ hw'
          obtain ⟨Z2, rfl⟩ := hw'
          go_wp2_with fail
          go_ret3
        · refine RunRet.mk q nn false (u := nn) rfl (HXT.out.trans ?_) (fun _ => rfl) (END.out _)
          have := HQM.out
          simp [Rd.numOk, hbm, hbl]
          omega
        · refine RunRet.mk q nn true (u := nn) rfl (HXT.out.trans ?_) (fun _ => rfl) (END.out _)
          have := HQM.out
          simp [Rd.numOk, hbm, hbl]
          omega
theorem idx_at (s : ByteArray) (q : Nat) (h : q < s.size) (W : World) : (Instr.index 9 (.string s) (.int .i64 (q : Int))).run Tryz.prog W = .ok (.int .u8 (s[q].toNat)) W := by
  rw [run_index_string W _ _ _ _ (by kernel_rfl)]
  simp [h]
/-! ### two digits -/
theorem pairNo {s : ByteArray} {hi : Int} {p : Nat} (h : ¬ (digAt s p true = true ∧ 10 * ((byte s p : Int) - 48) ≤ hi)) : pairAt s hi p true = (0, p, false) := by
  unfold pairAt Rd.pairStep
  simp only [Int.zero_add]
  rw [if_neg h]
  simp [Rd.digAt_no]
theorem pairYes {s : ByteArray} {hi : Int} {p : Nat} (h : digAt s p true = true ∧ 10 * ((byte s p : Int) - 48) ≤ hi) : pairAt s hi p true = Rd.pairStep s hi 1 (10 * ((byte s p : Int) - 48), p + 1, true) := by
  unfold pairAt
  congr 1
  unfold Rd.pairStep
  simp only [Int.zero_add]
  rw [if_pos h]
theorem pairNo2 {s : ByteArray} {hi n : Int} {p : Nat} (h : ¬ (digAt s p true = true ∧ n + ((byte s p : Int) - 48) ≤ hi)) : Rd.pairStep s hi 1 (n, p, true) = (n, p, false) := by
  unfold Rd.pairStep
  simp only [Int.one_mul]
  rw [if_neg h]
theorem pairYes2 {s : ByteArray} {hi n : Int} {p : Nat} (h : digAt s p true = true ∧ n + ((byte s p : Int) - 48) ≤ hi) : Rd.pairStep s hi 1 (n, p, true) = (n + ((byte s p : Int) - 48), p + 1, true) := by
  unfold Rd.pairStep
  simp only [Int.one_mul]
  rw [if_pos h]
set_option maxHeartbeats 8000000 in
set_option maxRecDepth 100000 in
theorem runPair_any (t : Tok) (hk : t.kind = 3) (s : ByteArray) (p : Nat) (hs : s.size ≤ 1000000) (hp : p ≤ s.size) (hT : 0 ≤ t.high ∧ t.high ≤ 99) (w : World) (hg : Glo w) :
    Calls Tryz.prog 116 #[tokV t, .string s, .int .i64 p] w fun e w' => RunRet s t p w e w' := by
  obtain ⟨kd, tx, lo, hi, dg⟩ := t
  simp only at hk hT
  subst hk
  unfold tokV
  simp only
  obtain ⟨V, hV, hbV, hsV, hcV⟩ := alloc_cells w #[.int .i64 (3 : Nat), .string tx, .int .i64 lo, .int .i64 hi, .int .i64 dg] 63
  have hkI : ((3 : Nat) : Int) = 3 := rfl
  rw [hkI] at hV hcV ⊢
  have c0 := Ext.ex (hcV 0 _ rfl)
  have c1 := Ext.ex (hcV 1 _ rfl)
  have c2 := Ext.ex (hcV 2 _ rfl)
  have c3 := Ext.ex (hcV 3 _ rfl)
  have c4 := Ext.ex (hcV 4 _ rfl)
  have END := Lib.hid (fun (X : Ext V) => below_step hbV X.2)
  have HG := Lib.hid (fun (X : Ext V) => hg.below (below_step hbV X.2))
  have HD := Lib.hid (fun (c : Nat) (X : Ext V) => Ext.same X (rIsDigit_any c X.1))
  have HV := Lib.hid hV
  have HP := Lib.hid hp
  have HS := Lib.hid hs
  clear hcV hV hbV hg hkI
  have RT : ∀ x, pairAt s hi p true = x → Rd.runT s ⟨3, tx, lo, hi, dg⟩ p = (x.2.1, x.1, x.2.2) := fun x hx => by simp [Rd.runT, hx]
  have RT := Lib.hid RT
  obtain ⟨hh0, hh99⟩ := hT
  have hdiv : hi.tdiv 10 = hi / 10 := Int.tdiv_eq_ediv_of_nonneg hh0
  go_enter Tryz.func116, Tryz.ntmps116
  go_upto_region 1 with fail
  rw [HV.out]
  refine ext_wp fun X => ?_
  have x0 := c0 X
  go_upto_region 11 with fail
  have y0 := c0 X
  have y1 := c1 X
  have y2 := c2 X
  have y3 := c3 X
  have y4 := c4 X
  rcases dig_cases s p hp with ⟨hq, hd⟩ | ⟨hq, hisd, hd⟩ | ⟨hq, hisd, hd, h48, h57, hby⟩
  · have hqd : ((p : Int) == (s.size : Int)) = true := by rw [eq_b, decide_eq_true_eq]; exact hq
    have hqd' : decide (p = s.size) = true := by simpa using hq
    have HXT := Lib.hid ((RT.out _ rfl).trans (show _ = (p, (0 : Int), false) from by rw [pairNo (by rw [hd]; simp)]))
    clear hd
    have HQ := Lib.hid hq
    clear hq
    refine wp_region_ext X (by kernel_rfl) (by kernel_rfl) ?_
    repeat (go_big_quiet_step ((first
      | (go_at_call 136; with_reducible exact HD.out _ _))))
    refine wpQuiet_nil ?_
    intro _ hw'
    obtain ⟨Z, rfl⟩ := hw'
    go_wp2_with fail
    go_ret3
    exact RunRet.mk _ _ false rfl HXT.out (fun h => by cases h) (END.out _)
  · have hqd : ((p : Int) == (s.size : Int)) = false := by rw [eq_b, decide_eq_false_iff_not]; omega
    have hqd' : decide (p = s.size) = false := by rw [decide_eq_false_iff_not]; omega
    have HXT := Lib.hid ((RT.out _ rfl).trans (show _ = (p, (0 : Int), false) from by rw [pairNo (by rw [hd]; simp)]))
    clear hd
    refine wp_region_ext X (by kernel_rfl) (by kernel_rfl) ?_
    repeat (go_big_quiet_step ((first
      | (go_at_call 136; with_reducible exact HD.out _ _))))
    refine wpQuiet_nil ?_
    intro _ hw'
    obtain ⟨Z, rfl⟩ := hw'
    go_wp2_with fail
    go_ret3
    exact RunRet.mk _ _ false rfl HXT.out (fun h => by cases h) (END.out _)
  · have hqd : ((p : Int) == (s.size : Int)) = false := by rw [eq_b, decide_eq_false_iff_not]; omega
    have hqd' : decide (p = s.size) = false := by rw [decide_eq_false_iff_not]; omega
    by_cases hb1 : hi / 10 < (s[p].toNat : Int) - 48
    · have z1 : decide (hi / 10 < (s[p].toNat : Int) - 48) = true := by simpa using hb1
      have HXT := Lib.hid ((RT.out _ rfl).trans (show _ = (p, (0 : Int), false) from by rw [pairNo (by rw [hby]; omega)]))
      clear hd
      refine wp_region_ext X (by kernel_rfl) (by kernel_rfl) ?_
      repeat (go_big_quiet_step ((first
        | (go_at_call 136; with_reducible exact HD.out _ _))))
      refine wpQuiet_nil ?_
      intro _ hw'
      obtain ⟨Z, rfl⟩ := hw'
      go_wp2_with fail
      go_ret3
      exact RunRet.mk _ _ false rfl HXT.out (fun h => by cases h) (END.out _)
    · have z1 : decide (hi / 10 < (s[p].toNat : Int) - 48) = false := by simpa using hb1
      have HF1 := Lib.hid (pairYes (s := s) (hi := hi) (p := p) ⟨hd, by rw [hby]; omega⟩)
      rw [hby] at HF1
      obtain ⟨d1, hd1⟩ : ∃ x : Int, (s[p].toNat : Int) - 48 = x := ⟨_, rfl⟩
      have hd1n : 0 ≤ d1 ∧ d1 ≤ 9 := by omega
      clear hd
      refine wp_region_ext X (by kernel_rfl) (by kernel_rfl) ?_
      repeat (go_big_quiet_step ((first
        | (go_at_call 136; with_reducible exact HD.out _ _))))
      refine wpQuiet_nil ?_
      intro _ hw'
      obtain ⟨Z, rfl⟩ := hw'
      go_upto_region 14 with fail
      try rw [hd1] at HF1
      try rw [hd1]
      clear hd1
      have w0 := c0 Z
      have w1 := c1 Z
      have w2 := c2 Z
      have w3 := c3 Z
      have w4 := c4 Z
      rcases dig_cases s (p + 1) (by omega) with ⟨hq2, hd2⟩ | ⟨hq2, hisd2, hd2⟩ | ⟨hq2, hisd2, hd2, h482, h572, hby2⟩
      · have hqe : (((p : Int) + 1) == (s.size : Int)) = true := by simp; omega
        have hqe' : decide (p + 1 = s.size) = true := by simpa using hq2
        have HXT := Lib.hid ((RT.out _ HF1.out).trans (show _ = (p + 1, 10 * d1, false) from by rw [pairNo2 (by rw [hd2]; simp)]))
        clear hd2
        have HQ := Lib.hid hq2
        clear hq2
        refine wp_region_ext Z (by kernel_rfl) (by kernel_rfl) ?_
        repeat (go_big_quiet_step ((first
          | (go_at_call 136; with_reducible exact HD.out _ _))))
        refine wpQuiet_nil ?_
        intro _ hw'
        obtain ⟨Z, rfl⟩ := hw'
        go_wp2_with fail
        go_ret3
        exact RunRet.mk _ _ false rfl HXT.out (fun h => by cases h) (END.out _)
      · have hix : ∀ W : World, (Instr.index 9 (.string s) (.int .i64 ((p : Int) + 1))).run Tryz.prog W = .ok (.int .u8 (s[p + 1].toNat)) W := fun W => idx_at s (p + 1) hq2 W
        have hqe : (((p : Int) + 1) == (s.size : Int)) = false := by simp; omega
        have hqe' : decide (p + 1 = s.size) = false := by rw [decide_eq_false_iff_not]; omega
        have HXT := Lib.hid ((RT.out _ HF1.out).trans (show _ = (p + 1, 10 * d1, false) from by rw [pairNo2 (by rw [hd2]; simp)]))
        clear hd2
        refine wp_region_ext Z (by kernel_rfl) (by kernel_rfl) ?_
        repeat (go_big_quiet_step ((first
          | (go_at_call 136; with_reducible exact HD.out _ _))))
        refine wpQuiet_nil ?_
        intro _ hw'
        obtain ⟨Z, rfl⟩ := hw'
        go_wp2_with fail
        go_ret3
        exact RunRet.mk _ _ false rfl HXT.out (fun h => by cases h) (END.out _)
      · have hix : ∀ W : World, (Instr.index 9 (.string s) (.int .i64 ((p : Int) + 1))).run Tryz.prog W = .ok (.int .u8 (s[p + 1].toNat)) W := fun W => idx_at s (p + 1) hq2 W
        have hqe : (((p : Int) + 1) == (s.size : Int)) = false := by simp; omega
        have hqe' : decide (p + 1 = s.size) = false := by rw [decide_eq_false_iff_not]; omega
        by_cases hb2 : hi < 10 * d1 + ((s[p + 1].toNat : Int) - 48)
        · have z2 : decide (hi < 10 * d1 + ((s[p + 1].toNat : Int) - 48)) = true := by simpa using hb2
          have HXT := Lib.hid ((RT.out _ HF1.out).trans (show _ = (p + 1, 10 * d1, false) from by rw [pairNo2 (by rw [hby2]; omega)]))
          clear hd2
          refine wp_region_ext Z (by kernel_rfl) (by kernel_rfl) ?_
          repeat (go_big_quiet_step ((first
            | (go_at_call 136; with_reducible exact HD.out _ _))))
          refine wpQuiet_nil ?_
          intro _ hw'
          obtain ⟨Z, rfl⟩ := hw'
          go_wp2_with fail
          go_ret3
          exact RunRet.mk _ _ false rfl HXT.out (fun h => by cases h) (END.out _)
        · have z2 : decide (hi < 10 * d1 + ((s[p + 1].toNat : Int) - 48)) = false := by simpa using hb2
          have HXT := Lib.hid ((RT.out _ HF1.out).trans (show _ = (p + 2, 10 * d1 + ((s[p + 1].toNat : Int) - 48), true) from by rw [pairYes2 ⟨hd2, by rw [hby2]; omega⟩, hby2]))
          clear hd2
          refine wp_region_ext Z (by kernel_rfl) (by kernel_rfl) ?_
          repeat (go_big_quiet_step ((first
            | (go_at_call 136; with_reducible exact HD.out _ _))))
          refine wpQuiet_nil ?_
          intro _ hw'
          obtain ⟨U, rfl⟩ := hw'
          go_upto_region 16 with fail
          refine wp_region_ext U (by kernel_rfl) (by kernel_rfl) ?_
          repeat (go_big_quiet_step (fail))
          refine wpQuiet_nil ?_
          intro _ hw'
          obtain ⟨U2, rfl⟩ := hw'
          go_wp2_with fail
          go_ret3
          exact RunRet.mk _ _ true rfl HXT.out (fun _ => rfl) (END.out _)
set_option maxHeartbeats 8000000 in
set_option maxRecDepth 100000 in
theorem runLit_any (t : Tok) (hk : t.kind = 1) (s : ByteArray) (p : Nat) (hs : s.size ≤ 1000000) (hp : p ≤ s.size) (hT : t.text.size ≤ 100) (w : World) (hg : Glo w) :
    Calls Tryz.prog 116 #[tokV t, .string s, .int .i64 p] w fun e w' => RunRet s t p w e w' := by
  obtain ⟨kd, tx, lo, hi, dg⟩ := t
  simp only at hk hT
  subst hk
  unfold tokV
  simp only
  obtain ⟨V, hV, hbV, hsV, hcV⟩ := alloc_cells w #[.int .i64 (1 : Nat), .string tx, .int .i64 lo, .int .i64 hi, .int .i64 dg] 63
  have hkI : ((1 : Nat) : Int) = 1 := rfl
  rw [hkI] at hV hcV ⊢
  have c0 := Ext.ex (hcV 0 _ rfl)
  have c1 := Ext.ex (hcV 1 _ rfl)
  have c2 := Ext.ex (hcV 2 _ rfl)
  have c3 := Ext.ex (hcV 3 _ rfl)
  have c4 := Ext.ex (hcV 4 _ rfl)
  have END := Lib.hid (fun (X : Ext V) => below_step hbV X.2)
  have HG := Lib.hid (fun (X : Ext V) => hg.below (below_step hbV X.2))
  have HD := Lib.hid (fun (c : Nat) (X : Ext V) => Ext.same X (rIsDigit_any c X.1))
  have HV := Lib.hid hV
  have HP := Lib.hid hp
  have HS := Lib.hid hs
  clear hcV hV hbV hg hkI
  have RT : ∀ x, exactAt s tx p true = x → Rd.runT s ⟨1, tx, lo, hi, dg⟩ p = (x.1, 0, x.2) := fun x hx => by simp [Rd.runT, hx]
  have RT := Lib.hid RT
  have HTT := Lib.hid hT
  go_enter Tryz.func116, Tryz.ntmps116
  go_upto_region 1 with fail
  rw [HV.out]
  refine ext_wp fun X => ?_
  have x0 := c0 X
  go_upto_region 4 with fail
  go_loopw [2, 9] (fun mv iv wr => ∃ (q i : Nat) (Y : Ext V), mv = .int .i64 q ∧ iv = .int .i64 i ∧ i ≤ tx.size ∧ q ≤ s.size ∧ wr = Y.1 ∧ Rd.exactLoop s tx (tx.size - i) i q = exactAt s tx p true) (fun _ iv _ => tx.size - (intOf iv).toNat)
  case atStart => exact ⟨p, 0, X, rfl, rfl, Nat.zero_le _, HP.out, rfl, rfl⟩
  case round =>
    obtain ⟨q, i, Y, rfl, rfl, hi0, hq0, rfl, hL⟩ := hrel
    have y0 := c0 Y
    have y1 := c1 Y
    have y2 := c2 Y
    have y3 := c3 Y
    have y4 := c4 Y
    have HL := Lib.hid hL
    have hT := HTT.out
    have hq1 : q ≤ 1000000 := by omega
    clear hL x0
    by_cases hit : i < tx.size
    case neg =>
      have g1 : decide ((i : Int) < (tx.size : Int)) = false := by rw [lt_b]; simpa using hit
      have g2 : decide (i < tx.size) = false := by simpa using hit
      have HXT := Lib.hid (RT.out (q, true) (by rw [← HL.out, show tx.size - i = 0 by omega]; rfl))
      go_wp2_with fail
      go_ret3
      exact RunRet.mk _ _ true rfl HXT.out (fun _ => rfl) (END.out _)
    case pos =>
      have g1 : decide ((i : Int) < (tx.size : Int)) = true := by rw [lt_b]; simpa using hit
      have g2 : decide (i < tx.size) = true := by simpa using hit
      have hstep : Rd.exactLoop s tx (tx.size - i) i q = if q < s.size ∧ byte s q = byte tx i then Rd.exactLoop s tx (tx.size - (i + 1)) (i + 1) (q + 1) else (q, false) := by
        rw [show tx.size - i = (tx.size - (i + 1)) + 1 by omega]
        conv => lhs; rw [Rd.exactLoop]
        rw [if_pos hit]
      by_cases hq : q < s.size
      case neg =>
        have g3 : ((q : Int) == (s.size : Int)) = true := by rw [eq_b]; simp; omega
        have g4 : decide (q = s.size) = true := by simp; omega
        have HXT := Lib.hid (RT.out (q, false) (by rw [← HL.out, hstep, if_neg (fun h => hq h.1)]))
        clear hstep
        go_upto_region 6 with fail
        refine wp_region_ext Y (by kernel_rfl) (by kernel_rfl) ?_
        repeat (go_big_quiet_step (fail))
        refine wpQuiet_nil ?_
        intro _ hw'
        obtain ⟨Z, rfl⟩ := hw'
        go_wp2_with fail
        go_ret3
        exact RunRet.mk _ _ false rfl HXT.out (fun h => by cases h) (END.out _)
      case pos =>
        have g3 : ((q : Int) == (s.size : Int)) = false := by rw [eq_b]; simp; omega
        have g4 : decide (q = s.size) = false := by simp; omega
        rw [Rd.byte_lt hq, Rd.byte_lt hit] at hstep
        by_cases he : s[q].toNat = tx[i].toNat
        case neg =>
          have g5 : ((s[q].toNat : Int) == (tx[i].toNat : Int)) = false := by rw [eq_b]; simpa using he
          have g6 : ((s[q].toNat : Int) != (tx[i].toNat : Int)) = true := by rw [bne, g5]; rfl
          have g7 : decide (s[q].toNat = tx[i].toNat) = false := by simpa using he
          have HXT := Lib.hid (RT.out (q, false) (by rw [← HL.out, hstep, if_neg (fun h => he h.2)]))
          clear hstep
          go_upto_region 6 with fail
          refine wp_region_ext Y (by kernel_rfl) (by kernel_rfl) ?_
          repeat (go_big_quiet_step (fail))
          refine wpQuiet_nil ?_
          intro _ hw'
          obtain ⟨Z, rfl⟩ := hw'
          go_wp2_with fail
          go_ret3
          exact RunRet.mk _ _ false rfl HXT.out (fun h => by cases h) (END.out _)
        case pos =>
          have g5 : ((s[q].toNat : Int) == (tx[i].toNat : Int)) = true := by rw [eq_b]; simpa using he
          have g6 : ((s[q].toNat : Int) != (tx[i].toNat : Int)) = false := by rw [bne, g5]; rfl
          have g7 : decide (s[q].toNat = tx[i].toNat) = true := by simpa using he
          have HN := Lib.hid (show Rd.exactLoop s tx (tx.size - (i + 1)) (i + 1) (q + 1) = exactAt s tx p true by rw [← HL.out, hstep, if_pos ⟨hq, he⟩])
          clear hstep
          go_upto_region 6 with fail
          refine wp_region_ext Y (by kernel_rfl) (by kernel_rfl) ?_
          repeat (go_big_quiet_step (fail))
          refine wpQuiet_nil ?_
          intro _ hw'
          obtain ⟨Z, rfl⟩ := hw'
          go_wp2_with fail
          go_roundw
          case rel => exact ⟨q + 1, i + 1, Z, by go_num, by go_num, by omega, by omega, rfl, HN.out⟩
          case measure => simp [intOf]; omega
/-! ### a row of digits behind a point -/
theorem atoi_dig {s : ByteArray} {p m : Nat} {n : Int} (h : DigRow s p m n) (hm : m ≤ 18) (w : World) (hg : Glo w) :
    Calls Tryz.prog 138 #[.string (s.extract p (p + m))] w fun e w' => ∃ ev, e = .returned (.tuple #[.int .i64 n, ev]) ∧ Below w.heap.size w w' := by
  have hz := Rd.ext_size h.le
  rcases Nat.eq_zero_or_pos m with h0 | h0
  · have hl := h.lt
    subst h0
    have hn : n = 0 := by
      have := hl.2
      simp at this
      omega
    subst hn
    obtain ⟨tp, q, hv⟩ := hg.s
    have he : Lib.atoiAll (s.extract p (p + 0)).data.toList = Lib.atoiAll [] := by
      have : (s.extract p (p + 0)).data.toList = [] := List.eq_nil_of_length_eq_zero hz
      rw [this]
    refine (Tryz.strconv_Atoi_syntax_var (s.extract p (p + 0)) (by omega) he tp q w hv).mono ?_
    rintro e w' ⟨N, rfl, _, _, hb⟩
    exact ⟨_, rfl, hb⟩
  · refine (atoi_every (s.extract p (p + m)) (by omega) w hg).mono ?_
    rintro e w' ⟨nn, ev, rfl, hb, _, _, hv⟩
    obtain rfl := hv n (h.num h0 hm)
    exact ⟨ev, rfl, hb⟩
theorem scaled_lt {n : Int} {m i : Nat} (h0 : 0 ≤ n) (h : n < 10 ^ m) (hm : m ≤ i) (hi : i ≤ 5) : 0 ≤ n * 10 ^ (i - m) ∧ n * 10 ^ (i - m) ≤ 100000 := by
  obtain ⟨k, rfl⟩ : ∃ k, i = m + k := ⟨i - m, by omega⟩
  rw [show m + k - m = k by omega]
  have hk : (0 : Int) < 10 ^ k := Int.pow_pos (by omega)
  have h1 : n * 10 ^ k < 10 ^ m * 10 ^ k := Int.mul_lt_mul_of_pos_right h hk
  rw [← Int.pow_add] at h1
  have h2 : (10 : Int) ^ (m + k) ≤ 10 ^ 5 := by exact_mod_cast Nat.pow_le_pow_right (show 0 < 10 by omega) hi
  have h3 : (10 : Int) ^ 5 = 100000 := by decide
  exact ⟨Int.mul_nonneg h0 (Int.le_of_lt hk), by omega⟩
set_option maxHeartbeats 8000000 in
set_option maxRecDepth 100000 in
theorem runPart_any (t : Tok) (hk : t.kind = 4) (s : ByteArray) (p : Nat) (hs : s.size ≤ 1000000) (hp : p ≤ s.size) (hT : t.digits ≤ 6) (w : World) (hg : Glo w) :
    Calls Tryz.prog 116 #[tokV t, .string s, .int .i64 p] w fun e w' => RunRet s t p w e w' := by
  obtain ⟨kd, tx, lo, hi, dg⟩ := t
  simp only at hk hT
  subst hk
  unfold tokV
  simp only
  obtain ⟨V, hV, hbV, hsV, hcV⟩ := alloc_cells w #[.int .i64 (4 : Nat), .string tx, .int .i64 lo, .int .i64 hi, .int .i64 dg] 63
  have hkI : ((4 : Nat) : Int) = 4 := rfl
  rw [hkI] at hV hcV ⊢
  have c0 := Ext.ex (hcV 0 _ rfl)
  have c1 := Ext.ex (hcV 1 _ rfl)
  have c2 := Ext.ex (hcV 2 _ rfl)
  have c3 := Ext.ex (hcV 3 _ rfl)
  have c4 := Ext.ex (hcV 4 _ rfl)
  have END := Lib.hid (fun (X : Ext V) => below_step hbV X.2)
  have HG := Lib.hid (fun (X : Ext V) => hg.below (below_step hbV X.2))
  have HD := Lib.hid (fun (c : Nat) (X : Ext V) => Ext.same X (rIsDigit_any c X.1))
  have HV := Lib.hid hV
  have HP := Lib.hid hp
  have HS := Lib.hid hs
  clear hcV hV hbV hg hkI
  have RT : ∀ x, Rd.rowAt s dg true p = x → Rd.runT s ⟨4, tx, lo, hi, dg⟩ p = (x.2.2, x.1 * 10 ^ (dg - x.2.1), decide (0 < x.2.1)) := fun x hx => by simp [Rd.runT, hx]
  have RT := Lib.hid RT
  have HTT := Lib.hid hT
  go_enter Tryz.func116, Tryz.ntmps116
  go_upto_region 1 with fail
  rw [HV.out]
  refine ext_wp fun X => ?_
  have x0 := c0 X
  go_upto_region 23 with fail
  go_wp2_with fail
  go_loopw [2] (fun mv wr => ∃ (q m : Nat) (n : Int) (Y : Ext V), mv = .int .i64 q ∧ q = p + m ∧ wr = Y.1 ∧ RowSt s dg p m n) (fun mv _ => s.size - (intOf mv).toNat)
  case atStart => exact ⟨p, 0, 0, X, rfl, rfl, rfl, RowSt.start HP.out⟩
  case round =>
    obtain ⟨q, m, n, Y, rfl, hqm, rfl, hN⟩ := hrel
    have y0 := c0 Y
    have y1 := c1 Y
    have y2 := c2 Y
    have y3 := c3 Y
    have y4 := c4 Y
    have hle := hN.row.le
    have hm6 := hN.le
    have HN := Lib.hid hN
    have hq1 : q ≤ 1000000 := by omega
    have hsub : (q : Int) - (p : Int) = (m : Int) := by omega
    clear hN x0
    rcases dig_cases s q (by omega) with ⟨hq, hd⟩ | ⟨hq, hisd, hd⟩ | ⟨hq, hisd, hd, h48, h57, hby⟩
    rotate_left
    rotate_left
    · have hqd : decide ((q : Int) < (s.size : Int)) = true := by rw [decide_eq_true_eq]; omega
      have hqd' : decide (q < s.size) = true := by simpa using hq
      have hd' : digAt s (p + m) true = true := by rw [← hqm]; exact hd
      by_cases hmd : m < dg
      case pos =>
        have k1 : decide ((q : Int) - (p : Int) < (dg : Int)) = true := by rw [hsub, lt_b]; simpa using hmd
        have k2 : decide ((m : Int) < (dg : Int)) = true := by rw [lt_b]; simpa using hmd
        have HNX := Lib.hid (HN.out.next hmd hd')
        obtain ⟨nn, hnn⟩ : ∃ x, 10 * n + ((byte s (p + m) : Int) - 48) = x := ⟨_, rfl⟩
        rw [hnn] at HNX
        clear hd hd' hnn
        have HQM := Lib.hid hqm
        clear hqm
        have DIG := Lib.hid (rIsDigit_any (s[q].toNat) Y.1)
        rw [hisd] at DIG
        go_wp2_with (go_at_call 136; refine DIG.out.mono ?_; rintro e _ ⟨rfl, rfl⟩)
        go_roundw
        case rel => exact ⟨q + 1, m + 1, nn, Y, by go_num, by have := HQM.out; omega, rfl, HNX.out⟩
        case measure => simp [intOf]; omega
      case neg =>
        have k1 : decide ((q : Int) - (p : Int) < (dg : Int)) = false := by rw [hsub, lt_b]; simpa using hmd
        have k2 : decide ((m : Int) < (dg : Int)) = false := by rw [lt_b]; simpa using hmd
        have HX := Lib.hid (HN.out.stop (fun h => hmd h.1))
        clear hd hd'
        have HQM := Lib.hid hqm
        clear hqm
        have DIG := Lib.hid (rIsDigit_any (s[q].toNat) Y.1)
        rw [hisd] at DIG
        go_upto_region 26 with (go_at_call 136; refine DIG.out.mono ?_; rintro e _ ⟨rfl, rfl⟩)
        have HXT := Lib.hid (RT.out _ HX.out)
        have HROW := Lib.hid (HN.out.row)
        have hle2 := HROW.out.le
        have DA := Lib.hid (atoi_dig HN.out.row (by omega) Y.1 (HG.out Y))
        rw [← HQM.out] at DA
        have hsl2 : ∀ W : World, (Instr.slice 9 (.string s) (some (.int .i64 (p : Int))) (some (.int .i64 (q : Int))) none).run Tryz.prog W = .ok (.string (s.extract p q)) W := fun W => by
          have := HQM.out
          rw [run_slice_string W _ _ _ _ _ _ (by kernel_rfl) (by omega) (by omega) (by omega)]
          rw [show ((p : Int)).toNat = p by omega, show ((q : Int)).toNat = q by omega]
        go_upto_region 27 with (go_at_call 138; refine DA.out.mono ?_; rintro e w3 ⟨ev, rfl, hb3⟩)
        obtain ⟨U, rfl⟩ : ∃ U : Ext V, w3 = U.1 := ⟨⟨w3, below_step Y.2 hb3⟩, rfl⟩
        have HLT := Lib.hid (HROW.out.lt)
        have hdg6 := HTT.out
        clear hb3 DA
        go_upto_region 28 with fail
        go_loopw [15, 17] (fun vv iv wr => ∃ (i : Nat), vv = .int .i64 (n * 10 ^ (i - m)) ∧ iv = .int .i64 i ∧ m ≤ i ∧ i ≤ dg ∧ wr = U.1) (fun _ iv _ => dg - (intOf iv).toNat)
        case atStart => exact ⟨m, by simp, congrArg (Value.int .i64) (by have := HQM.out; omega), Nat.le_refl _, hm6, rfl⟩
        case round =>
          obtain ⟨i, rfl, rfl, him, hid, rfl⟩ := hrel
          have u0 := c0 U
          have u1 := c1 U
          have u2 := c2 U
          have u3 := c3 U
          have u4 := c4 U
          by_cases hlt : i < dg
          case pos =>
            exfalso
            omega
          case neg =>
            have l1 : decide ((i : Int) < (dg : Int)) = false := by rw [lt_b]; simpa using hlt
            have l2 : decide (i < dg) = false := by simpa using hlt
            have hid2 : i = dg := by omega
            have HXU := Lib.hid (show Rd.runT s ⟨4, tx, lo, hi, dg⟩ p = (q, n * 10 ^ (i - m), decide (0 < m)) by rw [HXT.out, hid2, HQM.out])
            have hpq : decide ((p : Int) < (q : Int)) = decide (0 < m) := by rw [lt_b]; congr 1; rw [eq_iff_iff]; have := HQM.out; omega
            have hpq' : decide (p < q) = decide (0 < m) := by congr 1; rw [eq_iff_iff]; have := HQM.out; omega
            obtain ⟨bm, hbm⟩ : ∃ x, decide (0 < m) = x := ⟨_, rfl⟩
            rw [hbm] at hpq hpq' HXU
            obtain ⟨vv, hvv⟩ : ∃ vv, n * 10 ^ (i - m) = vv := ⟨_, rfl⟩
            rw [hvv] at HXU ⊢
            clear hvv hid2 hlt
            cases bm
            all_goals
              go_wp2_with fail
              go_ret3
              exact RunRet.mk q vv _ rfl HXU.out (fun _ => rfl) (END.out _)
    · have hqd : decide ((q : Int) < (s.size : Int)) = false := by rw [decide_eq_false_iff_not]; omega
      have hqd' : decide (q < s.size) = false := by rw [decide_eq_false_iff_not]; omega
      have HX := Lib.hid (HN.out.stop (by rw [← hqm, hd]; simp))
      clear hd hq
      have HQM := Lib.hid hqm
      clear hqm
      go_upto_region 26 with fail
      have HXT := Lib.hid (RT.out _ HX.out)
      have HROW := Lib.hid (HN.out.row)
      have hle2 := HROW.out.le
      have DA := Lib.hid (atoi_dig HN.out.row (by omega) Y.1 (HG.out Y))
      rw [← HQM.out] at DA
      have hsl2 : ∀ W : World, (Instr.slice 9 (.string s) (some (.int .i64 (p : Int))) (some (.int .i64 (q : Int))) none).run Tryz.prog W = .ok (.string (s.extract p q)) W := fun W => by
        have := HQM.out
        rw [run_slice_string W _ _ _ _ _ _ (by kernel_rfl) (by omega) (by omega) (by omega)]
        rw [show ((p : Int)).toNat = p by omega, show ((q : Int)).toNat = q by omega]
      go_upto_region 27 with (go_at_call 138; refine DA.out.mono ?_; rintro e w3 ⟨ev, rfl, hb3⟩)
      obtain ⟨U, rfl⟩ : ∃ U : Ext V, w3 = U.1 := ⟨⟨w3, below_step Y.2 hb3⟩, rfl⟩
      have HLT := Lib.hid (HROW.out.lt)
      have hdg6 := HTT.out
      clear hb3 DA
      go_upto_region 28 with fail
      go_loopw [15, 17] (fun vv iv wr => ∃ (i : Nat), vv = .int .i64 (n * 10 ^ (i - m)) ∧ iv = .int .i64 i ∧ m ≤ i ∧ i ≤ dg ∧ wr = U.1) (fun _ iv _ => dg - (intOf iv).toNat)
      case atStart => exact ⟨m, by simp, congrArg (Value.int .i64) (by have := HQM.out; omega), Nat.le_refl _, hm6, rfl⟩
      case round =>
        obtain ⟨i, rfl, rfl, him, hid, rfl⟩ := hrel
        have u0 := c0 U
        have u1 := c1 U
        have u2 := c2 U
        have u3 := c3 U
        have u4 := c4 U
        by_cases hlt : i < dg
        case pos =>
          have l1 : decide ((i : Int) < (dg : Int)) = true := by rw [lt_b]; simpa using hlt
          have l2 : decide (i < dg) = true := by simpa using hlt
          have hsc := scaled_lt HLT.out.1 HLT.out.2 him (show i ≤ 5 by omega)
          have HPW := Lib.hid (show n * 10 ^ (i + 1 - m) = n * 10 ^ (i - m) * 10 by rw [show i + 1 - m = (i - m) + 1 by omega, Int.pow_succ, Int.mul_assoc])
          obtain ⟨vv, hvv⟩ : ∃ vv, n * 10 ^ (i - m) = vv := ⟨_, rfl⟩
          rw [hvv] at hsc HPW ⊢
          clear hvv
          go_wp2_with fail
          go_roundw
          case rel => exact ⟨i + 1, by rw [HPW.out], by go_num, by omega, by omega, by trivial⟩
          case measure => simp [intOf]; omega
        case neg =>
          have l1 : decide ((i : Int) < (dg : Int)) = false := by rw [lt_b]; simpa using hlt
          have l2 : decide (i < dg) = false := by simpa using hlt
          have hid2 : i = dg := by omega
          have HXU := Lib.hid (show Rd.runT s ⟨4, tx, lo, hi, dg⟩ p = (q, n * 10 ^ (i - m), decide (0 < m)) by rw [HXT.out, hid2, HQM.out])
          have hpq : decide ((p : Int) < (q : Int)) = decide (0 < m) := by rw [lt_b]; congr 1; rw [eq_iff_iff]; have := HQM.out; omega
          have hpq' : decide (p < q) = decide (0 < m) := by congr 1; rw [eq_iff_iff]; have := HQM.out; omega
          obtain ⟨bm, hbm⟩ : ∃ x, decide (0 < m) = x := ⟨_, rfl⟩
          rw [hbm] at hpq hpq' HXU
          obtain ⟨vv, hvv⟩ : ∃ vv, n * 10 ^ (i - m) = vv := ⟨_, rfl⟩
          rw [hvv] at HXU ⊢
          clear hvv hid2 hlt
          cases bm
          all_goals
            go_wp2_with fail
            go_ret3
            exact RunRet.mk q vv _ rfl HXU.out (fun _ => rfl) (END.out _)
    · have hqd : decide ((q : Int) < (s.size : Int)) = true := by rw [decide_eq_true_eq]; omega
      have hqd' : decide (q < s.size) = true := by simpa using hq
      have HX := Lib.hid (HN.out.stop (by rw [← hqm, hd]; simp))
      clear hd
      have HQM := Lib.hid hqm
      clear hqm
      have DIG := Lib.hid (rIsDigit_any (s[q].toNat) Y.1)
      rw [hisd] at DIG
      go_upto_region 26 with (go_at_call 136; refine DIG.out.mono ?_; rintro e _ ⟨rfl, rfl⟩)
      have HXT := Lib.hid (RT.out _ HX.out)
      have HROW := Lib.hid (HN.out.row)
      have hle2 := HROW.out.le
      have DA := Lib.hid (atoi_dig HN.out.row (by omega) Y.1 (HG.out Y))
      rw [← HQM.out] at DA
      have hsl2 : ∀ W : World, (Instr.slice 9 (.string s) (some (.int .i64 (p : Int))) (some (.int .i64 (q : Int))) none).run Tryz.prog W = .ok (.string (s.extract p q)) W := fun W => by
        have := HQM.out
        rw [run_slice_string W _ _ _ _ _ _ (by kernel_rfl) (by omega) (by omega) (by omega)]
        rw [show ((p : Int)).toNat = p by omega, show ((q : Int)).toNat = q by omega]
      go_upto_region 27 with (go_at_call 138; refine DA.out.mono ?_; rintro e w3 ⟨ev, rfl, hb3⟩)
      obtain ⟨U, rfl⟩ : ∃ U : Ext V, w3 = U.1 := ⟨⟨w3, below_step Y.2 hb3⟩, rfl⟩
      have HLT := Lib.hid (HROW.out.lt)
      have hdg6 := HTT.out
      clear hb3 DA
      go_upto_region 28 with fail
      go_loopw [15, 17] (fun vv iv wr => ∃ (i : Nat), vv = .int .i64 (n * 10 ^ (i - m)) ∧ iv = .int .i64 i ∧ m ≤ i ∧ i ≤ dg ∧ wr = U.1) (fun _ iv _ => dg - (intOf iv).toNat)
      case atStart => exact ⟨m, by simp, congrArg (Value.int .i64) (by have := HQM.out; omega), Nat.le_refl _, hm6, rfl⟩
      case round =>
        obtain ⟨i, rfl, rfl, him, hid, rfl⟩ := hrel
        have u0 := c0 U
        have u1 := c1 U
        have u2 := c2 U
        have u3 := c3 U
        have u4 := c4 U
        by_cases hlt : i < dg
        case pos =>
          have l1 : decide ((i : Int) < (dg : Int)) = true := by rw [lt_b]; simpa using hlt
          have l2 : decide (i < dg) = true := by simpa using hlt
          have hsc := scaled_lt HLT.out.1 HLT.out.2 him (show i ≤ 5 by omega)
          have HPW := Lib.hid (show n * 10 ^ (i + 1 - m) = n * 10 ^ (i - m) * 10 by rw [show i + 1 - m = (i - m) + 1 by omega, Int.pow_succ, Int.mul_assoc])
          obtain ⟨vv, hvv⟩ : ∃ vv, n * 10 ^ (i - m) = vv := ⟨_, rfl⟩
          rw [hvv] at hsc HPW ⊢
          clear hvv
          go_wp2_with fail
          go_roundw
          case rel => exact ⟨i + 1, by rw [HPW.out], by go_num, by omega, by omega, by trivial⟩
          case measure => simp [intOf]; omega
        case neg =>
          have l1 : decide ((i : Int) < (dg : Int)) = false := by rw [lt_b]; simpa using hlt
          have l2 : decide (i < dg) = false := by simpa using hlt
          have hid2 : i = dg := by omega
          have HXU := Lib.hid (show Rd.runT s ⟨4, tx, lo, hi, dg⟩ p = (q, n * 10 ^ (i - m), decide (0 < m)) by rw [HXT.out, hid2, HQM.out])
          have hpq : decide ((p : Int) < (q : Int)) = decide (0 < m) := by rw [lt_b]; congr 1; rw [eq_iff_iff]; have := HQM.out; omega
          have hpq' : decide (p < q) = decide (0 < m) := by congr 1; rw [eq_iff_iff]; have := HQM.out; omega
          obtain ⟨bm, hbm⟩ : ∃ x, decide (0 < m) = x := ⟨_, rfl⟩
          rw [hbm] at hpq hpq' HXU
          obtain ⟨vv, hvv⟩ : ∃ vv, n * 10 ^ (i - m) = vv := ⟨_, rfl⟩
          rw [hvv] at HXU ⊢
          clear hvv hid2 hlt
          cases bm
          all_goals
            go_wp2_with fail
            go_ret3
            exact RunRet.mk q vv _ rfl HXU.out (fun _ => rfl) (END.out _)
theorem run_any (t : Tok) (ht : Rd.TokOk t) (s : ByteArray) (p : Nat) (hs : s.size ≤ 1000000) (hp : p ≤ s.size) (w : World) (hg : Glo w) :
    Calls Tryz.prog 116 #[tokV t, .string s, .int .i64 p] w fun e w' => RunRet s t p w e w' := by
  rcases ht with h | h | h | h
  · exact runLit_any t h.1 s p hs hp h.2 w hg
  · exact runNum_any t h.1 s p hs hp h.2 w hg
  · exact runPair_any t h.1 s p hs hp h.2 w hg
  · exact runPart_any t h.1 s p hs hp h.2 w hg
end Go.Proofs.YtcdilamkkodjjaaGreatDoor

/- The reader's last and begins. -/
namespace Go.Proofs.YtcdilamkkodjjaaGreatDoor
open Go.RowKit Go.BigFrame
open Rd (lastAt begAt exactAt)

theorem begins_rd {B : Nat} {s : ByteArray} {p : Nat} {ok : Bool} (c : Nat) (hc : c < 256) (w : World) (h : IsRd w B s p ok) (hp : p ≤ s.size) :
    Calls Tryz.prog 107 #[.string (Rd.byteT c), pt (B + 3), pt B, pt (B + 2)] w fun e w' => e = .returned (.bool (begAt s c p ok)) ∧ w = w' := by
  obtain ⟨_, c0, c2, _, c3, _, _, _⟩ := h
  unfold pt
  cases ok
  · go_enter Tryz.func107, Tryz.ntmps107
    go_wp2_with fail
    go_ret
    exact ⟨rfl, rfl⟩
  · have hsl : ∀ W : World, (Instr.slice 9 (.string s) (some (.int .i64 (p : Int))) none none).run Tryz.prog W = .ok (.string (s.extract p s.size)) W := fun W => by
      rw [run_slice_string_from_if W _ _ _ _ (by kernel_rfl), if_pos ⟨by omega, by omega⟩]
      rw [show ((p : Int)).toNat = p by omega]
    have DH := Lib.hid (fun W => Tryz.strings_HasPrefix (s.extract p s.size) (Rd.byteT c) W)
    have HV : Hid (Lib.hasPrefix (s.extract p s.size).data.toList (Rd.byteT c).data.toList = begAt s c p true) := Lib.hid (by
      have hx : (s.extract p s.size).data.toList = (Rd.sB s).drop p := by
        have := Rd.extract_list s p s.size
        rw [List.take_of_length_le (by rw [List.length_drop]; exact Nat.le_refl _)] at this
        exact this
      rw [hx]
      unfold begAt
      have hb : (Rd.byteT c).data.toList = [c.toUInt8] := rfl
      rw [hb]
      by_cases hlt : p < s.size
      · have hd : (Rd.sB s).drop p = s[p] :: (Rd.sB s).drop (p + 1) := by
          have hl : p < (Rd.sB s).length := hlt
          rw [List.drop_eq_getElem_cons hl]
          rfl
        rw [hd, Rd.byte_lt hlt]
        have e1 : Lib.hasPrefix (s[p] :: (Rd.sB s).drop (p + 1)) [c.toUInt8] = (s[p] == c.toUInt8) := by
          show (c.toUInt8 == s[p] && true) = _
          rw [Bool.and_true, Bool.eq_iff_iff, beq_iff_eq, beq_iff_eq]
          exact eq_comm
        rw [e1]
        have hcc : c.toUInt8.toNat = c := by simp; omega
        by_cases e : s[p].toNat = c
        · have : s[p] = c.toUInt8 := by rw [← UInt8.toNat_inj, hcc]; exact e
          simp [this, hcc, hlt]
        · have : s[p] ≠ c.toUInt8 := fun x => e (by rw [x, hcc])
          simp [this, e]
      · have hd : (Rd.sB s).drop p = [] := List.drop_eq_nil_of_le (by show s.size ≤ p; omega)
        rw [hd]
        simp [Lib.hasPrefix, hlt])
    rw [HV.out] at DH
    go_enter Tryz.func107, Tryz.ntmps107
    go_wp2_with (go_at_call 91; refine (DH.out _).mono ?_; rintro e _ ⟨rfl, rfl⟩)
    go_ret
    exact ⟨rfl, rfl⟩
set_option maxHeartbeats 4000000 in
set_option maxRecDepth 100000 in
theorem last_any {B : Nat} {s : ByteArray} {p : Nat} {ok : Bool} (ws : List ByteArray) (b off c : Nat) (w : World) (h : IsRd w B s p ok) (hs : s.size ≤ 1000000) (hp : p ≤ s.size)
    (hw : ∀ j, j < ws.length → w.cell? ⟨b, off + j, none⟩ = some (.string (ws.getD j ByteArray.empty))) (hl : ws.length ≤ 10) (hsz : ∀ j, j < ws.length → (ws.getD j ByteArray.empty).size ≤ 100) :
    Calls Tryz.prog 105 #[.slice (some ⟨b, off, none⟩) ws.length c, pt (B + 3), pt B, pt (B + 2)] w fun e w' =>
      e = .returned (.int .i64 (lastAt s ws p ok).1) ∧ IsRd w' B s (lastAt s ws p ok).2.1 (lastAt s ws p ok).2.2 ∧ Kp B w w' := by
  have HH := Lib.hid h
  obtain ⟨_, c0, c2, cf2, c3, cf3, _, _⟩ := h
  unfold pt
  cases ok
  case false =>
    go_enter Tryz.func105, Tryz.ntmps105
    go_wp2_with fail
    go_ret
    exact ⟨rfl, HH.out, Kp.refl _ _⟩
  case true =>
    have hsl : ∀ W : World, (Instr.slice 9 (.string s) (some (.int .i64 (p : Int))) none none).run Tryz.prog W = .ok (.string (s.extract p s.size)) W := fun W => by
      rw [run_slice_string_from_if W _ _ _ _ (by kernel_rfl), if_pos ⟨by omega, by omega⟩]
      rw [show ((p : Int)).toNat = p by omega]
    have hrs : (s.extract p s.size).size = s.size - p := by rw [ByteArray.size_extract]; omega
    have HG : Hid (∀ n (hn : n < (s.extract p s.size).size), ((s.extract p s.size)[n]'hn).toNat = Rd.byte s (p + n)) := Lib.hid (fun n hn => by
      rw [ByteArray.getElem_extract, Rd.byte_lt (by omega)])
    have HL : Hid (lastAt s ws p true = (Lib.idxOfS ws (s.extract p s.size), ws.foldl (fun a w => max a (exactAt s w p true).1) p, decide (0 ≤ Lib.idxOfS ws (s.extract p s.size)))) := Lib.hid rfl
    have DX := Lib.hid (fun W hW => Tryz.slices_Index_string b off ws.length c ws (s.extract p s.size) W (Nat.le_refl _) (by omega) hW)
    rw [List.take_length] at DX
    obtain ⟨r, hr⟩ : ∃ r, s.extract p s.size = r := ⟨_, rfl⟩
    rw [hr] at hsl hrs HG HL DX
    have C0 := Ext.ex c0
    have C2 := Ext.ex c2
    have C3 := Ext.ex c3
    have HW := Lib.hid hw
    have HSZ := Lib.hid hsz
    have HRS := Lib.hid hrs
    clear hr hw hsz cf2 cf3 hrs
    go_enter Tryz.func105, Tryz.ntmps105
    go_wp2_with fail
    go_loopw [7, 19] (fun mv iv wr => ∃ (k mo : Nat) (X : Ext w), mv = .int .i64 mo ∧ iv = .int .i64 k ∧ k ≤ ws.length ∧ mo ≤ 1000000 ∧ wr = X.1 ∧ Hid ((ws.take k).foldl (fun a x => max a (exactAt s x p true).1) p = p + mo)) (fun _ iv _ => ws.length - (intOf iv).toNat)
    case atStart => exact ⟨0, 0, ⟨w, Below.refl _ _⟩, rfl, rfl, by omega, by omega, rfl, Lib.hid (by simp)⟩
    case round =>
      obtain ⟨k, mo, X, rfl, rfl, hk, hmo, rfl, HF⟩ := hrel
      by_cases hlt : k < ws.length
      case neg =>
        have t1 : decide ((k : Int) < (ws.length : Int)) = false := by rw [lt_b]; simpa using hlt
        have t1' : decide (k < ws.length) = false := by simpa using hlt
        have hf := HF.out
        rw [List.take_of_length_le (by omega)] at hf
        have hl2 := HL.out
        rw [hf] at hl2
        have HL2 := Lib.hid hl2
        have DXX := Lib.hid (DX.out X.1 (fun j hj => below_cell X.2 (HW.out j hj)))
        obtain ⟨ix, hix⟩ : ∃ ix, Lib.idxOfS ws r = ix := ⟨_, rfl⟩
        rw [hix] at HL2 DXX
        have HRX := Lib.hid (HH.out.kept X.2)
        obtain ⟨_, y0, y2, yf2, y3, yf3, _, _⟩ := HRX.out
        obtain ⟨bi, hbi⟩ : ∃ x, decide (0 ≤ ix) = x := ⟨_, rfl⟩
        have hbi' : decide (ix ≥ 0) = bi := hbi
        rw [hbi] at HL2
        have HK0 := Lib.hid (Kp.of_below (B := B) X.2)
        clear hix hf hl2 HF hlt C0 C2 C3 c0 c2 c3 hbi
        go_upto_region 13 with (go_at_call 106; refine DXX.out.mono ?_; rintro e _ ⟨rfl, rfl⟩)
        go_wp2_with fail
        go_ret
        refine ⟨by rw [HL2.out]; rfl, ?_, ?_⟩
        · rw [HL2.out]
          exact (HRX.out.setOk bi).setAt (p + mo)
        · exact (HK0.out.setOk _).setAt _
      case pos =>
        have t1 : decide ((k : Int) < (ws.length : Int)) = true := by rw [lt_b]; simpa using hlt
        have t1' : decide (k < ws.length) = true := by simpa using hlt
        have e0 := below_cell X.2 (HW.out k hlt)
        have hxs := HSZ.out k hlt
        have hgk : ws.take (k + 1) = ws.take k ++ [ws.getD k ByteArray.empty] := by
          rw [List.take_add_one, List.getElem?_eq_getElem hlt, List.getD_eq_getElem?_getD, List.getElem?_eq_getElem hlt]
          rfl
        have HNX : Hid ((ws.take (k + 1)).foldl (fun a x => max a (exactAt s x p true).1) p = max (p + mo) (exactAt s (ws.getD k ByteArray.empty) p true).1) := Lib.hid (by rw [hgk, List.foldl_append, HF.out]; rfl)
        obtain ⟨x, hx⟩ : ∃ x, ws.getD k ByteArray.empty = x := ⟨_, rfl⟩
        rw [hx] at e0 hxs HNX
        clear hgk hx HF
        go_upto_region 8 with fail
        go_loopw [10] (fun nv wr => ∃ (n : Nat) (Y : Ext w), nv = .int .i64 n ∧ n ≤ x.size ∧ p + n ≤ s.size ∧ wr = Y.1 ∧ Hid (Rd.exactLoop s x (x.size - n) n (p + n) = exactAt s x p true)) (fun nv _ => x.size - (intOf nv).toNat)
        case atStart => exact ⟨0, X, rfl, by omega, by omega, rfl, Lib.hid (Rd.exactAt_yes s x p).symm⟩
        case round =>
          obtain ⟨n, Y, rfl, hn1, hn2, rfl, HE⟩ := hrel
          have hnr : n ≤ r.size := by have := HRS.out; omega
          by_cases hin : n < x.size ∧ n < r.size
          case neg =>
            have m1 : decide ((n : Int) < min (x.size : Int) (r.size : Int)) = false := by rw [decide_eq_false_iff_not]; omega
            have m2 : decide ((n : Int) < (x.size : Int)) = decide (n < x.size) := lt_b
            have HX : Hid ((exactAt s x p true).1 = p + n) := Lib.hid (by
              rw [← HE.out]
              by_cases hnx : n < x.size
              · rw [show x.size - n = (x.size - n - 1) + 1 by omega, Rd.exactLoop, if_pos hnx, if_neg (fun h => by have := HRS.out; omega)]
              · rw [show x.size - n = 0 by omega]; rfl)
            clear HE
            go_upto_region 8 with fail
            refine wp_region_ext Y (by kernel_rfl) (by kernel_rfl) ?_
            repeat (go_big_quiet_step (fail))
            refine wpQuiet_nil ?_
            intro _ hw'
            obtain ⟨Z, rfl⟩ := hw'
            go_wp2_with fail
            go_roundw
            case rel => exact ⟨k + 1, max mo n, Z, by go_num, by go_num, by omega, by omega, rfl, Lib.hid (by rw [HNX.out, HX.out]; omega)⟩
            case measure => simp [intOf]; omega
          case pos =>
            have m1 : decide ((n : Int) < min (x.size : Int) (r.size : Int)) = true := by rw [decide_eq_true_eq]; omega
            have hxn := hin.1
            have hrn := hin.2
            have hgn := HG.out n hrn
            have HGN := Lib.hid hgn
            by_cases he : x[n].toNat = r[n].toNat
            case neg =>
              have g5 : ((x[n].toNat : Int) == (r[n].toNat : Int)) = false := by rw [eq_b]; simpa using he
              have g7 : decide (x[n].toNat = r[n].toNat) = false := by simpa using he
              have HX : Hid ((exactAt s x p true).1 = p + n) := Lib.hid (by
                rw [← HE.out, show x.size - n = (x.size - n - 1) + 1 by omega, Rd.exactLoop, if_pos hxn, if_neg (fun h => by
                  have h2 := h.2
                  rw [← hgn, Rd.byte_lt hxn] at h2
                  exact he h2.symm)])
              clear HE hgn he
              go_upto_region 8 with fail
              refine wp_region_ext Y (by kernel_rfl) (by kernel_rfl) ?_
              repeat (go_big_quiet_step (fail))
              refine wpQuiet_nil ?_
              intro _ hw'
              obtain ⟨Z, rfl⟩ := hw'
              go_wp2_with fail
              go_roundw
              case rel => exact ⟨k + 1, max mo n, Z, by go_num, by go_num, by omega, by omega, rfl, Lib.hid (by rw [HNX.out, HX.out]; omega)⟩
              case measure => simp [intOf]; omega
            case pos =>
              have g5 : ((x[n].toNat : Int) == (r[n].toNat : Int)) = true := by rw [eq_b]; simpa using he
              have g7 : decide (x[n].toNat = r[n].toNat) = true := by simpa using he
              have HX : Hid (Rd.exactLoop s x (x.size - (n + 1)) (n + 1) (p + (n + 1)) = exactAt s x p true) := Lib.hid (by
                rw [← HE.out, show x.size - n = (x.size - (n + 1)) + 1 by omega]
                conv => rhs; rw [Rd.exactLoop]
                rw [if_pos hxn, if_pos ⟨by have := HRS.out; omega, by rw [← hgn, Rd.byte_lt hxn]; exact he.symm⟩, Nat.add_assoc])
              clear HE hgn he
              go_upto_region 8 with fail
              refine wp_region_ext Y (by kernel_rfl) (by kernel_rfl) ?_
              repeat (go_big_quiet_step (fail))
              refine wpQuiet_nil ?_
              intro _ hw'
              obtain ⟨Z, rfl⟩ := hw'
              go_wp2_with fail
              go_roundw
              case rel => exact ⟨n + 1, Z, by go_num, by omega, by have := HRS.out; omega, rfl, HX⟩
              case measure => simp [intOf]; omega
end Go.Proofs.YtcdilamkkodjjaaGreatDoor

/- The long form of durations. -/
namespace Go.Proofs.YtcdilamkkodjjaaGreatDoor
open Go.RowKit Go.BigFrame

set_option maxHeartbeats 2000000 in
set_option maxRecDepth 100000 in
theorem long_form : FormOk 52 Rd.longF := by
  intro B s w h hs
  have hsz := h.size
  have hR0 := h.boxed (.cells (rdVals B) 50)
  have hK0 := (Kp.refl B w).alloc (.cells (rdVals B) 50)
  have hX := isBox_new w B 50
  have HX := Lib.hid hX
  have k0 := hX.num
  unfold numF at k0
  clear hX
  have hnum := Lib.hid (fun w (h : IsRd w B s 0 true) => number_any 3 1 999 w h (by omega) (by omega))
  have hv := Rd.numLoop_val s 3 1 999 true 3 0 0 0 (by omega) (by omega)
  rw [show Rd.numLoop s 3 1 999 true 3 0 0 0 = Rd.numAt s 3 1 999 true 0 from rfl] at hv
  generalize hh : Rd.numAt s 3 1 999 true 0 = h1 at hnum hv
  have hex := Lib.hid (fun w (h : IsRd w B s h1.2.2 (Rd.numOk 1 true h1)) => exact_any Rd.colon w h (by omega) (by decide))
  generalize hc : Rd.exactAt s Rd.colon h1.2.2 (Rd.numOk 1 true h1) = c at hex
  have hpr := Lib.hid (fun w (h : IsRd w B s c.1 c.2) => pair_any 59 w h (by omega))
  have hy := Rd.pairAt_val s (most := 59) c.1 c.2 (by omega)
  generalize hm : Rd.pairAt s 59 c.1 c.2 = m at hpr hy
  have hex2 := Lib.hid (fun w (h : IsRd w B s m.2.1 m.2.2) => exact_any Rd.colon w h (by omega) (by decide))
  generalize hd : Rd.exactAt s Rd.colon m.2.1 m.2.2 = d at hex2
  have hpr2 := Lib.hid (fun w (h : IsRd w B s d.1 d.2) => pair_any 59 w h (by omega))
  have hx := Rd.pairAt_val s (most := 59) d.1 d.2 (by omega)
  generalize hxx : Rd.pairAt s 59 d.1 d.2 = x at hpr2 hx
  have hF : Rd.longF s = (3600 * h1.1 + 60 * m.1 + x.1, x.2.1, x.2.2) := by unfold Rd.longF; simp only [hh, hc, hm, hd, hxx]
  rw [hF]
  have v0 := hv.1
  have v1 : h1.1 ≤ 999 := by omega
  have y0 := hy.1
  have y1 := hy.2
  have x0 := hx.1
  have x1 := hx.2
  clear hF hh hc hm hd hxx hv hx hy
  generalize hn1 : h1.1 = hv at *
  generalize hn2 : x.1 = xv at *
  generalize hn3 : m.1 = mv at *
  have hK0' := Lib.hid hK0
  have hR0' := Lib.hid hR0
  clear hK0 hR0 h hn1 hn2 hn3
  go_enter Tryz.func52, Tryz.ntmps52
  go_wp2_with fail
  refine (hnum.out _ hR0'.out).mono ?_
  rintro e w1 ⟨rfl, hR1, hK1⟩
  have HX1 := Lib.hid (HX.out.kp hK1 (by omega))
  have k3 := HX1.out.exact_
  unfold exactF at k3
  have HR1 := Lib.hid hR1
  have HK1 := Lib.hid (hK0'.out.trans hK1)
  clear hR1 hK1 k0 HX
  go_wp2_with fail
  refine (hex.out _ HR1.out).mono ?_
  rintro e w2 ⟨rfl, hR2, hK2⟩
  have HX2 := Lib.hid (HX1.out.kp hK2 (by omega))
  have k2 := HX2.out.pair
  unfold pairF at k2
  have HR2 := Lib.hid hR2
  have HK2 := Lib.hid (HK1.out.trans hK2)
  clear hR2 hK2 k3 HX1
  go_wp2_with fail
  refine (hpr.out _ HR2.out).mono ?_
  rintro e w3 ⟨rfl, hR3, hK3⟩
  have HX3 := Lib.hid (HX2.out.kp hK3 (by omega))
  have k3 := HX3.out.exact_
  unfold exactF at k3
  have HR3 := Lib.hid hR3
  have HK3 := Lib.hid (HK2.out.trans hK3)
  clear hR3 hK3 k2 HX2
  go_wp2_with fail
  refine (hex2.out _ HR3.out).mono ?_
  rintro e w4 ⟨rfl, hR4, hK4⟩
  have HX4 := Lib.hid (HX3.out.kp hK4 (by omega))
  have k2 := HX4.out.pair
  unfold pairF at k2
  have HR4 := Lib.hid hR4
  have HK4 := Lib.hid (HK3.out.trans hK4)
  clear hR4 hK4 k3 HX3
  go_wp2_with fail
  refine (hpr2.out _ HR4.out).mono ?_
  rintro e w5 ⟨rfl, hR5, hK5⟩
  have HR5 := Lib.hid hR5
  have HK5 := Lib.hid (HK4.out.trans hK5)
  clear hR5 hK5 k2
  go_wp2
  go_ret
  exact ⟨rfl, HR5.out, HK5.out⟩
end Go.Proofs.YtcdilamkkodjjaaGreatDoor

/- readForms, ranged. -/
namespace Go.Proofs.YtcdilamkkodjjaaGreatDoor
open Go.RowKit Go.BigFrame

theorem ranged_any (n e lo hi : Int) (a : Nat) (w : World) : Calls Tryz.prog 28 #[.int .i64 n, .int .i64 a, .int .i64 e, .int .i64 lo, .int .i64 hi] w fun r w' =>
    r = .returned (.tuple #[.int .i64 (Rd.ranged (n, a, e) lo hi).1, .int .i64 (Rd.ranged (n, a, e) lo hi).2.1, .int .i64 (Rd.ranged (n, a, e) lo hi).2.2]) ∧ w = w' := by
  cases h0 : (e == 0)
  · have hz : Rd.ranged (n, a, e) lo hi = (n, a, e) := by unfold Rd.ranged; rw [if_neg]; simp only [beq_eq_false_iff_ne] at h0; exact fun h => h0 h.1
    rw [hz]
    clear hz
    go_enter Tryz.func28, Tryz.ntmps28
    go_wp2
    go_ret3
    exact ⟨rfl, rfl⟩
  · have he : e = 0 := by simpa using h0
    subst he
    clear h0
    by_cases h1 : n < lo
    · have hz : Rd.ranged (n, a, 0) lo hi = (0, 0, 9) := by unfold Rd.ranged; rw [if_pos]; exact ⟨rfl, .inl h1⟩
      rw [hz]
      have t1 : decide (n < lo) = true := by simpa using h1
      clear hz h1
      go_enter Tryz.func28, Tryz.ntmps28
      go_wp2
      go_ret3
      exact ⟨rfl, rfl⟩
    · have t1 : decide (n < lo) = false := by simpa using h1
      by_cases h2 : hi < n
      · have hz : Rd.ranged (n, a, 0) lo hi = (0, 0, 9) := by unfold Rd.ranged; rw [if_pos]; exact ⟨rfl, .inr h2⟩
        rw [hz]
        have t2 : decide (hi < n) = true := by simpa using h2
        clear hz h1 h2
        go_enter Tryz.func28, Tryz.ntmps28
        go_wp2
        go_ret3
        exact ⟨rfl, rfl⟩
      · have hz : Rd.ranged (n, a, 0) lo hi = (n, a, 0) := by unfold Rd.ranged; rw [if_neg]; intro h; rcases h.2 with h | h; exact h1 h; exact h2 h
        rw [hz]
        have t2 : decide (hi < n) = false := by simpa using h2
        clear hz h1 h2
        go_enter Tryz.func28, Tryz.ntmps28
        go_wp2
        go_ret3
        exact ⟨rfl, rfl⟩

structure IsForm (f : FuncId) (F : ByteArray → Int × Nat × Bool) : Prop where
  enter : ∀ args w, Sem.run Tryz.prog (callFunc f args) w = .ok (.enter f args) w
  ok : FormOk f F
/-- a slice of forms in memory, without captured variables -/
def Forms (w : World) (R : Nat) : List FuncId → Nat → Prop
  | [], _ => True
  | f :: l, j => w.cell? ⟨R, j, none⟩ = some (.func (.func f) #[] #[]) ∧ Forms w R l (j + 1)

set_option maxHeartbeats 2000000 in
set_option maxRecDepth 100000 in
theorem readForms_any (s : ByteArray) (w : World) (R n : Nat) (fs : Nat → FuncId) (Fs : Nat → ByteArray → Int × Nat × Bool) (hn : n ≤ 100) (hR : R < w.heap.size)
    (hf : ∀ j, j < n → w.cell? ⟨R, j, none⟩ = some (.func (.func (fs j)) #[] #[])) (hF : ∀ j, j < n → IsForm (fs j) (Fs j)) (hs : s.size ≤ 9223372036854775807) (z : Int × Nat × Int)
    (hz : Rd.readForms s ((List.range n).map Fs) = z) :
    Calls Tryz.prog 25 #[.string s, .slice (some ⟨R, 0, none⟩) n n] w fun r w' =>
      r = .returned (.tuple #[.int .i64 z.1, .int .i64 z.2.1, .int .i64 z.2.2]) ∧ Below w.heap.size w w' := by
  have Hf := Lib.hid hf
  have HF := Lib.hid hF
  have Hz := Lib.hid hz
  clear hf hF hz
  by_cases h1 : 1000 < s.size
  · have t1 : decide ((1000 : Int) < (s.size : Int)) = true := by rw [decide_eq_true_eq]; omega
    have hzz : z = (0, 0, 3) := by rw [← Hz.out]; unfold Rd.readForms; rw [if_pos h1]
    subst hzz
    clear h1
    go_enter Tryz.func25, Tryz.ntmps25
    go_wp2_with fail
    go_ret3
    exact ⟨rfl, Below.refl _ _⟩
  · have t1 : decide ((1000 : Int) < (s.size : Int)) = false := by rw [decide_eq_false_iff_not]; omega
    have hsz : (s.size : Int) ≤ 1000 := by omega
    have hst := Lib.hid (show Rd.formsLoop s ((List.range n).map Fs) 0 = z by rw [← Hz.out]; unfold Rd.readForms; rw [if_neg h1])
    clear h1
    go_enter Tryz.func25, Tryz.ntmps25
    go_wp2_with fail
    go_loopw [5, 18] (fun av iv wr => ∃ (a i : Nat), av = .int .i64 a ∧ iv = .int .i64 i ∧ i ≤ n ∧ Below w.heap.size w wr ∧ Rd.formsLoop s (((List.range n).map Fs).drop i) a = z) (fun _ iv _ => n - (intOf iv).toNat)
    case atStart => exact ⟨0, 0, rfl, rfl, by omega, Below.refl _ _, hst.out⟩
    case round =>
      obtain ⟨a, i, rfl, rfl, hi, hb, hl⟩ := hrel
      have HB := Lib.hid hb
      have HL := Lib.hid hl
      have hbs := hb.size
      clear hb hl hst
      by_cases hin : i < n
      · have t2 : decide ((i : Int) < (n : Int)) = true := by rw [decide_eq_true_eq]; omega
        have hcf := (HF.out i hin).enter
        have c0 := (HB.out.cell (p := ⟨R, i, none⟩) hR).trans (Hf.out i hin)
        have hrd := Lib.hid (readerOf_any s wr)
        go_wp2_with fail
        refine hrd.out.mono ?_
        rintro e w1 ⟨rfl, hR1, hb1⟩
        unfold rdVals digF pt
        have hb1s := hb1.size
        have h6 := hR1.size
        have HR1 := Lib.hid (hR1.boxed (.cells (rdVals wr.heap.size) 50))
        have HX1 := Lib.hid (isBox_new w1 wr.heap.size 50)
        have HB1 := Lib.hid ((HB.out.trans (hb1.mono hbs)).alloc (by omega) (.cells (rdVals wr.heap.size) 50))
        clear hb1 hR1
        go_wp2_with fail
        change Calls Tryz.prog (fs i) #[.agg (rdVals wr.heap.size)] (w1.alloc (.cells (rdVals wr.heap.size) 50)) _
        refine ((HF.out i hin).ok wr.heap.size s _ HR1.out (by omega)).mono ?_
        rintro e w2 ⟨rfl, hR2, hK2⟩
        have HX2 := Lib.hid (HX1.out.kp hK2 (by omega))
        have hk2s := hK2.size
        have HB2 := Lib.hid (HB1.out.trans (hK2.below (C := w.heap.size) (by omega) (by simp; omega)))
        have HR2 := Lib.hid hR2
        have k8 := HX2.out.place
        unfold placeF at k8
        have hpl := Lib.hid (place_any w2 hR2)
        have hcons : (((List.range n).map Fs).drop i) = Fs i :: (((List.range n).map Fs).drop (i + 1)) := by
          rw [List.drop_eq_getElem_cons (by simpa using hin)]
          simp
        have hL := HL.out
        rw [hcons, Rd.formsLoop] at hL
        have HL' := Lib.hid hL
        clear hR2 hK2 hL hcons HL
        generalize Fs i s = F at HL' HR2 hpl ⊢
        go_wp2_with fail
        refine hpl.out.mono ?_
        rintro e w3 ⟨rfl, nd, rfl⟩
        have HB3 := Lib.hid (below_drewN HB2.out nd)
        clear k8 hpl
        cases hw : (F.2.2 && decide (F.2.1 = s.size))
        · have hL := HL'.out
          rw [hw, if_neg (by simp)] at hL
          have HL2 := Lib.hid hL
          clear hL HL' hw
          go_wp2
          go_roundw
          case rel => exact ⟨max a F.2.1, i + 1, congrArg (Value.int .i64) (by omega), by go_num, by omega, HB3.out, HL2.out⟩
          case measure => simp [intOf]; omega
        · have hL := HL'.out
          rw [hw, if_pos rfl] at hL
          subst hL
          clear HL' hw
          go_wp2
          go_ret3
          exact ⟨rfl, HB3.out⟩
      · have t2 : decide (i < n) = false := by simpa using hin
        have hL := HL.out
        rw [List.drop_of_length_le (by simp; omega), Rd.formsLoop] at hL
        subst hL
        clear HL hin
        go_wp2
        go_ret3
        exact ⟨rfl, HB.out⟩
end Go.Proofs.YtcdilamkkodjjaaGreatDoor

/- Durations with letters. -/
namespace Go.Proofs.YtcdilamkkodjjaaGreatDoor
open Go.RowKit Go.BigFrame

def strLen : Value → Nat | .string t => t.size | _ => 0
theorem lets_size {m : Nat} (h : m ≤ 3) : (Rd.lets m).size = m := by
  rcases (show m = 0 ∨ m = 1 ∨ m = 2 ∨ m = 3 by omega) with rfl | rfl | rfl | rfl <;> rfl
theorem sum_bound {v u : Int} (h0 : 0 ≤ v) (h1 : v ≤ 9999999) (hu : u = 3600 ∨ u = 60 ∨ u = 1) : 0 ≤ v * u ∧ v * u ≤ 36000000000 := by
  rcases hu with rfl | rfl | rfl <;> omega

set_option maxHeartbeats 4000000 in
set_option maxRecDepth 100000 in
theorem lettered_form : FormOk 53 Rd.letteredF := by
  intro B s w h hs
  have hsz := h.size
  have hb0 := ((Below.refl w.heap.size w).alloc (Nat.le_refl _) (.cells (rdVals B) 50)).alloc (by simp) (.cells #[.int .i64 3600, .int .i64 60, .int .i64 1] 3)
  have hR0 := Lib.hid (h.kept hb0)
  have hK0 := Lib.hid (Kp.of_below (B := B) hb0)
  have hX0 := Lib.hid ((isBox_new w B 50).kp (Kp.of_below (B := B) ((Below.refl _ _).alloc (Nat.le_refl _) (.cells #[.int .i64 3600, .int .i64 60, .int .i64 1] 3))) (by omega))
  obtain ⟨z, hz⟩ : ∃ z, z = Rd.letteredF s := ⟨_, rfl⟩
  rw [← hz]
  have Hz := Lib.hid (hz.symm : Rd.lettLoop s 3 3 0 0 true = z)
  clear h hb0 hz
  go_enter Tryz.func53, Tryz.ntmps53
  go_wp2_with fail
  go_loopw [3, 5] (fun sv lv wr => ∃ (sum : Int) (m f p : Nat) (ok : Bool), sv = .int .i64 sum ∧ lv = .string (Rd.lets m) ∧ m ≤ 3 ∧ m ≤ f ∧ 0 ≤ sum ∧ sum ≤ 36000000000 * (3 - m) ∧ IsRd wr B s p ok ∧ IsBox wr w.heap.size B ∧ Kp B w wr ∧
      wr.cell? ⟨w.heap.size + 1, 0, none⟩ = some (.int .i64 3600) ∧ wr.cell? ⟨w.heap.size + 1, 1, none⟩ = some (.int .i64 60) ∧ wr.cell? ⟨w.heap.size + 1, 2, none⟩ = some (.int .i64 1) ∧ Rd.lettLoop s f m sum p ok = z) (fun _ lv _ => strLen lv)
  case atStart =>
    exact ⟨0, 3, 3, 0, true, rfl, rfl, by omega, by omega, by omega, by omega, hR0.out, hX0.out, hK0.out, by rw [World.cell?_alloc_at _ _ _ _ (by simp)]; rfl, by rw [World.cell?_alloc_at _ _ _ _ (by simp)]; rfl, by rw [World.cell?_alloc_at _ _ _ _ (by simp)]; rfl, Hz.out⟩
  case round =>
    obtain ⟨sum, m, f, p, ok, rfl, rfl, hm, hf, hs0, hs1, hR, hX, hK, u0, u1, u2, hL⟩ := hrel
    have HR := Lib.hid hR
    have HX := Lib.hid hX
    have HK := Lib.hid hK
    have HL := Lib.hid hL
    have k0 := hX.num
    unfold numF at k0
    clear hR hX hK hL Hz hR0 hX0 hK0
    by_cases hm0 : m = 0
    · subst hm0
      have hL := HL.out
      rw [Rd.lettLoop_end] at hL
      subst hL
      unfold Rd.lets
      clear HL
      go_wp2
      go_ret
      exact ⟨rfl, HR.out, HK.out⟩
    · have hne : (!(Rd.lets m).toList.isEmpty) = true := by
        rcases (show m = 1 ∨ m = 2 ∨ m = 3 by omega) with rfl | rfl | rfl <;> kernel_rfl
      have hne2 : (Rd.lets m).toList.isEmpty = false := by simpa using hne
      obtain ⟨f, rfl⟩ : ∃ g, f = g + 1 := ⟨f - 1, by omega⟩
      have hlm := lets_size hm
      have hnum := Lib.hid (number_any 7 0 9999999 wr HR.out (by omega) (by omega))
      have hv := Rd.numAt_val s 7 0 9999999 ok p (by omega)
      generalize hx : Rd.numAt s 7 0 9999999 ok p = x at hnum hv
      have hone := Lib.hid (fun w (h : IsRd w B s x.2.2 (Rd.numOk 0 ok x)) => one_any (Rd.lets m) w h (by omega))
      have hk := Rd.oneAt_lt s (Rd.lets m) x.2.2 (Rd.numOk 0 ok x)
      rw [hlm] at hk
      generalize hkk : Rd.oneAt s (Rd.lets m) x.2.2 (Rd.numOk 0 ok x) = k at hone hk
      have Hx := Lib.hid hx
      have Hk := Lib.hid hkk
      have v0 := hv.1
      have v1 := hv.2
      generalize hxv : x.1 = xv at v0 v1 hnum
      have Hxv := Lib.hid hxv
      generalize hkv : k.1 = kv at hk hone
      have Hkv := Lib.hid hkv
      clear hx hkk hv hlm hxv hkv
      go_wp2_with fail
      refine hnum.out.mono ?_
      rintro e w1 ⟨rfl, hR1, hK1⟩
      have HX1 := Lib.hid (HX.out.kp hK1 (by omega))
      have k4 := HX1.out.one
      unfold oneF at k4
      have HR1 := Lib.hid hR1
      have HK1 := Lib.hid (HK.out.trans hK1)
      have U0 := IsRd.of_kp hK1 u0 (by omega) (by omega)
      have U1 := IsRd.of_kp hK1 u1 (by omega) (by omega)
      have U2 := IsRd.of_kp hK1 u2 (by omega) (by omega)
      clear hR1 hK1 k0 HX u0 u1 u2 hnum
      go_wp2_with fail
      refine (hone.out _ HR1.out).mono ?_
      rintro e w2 ⟨rfl, hR2, hK2⟩
      have HX2 := Lib.hid (HX1.out.kp hK2 (by omega))
      have k7 := HX2.out.dig
      unfold digF' at k7
      have HR2 := Lib.hid hR2
      have HK2 := Lib.hid (HK1.out.trans hK2)
      have u0 := IsRd.of_kp hK2 U0 (by omega) (by omega)
      have u1 := IsRd.of_kp hK2 U1 (by omega) (by omega)
      have u2 := IsRd.of_kp hK2 U2 (by omega) (by omega)
      clear hR2 hK2 k4 HX1 U0 U1 U2 hone HR1 HK1 HR HK
      by_cases hkn : kv < 0
      · have t1 : decide (kv < 0) = true := by simpa using hkn
        have hL := HL.out
        rw [Rd.lettLoop_none hm0 Hx.out Hk.out (by rw [Hkv.out]; exact hkn)] at hL
        subst hL
        clear hk hkn HL
        go_wp2
        go_ret
        exact ⟨rfl, HR2.out, HK2.out⟩
      · have t1 : decide (kv < 0) = false := by simpa using hkn
        obtain ⟨kn, rfl⟩ := Int.eq_ofNat_of_zero_le (show 0 ≤ kv by omega)
        have hkm : kn < m := by omega
        have hdig := Lib.hid (digit_any w2 HR2.out)
        have h6 : (m = 1 ∧ kn = 0) ∨ (m = 2 ∧ kn = 0) ∨ (m = 2 ∧ kn = 1) ∨ (m = 3 ∧ kn = 0) ∨ (m = 3 ∧ kn = 1) ∨ (m = 3 ∧ kn = 2) := by omega
        cases hdg : Rd.digAt s k.2.1 k.2.2
        · have hL := HL.out
          rw [Rd.lettLoop_last hm0 Hx.out Hk.out (by rw [Hkv.out]; exact hkn) hdg, Hkv.out, Hxv.out] at hL
          rw [hdg] at hdig
          have HL2 := Lib.hid hL
          clear hL HL hdg hk hkn hkm
          rcases h6 with ⟨rfl, rfl⟩ | ⟨rfl, rfl⟩ | ⟨rfl, rfl⟩ | ⟨rfl, rfl⟩ | ⟨rfl, rfl⟩ | ⟨rfl, rfl⟩
          · have hb := sum_bound v0 v1 (u := 1) (by omega)
            clear hm0 hne hne2
            unfold Rd.lets
            go_wp2_with fail
            refine hdig.out.mono ?_
            rintro e w3 ⟨rfl, rfl⟩
            go_wp2
            go_ret
            rw [← HL2.out]
            refine ⟨ret_int ?_, HR2.out, HK2.out⟩
            show _ = sum + xv * 1
            omega
          · have hb := sum_bound v0 v1 (u := 60) (by omega)
            clear hm0 hne hne2
            unfold Rd.lets
            go_wp2_with fail
            refine hdig.out.mono ?_
            rintro e w3 ⟨rfl, rfl⟩
            go_wp2
            go_ret
            rw [← HL2.out]
            refine ⟨ret_int ?_, HR2.out, HK2.out⟩
            show _ = sum + xv * 60
            omega
          · have hb := sum_bound v0 v1 (u := 1) (by omega)
            clear hm0 hne hne2
            unfold Rd.lets
            go_wp2_with fail
            refine hdig.out.mono ?_
            rintro e w3 ⟨rfl, rfl⟩
            go_wp2
            go_ret
            rw [← HL2.out]
            refine ⟨ret_int ?_, HR2.out, HK2.out⟩
            show _ = sum + xv * 1
            omega
          · have hb := sum_bound v0 v1 (u := 3600) (by omega)
            clear hm0 hne hne2
            unfold Rd.lets
            go_wp2_with fail
            refine hdig.out.mono ?_
            rintro e w3 ⟨rfl, rfl⟩
            go_wp2
            go_ret
            rw [← HL2.out]
            refine ⟨ret_int ?_, HR2.out, HK2.out⟩
            show _ = sum + xv * 3600
            omega
          · have hb := sum_bound v0 v1 (u := 60) (by omega)
            clear hm0 hne hne2
            unfold Rd.lets
            go_wp2_with fail
            refine hdig.out.mono ?_
            rintro e w3 ⟨rfl, rfl⟩
            go_wp2
            go_ret
            rw [← HL2.out]
            refine ⟨ret_int ?_, HR2.out, HK2.out⟩
            show _ = sum + xv * 60
            omega
          · have hb := sum_bound v0 v1 (u := 1) (by omega)
            clear hm0 hne hne2
            unfold Rd.lets
            go_wp2_with fail
            refine hdig.out.mono ?_
            rintro e w3 ⟨rfl, rfl⟩
            go_wp2
            go_ret
            rw [← HL2.out]
            refine ⟨ret_int ?_, HR2.out, HK2.out⟩
            show _ = sum + xv * 1
            omega
        · have hL := HL.out
          rw [Rd.lettLoop_next hm0 Hx.out Hk.out (by rw [Hkv.out]; exact hkn) hdg, Hkv.out, Hxv.out] at hL
          rw [hdg] at hdig
          have HL2 := Lib.hid hL
          clear hL HL hdg hk hkn hkm
          rcases h6 with ⟨rfl, rfl⟩ | ⟨rfl, rfl⟩ | ⟨rfl, rfl⟩ | ⟨rfl, rfl⟩ | ⟨rfl, rfl⟩ | ⟨rfl, rfl⟩
          · have hb := sum_bound v0 v1 (u := 1) (by omega)
            clear hm0 hne hne2
            unfold Rd.lets
            go_wp2_with fail
            refine hdig.out.mono ?_
            rintro e w3 ⟨rfl, rfl⟩
            go_wp2
            go_roundw
            case rel =>
              refine ⟨sum + xv * 1, 0, f, k.2.1, k.2.2, ?_, ?_, by omega, by omega, by omega, by omega, HR2.out, HX2.out, HK2.out, u0, u1, u2, HL2.out⟩
              · exact congrArg (Value.int .i64) (by omega)
              · first | rfl | kernel_rfl
            case measure => first | (simp [strLen]; done) | decide | (show (_ : Nat) < _; kernel_rfl)
          · have hb := sum_bound v0 v1 (u := 60) (by omega)
            clear hm0 hne hne2
            unfold Rd.lets
            go_wp2_with fail
            refine hdig.out.mono ?_
            rintro e w3 ⟨rfl, rfl⟩
            go_wp2
            go_roundw
            case rel =>
              refine ⟨sum + xv * 60, 1, f, k.2.1, k.2.2, ?_, ?_, by omega, by omega, by omega, by omega, HR2.out, HX2.out, HK2.out, u0, u1, u2, HL2.out⟩
              · exact congrArg (Value.int .i64) (by omega)
              · first | rfl | kernel_rfl
            case measure => first | (simp [strLen]; done) | decide | (show (_ : Nat) < _; kernel_rfl)
          · have hb := sum_bound v0 v1 (u := 1) (by omega)
            clear hm0 hne hne2
            unfold Rd.lets
            go_wp2_with fail
            refine hdig.out.mono ?_
            rintro e w3 ⟨rfl, rfl⟩
            go_wp2
            go_roundw
            case rel =>
              refine ⟨sum + xv * 1, 0, f, k.2.1, k.2.2, ?_, ?_, by omega, by omega, by omega, by omega, HR2.out, HX2.out, HK2.out, u0, u1, u2, HL2.out⟩
              · exact congrArg (Value.int .i64) (by omega)
              · first | rfl | kernel_rfl
            case measure => first | (simp [strLen]; done) | decide | (show (_ : Nat) < _; kernel_rfl)
          · have hb := sum_bound v0 v1 (u := 3600) (by omega)
            clear hm0 hne hne2
            unfold Rd.lets
            go_wp2_with fail
            refine hdig.out.mono ?_
            rintro e w3 ⟨rfl, rfl⟩
            go_wp2
            go_roundw
            case rel =>
              refine ⟨sum + xv * 3600, 2, f, k.2.1, k.2.2, ?_, ?_, by omega, by omega, by omega, by omega, HR2.out, HX2.out, HK2.out, u0, u1, u2, HL2.out⟩
              · exact congrArg (Value.int .i64) (by omega)
              · first | rfl | kernel_rfl
            case measure => first | (simp [strLen]; done) | decide | (show (_ : Nat) < _; kernel_rfl)
          · have hb := sum_bound v0 v1 (u := 60) (by omega)
            clear hm0 hne hne2
            unfold Rd.lets
            go_wp2_with fail
            refine hdig.out.mono ?_
            rintro e w3 ⟨rfl, rfl⟩
            go_wp2
            go_roundw
            case rel =>
              refine ⟨sum + xv * 60, 1, f, k.2.1, k.2.2, ?_, ?_, by omega, by omega, by omega, by omega, HR2.out, HX2.out, HK2.out, u0, u1, u2, HL2.out⟩
              · exact congrArg (Value.int .i64) (by omega)
              · first | rfl | kernel_rfl
            case measure => first | (simp [strLen]; done) | decide | (show (_ : Nat) < _; kernel_rfl)
          · have hb := sum_bound v0 v1 (u := 1) (by omega)
            clear hm0 hne hne2
            unfold Rd.lets
            go_wp2_with fail
            refine hdig.out.mono ?_
            rintro e w3 ⟨rfl, rfl⟩
            go_wp2
            go_roundw
            case rel =>
              refine ⟨sum + xv * 1, 0, f, k.2.1, k.2.2, ?_, ?_, by omega, by omega, by omega, by omega, HR2.out, HX2.out, HK2.out, u0, u1, u2, HL2.out⟩
              · exact congrArg (Value.int .i64) (by omega)
              · first | rfl | kernel_rfl
            case measure => first | (simp [strLen]; done) | decide | (show (_ : Nat) < _; kernel_rfl)
end Go.Proofs.YtcdilamkkodjjaaGreatDoor

/- ReadDuration; what every law asks besides: told. -/
namespace Go.Proofs.YtcdilamkkodjjaaGreatDoor
open Go.RowKit Go.BigFrame

def durForms : Nat → FuncId | 0 => 51 | 1 => 52 | _ => 53
def durFs : Nat → ByteArray → Int × Nat × Bool | 0 => Rd.shortF | 1 => Rd.longF | _ => Rd.letteredF
theorem dur_isForm (j : Nat) (hj : j < 3) : IsForm (durForms j) (durFs j) := by
  rcases (show j = 0 ∨ j = 1 ∨ j = 2 by omega) with rfl | rfl | rfl
  · exact ⟨fun _ _ => by kernel_rfl, short_form⟩
  · exact ⟨fun _ _ => by kernel_rfl, long_form⟩
  · exact ⟨fun _ _ => by kernel_rfl, lettered_form⟩
def readDur (s : ByteArray) : Int × Nat × Int := Rd.ranged (Rd.readForms s [Rd.shortF, Rd.longF, Rd.letteredF]) 0 3599999
theorem readDuration_any (s : ByteArray) (w : World) (hs : s.size ≤ 9223372036854775807) :
    Calls Tryz.prog 16 #[.string s] w fun r w' => r = .returned (.tuple #[.int .i64 (readDur s).1, .int .i64 (readDur s).2.1, .int .i64 (readDur s).2.2]) ∧ Below w.heap.size w w' := by
  obtain ⟨z, hz⟩ : ∃ z, Rd.readForms s ((List.range 3).map durFs) = z := ⟨_, rfl⟩
  have hrf := fun (w : World) (R : Nat) (hR : R < w.heap.size) hf => readForms_any s w R 3 durForms durFs (by omega) hR hf dur_isForm hs z hz
  have Hrf := Lib.hid hrf
  have hd : readDur s = Rd.ranged z 0 3599999 := by rw [← hz]; rfl
  rw [hd]
  obtain ⟨n, a, e⟩ := z
  have hra := Lib.hid (ranged_any n e 0 3599999 a)
  generalize Rd.ranged (n, a, e) 0 3599999 = y at hra ⊢
  clear hz hd hrf
  go_enter Tryz.func16, Tryz.ntmps16
  go_wp2_with fail
  refine (Hrf.out _ w.heap.size (by simp) ?hf).mono ?_
  case hf =>
    intro j hj
    rw [World.cell?_alloc_at _ _ _ _ rfl]
    rcases (show j = 0 ∨ j = 1 ∨ j = 2 by omega) with rfl | rfl | rfl <;> rfl
  rintro r w1 ⟨rfl, hb1⟩
  have HB := Lib.hid (((Below.refl w.heap.size w).alloc (Nat.le_refl _) _).trans (hb1.mono (by simp)))
  clear hb1
  go_wp2_with fail
  refine (hra.out _).mono ?_
  rintro r w2 ⟨rfl, rfl⟩
  go_wp2
  go_ret3
  exact ⟨rfl, HB.out⟩
theorem told_dur : readDur ⟨#[49, 104, 53, 115]⟩ = (3605, 0, 0) := by decide +kernel
theorem told_sc : Sc.sc (-7) 1 2 5 = (-4, 0) := by decide +kernel
theorem told_any (w : World) : Calls Tryz.prog 10 #[] w fun e w' => e = .returned (.bool true) ∧ Below w.heap.size w w' := by
  have h1 := Lib.hid (scale_any (-7) 1 2 5 w (by omega) (by omega) (by omega) (by omega))
  have h2 := Lib.hid (fun w => readDuration_any ⟨#[49, 104, 53, 115]⟩ w (by decide))
  rw [told_dur] at h2
  rw [told_sc] at h1
  unfold scRet at h1
  go_enter Tryz.func10, Tryz.ntmps10
  go_wp2_with fail
  refine h1.out.mono ?_
  rintro e w1 ⟨rfl, hb⟩
  go_wp2_with fail
  refine (h2.out _).mono ?_
  rintro e w2 ⟨rfl, hb2⟩
  have HB := Lib.hid (hb.trans (hb2.mono hb.size))
  clear hb hb2
  go_wp2
  go_ret
  exact ⟨rfl, HB.out⟩
end Go.Proofs.YtcdilamkkodjjaaGreatDoor
