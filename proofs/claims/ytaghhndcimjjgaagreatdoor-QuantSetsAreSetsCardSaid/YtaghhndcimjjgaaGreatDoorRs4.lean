/- Several texts of this claim in one. -/
import Derived.Test.YtaghhndcimjjgaaGreatDoorRs3
import Derived.Test.YtaghhndcimjjgaaGreatDoorRs2
import Derived.WalkSmall
import Derived.Laws.EntriesVeiled
import Derived.Handy
import Derived.StillTailTactics
import Derived.Test.YtaghhndcimjjgaaGreatDoorRs1
import Derived.Lib.OwnKind
import Derived.Deep.RegionHeld3
import Derived.Deep.DeepCutAuto
import Derived.Shelf.SlSortCmp.WholeK
import Derived.Test.YtaghhndcimjjgaaGreatDoorShelfS
import Derived.Shelf.SlSortCmp.NoneTotal
import Derived.Deep.AppendLies
/- The reader: readerOf and its functions, each by its contract. -/
namespace Go.Proofs.YtaghhndcimjjgaaGreatDoor
open Go.RowKit Go.BigFrame

def pt (b : Nat) : Value := .pointer (some ⟨b, 0, none⟩)
def digF (B : Nat) : Value := .func (.func 70) #[] #[pt (B + 3), pt (B + 2), pt B]
def takeF (B : Nat) : Value := .func (.func 71) #[] #[pt (B + 2), pt B]
def rdVals (B : Nat) : Array Value := #[
  .func (.func 72) #[] #[pt (B + 4), pt B, pt (B + 2), pt (B + 5), pt (B + 3)],
  .func (.func 73) #[] #[pt (B + 4), pt (B + 5), pt (B + 3)],
  .func (.func 74) #[] #[pt (B + 4), pt B, pt (B + 2), pt (B + 3), pt (B + 5)],
  .func (.func 75) #[] #[pt (B + 3), pt (B + 2), pt B],
  .func (.func 76) #[] #[pt (B + 3), pt (B + 2), pt B],
  .func (.func 78) #[] #[pt (B + 3), pt B, pt (B + 2)],
  .func (.func 80) #[] #[pt (B + 3), pt B, pt (B + 2)],
  digF B,
  .func (.func 82) #[] #[pt (B + 2), pt (B + 3), pt B]]
/-- a reader of the text s, at p -/
structure IsRd (w : World) (B : Nat) (s : ByteArray) (p : Nat) (ok : Bool) : Prop where
  size : B + 6 ≤ w.heap.size
  text : w.cell? ⟨B, 0, none⟩ = some (.string s)
  place : w.cell? ⟨B + 2, 0, none⟩ = some (.int .i64 p)
  placeF : w.frozen? ⟨B + 2, 0, none⟩ = false
  flag : w.cell? ⟨B + 3, 0, none⟩ = some (.bool ok)
  flagF : w.frozen? ⟨B + 3, 0, none⟩ = false
  dig : w.cell? ⟨B + 4, 7, none⟩ = some (digF B)
  take : w.cell? ⟨B + 5, 0, none⟩ = some (takeF B)

theorem cell_past {w : World} {o : Obj} {b j : Nat} {v : Value} (h : w.cell? ⟨b, j, none⟩ = some v) : (w.alloc o).cell? ⟨b, j, none⟩ = some v := by
  rw [World.cell?_alloc_past _ _ _ ?_]; exact h
  rcases Nat.lt_or_ge b w.heap.size with h1 | h1
  · exact h1
  · simp [World.cell?, Array.getElem?_eq_none h1] at h
theorem frozen_past {w : World} {o : Obj} {b j : Nat} (hb : b < w.heap.size) (h : w.frozen? ⟨b, j, none⟩ = false) : (w.alloc o).frozen? ⟨b, j, none⟩ = false := by
  rw [World.frozen?_alloc_past _ _ _ hb]; exact h
theorem isRd_new (w : World) (s : ByteArray) (o1 : Obj) (row : Array Value) (T0 T2 T3 T4 T5 : TypeId) (hr : row[7]? = some (digF w.heap.size)) :
    IsRd ((((((w.alloc (.cells #[.string s] T0)).alloc o1).alloc (.cells #[.int .i64 0] T2)).alloc (.cells #[.bool true] T3)).alloc (.cells row T4)).alloc (.cells #[takeF w.heap.size] T5)) w.heap.size s 0 true := by
  refine ⟨by simp, ?_, ?_, ?_, ?_, ?_, ?_, ?_⟩
  · iterate 5 refine cell_past ?_
    rw [World.cell?_alloc_at _ _ _ _ (by simp)]; rfl
  · iterate 3 refine cell_past ?_
    rw [World.cell?_alloc_at _ _ _ _ (by simp)]; rfl
  · iterate 3 refine frozen_past (by simp) ?_
    exact World.frozen?_alloc_at _ _ _ _ (by simp)
  · iterate 2 refine cell_past ?_
    rw [World.cell?_alloc_at _ _ _ _ (by simp)]; rfl
  · iterate 2 refine frozen_past (by simp) ?_
    exact World.frozen?_alloc_at _ _ _ _ (by simp)
  · refine cell_past ?_
    rw [World.cell?_alloc_at _ _ _ _ (by simp)]; exact hr
  · rw [World.cell?_alloc_at _ _ _ _ (by simp)]; rfl
theorem readerOf_any (s : ByteArray) (w : World) :
    Calls Tryz.prog 41 #[.string s] w fun e w' => e = .returned (.agg (rdVals w.heap.size)) ∧ IsRd w' w.heap.size s 0 true ∧ Below w.heap.size w w' := by
  have hmf : ∀ (fn : Fn) (first cap : Array Value) (w : World), (Instr.makeFunc fn first cap).run Tryz.prog w = .ok (.func fn first cap) w := fun _ _ _ _ => rfl
  go_enter Tryz.func41, Tryz.ntmps41
  go_wp2
  refine bodyPost_ret (v := .agg (rdVals w.heap.size)) (by simp [results, Tryz.results41, go_sem, rdVals, digF, pt]) rfl ⟨rfl, ?_, ?_⟩
  · exact isRd_new w s _ _ _ _ _ _ _ rfl
  · go_grown

/-! ### how the world moves under a reader -/
theorem cell_set_same {w : World} {b j : Nat} {v : Value} (h : w.cell? ⟨b, j, none⟩ = some v) (u : Value) : (w.setCell ⟨b, j, none⟩ u).cell? ⟨b, j, none⟩ = some u := by
  unfold World.cell? at h ⊢
  simp only [World.setCell, Array.getElem?_modify, if_true]
  cases hb : w.heap[b]? with
  | none => simp [hb] at h
  | some o =>
    cases o with
    | cells c e f =>
      simp [hb] at h ⊢
      obtain ⟨hj, _⟩ := Array.getElem?_eq_some_iff.1 h
      rw [Array.getElem?_setIfInBounds_self_of_lt hj]
    | _ => simp [hb] at h
theorem cell_set_far {w : World} {b j b' j' : Nat} (hne : b' ≠ b) (u : Value) : (w.setCell ⟨b, j, none⟩ u).cell? ⟨b', j', none⟩ = w.cell? ⟨b', j', none⟩ :=
  World.cell?_of_block (w := w) (Below.heap_setCell w ⟨b, j, none⟩ u b' hne)
theorem frozen_set_far {w : World} {b j b' j' : Nat} (hne : b' ≠ b) (u : Value) : (w.setCell ⟨b, j, none⟩ u).frozen? ⟨b', j', none⟩ = w.frozen? ⟨b', j', none⟩ :=
  World.frozen?_of_block (w := w) (Below.heap_setCell w ⟨b, j, none⟩ u b' hne)
theorem frozen_set_same {w : World} {b j : Nat} (h : w.frozen? ⟨b, j, none⟩ = false) (u : Value) : (w.setCell ⟨b, j, none⟩ u).frozen? ⟨b, j, none⟩ = false := by
  unfold World.frozen? at h ⊢
  simp only [World.setCell, Array.getElem?_modify, if_true]
  cases hb : w.heap[b]? with
  | none => simp
  | some o => cases o <;> simp_all
theorem IsRd.setAt {w : World} {B : Nat} {s : ByteArray} {p : Nat} {ok : Bool} (h : IsRd w B s p ok) (q : Nat) : IsRd (w.setCell ⟨B + 2, 0, none⟩ (.int .i64 q)) B s q ok :=
  ⟨by rw [World.size_setCell]; exact h.size, by rw [cell_set_far (by omega)]; exact h.text, cell_set_same h.place _, frozen_set_same h.placeF _, by rw [cell_set_far (by omega)]; exact h.flag, by rw [frozen_set_far (by omega)]; exact h.flagF, by rw [cell_set_far (by omega)]; exact h.dig, by rw [cell_set_far (by omega)]; exact h.take⟩
theorem IsRd.setOk {w : World} {B : Nat} {s : ByteArray} {p : Nat} {ok : Bool} (h : IsRd w B s p ok) (q : Bool) : IsRd (w.setCell ⟨B + 3, 0, none⟩ (.bool q)) B s p q :=
  ⟨by rw [World.size_setCell]; exact h.size, by rw [cell_set_far (by omega)]; exact h.text, by rw [cell_set_far (by omega)]; exact h.place, by rw [frozen_set_far (by omega)]; exact h.placeF, cell_set_same h.flag _, frozen_set_same h.flagF _, by rw [cell_set_far (by omega)]; exact h.dig, by rw [cell_set_far (by omega)]; exact h.take⟩
theorem IsRd.kept {w w' : World} {B : Nat} {s : ByteArray} {p : Nat} {ok : Bool} (h : IsRd w B s p ok) (hb : Below w.heap.size w w') : IsRd w' B s p ok :=
  have hs := h.size
  ⟨Nat.le_trans hs hb.size, (hb.cell (p := ⟨B, 0, none⟩) (by show B < _; omega)).trans h.text, (hb.cell (p := ⟨B + 2, 0, none⟩) (by show B + 2 < _; omega)).trans h.place, (hb.frozen (p := ⟨B + 2, 0, none⟩) (by show B + 2 < _; omega)).trans h.placeF,
   (hb.cell (p := ⟨B + 3, 0, none⟩) (by show B + 3 < _; omega)).trans h.flag, (hb.frozen (p := ⟨B + 3, 0, none⟩) (by show B + 3 < _; omega)).trans h.flagF, (hb.cell (p := ⟨B + 4, 7, none⟩) (by show B + 4 < _; omega)).trans h.dig, (hb.cell (p := ⟨B + 5, 0, none⟩) (by show B + 5 < _; omega)).trans h.take⟩
/-- nothing but the reader's place and flag has turned -/
structure Kp (B : Nat) (w w' : World) : Prop where
  os : w'.os = w.os
  tape : w'.tape = w.tape
  output : w'.output = w.output
  size : w.heap.size ≤ w'.heap.size
  block : ∀ k, k < w.heap.size → k ≠ B + 2 → k ≠ B + 3 → w'.heap[k]? = w.heap[k]?
theorem Kp.refl (B : Nat) (w : World) : Kp B w w := ⟨rfl, rfl, rfl, Nat.le_refl _, fun _ _ _ _ => rfl⟩
theorem Kp.trans {B : Nat} {a b c : World} (h : Kp B a b) (k : Kp B b c) : Kp B a c :=
  ⟨k.os.trans h.os, k.tape.trans h.tape, k.output.trans h.output, Nat.le_trans h.size k.size, fun i h1 h2 h3 => (k.block i (Nat.lt_of_lt_of_le h1 h.size) h2 h3).trans (h.block i h1 h2 h3)⟩
theorem Kp.of_below {B : Nat} {w w' : World} (h : Below w.heap.size w w') : Kp B w w' := ⟨h.os, h.tape, h.output, h.size, fun k hk _ _ => h.block k hk⟩
theorem Kp.setAt {B : Nat} {a w : World} (h : Kp B a w) (v : Value) : Kp B a (w.setCell ⟨B + 2, 0, none⟩ v) :=
  h.trans ⟨rfl, rfl, rfl, by rw [World.size_setCell]; exact Nat.le_refl _, fun k _ h2 _ => Below.heap_setCell _ _ _ _ h2⟩
theorem Kp.setOk {B : Nat} {a w : World} (h : Kp B a w) (v : Value) : Kp B a (w.setCell ⟨B + 3, 0, none⟩ v) :=
  h.trans ⟨rfl, rfl, rfl, by rw [World.size_setCell]; exact Nat.le_refl _, fun k _ _ h3 => Below.heap_setCell _ _ _ _ h3⟩
theorem Kp.drewN {B : Nat} {a w : World} (h : Kp B a w) (n : Nat) : Kp B a (w.drewN n) := h.trans ⟨rfl, rfl, rfl, Nat.le_refl _, fun _ _ _ _ => rfl⟩
theorem Kp.alloc {B : Nat} {a w : World} (h : Kp B a w) (o : Obj) : Kp B a (w.alloc o) := h.trans (Kp.of_below ((Below.refl _ _).alloc (Nat.le_refl _) o))
theorem Kp.below {B C : Nat} {w w' : World} (h : Kp B w w') (hB : C ≤ B) (hs : C ≤ w.heap.size) : Below C w w' := ⟨h.os, h.tape, h.output, h.size, fun k hk => h.block k (by omega) (by omega) (by omega)⟩

/-! ### the functions -/
theorem isDigit_any (c : Nat) (w : World) : Calls Tryz.prog 37 #[.int .u8 c] w fun e w' => e = .returned (.bool (Rd.isD c)) ∧ w = w' := by
  by_cases h : 48 ≤ c
  · have h1 : decide ((48 : Int) ≤ (c : Int)) = true := by rw [decide_eq_true_eq]; omega
    by_cases h2 : c ≤ 57
    · have h3 : decide ((c : Int) ≤ 57) = true := by rw [decide_eq_true_eq]; omega
      go_enter Tryz.func37, Tryz.ntmps37
      go_wp2
      go_ret
      exact ⟨ret_bool (by simp [Rd.isD, h, h2]), rfl⟩
    · have h3 : decide ((c : Int) ≤ 57) = false := by rw [decide_eq_false_iff_not]; omega
      go_enter Tryz.func37, Tryz.ntmps37
      go_wp2
      go_ret
      exact ⟨ret_bool (by simp [Rd.isD, h2]), rfl⟩
  · have h1 : decide ((48 : Int) ≤ (c : Int)) = false := by rw [decide_eq_false_iff_not]; omega
    go_enter Tryz.func37, Tryz.ntmps37
    go_wp2
    go_ret
    exact ⟨ret_bool (by simp [Rd.isD, h]), rfl⟩

theorem digit_any {B : Nat} {s : ByteArray} {p : Nat} {ok : Bool} (w : World) (h : IsRd w B s p ok) :
    Calls Tryz.prog 70 #[pt (B + 3), pt (B + 2), pt B] w fun e w' => e = .returned (.bool (Rd.digAt s p ok)) ∧ w = w' := by
  obtain ⟨_, c0, c2, _, c3, _, _, _⟩ := h
  unfold pt
  cases ok
  · go_enter Tryz.func70, Tryz.ntmps70
    go_wp2
    go_ret
    exact ⟨ret_bool (by simp [Rd.digAt]), rfl⟩
  · by_cases hp : p < s.size
    · have h1 : decide ((p : Int) < (s.size : Int)) = true := by rw [decide_eq_true_eq]; omega
      have hd := Lib.hid (isDigit_any (s[p].toNat))
      go_enter Tryz.func70, Tryz.ntmps70
      go_wp2_with fail
      refine (hd.out _).mono ?_
      rintro e w1 ⟨rfl, rfl⟩
      go_wp2
      go_ret
      exact ⟨ret_bool (by simp [Rd.digAt, hp, Rd.byte_lt hp]), rfl⟩
    · have h1 : decide ((p : Int) < (s.size : Int)) = false := by rw [decide_eq_false_iff_not]; omega
      have h2 : decide (p < s.size) = false := by simpa using hp
      go_enter Tryz.func70, Tryz.ntmps70
      go_wp2
      go_ret
      exact ⟨ret_bool (by simp [Rd.digAt, hp]), rfl⟩
theorem take_any {B : Nat} {s : ByteArray} {p : Nat} {ok : Bool} (w : World) (h : IsRd w B s p ok) (hs : s.size ≤ 9223372036854775807) (hp : p < s.size) (hd : 48 ≤ Rd.byte s p) :
    Calls Tryz.prog 71 #[pt (B + 2), pt B] w fun e w' => e = .returned (.int .i64 ((Rd.byte s p : Int) - 48)) ∧ IsRd w' B s (p + 1) ok ∧ Kp B w w' := by
  have h' := h
  obtain ⟨_, c0, c2, cf, _, _, _, _⟩ := h
  have hb := Rd.byte_lt hp
  have hle := Rd.byte_le s p
  rw [hb] at hd hle
  unfold pt
  go_enter Tryz.func71, Tryz.ntmps71
  go_wp2
  go_ret
  exact ⟨ret_int (by rw [hb]), h'.setAt (p + 1), (Kp.refl _ _).setAt _⟩
end Go.Proofs.YtaghhndcimjjgaaGreatDoor

/- The reader's number. -/
namespace Go.Proofs.YtaghhndcimjjgaaGreatDoor
open Go.RowKit Go.BigFrame

theorem numEnd {B : Nat} {s : ByteArray} {p : Nat} {ok : Bool} {digits : Nat} {least most : Int} {w wr : World} {n : Int} {k q : Nat} {b : Bool} (hR : IsRd wr B s q ok) (hK : Kp B w wr)
    (hX : Rd.numAt s digits least most ok p = (n, k, q)) (hb : Rd.numOk least ok (n, k, q) = b) :
    Ending.returned (.int .i64 n) = .returned (.int .i64 (Rd.numAt s digits least most ok p).1) ∧
      IsRd (wr.setCell ⟨B + 3, 0, none⟩ (.bool b)) B s (Rd.numAt s digits least most ok p).2.2 (Rd.numOk least ok (Rd.numAt s digits least most ok p)) ∧ Kp B w (wr.setCell ⟨B + 3, 0, none⟩ (.bool b)) := by
  rw [hX, hb]; exact ⟨rfl, hR.setOk b, hK.setOk _⟩

set_option maxHeartbeats 1000000 in
set_option maxRecDepth 100000 in
theorem number_any {B : Nat} {s : ByteArray} {p : Nat} {ok : Bool} (digits : Nat) (least most : Int) (w : World) (h : IsRd w B s p ok) (hs : s.size ≤ 9223372036854775807) (hd : digits ≤ 18) :
    Calls Tryz.prog 72 #[.int .i64 digits, .int .i64 least, .int .i64 most, pt (B + 4), pt B, pt (B + 2), pt (B + 5), pt (B + 3)] w fun e w' =>
      e = .returned (.int .i64 (Rd.numAt s digits least most ok p).1) ∧ IsRd w' B s (Rd.numAt s digits least most ok p).2.2 (Rd.numOk least ok (Rd.numAt s digits least most ok p)) ∧ Kp B w w' := by
  have h' := Lib.hid h
  clear h
  unfold pt
  go_enter Tryz.func72, Tryz.ntmps72
  go_wp2_with fail
  go_loopw [12, 13] (fun n m wr => ∃ (nn : Int) (k q : Nat), n = .int .i64 nn ∧ m = .int .i64 k ∧ k ≤ digits ∧ 0 ≤ nn ∧ nn < 10 ^ k ∧ IsRd wr B s q ok ∧ Kp B w wr ∧
      Rd.numLoop s digits least most ok (digits - k) nn k q = Rd.numAt s digits least most ok p) (fun _ m _ => digits - (intOf m).toNat)
  case atStart => exact ⟨0, 0, p, rfl, rfl, by omega, by omega, by decide, h'.out, Kp.refl _ _, rfl⟩
  case round =>
    obtain ⟨n, k, q, rfl, rfl, hk, hn0, hn1, hR, hK, hF⟩ := hrel
    have HR := Lib.hid hR
    have HK := Lib.hid hK
    have HF := Lib.hid hF
    have HN := Lib.hid hn1
    obtain ⟨_, c0, c2, cf2, c3, cf3, cd, ct⟩ := hR
    unfold digF pt at cd
    unfold takeF pt at ct
    clear hK hF hn1 h'
    by_cases hkd : k < digits
    · have t1 : decide ((k : Int) < (digits : Int)) = true := by rw [decide_eq_true_eq]; omega
      have t1' : decide (k < digits) = true := by simpa using hkd
      go_wp2_with fail
      refine (digit_any wr HR.out).mono ?_
      rintro e w1 ⟨rfl, rfl⟩
      cases hdg : Rd.digAt s q ok
      · have HX := Lib.hid (HF.out.symm.trans (Rd.numLoop_stop (s := s) (digits := digits) (least := least) (most := most) (ok := ok) (f := digits - k) (n := n) (m := k) (p := q) (by simp [hdg])))
        clear hdg HF
        go_wp2
        all_goals go_ret
        all_goals refine numEnd HR.out HK.out HX.out ?_
        all_goals simp_all [Rd.numOk]
      · obtain ⟨hok, hq, hb0, hb1⟩ := Rd.digAt_true hdg
        subst hok
        have HD := Lib.hid hdg
        have e1 := Rd.byte_lt hq
        have He1 := Lib.hid e1
        rw [e1] at hb0 hb1
        have hn9 : n ≤ 99999999999999999 := by
          have h1 := HN.out
          have h2 : (10 : Int) ^ k ≤ 10 ^ 17 := by exact_mod_cast Nat.pow_le_pow_right (show 0 < 10 by omega) (show k ≤ 17 by omega)
          have h3 : (10 : Int) ^ 17 = 100000000000000000 := by decide
          omega
        clear hdg e1
        cases bk : decide (0 < k)
        · skip
          cases bm : decide (most < 10 * n + ((s[q].toNat : Int) - 48))
          · cases bx : (10 * n + ((s[q].toNat : Int) - 48) == 0)
            · have cx : decide (10 * n + ((s[q].toNat : Int) - 48) = 0) = false := by simpa using bx
              have HX := Lib.hid (Rd.numLoop_next (s := s) (digits := digits) (least := least) (most := most) (ok := true) (f := digits - k - 1) (n := n) (m := k) (p := q) ⟨hkd, HD.out⟩ (by rw [He1.out]; simp [Rd.stops, bk, bm, cx]))
              go_wp2_with fail
              refine (take_any wr HR.out hs hq (by rw [He1.out]; exact hb0)).mono ?_
              rintro e w1 ⟨rfl, hR1, hK1⟩
              rw [He1.out]
              have HR1 := Lib.hid hR1
              have HK1 := Lib.hid (HK.out.trans hK1)
              clear hR1 hK1
              go_wp2
              go_roundw
              case rel =>
                refine ⟨10 * n + ((s[q].toNat : Int) - 48), k + 1, q + 1, rfl, by go_num, by omega, by omega, ?_, HR1.out, HK1.out, ?_⟩
                · have := HN.out
                  rw [Int.pow_succ]; omega
                · rw [← HF.out, show digits - k = (digits - k - 1) + 1 by omega, HX.out, He1.out, show digits - (k + 1) = digits - k - 1 by omega]
              case measure => simp [intOf]; omega
            · have cx : decide (10 * n + ((s[q].toNat : Int) - 48) = 0) = true := by simpa using bx
              cases bl : decide (0 < least)
              · skip
                have HX := Lib.hid (Rd.numLoop_next (s := s) (digits := digits) (least := least) (most := most) (ok := true) (f := digits - k - 1) (n := n) (m := k) (p := q) ⟨hkd, HD.out⟩ (by rw [He1.out]; simp [Rd.stops, bk, bm, cx, bl]))
                go_wp2_with fail
                refine (take_any wr HR.out hs hq (by rw [He1.out]; exact hb0)).mono ?_
                rintro e w1 ⟨rfl, hR1, hK1⟩
                rw [He1.out]
                have HR1 := Lib.hid hR1
                have HK1 := Lib.hid (HK.out.trans hK1)
                clear hR1 hK1
                go_wp2
                go_roundw
                case rel =>
                  refine ⟨10 * n + ((s[q].toNat : Int) - 48), k + 1, q + 1, rfl, by go_num, by omega, by omega, ?_, HR1.out, HK1.out, ?_⟩
                  · have := HN.out
                    rw [Int.pow_succ]; omega
                  · rw [← HF.out, show digits - k = (digits - k - 1) + 1 by omega, HX.out, He1.out, show digits - (k + 1) = digits - k - 1 by omega]
                case measure => simp [intOf]; omega
              · skip
                have HX := Lib.hid (HF.out.symm.trans (Rd.numLoop_break (s := s) (digits := digits) (least := least) (most := most) (ok := true) (f := digits - k) (n := n) (m := k) (p := q) ⟨hkd, HD.out⟩ (by rw [He1.out]; simp [Rd.stops, bk, bm, cx, bl])))
                clear HF
                go_wp2
                go_ret
                refine numEnd HR.out HK.out HX.out ?_
                simp [Rd.numOk, bk]
          · skip
            have HX := Lib.hid (HF.out.symm.trans (Rd.numLoop_break (s := s) (digits := digits) (least := least) (most := most) (ok := true) (f := digits - k) (n := n) (m := k) (p := q) ⟨hkd, HD.out⟩ (by rw [He1.out]; simp [Rd.stops, bk, bm])))
            clear HF
            go_wp2
            go_ret
            refine numEnd HR.out HK.out HX.out ?_
            simp [Rd.numOk, bk]
        · cases bn : (n == 0)
          · have cn : decide (n = 0) = false := by simpa using bn
            cases bm : decide (most < 10 * n + ((s[q].toNat : Int) - 48))
            · cases bx : (10 * n + ((s[q].toNat : Int) - 48) == 0)
              · have cx : decide (10 * n + ((s[q].toNat : Int) - 48) = 0) = false := by simpa using bx
                have HX := Lib.hid (Rd.numLoop_next (s := s) (digits := digits) (least := least) (most := most) (ok := true) (f := digits - k - 1) (n := n) (m := k) (p := q) ⟨hkd, HD.out⟩ (by rw [He1.out]; simp [Rd.stops, bk, cn, bm, cx]))
                go_wp2_with fail
                refine (take_any wr HR.out hs hq (by rw [He1.out]; exact hb0)).mono ?_
                rintro e w1 ⟨rfl, hR1, hK1⟩
                rw [He1.out]
                have HR1 := Lib.hid hR1
                have HK1 := Lib.hid (HK.out.trans hK1)
                clear hR1 hK1
                go_wp2
                go_roundw
                case rel =>
                  refine ⟨10 * n + ((s[q].toNat : Int) - 48), k + 1, q + 1, rfl, by go_num, by omega, by omega, ?_, HR1.out, HK1.out, ?_⟩
                  · have := HN.out
                    rw [Int.pow_succ]; omega
                  · rw [← HF.out, show digits - k = (digits - k - 1) + 1 by omega, HX.out, He1.out, show digits - (k + 1) = digits - k - 1 by omega]
                case measure => simp [intOf]; omega
              · have cx : decide (10 * n + ((s[q].toNat : Int) - 48) = 0) = true := by simpa using bx
                cases bl : decide (0 < least)
                · skip
                  have HX := Lib.hid (Rd.numLoop_next (s := s) (digits := digits) (least := least) (most := most) (ok := true) (f := digits - k - 1) (n := n) (m := k) (p := q) ⟨hkd, HD.out⟩ (by rw [He1.out]; simp [Rd.stops, bk, cn, bm, cx, bl]))
                  go_wp2_with fail
                  refine (take_any wr HR.out hs hq (by rw [He1.out]; exact hb0)).mono ?_
                  rintro e w1 ⟨rfl, hR1, hK1⟩
                  rw [He1.out]
                  have HR1 := Lib.hid hR1
                  have HK1 := Lib.hid (HK.out.trans hK1)
                  clear hR1 hK1
                  go_wp2
                  go_roundw
                  case rel =>
                    refine ⟨10 * n + ((s[q].toNat : Int) - 48), k + 1, q + 1, rfl, by go_num, by omega, by omega, ?_, HR1.out, HK1.out, ?_⟩
                    · have := HN.out
                      rw [Int.pow_succ]; omega
                    · rw [← HF.out, show digits - k = (digits - k - 1) + 1 by omega, HX.out, He1.out, show digits - (k + 1) = digits - k - 1 by omega]
                  case measure => simp [intOf]; omega
                · skip
                  have HX := Lib.hid (HF.out.symm.trans (Rd.numLoop_break (s := s) (digits := digits) (least := least) (most := most) (ok := true) (f := digits - k) (n := n) (m := k) (p := q) ⟨hkd, HD.out⟩ (by rw [He1.out]; simp [Rd.stops, bk, cn, bm, cx, bl])))
                  clear HF
                  go_wp2
                  go_ret
                  refine numEnd HR.out HK.out HX.out ?_
                  simp [Rd.numOk, bk]
            · skip
              have HX := Lib.hid (HF.out.symm.trans (Rd.numLoop_break (s := s) (digits := digits) (least := least) (most := most) (ok := true) (f := digits - k) (n := n) (m := k) (p := q) ⟨hkd, HD.out⟩ (by rw [He1.out]; simp [Rd.stops, bk, cn, bm])))
              clear HF
              go_wp2
              go_ret
              refine numEnd HR.out HK.out HX.out ?_
              simp [Rd.numOk, bk]
          · have cn : decide (n = 0) = true := by simpa using bn
            have HX := Lib.hid (HF.out.symm.trans (Rd.numLoop_break (s := s) (digits := digits) (least := least) (most := most) (ok := true) (f := digits - k) (n := n) (m := k) (p := q) ⟨hkd, HD.out⟩ (by rw [He1.out]; simp [Rd.stops, bk, cn])))
            clear HF
            go_wp2
            go_ret
            refine numEnd HR.out HK.out HX.out ?_
            simp [Rd.numOk, bk]
    · have t1 : decide ((k : Int) < (digits : Int)) = false := by rw [decide_eq_false_iff_not]; omega
      have t1' : decide (k < digits) = false := by simpa using hkd
      have HX := Lib.hid (HF.out.symm.trans (Rd.numLoop_stop (s := s) (digits := digits) (least := least) (most := most) (ok := ok) (f := digits - k) (n := n) (m := k) (p := q) (by simp [hkd])))
      clear HF
      go_wp2
      all_goals go_ret
      all_goals refine numEnd HR.out HK.out HX.out ?_
      all_goals simp_all [Rd.numOk]
end Go.Proofs.YtaghhndcimjjgaaGreatDoor

/- The reader's exact, pair, one, place. -/
namespace Go.Proofs.YtaghhndcimjjgaaGreatDoor
open Go.RowKit Go.BigFrame

theorem IsRd.drew {w : World} {B : Nat} {s : ByteArray} {p : Nat} {ok : Bool} (h : IsRd w B s p ok) : IsRd w.drew B s p ok := h.kept (Below.refl _ _).drew
theorem Kp.drew {B : Nat} {a w : World} (h : Kp B a w) : Kp B a w.drew := h.trans (Kp.of_below (Below.refl _ _).drew)
def ExactTo (s t : ByteArray) (i q : Nat) (b : Bool) (z : Nat × Bool) : Prop := (b = false → z = (q, false)) ∧ (b = true → Rd.exactLoop s t (t.size - i) i q = z)

theorem ExactTo.no {s t : ByteArray} {i q : Nat} {z : Nat × Bool} (h : z = (q, false)) : ExactTo s t i q false z := ⟨fun _ => h, fun h => by cases h⟩
theorem ExactTo.yes {s t : ByteArray} {i q : Nat} {z : Nat × Bool} (h : Rd.exactLoop s t (t.size - i) i q = z) : ExactTo s t i q true z := ⟨fun h => (by cases h), fun _ => h⟩
set_option maxHeartbeats 1000000 in
set_option maxRecDepth 100000 in
theorem exact_any {B : Nat} {s : ByteArray} {p : Nat} {ok : Bool} (t : ByteArray) (w : World) (h : IsRd w B s p ok) (hs : s.size ≤ 9223372036854775807) (ht : t.size ≤ 9223372036854775807) :
    Calls Tryz.prog 75 #[.string t, pt (B + 3), pt (B + 2), pt B] w fun e w' =>
      e = .returned (.tuple #[]) ∧ IsRd w' B s (Rd.exactAt s t p ok).1 (Rd.exactAt s t p ok).2 ∧ Kp B w w' := by
  have h' := Lib.hid h
  have hst : ExactTo s t 0 p ok (Rd.exactAt s t p ok) := by
    unfold ExactTo Rd.exactAt
    cases ok <;> simp
  have Hst := Lib.hid hst
  generalize hz : Rd.exactAt s t p ok = z at Hst ⊢
  clear h hst hz
  unfold pt
  go_enter Tryz.func75, Tryz.ntmps75
  go_wp2_with fail
  go_loopw [5] (fun iv wr => ∃ (i q : Nat) (b : Bool), iv = .int .i64 i ∧ i ≤ t.size ∧ IsRd wr B s q b ∧ Kp B w wr ∧ ExactTo s t i q b z) (fun iv _ => t.size - (intOf iv).toNat)
  case atStart => exact ⟨0, p, ok, rfl, by omega, h'.out, Kp.refl _ _, Hst.out⟩
  case round =>
    obtain ⟨i, q, b, rfl, hi, hR, hK, hE⟩ := hrel
    have HR := Lib.hid hR
    have HK := Lib.hid hK
    have HE := Lib.hid hE
    obtain ⟨_, c0, c2, cf2, c3, cf3, _, _⟩ := hR
    clear hK hE h' Hst
    cases b
    · have hz := Lib.hid (HE.out.1 rfl)
      go_wp2
      go_end0
      rw [hz.out]
      exact ⟨rfl, HR.out, HK.out⟩
    · by_cases hit : i < t.size
      · have t1 : decide (i < t.size) = true := by simpa using hit
        by_cases hq : q < s.size
        · have t2 : decide (q < s.size) = true := by simpa using hq
          cases he : (((s[q]).toNat : Int) == ((t[i]).toNat : Int))
          · have hz : z = (q, false) := by
              rw [← HE.out.2 rfl, show t.size - i = (t.size - i - 1) + 1 by omega, Rd.exactLoop, if_pos hit, if_neg]
              rw [Rd.byte_lt hq, Rd.byte_lt hit]
              simp only [beq_eq_false_iff_ne, ne_eq] at he
              omega
            have Hz := Lib.hid hz
            clear hz HE
            go_wp2_with fail
            go_still_tail 13, (by kernel_rfl)
            change wpList _ _ _ _ _ wr.drew
            clear c0 c2 cf2 c3 cf3
            have hR2 := HR.out.drew
            have hK2 := HK.out.drew
            clear HR HK
            generalize wr.drew = w2 at hR2 hK2 ⊢
            have HR := Lib.hid hR2
            have HK := Lib.hid hK2
            obtain ⟨_, c0, c2, cf2, c3, cf3, _, _⟩ := hR2
            clear hK2
            go_wp2
            go_roundw
            case rel => exact ⟨i + 1, q, false, by go_num, by omega, HR.out.setOk false, HK.out.setOk _, ExactTo.no Hz.out⟩
            case measure => simp [intOf]; omega
          · have hz : Rd.exactLoop s t (t.size - (i + 1)) (i + 1) (q + 1) = z := by
              rw [← HE.out.2 rfl, show t.size - i = (t.size - (i + 1)) + 1 by omega]
              conv => rhs; rw [Rd.exactLoop, if_pos hit]
              rw [if_pos]
              rw [Rd.byte_lt hq, Rd.byte_lt hit]
              simp only [beq_iff_eq] at he
              exact ⟨hq, by omega⟩
            have Hz := Lib.hid hz
            clear hz HE
            go_wp2_with fail
            go_still_tail 13, (by kernel_rfl)
            change wpList _ _ _ _ _ wr.drew
            clear c0 c2 cf2 c3 cf3
            have hR2 := HR.out.drew
            have hK2 := HK.out.drew
            clear HR HK
            generalize wr.drew = w2 at hR2 hK2 ⊢
            have HR := Lib.hid hR2
            have HK := Lib.hid hK2
            obtain ⟨_, c0, c2, cf2, c3, cf3, _, _⟩ := hR2
            clear hK2
            go_wp2
            go_roundw
            case rel => exact ⟨i + 1, q + 1, true, by go_num, by omega, (HR.out.setOk true).setAt (q + 1), (HK.out.setOk _).setAt _, ExactTo.yes Hz.out⟩
            case measure => simp [intOf]; omega
        · have t2 : decide (q < s.size) = false := by simpa using hq
          have hz : z = (q, false) := by
            rw [← HE.out.2 rfl, show t.size - i = (t.size - i - 1) + 1 by omega, Rd.exactLoop, if_pos hit, if_neg]
            omega
          have Hz := Lib.hid hz
          clear hz HE
          go_wp2_with fail
          go_region
          go_wp2
          go_roundw
          case rel => exact ⟨i + 1, q, false, by go_num, by omega, (HR.out.setOk false).drew, (HK.out.setOk _).drew, ExactTo.no Hz.out⟩
          case measure => simp [intOf]; omega
      · have t1 : decide (i < t.size) = false := by simpa using hit
        have hz := Lib.hid (HE.out.2 rfl)
        go_wp2
        go_end0
        rw [← hz.out]
        have : Rd.exactLoop s t (t.size - i) i q = (q, true) := by rw [show t.size - i = 0 by omega]; rfl
        rw [this]
        exact ⟨rfl, HR.out, HK.out⟩

theorem place_any {B : Nat} {s : ByteArray} {p : Nat} {ok : Bool} (w : World) (h : IsRd w B s p ok) :
    Calls Tryz.prog 82 #[pt (B + 2), pt (B + 3), pt B] w fun e w' => e = .returned (.tuple #[.int .i64 p, .bool (ok && decide (p = s.size))]) ∧ ∃ n, w' = w.drewN n := by
  obtain ⟨_, c0, c2, cf2, c3, cf3, _, _⟩ := h
  unfold pt
  cases ok
  · go_enter Tryz.func82, Tryz.ntmps82
    go_wp2_with fail
    go_quiet (fail)
    go_wp2
    go_ret2
    exact ⟨by simp, _, rfl⟩
  · go_enter Tryz.func82, Tryz.ntmps82
    go_wp2_with fail
    go_quiet (fail)
    go_wp2
    go_ret2
    refine ⟨?_, _, rfl⟩
    have : ((p : Int) == (s.size : Int)) = (true && decide (p = s.size)) := by rw [Bool.eq_iff_iff, Bool.true_and, beq_iff_eq, decide_eq_true_eq]; omega
    rw [← this]; rfl
/-- one of these bytes: which -/
theorem one_any {B : Nat} {s : ByteArray} {p : Nat} {ok : Bool} (t : ByteArray) (w : World) (h : IsRd w B s p ok) (hs : s.size ≤ 9223372036854775807) :
    Calls Tryz.prog 76 #[.string t, pt (B + 3), pt (B + 2), pt B] w fun e w' =>
      e = .returned (.int .i64 (Rd.oneAt s t p ok).1) ∧ IsRd w' B s (Rd.oneAt s t p ok).2.1 (Rd.oneAt s t p ok).2.2 ∧ Kp B w w' := by
  have HR := Lib.hid h
  obtain ⟨_, c0, c2, cf2, c3, cf3, _, _⟩ := h
  unfold pt
  cases ok
  · go_enter Tryz.func76, Tryz.ntmps76
    go_wp2
    go_ret
    exact ⟨rfl, HR.out.setOk false, (Kp.refl _ _).setOk _⟩
  · by_cases hp : p < s.size
    · have t2 : decide (p < s.size) = true := by simpa using hp
      have hib := Lib.hid (Go.Proofs.Tryz.strings_IndexByte t ((s[p]).toNat : Int))
      go_enter Tryz.func76, Tryz.ntmps76
      go_wp2_with fail
      refine (hib.out _).mono ?_
      rintro e w1 ⟨rfl, rfl⟩
      have hby : (((s[p]).toNat : Int).toNat).toUInt8 = (Rd.byte s p).toUInt8 := by rw [Rd.byte_lt hp, Int.toNat_natCast]
      rw [hby]
      have hz := Lib.hid (show Rd.oneAt s t p true = if 0 ≤ Lib.indexByte t.data.toList (Rd.byte s p).toUInt8 then (Lib.indexByte t.data.toList (Rd.byte s p).toUInt8, p + 1, true) else (Lib.indexByte t.data.toList (Rd.byte s p).toUInt8, p, false) by unfold Rd.oneAt; rw [if_pos ⟨rfl, hp⟩])
      generalize Lib.indexByte t.data.toList (Rd.byte s p).toUInt8 = k at hz ⊢
      clear hib hby
      by_cases hk : 0 ≤ k
      · have t3 : decide (0 ≤ k) = true := by simpa using hk
        go_wp2
        go_ret
        have hz' := hz.out
        rw [if_pos hk] at hz'
        rw [hz']
        exact ⟨rfl, (HR.out.setOk true).setAt (p + 1), ((Kp.refl _ _).setOk _).setAt _⟩
      · have t3 : decide (0 ≤ k) = false := by simpa using hk
        have hk2 : k < 0 := by omega
        go_wp2
        go_ret
        have hz' := hz.out
        rw [if_neg (by omega)] at hz'
        rw [hz']
        exact ⟨rfl, HR.out.setOk false, (Kp.refl _ _).setOk _⟩
    · have t2 : decide (p < s.size) = false := by simpa using hp
      go_enter Tryz.func76, Tryz.ntmps76
      go_wp2
      go_ret
      have hz : Rd.oneAt s t p true = (-1, p, false) := by unfold Rd.oneAt; rw [if_neg (by simp [hp])]
      rw [hz]
      exact ⟨rfl, HR.out.setOk false, (Kp.refl _ _).setOk _⟩

theorem IsRd.of_kp {w w' : World} {B b j : Nat} {v : Value} (hk : Kp B w w') (h : w.cell? ⟨b, j, none⟩ = some v) (h2 : b ≠ B + 2) (h3 : b ≠ B + 3) : w'.cell? ⟨b, j, none⟩ = some v := by
  rcases Nat.lt_or_ge b w.heap.size with h1 | h1
  · rw [World.cell?_of_block (w := w) (hk.block b h1 h2 h3)]; exact h
  · simp [World.cell?, Array.getElem?_eq_none h1] at h
end Go.Proofs.YtaghhndcimjjgaaGreatDoor

/- The reader's pair. -/
namespace Go.Proofs.YtaghhndcimjjgaaGreatDoor
open Go.RowKit Go.BigFrame

def PairTo (s : ByteArray) (most : Int) (p : Nat) (ok : Bool) (i : Nat) (x : Int × Nat × Bool) : Prop :=
  (i = 0 → x = (0, p, ok)) ∧ (i = 1 → x = Rd.pairStep s most 10 (0, p, ok)) ∧ (i = 2 → x = Rd.pairAt s most p ok)
theorem PairTo.start (s : ByteArray) (most : Int) (p : Nat) (ok : Bool) : PairTo s most p ok 0 (0, p, ok) := ⟨fun _ => rfl, fun h => (by cases h), fun h => by cases h⟩
theorem PairTo.step {s : ByteArray} {most : Int} {p : Nat} {ok : Bool} {i : Nat} {x y : Int × Nat × Bool} (h : PairTo s most p ok i x) (hi : i = 0 ∧ y = Rd.pairStep s most 10 x ∨ i = 1 ∧ y = Rd.pairStep s most 1 x) : PairTo s most p ok (i + 1) y := by
  rcases hi with ⟨rfl, rfl⟩ | ⟨rfl, rfl⟩
  · refine ⟨fun h => (by omega), fun _ => ?_, fun h => (by omega)⟩
    rw [h.1 rfl]
  · refine ⟨fun h => (by omega), fun h => (by omega), fun _ => ?_⟩
    rw [h.2.1 rfl]; rfl
theorem pairStep_no {s : ByteArray} {most u n : Int} {q : Nat} {b : Bool} (h : ¬ (Rd.digAt s q b = true ∧ n + u * ((Rd.byte s q : Int) - 48) ≤ most)) : Rd.pairStep s most u (n, q, b) = (n, q, false) := by
  unfold Rd.pairStep; rw [if_neg h]
theorem pairStep_yes {s : ByteArray} {most u n : Int} {q : Nat} {b : Bool} (h : Rd.digAt s q b = true ∧ n + u * ((Rd.byte s q : Int) - 48) ≤ most) : Rd.pairStep s most u (n, q, b) = (n + u * ((Rd.byte s q : Int) - 48), q + 1, true) := by
  unfold Rd.pairStep; rw [if_pos h]

set_option maxHeartbeats 2000000 in
set_option maxRecDepth 100000 in
theorem pair_any {B : Nat} {s : ByteArray} {p : Nat} {ok : Bool} (most : Int) (w : World) (h : IsRd w B s p ok) (hs : s.size ≤ 9223372036854775807) :
    Calls Tryz.prog 74 #[.int .i64 most, pt (B + 4), pt B, pt (B + 2), pt (B + 3), pt (B + 5)] w fun e w' =>
      e = .returned (.int .i64 (Rd.pairAt s most p ok).1) ∧ IsRd w' B s (Rd.pairAt s most p ok).2.1 (Rd.pairAt s most p ok).2.2 ∧ Kp B w w' := by
  have hsz := h.size
  have h0 := Lib.hid ((Below.refl w.heap.size w).alloc (Nat.le_refl _) (.cells #[.int .i64 10, .int .i64 1] 3))
  have h' := Lib.hid (h.kept h0.out)
  clear h
  unfold pt
  go_enter Tryz.func74, Tryz.ntmps74
  go_wp2_with fail
  go_loopw [8, 13] (fun nv iv wr => ∃ (n : Int) (i q : Nat) (b : Bool), nv = .int .i64 n ∧ iv = .int .i64 i ∧ i ≤ 2 ∧ 0 ≤ n ∧ n ≤ 90 * i ∧ IsRd wr B s q b ∧ Kp B w wr ∧
      wr.cell? ⟨w.heap.size, 0, none⟩ = some (.int .i64 10) ∧ wr.cell? ⟨w.heap.size, 1, none⟩ = some (.int .i64 1) ∧ PairTo s most p ok i (n, q, b)) (fun _ iv _ => 2 - (intOf iv).toNat)
  case atStart => exact ⟨0, 0, p, ok, rfl, rfl, by omega, by omega, by omega, h'.out, Kp.of_below h0.out, by rw [World.cell?_alloc_at _ _ _ _ rfl]; rfl, by rw [World.cell?_alloc_at _ _ _ _ rfl]; rfl, PairTo.start s most p ok⟩
  case round =>
    obtain ⟨n, i, q, b, rfl, rfl, hi, hn0, hn1, hR, hK, u0, u1, hE⟩ := hrel
    have HR := Lib.hid hR
    have HK := Lib.hid hK
    have HE := Lib.hid hE
    have U0 := Lib.hid u0
    have U1 := Lib.hid u1
    obtain ⟨_, c0, c2, cf2, c3, cf3, cd, ct⟩ := hR
    unfold digF pt at cd
    unfold takeF pt at ct
    clear hK hE h' h0
    by_cases h2 : i = 2
    · subst h2
      have hz := Lib.hid (HE.out.2.2 rfl)
      go_wp2
      go_ret
      rw [← hz.out]
      exact ⟨rfl, HR.out, HK.out⟩
    by_cases h1 : i = 1
    · subst h1
      go_wp2_with fail
      refine (digit_any wr HR.out).mono ?_
      rintro e w1 ⟨rfl, rfl⟩
      cases hdg : Rd.digAt s q b
      · skip
        have HZ := Lib.hid (pairStep_no (s := s) (most := most) (u := 1) (n := n) (q := q) (b := b) (by simp [hdg])).symm
        clear hdg
        go_wp2
        go_roundw
        case rel =>
          exact ⟨n, 2, q, false, rfl, by go_num, by omega, by omega, by omega, HR.out.setOk false, HK.out.setOk _, by rw [cell_set_far (by omega)]; exact U0.out, by rw [cell_set_far (by omega)]; exact U1.out, HE.out.step (.inr ⟨rfl, HZ.out⟩)⟩
        case measure => simp [intOf]
      · obtain ⟨hok, hq, hb0, hb1⟩ := Rd.digAt_true hdg
        subst hok
        have HD := Lib.hid hdg
        have e1 := Rd.byte_lt hq
        have He1 := Lib.hid e1
        rw [e1] at hb0 hb1
        clear hdg e1
        by_cases hm : n + ((s[q].toNat : Int) - 48) ≤ most
        · have t3 : decide (n + ((s[q].toNat : Int) - 48) ≤ most) = true := by simpa using hm
          have HZ := Lib.hid (pairStep_yes (s := s) (most := most) (u := 1) (n := n) (q := q) (b := true) ⟨HD.out, by rw [He1.out]; omega⟩).symm
          clear hm
          go_wp2_with fail
          have hR2 := HR.out.setOk true
          have hK2 := HK.out.setOk (.bool true)
          have v0 : (wr.setCell ⟨B + 3, 0, none⟩ (.bool true)).cell? ⟨w.heap.size, 0, none⟩ = some (.int .i64 10) := by rw [cell_set_far (by omega)]; exact U0.out
          have v1 : (wr.setCell ⟨B + 3, 0, none⟩ (.bool true)).cell? ⟨w.heap.size, 1, none⟩ = some (.int .i64 1) := by rw [cell_set_far (by omega)]; exact U1.out
          generalize wr.setCell ⟨B + 3, 0, none⟩ (.bool true) = w2 at hR2 hK2 v0 v1 ⊢
          refine (take_any w2 hR2 hs hq (by rw [He1.out]; exact hb0)).mono ?_
          rintro e w1 ⟨rfl, hR1, hK1⟩
          rw [He1.out]
          have HR1 := Lib.hid hR1
          have HK1 := Lib.hid (hK2.trans hK1)
          have V0 := Lib.hid (IsRd.of_kp hK1 v0 (by omega) (by omega))
          have V1 := Lib.hid (IsRd.of_kp hK1 v1 (by omega) (by omega))
          clear hR1 hK1 hR2 hK2 v0 v1 c0 c2 cf2 c3 cf3 cd ct u0 u1
          go_wp2
          go_roundw
          case rel =>
            refine ⟨_, 2, q + 1, true, rfl, by go_num, by omega, by omega, by omega, HR1.out, HK1.out, V0.out, V1.out, HE.out.step ?_⟩
            rw [← He1.out]
            have HZ' := HZ.out
            rw [Int.one_mul] at HZ'; exact .inr ⟨rfl, HZ'⟩
          case measure => simp [intOf]
        · have t3 : decide (n + ((s[q].toNat : Int) - 48) ≤ most) = false := by simpa using hm
          have HZ := Lib.hid (pairStep_no (s := s) (most := most) (u := 1) (n := n) (q := q) (b := true) (by rw [He1.out]; omega)).symm
          go_wp2
          go_roundw
          case rel =>
            exact ⟨n, 2, q, false, rfl, by go_num, by omega, by omega, by omega, HR.out.setOk false, HK.out.setOk _, by rw [cell_set_far (by omega)]; exact U0.out, by rw [cell_set_far (by omega)]; exact U1.out, HE.out.step (.inr ⟨rfl, HZ.out⟩)⟩
          case measure => simp [intOf]
    · obtain rfl : i = 0 := by omega
      go_wp2_with fail
      refine (digit_any wr HR.out).mono ?_
      rintro e w1 ⟨rfl, rfl⟩
      cases hdg : Rd.digAt s q b
      · skip
        have HZ := Lib.hid (pairStep_no (s := s) (most := most) (u := 10) (n := n) (q := q) (b := b) (by simp [hdg])).symm
        clear hdg
        go_wp2
        go_roundw
        case rel =>
          exact ⟨n, 1, q, false, rfl, by go_num, by omega, by omega, by omega, HR.out.setOk false, HK.out.setOk _, by rw [cell_set_far (by omega)]; exact U0.out, by rw [cell_set_far (by omega)]; exact U1.out, HE.out.step (.inl ⟨rfl, HZ.out⟩)⟩
        case measure => simp [intOf]
      · obtain ⟨hok, hq, hb0, hb1⟩ := Rd.digAt_true hdg
        subst hok
        have HD := Lib.hid hdg
        have e1 := Rd.byte_lt hq
        have He1 := Lib.hid e1
        rw [e1] at hb0 hb1
        clear hdg e1
        by_cases hm : n + 10 * ((s[q].toNat : Int) - 48) ≤ most
        · have t3 : decide (n + 10 * ((s[q].toNat : Int) - 48) ≤ most) = true := by simpa using hm
          have HZ := Lib.hid (pairStep_yes (s := s) (most := most) (u := 10) (n := n) (q := q) (b := true) ⟨HD.out, by rw [He1.out]; omega⟩).symm
          clear hm
          go_wp2_with fail
          have hR2 := HR.out.setOk true
          have hK2 := HK.out.setOk (.bool true)
          have v0 : (wr.setCell ⟨B + 3, 0, none⟩ (.bool true)).cell? ⟨w.heap.size, 0, none⟩ = some (.int .i64 10) := by rw [cell_set_far (by omega)]; exact U0.out
          have v1 : (wr.setCell ⟨B + 3, 0, none⟩ (.bool true)).cell? ⟨w.heap.size, 1, none⟩ = some (.int .i64 1) := by rw [cell_set_far (by omega)]; exact U1.out
          generalize wr.setCell ⟨B + 3, 0, none⟩ (.bool true) = w2 at hR2 hK2 v0 v1 ⊢
          refine (take_any w2 hR2 hs hq (by rw [He1.out]; exact hb0)).mono ?_
          rintro e w1 ⟨rfl, hR1, hK1⟩
          rw [He1.out]
          have HR1 := Lib.hid hR1
          have HK1 := Lib.hid (hK2.trans hK1)
          have V0 := Lib.hid (IsRd.of_kp hK1 v0 (by omega) (by omega))
          have V1 := Lib.hid (IsRd.of_kp hK1 v1 (by omega) (by omega))
          clear hR1 hK1 hR2 hK2 v0 v1 c0 c2 cf2 c3 cf3 cd ct u0 u1
          go_wp2
          go_roundw
          case rel =>
            refine ⟨_, 1, q + 1, true, rfl, by go_num, by omega, by omega, by omega, HR1.out, HK1.out, V0.out, V1.out, HE.out.step ?_⟩
            rw [← He1.out]
            have HZ' := HZ.out
            exact .inl ⟨rfl, HZ'⟩
          case measure => simp [intOf]
        · have t3 : decide (n + 10 * ((s[q].toNat : Int) - 48) ≤ most) = false := by simpa using hm
          have HZ := Lib.hid (pairStep_no (s := s) (most := most) (u := 10) (n := n) (q := q) (b := true) (by rw [He1.out]; omega)).symm
          go_wp2
          go_roundw
          case rel =>
            exact ⟨n, 1, q, false, rfl, by go_num, by omega, by omega, by omega, HR.out.setOk false, HK.out.setOk _, by rw [cell_set_far (by omega)]; exact U0.out, by rw [cell_set_far (by omega)]; exact U1.out, HE.out.step (.inl ⟨rfl, HZ.out⟩)⟩
          case measure => simp [intOf]
end Go.Proofs.YtaghhndcimjjgaaGreatDoor

/- Forms of durations. -/
namespace Go.Proofs.YtaghhndcimjjgaaGreatDoor
open Go.RowKit Go.BigFrame

def FormOk (f : FuncId) (F : ByteArray → Int × Nat × Bool) : Prop := ∀ (B : Nat) (s : ByteArray) (w : World), IsRd w B s 0 true → s.size ≤ 1000 →
  Calls Tryz.prog f #[.agg (rdVals B)] w fun e w' => e = .returned (.int .i64 (F s).1) ∧ IsRd w' B s (F s).2.1 (F s).2.2 ∧ Kp B w w'
theorem cell_box {w : World} {vs : Array Value} {T : TypeId} (j : Nat) (v : Value) (h : vs[j]? = some v) : (w.alloc (.cells vs T)).cell? ⟨w.heap.size, j, none⟩ = some v := by
  rw [World.cell?_alloc_at _ _ _ _ rfl]; exact h
theorem IsRd.boxed {w : World} {B : Nat} {s : ByteArray} {p : Nat} {ok : Bool} (h : IsRd w B s p ok) (o : Obj) : IsRd (w.alloc o) B s p ok := h.kept ((Below.refl _ _).alloc (Nat.le_refl _) o)

def numF (B : Nat) : Value := .func (.func 72) #[] #[.pointer (some ⟨B + 4, 0, none⟩), .pointer (some ⟨B, 0, none⟩), .pointer (some ⟨B + 2, 0, none⟩), .pointer (some ⟨B + 5, 0, none⟩), .pointer (some ⟨B + 3, 0, none⟩)]
def pairF (B : Nat) : Value := .func (.func 74) #[] #[.pointer (some ⟨B + 4, 0, none⟩), .pointer (some ⟨B, 0, none⟩), .pointer (some ⟨B + 2, 0, none⟩), .pointer (some ⟨B + 3, 0, none⟩), .pointer (some ⟨B + 5, 0, none⟩)]
def exactF (B : Nat) : Value := .func (.func 75) #[] #[.pointer (some ⟨B + 3, 0, none⟩), .pointer (some ⟨B + 2, 0, none⟩), .pointer (some ⟨B, 0, none⟩)]
def oneF (B : Nat) : Value := .func (.func 76) #[] #[.pointer (some ⟨B + 3, 0, none⟩), .pointer (some ⟨B + 2, 0, none⟩), .pointer (some ⟨B, 0, none⟩)]
def digF' (B : Nat) : Value := .func (.func 70) #[] #[.pointer (some ⟨B + 3, 0, none⟩), .pointer (some ⟨B + 2, 0, none⟩), .pointer (some ⟨B, 0, none⟩)]
def placeF (B : Nat) : Value := .func (.func 82) #[] #[.pointer (some ⟨B + 2, 0, none⟩), .pointer (some ⟨B + 3, 0, none⟩), .pointer (some ⟨B, 0, none⟩)]
/-- a variable of type reader, in block C -/
structure IsBox (w : World) (C B : Nat) : Prop where
  num : w.cell? ⟨C, 0, none⟩ = some (numF B)
  pair : w.cell? ⟨C, 2, none⟩ = some (pairF B)
  exact_ : w.cell? ⟨C, 3, none⟩ = some (exactF B)
  one : w.cell? ⟨C, 4, none⟩ = some (oneF B)
  dig : w.cell? ⟨C, 7, none⟩ = some (digF' B)
  place : w.cell? ⟨C, 8, none⟩ = some (placeF B)
theorem isBox_new (w : World) (B : Nat) (T : TypeId) : IsBox (w.alloc (.cells (rdVals B) T)) w.heap.size B :=
  ⟨cell_box 0 _ rfl, cell_box 2 _ rfl, cell_box 3 _ rfl, cell_box 4 _ rfl, cell_box 7 _ rfl, cell_box 8 _ rfl⟩
theorem IsBox.kp {w w' : World} {C B : Nat} (h : IsBox w C B) (hk : Kp B w w') (hC : B + 4 ≤ C) : IsBox w' C B :=
  ⟨IsRd.of_kp hk h.num (by omega) (by omega), IsRd.of_kp hk h.pair (by omega) (by omega), IsRd.of_kp hk h.exact_ (by omega) (by omega), IsRd.of_kp hk h.one (by omega) (by omega), IsRd.of_kp hk h.dig (by omega) (by omega), IsRd.of_kp hk h.place (by omega) (by omega)⟩

set_option maxHeartbeats 1000000 in
set_option maxRecDepth 100000 in
theorem short_form : FormOk 65 Rd.shortF := by
  intro B s w h hs
  have hsz := h.size
  have hR0 := h.boxed (.cells (rdVals B) 66)
  have hK0 := (Kp.refl B w).alloc (.cells (rdVals B) 66)
  have hX := isBox_new w B 66
  have HX := Lib.hid hX
  have k0 := hX.num
  unfold numF at k0
  clear hX
  have hnum := Lib.hid (fun w (h : IsRd w B s 0 true) => number_any 2 0 59 w h (by omega) (by omega))
  generalize hm : Rd.numAt s 2 0 59 true 0 = m at hnum
  have hv : 0 ≤ m.1 ∧ m.1 ≤ 59 := by
    have := Rd.numLoop_val s 2 0 59 true 2 0 0 0 (by omega) (by omega)
    rw [← hm]; unfold Rd.numAt; omega
  have hex := Lib.hid (fun w (h : IsRd w B s m.2.2 (Rd.numOk 0 true m)) => exact_any Rd.colon w h (by omega) (by decide))
  generalize hc : Rd.exactAt s Rd.colon m.2.2 (Rd.numOk 0 true m) = c at hex
  have hpr := Lib.hid (fun w (h : IsRd w B s c.1 c.2) => pair_any 59 w h (by omega))
  have hx := Rd.pairAt_val s (most := 59) c.1 c.2 (by omega)
  generalize hxx : Rd.pairAt s 59 c.1 c.2 = x at hpr hx
  have hF : Rd.shortF s = (60 * m.1 + x.1, x.2.1, x.2.2) := by unfold Rd.shortF; simp only [hm, hc, hxx]
  rw [hF]
  have v0 := hv.1
  have v1 := hv.2
  have x0 := hx.1
  have x1 := hx.2
  clear hF hm hc hxx hv hx
  generalize hn1 : m.1 = mv at *
  generalize hn2 : x.1 = xv at *
  have hK0' := Lib.hid hK0
  have hR0' := Lib.hid hR0
  clear hK0 hR0 h hn1 hn2
  go_enter Tryz.func65, Tryz.ntmps65
  go_wp2_with fail
  refine (hnum.out _ hR0'.out).mono ?_
  rintro e w1 ⟨rfl, hR1, hK1⟩
  have HX1 := Lib.hid (HX.out.kp hK1 (by omega))
  have k3 := HX1.out.exact_
  unfold exactF at k3
  have HR1 := Lib.hid hR1
  have HK1 := Lib.hid (hK0'.out.trans hK1)
  clear hR1 hK1 k0 HX
  go_wp2_with fail
  refine (hex.out _ HR1.out).mono ?_
  rintro e w2 ⟨rfl, hR2, hK2⟩
  have HX2 := Lib.hid (HX1.out.kp hK2 (by omega))
  have k2 := HX2.out.pair
  unfold pairF at k2
  have HR2 := Lib.hid hR2
  have HK2 := Lib.hid (HK1.out.trans hK2)
  clear hR2 hK2 k3 HX1
  go_wp2_with fail
  refine (hpr.out _ HR2.out).mono ?_
  rintro e w3 ⟨rfl, hR3, hK3⟩
  have HR3 := Lib.hid hR3
  have HK3 := Lib.hid (HK2.out.trans hK3)
  clear hR3 hK3 k2
  go_wp2
  go_ret
  exact ⟨rfl, HR3.out, HK3.out⟩
end Go.Proofs.YtaghhndcimjjgaaGreatDoor

/- The long form of durations. -/
namespace Go.Proofs.YtaghhndcimjjgaaGreatDoor
open Go.RowKit Go.BigFrame

set_option maxHeartbeats 2000000 in
set_option maxRecDepth 100000 in
theorem long_form : FormOk 66 Rd.longF := by
  intro B s w h hs
  have hsz := h.size
  have hR0 := h.boxed (.cells (rdVals B) 66)
  have hK0 := (Kp.refl B w).alloc (.cells (rdVals B) 66)
  have hX := isBox_new w B 66
  have HX := Lib.hid hX
  have k0 := hX.num
  unfold numF at k0
  clear hX
  have hnum := Lib.hid (fun w (h : IsRd w B s 0 true) => number_any 3 1 999 w h (by omega) (by omega))
  have hv := Rd.numLoop_val s 3 1 999 true 3 0 0 0 (by omega) (by omega)
  rw [show Rd.numLoop s 3 1 999 true 3 0 0 0 = Rd.numAt s 3 1 999 true 0 from rfl] at hv
  generalize hh : Rd.numAt s 3 1 999 true 0 = h1 at hnum hv
  have hex := Lib.hid (fun w (h : IsRd w B s h1.2.2 (Rd.numOk 1 true h1)) => exact_any Rd.colon w h (by omega) (by decide))
  generalize hc : Rd.exactAt s Rd.colon h1.2.2 (Rd.numOk 1 true h1) = c at hex
  have hpr := Lib.hid (fun w (h : IsRd w B s c.1 c.2) => pair_any 59 w h (by omega))
  have hy := Rd.pairAt_val s (most := 59) c.1 c.2 (by omega)
  generalize hm : Rd.pairAt s 59 c.1 c.2 = m at hpr hy
  have hex2 := Lib.hid (fun w (h : IsRd w B s m.2.1 m.2.2) => exact_any Rd.colon w h (by omega) (by decide))
  generalize hd : Rd.exactAt s Rd.colon m.2.1 m.2.2 = d at hex2
  have hpr2 := Lib.hid (fun w (h : IsRd w B s d.1 d.2) => pair_any 59 w h (by omega))
  have hx := Rd.pairAt_val s (most := 59) d.1 d.2 (by omega)
  generalize hxx : Rd.pairAt s 59 d.1 d.2 = x at hpr2 hx
  have hF : Rd.longF s = (3600 * h1.1 + 60 * m.1 + x.1, x.2.1, x.2.2) := by unfold Rd.longF; simp only [hh, hc, hm, hd, hxx]
  rw [hF]
  have v0 := hv.1
  have v1 : h1.1 ≤ 999 := by omega
  have y0 := hy.1
  have y1 := hy.2
  have x0 := hx.1
  have x1 := hx.2
  clear hF hh hc hm hd hxx hv hx hy
  generalize hn1 : h1.1 = hv at *
  generalize hn2 : x.1 = xv at *
  generalize hn3 : m.1 = mv at *
  have hK0' := Lib.hid hK0
  have hR0' := Lib.hid hR0
  clear hK0 hR0 h hn1 hn2 hn3
  go_enter Tryz.func66, Tryz.ntmps66
  go_wp2_with fail
  refine (hnum.out _ hR0'.out).mono ?_
  rintro e w1 ⟨rfl, hR1, hK1⟩
  have HX1 := Lib.hid (HX.out.kp hK1 (by omega))
  have k3 := HX1.out.exact_
  unfold exactF at k3
  have HR1 := Lib.hid hR1
  have HK1 := Lib.hid (hK0'.out.trans hK1)
  clear hR1 hK1 k0 HX
  go_wp2_with fail
  refine (hex.out _ HR1.out).mono ?_
  rintro e w2 ⟨rfl, hR2, hK2⟩
  have HX2 := Lib.hid (HX1.out.kp hK2 (by omega))
  have k2 := HX2.out.pair
  unfold pairF at k2
  have HR2 := Lib.hid hR2
  have HK2 := Lib.hid (HK1.out.trans hK2)
  clear hR2 hK2 k3 HX1
  go_wp2_with fail
  refine (hpr.out _ HR2.out).mono ?_
  rintro e w3 ⟨rfl, hR3, hK3⟩
  have HX3 := Lib.hid (HX2.out.kp hK3 (by omega))
  have k3 := HX3.out.exact_
  unfold exactF at k3
  have HR3 := Lib.hid hR3
  have HK3 := Lib.hid (HK2.out.trans hK3)
  clear hR3 hK3 k2 HX2
  go_wp2_with fail
  refine (hex2.out _ HR3.out).mono ?_
  rintro e w4 ⟨rfl, hR4, hK4⟩
  have HX4 := Lib.hid (HX3.out.kp hK4 (by omega))
  have k2 := HX4.out.pair
  unfold pairF at k2
  have HR4 := Lib.hid hR4
  have HK4 := Lib.hid (HK3.out.trans hK4)
  clear hR4 hK4 k3 HX3
  go_wp2_with fail
  refine (hpr2.out _ HR4.out).mono ?_
  rintro e w5 ⟨rfl, hR5, hK5⟩
  have HR5 := Lib.hid hR5
  have HK5 := Lib.hid (HK4.out.trans hK5)
  clear hR5 hK5 k2
  go_wp2
  go_ret
  exact ⟨rfl, HR5.out, HK5.out⟩
end Go.Proofs.YtaghhndcimjjgaaGreatDoor

/- readForms, ranged. -/
namespace Go.Proofs.YtaghhndcimjjgaaGreatDoor
open Go.RowKit Go.BigFrame

theorem ranged_any (n e lo hi : Int) (a : Nat) (w : World) : Calls Tryz.prog 69 #[.int .i64 n, .int .i64 a, .int .i64 e, .int .i64 lo, .int .i64 hi] w fun r w' =>
    r = .returned (.tuple #[.int .i64 (Rd.ranged (n, a, e) lo hi).1, .int .i64 (Rd.ranged (n, a, e) lo hi).2.1, .int .i64 (Rd.ranged (n, a, e) lo hi).2.2]) ∧ w = w' := by
  cases h0 : (e == 0)
  · have hz : Rd.ranged (n, a, e) lo hi = (n, a, e) := by unfold Rd.ranged; rw [if_neg]; simp only [beq_eq_false_iff_ne] at h0; exact fun h => h0 h.1
    rw [hz]
    clear hz
    go_enter Tryz.func69, Tryz.ntmps69
    go_wp2
    go_ret3
    exact ⟨rfl, rfl⟩
  · have he : e = 0 := by simpa using h0
    subst he
    clear h0
    by_cases h1 : n < lo
    · have hz : Rd.ranged (n, a, 0) lo hi = (0, 0, 9) := by unfold Rd.ranged; rw [if_pos]; exact ⟨rfl, .inl h1⟩
      rw [hz]
      have t1 : decide (n < lo) = true := by simpa using h1
      clear hz h1
      go_enter Tryz.func69, Tryz.ntmps69
      go_wp2
      go_ret3
      exact ⟨rfl, rfl⟩
    · have t1 : decide (n < lo) = false := by simpa using h1
      by_cases h2 : hi < n
      · have hz : Rd.ranged (n, a, 0) lo hi = (0, 0, 9) := by unfold Rd.ranged; rw [if_pos]; exact ⟨rfl, .inr h2⟩
        rw [hz]
        have t2 : decide (hi < n) = true := by simpa using h2
        clear hz h1 h2
        go_enter Tryz.func69, Tryz.ntmps69
        go_wp2
        go_ret3
        exact ⟨rfl, rfl⟩
      · have hz : Rd.ranged (n, a, 0) lo hi = (n, a, 0) := by unfold Rd.ranged; rw [if_neg]; intro h; rcases h.2 with h | h; exact h1 h; exact h2 h
        rw [hz]
        have t2 : decide (hi < n) = false := by simpa using h2
        clear hz h1 h2
        go_enter Tryz.func69, Tryz.ntmps69
        go_wp2
        go_ret3
        exact ⟨rfl, rfl⟩

structure IsForm (f : FuncId) (F : ByteArray → Int × Nat × Bool) : Prop where
  enter : ∀ args w, Sem.run Tryz.prog (callFunc f args) w = .ok (.enter f args) w
  ok : FormOk f F
/-- a slice of forms in memory, without captured variables -/
def Forms (w : World) (R : Nat) : List FuncId → Nat → Prop
  | [], _ => True
  | f :: l, j => w.cell? ⟨R, j, none⟩ = some (.func (.func f) #[] #[]) ∧ Forms w R l (j + 1)

set_option maxHeartbeats 2000000 in
set_option maxRecDepth 100000 in
theorem readForms_any (s : ByteArray) (w : World) (R n : Nat) (fs : Nat → FuncId) (Fs : Nat → ByteArray → Int × Nat × Bool) (hn : n ≤ 100) (hR : R < w.heap.size)
    (hf : ∀ j, j < n → w.cell? ⟨R, j, none⟩ = some (.func (.func (fs j)) #[] #[])) (hF : ∀ j, j < n → IsForm (fs j) (Fs j)) (hs : s.size ≤ 9223372036854775807) (z : Int × Nat × Int)
    (hz : Rd.readForms s ((List.range n).map Fs) = z) :
    Calls Tryz.prog 67 #[.string s, .slice (some ⟨R, 0, none⟩) n n] w fun r w' =>
      r = .returned (.tuple #[.int .i64 z.1, .int .i64 z.2.1, .int .i64 z.2.2]) ∧ Below w.heap.size w w' := by
  have Hf := Lib.hid hf
  have HF := Lib.hid hF
  have Hz := Lib.hid hz
  clear hf hF hz
  by_cases h1 : 1000 < s.size
  · have t1 : decide ((1000 : Int) < (s.size : Int)) = true := by rw [decide_eq_true_eq]; omega
    have hzz : z = (0, 0, 3) := by rw [← Hz.out]; unfold Rd.readForms; rw [if_pos h1]
    subst hzz
    clear h1
    go_enter Tryz.func67, Tryz.ntmps67
    go_wp2_with fail
    go_ret3
    exact ⟨rfl, Below.refl _ _⟩
  · have t1 : decide ((1000 : Int) < (s.size : Int)) = false := by rw [decide_eq_false_iff_not]; omega
    have hsz : (s.size : Int) ≤ 1000 := by omega
    have hst := Lib.hid (show Rd.formsLoop s ((List.range n).map Fs) 0 = z by rw [← Hz.out]; unfold Rd.readForms; rw [if_neg h1])
    clear h1
    go_enter Tryz.func67, Tryz.ntmps67
    go_wp2_with fail
    go_loopw [5, 18] (fun av iv wr => ∃ (a i : Nat), av = .int .i64 a ∧ iv = .int .i64 i ∧ i ≤ n ∧ Below w.heap.size w wr ∧ Rd.formsLoop s (((List.range n).map Fs).drop i) a = z) (fun _ iv _ => n - (intOf iv).toNat)
    case atStart => exact ⟨0, 0, rfl, rfl, by omega, Below.refl _ _, hst.out⟩
    case round =>
      obtain ⟨a, i, rfl, rfl, hi, hb, hl⟩ := hrel
      have HB := Lib.hid hb
      have HL := Lib.hid hl
      have hbs := hb.size
      clear hb hl hst
      by_cases hin : i < n
      · have t2 : decide ((i : Int) < (n : Int)) = true := by rw [decide_eq_true_eq]; omega
        have hcf := (HF.out i hin).enter
        have c0 := (HB.out.cell (p := ⟨R, i, none⟩) hR).trans (Hf.out i hin)
        have hrd := Lib.hid (readerOf_any s wr)
        go_wp2_with fail
        refine hrd.out.mono ?_
        rintro e w1 ⟨rfl, hR1, hb1⟩
        unfold rdVals digF pt
        have hb1s := hb1.size
        have h6 := hR1.size
        have HR1 := Lib.hid (hR1.boxed (.cells (rdVals wr.heap.size) 66))
        have HX1 := Lib.hid (isBox_new w1 wr.heap.size 66)
        have HB1 := Lib.hid ((HB.out.trans (hb1.mono hbs)).alloc (by omega) (.cells (rdVals wr.heap.size) 66))
        clear hb1 hR1
        go_wp2_with fail
        change Calls Tryz.prog (fs i) #[.agg (rdVals wr.heap.size)] (w1.alloc (.cells (rdVals wr.heap.size) 66)) _
        refine ((HF.out i hin).ok wr.heap.size s _ HR1.out (by omega)).mono ?_
        rintro e w2 ⟨rfl, hR2, hK2⟩
        have HX2 := Lib.hid (HX1.out.kp hK2 (by omega))
        have hk2s := hK2.size
        have HB2 := Lib.hid (HB1.out.trans (hK2.below (C := w.heap.size) (by omega) (by simp; omega)))
        have HR2 := Lib.hid hR2
        have k8 := HX2.out.place
        unfold placeF at k8
        have hpl := Lib.hid (place_any w2 hR2)
        have hcons : (((List.range n).map Fs).drop i) = Fs i :: (((List.range n).map Fs).drop (i + 1)) := by
          rw [List.drop_eq_getElem_cons (by simpa using hin)]
          simp
        have hL := HL.out
        rw [hcons, Rd.formsLoop] at hL
        have HL' := Lib.hid hL
        clear hR2 hK2 hL hcons HL
        generalize Fs i s = F at HL' HR2 hpl ⊢
        go_wp2_with fail
        refine hpl.out.mono ?_
        rintro e w3 ⟨rfl, nd, rfl⟩
        have HB3 := Lib.hid (below_drewN HB2.out nd)
        clear k8 hpl
        cases hw : (F.2.2 && decide (F.2.1 = s.size))
        · have hL := HL'.out
          rw [hw, if_neg (by simp)] at hL
          have HL2 := Lib.hid hL
          clear hL HL' hw
          go_wp2
          go_roundw
          case rel => exact ⟨max a F.2.1, i + 1, congrArg (Value.int .i64) (by omega), by go_num, by omega, HB3.out, HL2.out⟩
          case measure => simp [intOf]; omega
        · have hL := HL'.out
          rw [hw, if_pos rfl] at hL
          subst hL
          clear HL' hw
          go_wp2
          go_ret3
          exact ⟨rfl, HB3.out⟩
      · have t2 : decide (i < n) = false := by simpa using hin
        have hL := HL.out
        rw [List.drop_of_length_le (by simp; omega), Rd.formsLoop] at hL
        subst hL
        clear HL hin
        go_wp2
        go_ret3
        exact ⟨rfl, HB.out⟩
end Go.Proofs.YtaghhndcimjjgaaGreatDoor

/- Durations with letters. -/
namespace Go.Proofs.YtaghhndcimjjgaaGreatDoor
open Go.RowKit Go.BigFrame

def strLen : Value → Nat | .string t => t.size | _ => 0
theorem lets_size {m : Nat} (h : m ≤ 3) : (Rd.lets m).size = m := by
  rcases (show m = 0 ∨ m = 1 ∨ m = 2 ∨ m = 3 by omega) with rfl | rfl | rfl | rfl <;> rfl
theorem sum_bound {v u : Int} (h0 : 0 ≤ v) (h1 : v ≤ 9999999) (hu : u = 3600 ∨ u = 60 ∨ u = 1) : 0 ≤ v * u ∧ v * u ≤ 36000000000 := by
  rcases hu with rfl | rfl | rfl <;> omega

set_option maxHeartbeats 4000000 in
set_option maxRecDepth 100000 in
theorem lettered_form : FormOk 68 Rd.letteredF := by
  intro B s w h hs
  have hsz := h.size
  have hb0 := ((Below.refl w.heap.size w).alloc (Nat.le_refl _) (.cells (rdVals B) 66)).alloc (by simp) (.cells #[.int .i64 3600, .int .i64 60, .int .i64 1] 3)
  have hR0 := Lib.hid (h.kept hb0)
  have hK0 := Lib.hid (Kp.of_below (B := B) hb0)
  have hX0 := Lib.hid ((isBox_new w B 66).kp (Kp.of_below (B := B) ((Below.refl _ _).alloc (Nat.le_refl _) (.cells #[.int .i64 3600, .int .i64 60, .int .i64 1] 3))) (by omega))
  obtain ⟨z, hz⟩ : ∃ z, z = Rd.letteredF s := ⟨_, rfl⟩
  rw [← hz]
  have Hz := Lib.hid (hz.symm : Rd.lettLoop s 3 3 0 0 true = z)
  clear h hb0 hz
  go_enter Tryz.func68, Tryz.ntmps68
  go_wp2_with fail
  go_loopw [3, 5] (fun sv lv wr => ∃ (sum : Int) (m f p : Nat) (ok : Bool), sv = .int .i64 sum ∧ lv = .string (Rd.lets m) ∧ m ≤ 3 ∧ m ≤ f ∧ 0 ≤ sum ∧ sum ≤ 36000000000 * (3 - m) ∧ IsRd wr B s p ok ∧ IsBox wr w.heap.size B ∧ Kp B w wr ∧
      wr.cell? ⟨w.heap.size + 1, 0, none⟩ = some (.int .i64 3600) ∧ wr.cell? ⟨w.heap.size + 1, 1, none⟩ = some (.int .i64 60) ∧ wr.cell? ⟨w.heap.size + 1, 2, none⟩ = some (.int .i64 1) ∧ Rd.lettLoop s f m sum p ok = z) (fun _ lv _ => strLen lv)
  case atStart =>
    exact ⟨0, 3, 3, 0, true, rfl, rfl, by omega, by omega, by omega, by omega, hR0.out, hX0.out, hK0.out, by rw [World.cell?_alloc_at _ _ _ _ (by simp)]; rfl, by rw [World.cell?_alloc_at _ _ _ _ (by simp)]; rfl, by rw [World.cell?_alloc_at _ _ _ _ (by simp)]; rfl, Hz.out⟩
  case round =>
    obtain ⟨sum, m, f, p, ok, rfl, rfl, hm, hf, hs0, hs1, hR, hX, hK, u0, u1, u2, hL⟩ := hrel
    have HR := Lib.hid hR
    have HX := Lib.hid hX
    have HK := Lib.hid hK
    have HL := Lib.hid hL
    have k0 := hX.num
    unfold numF at k0
    clear hR hX hK hL Hz hR0 hX0 hK0
    by_cases hm0 : m = 0
    · subst hm0
      have hL := HL.out
      rw [Rd.lettLoop_end] at hL
      subst hL
      unfold Rd.lets
      clear HL
      go_wp2
      go_ret
      exact ⟨rfl, HR.out, HK.out⟩
    · have hne : (!(Rd.lets m).toList.isEmpty) = true := by
        rcases (show m = 1 ∨ m = 2 ∨ m = 3 by omega) with rfl | rfl | rfl <;> kernel_rfl
      have hne2 : (Rd.lets m).toList.isEmpty = false := by simpa using hne
      obtain ⟨f, rfl⟩ : ∃ g, f = g + 1 := ⟨f - 1, by omega⟩
      have hlm := lets_size hm
      have hnum := Lib.hid (number_any 7 0 9999999 wr HR.out (by omega) (by omega))
      have hv := Rd.numAt_val s 7 0 9999999 ok p (by omega)
      generalize hx : Rd.numAt s 7 0 9999999 ok p = x at hnum hv
      have hone := Lib.hid (fun w (h : IsRd w B s x.2.2 (Rd.numOk 0 ok x)) => one_any (Rd.lets m) w h (by omega))
      have hk := Rd.oneAt_lt s (Rd.lets m) x.2.2 (Rd.numOk 0 ok x)
      rw [hlm] at hk
      generalize hkk : Rd.oneAt s (Rd.lets m) x.2.2 (Rd.numOk 0 ok x) = k at hone hk
      have Hx := Lib.hid hx
      have Hk := Lib.hid hkk
      have v0 := hv.1
      have v1 := hv.2
      generalize hxv : x.1 = xv at v0 v1 hnum
      have Hxv := Lib.hid hxv
      generalize hkv : k.1 = kv at hk hone
      have Hkv := Lib.hid hkv
      clear hx hkk hv hlm hxv hkv
      go_wp2_with fail
      refine hnum.out.mono ?_
      rintro e w1 ⟨rfl, hR1, hK1⟩
      have HX1 := Lib.hid (HX.out.kp hK1 (by omega))
      have k4 := HX1.out.one
      unfold oneF at k4
      have HR1 := Lib.hid hR1
      have HK1 := Lib.hid (HK.out.trans hK1)
      have U0 := IsRd.of_kp hK1 u0 (by omega) (by omega)
      have U1 := IsRd.of_kp hK1 u1 (by omega) (by omega)
      have U2 := IsRd.of_kp hK1 u2 (by omega) (by omega)
      clear hR1 hK1 k0 HX u0 u1 u2 hnum
      go_wp2_with fail
      refine (hone.out _ HR1.out).mono ?_
      rintro e w2 ⟨rfl, hR2, hK2⟩
      have HX2 := Lib.hid (HX1.out.kp hK2 (by omega))
      have k7 := HX2.out.dig
      unfold digF' at k7
      have HR2 := Lib.hid hR2
      have HK2 := Lib.hid (HK1.out.trans hK2)
      have u0 := IsRd.of_kp hK2 U0 (by omega) (by omega)
      have u1 := IsRd.of_kp hK2 U1 (by omega) (by omega)
      have u2 := IsRd.of_kp hK2 U2 (by omega) (by omega)
      clear hR2 hK2 k4 HX1 U0 U1 U2 hone HR1 HK1 HR HK
      by_cases hkn : kv < 0
      · have t1 : decide (kv < 0) = true := by simpa using hkn
        have hL := HL.out
        rw [Rd.lettLoop_none hm0 Hx.out Hk.out (by rw [Hkv.out]; exact hkn)] at hL
        subst hL
        clear hk hkn HL
        go_wp2
        go_ret
        exact ⟨rfl, HR2.out, HK2.out⟩
      · have t1 : decide (kv < 0) = false := by simpa using hkn
        obtain ⟨kn, rfl⟩ := Int.eq_ofNat_of_zero_le (show 0 ≤ kv by omega)
        have hkm : kn < m := by omega
        have hdig := Lib.hid (digit_any w2 HR2.out)
        have h6 : (m = 1 ∧ kn = 0) ∨ (m = 2 ∧ kn = 0) ∨ (m = 2 ∧ kn = 1) ∨ (m = 3 ∧ kn = 0) ∨ (m = 3 ∧ kn = 1) ∨ (m = 3 ∧ kn = 2) := by omega
        cases hdg : Rd.digAt s k.2.1 k.2.2
        · have hL := HL.out
          rw [Rd.lettLoop_last hm0 Hx.out Hk.out (by rw [Hkv.out]; exact hkn) hdg, Hkv.out, Hxv.out] at hL
          rw [hdg] at hdig
          have HL2 := Lib.hid hL
          clear hL HL hdg hk hkn hkm
          rcases h6 with ⟨rfl, rfl⟩ | ⟨rfl, rfl⟩ | ⟨rfl, rfl⟩ | ⟨rfl, rfl⟩ | ⟨rfl, rfl⟩ | ⟨rfl, rfl⟩
          · have hb := sum_bound v0 v1 (u := 1) (by omega)
            clear hm0 hne hne2
            unfold Rd.lets
            go_wp2_with fail
            refine hdig.out.mono ?_
            rintro e w3 ⟨rfl, rfl⟩
            go_wp2
            go_ret
            rw [← HL2.out]
            refine ⟨ret_int ?_, HR2.out, HK2.out⟩
            show _ = sum + xv * 1
            omega
          · have hb := sum_bound v0 v1 (u := 60) (by omega)
            clear hm0 hne hne2
            unfold Rd.lets
            go_wp2_with fail
            refine hdig.out.mono ?_
            rintro e w3 ⟨rfl, rfl⟩
            go_wp2
            go_ret
            rw [← HL2.out]
            refine ⟨ret_int ?_, HR2.out, HK2.out⟩
            show _ = sum + xv * 60
            omega
          · have hb := sum_bound v0 v1 (u := 1) (by omega)
            clear hm0 hne hne2
            unfold Rd.lets
            go_wp2_with fail
            refine hdig.out.mono ?_
            rintro e w3 ⟨rfl, rfl⟩
            go_wp2
            go_ret
            rw [← HL2.out]
            refine ⟨ret_int ?_, HR2.out, HK2.out⟩
            show _ = sum + xv * 1
            omega
          · have hb := sum_bound v0 v1 (u := 3600) (by omega)
            clear hm0 hne hne2
            unfold Rd.lets
            go_wp2_with fail
            refine hdig.out.mono ?_
            rintro e w3 ⟨rfl, rfl⟩
            go_wp2
            go_ret
            rw [← HL2.out]
            refine ⟨ret_int ?_, HR2.out, HK2.out⟩
            show _ = sum + xv * 3600
            omega
          · have hb := sum_bound v0 v1 (u := 60) (by omega)
            clear hm0 hne hne2
            unfold Rd.lets
            go_wp2_with fail
            refine hdig.out.mono ?_
            rintro e w3 ⟨rfl, rfl⟩
            go_wp2
            go_ret
            rw [← HL2.out]
            refine ⟨ret_int ?_, HR2.out, HK2.out⟩
            show _ = sum + xv * 60
            omega
          · have hb := sum_bound v0 v1 (u := 1) (by omega)
            clear hm0 hne hne2
            unfold Rd.lets
            go_wp2_with fail
            refine hdig.out.mono ?_
            rintro e w3 ⟨rfl, rfl⟩
            go_wp2
            go_ret
            rw [← HL2.out]
            refine ⟨ret_int ?_, HR2.out, HK2.out⟩
            show _ = sum + xv * 1
            omega
        · have hL := HL.out
          rw [Rd.lettLoop_next hm0 Hx.out Hk.out (by rw [Hkv.out]; exact hkn) hdg, Hkv.out, Hxv.out] at hL
          rw [hdg] at hdig
          have HL2 := Lib.hid hL
          clear hL HL hdg hk hkn hkm
          rcases h6 with ⟨rfl, rfl⟩ | ⟨rfl, rfl⟩ | ⟨rfl, rfl⟩ | ⟨rfl, rfl⟩ | ⟨rfl, rfl⟩ | ⟨rfl, rfl⟩
          · have hb := sum_bound v0 v1 (u := 1) (by omega)
            clear hm0 hne hne2
            unfold Rd.lets
            go_wp2_with fail
            refine hdig.out.mono ?_
            rintro e w3 ⟨rfl, rfl⟩
            go_wp2
            go_roundw
            case rel =>
              refine ⟨sum + xv * 1, 0, f, k.2.1, k.2.2, ?_, ?_, by omega, by omega, by omega, by omega, HR2.out, HX2.out, HK2.out, u0, u1, u2, HL2.out⟩
              · exact congrArg (Value.int .i64) (by omega)
              · first | rfl | kernel_rfl
            case measure => first | (simp [strLen]; done) | decide | (show (_ : Nat) < _; kernel_rfl)
          · have hb := sum_bound v0 v1 (u := 60) (by omega)
            clear hm0 hne hne2
            unfold Rd.lets
            go_wp2_with fail
            refine hdig.out.mono ?_
            rintro e w3 ⟨rfl, rfl⟩
            go_wp2
            go_roundw
            case rel =>
              refine ⟨sum + xv * 60, 1, f, k.2.1, k.2.2, ?_, ?_, by omega, by omega, by omega, by omega, HR2.out, HX2.out, HK2.out, u0, u1, u2, HL2.out⟩
              · exact congrArg (Value.int .i64) (by omega)
              · first | rfl | kernel_rfl
            case measure => first | (simp [strLen]; done) | decide | (show (_ : Nat) < _; kernel_rfl)
          · have hb := sum_bound v0 v1 (u := 1) (by omega)
            clear hm0 hne hne2
            unfold Rd.lets
            go_wp2_with fail
            refine hdig.out.mono ?_
            rintro e w3 ⟨rfl, rfl⟩
            go_wp2
            go_roundw
            case rel =>
              refine ⟨sum + xv * 1, 0, f, k.2.1, k.2.2, ?_, ?_, by omega, by omega, by omega, by omega, HR2.out, HX2.out, HK2.out, u0, u1, u2, HL2.out⟩
              · exact congrArg (Value.int .i64) (by omega)
              · first | rfl | kernel_rfl
            case measure => first | (simp [strLen]; done) | decide | (show (_ : Nat) < _; kernel_rfl)
          · have hb := sum_bound v0 v1 (u := 3600) (by omega)
            clear hm0 hne hne2
            unfold Rd.lets
            go_wp2_with fail
            refine hdig.out.mono ?_
            rintro e w3 ⟨rfl, rfl⟩
            go_wp2
            go_roundw
            case rel =>
              refine ⟨sum + xv * 3600, 2, f, k.2.1, k.2.2, ?_, ?_, by omega, by omega, by omega, by omega, HR2.out, HX2.out, HK2.out, u0, u1, u2, HL2.out⟩
              · exact congrArg (Value.int .i64) (by omega)
              · first | rfl | kernel_rfl
            case measure => first | (simp [strLen]; done) | decide | (show (_ : Nat) < _; kernel_rfl)
          · have hb := sum_bound v0 v1 (u := 60) (by omega)
            clear hm0 hne hne2
            unfold Rd.lets
            go_wp2_with fail
            refine hdig.out.mono ?_
            rintro e w3 ⟨rfl, rfl⟩
            go_wp2
            go_roundw
            case rel =>
              refine ⟨sum + xv * 60, 1, f, k.2.1, k.2.2, ?_, ?_, by omega, by omega, by omega, by omega, HR2.out, HX2.out, HK2.out, u0, u1, u2, HL2.out⟩
              · exact congrArg (Value.int .i64) (by omega)
              · first | rfl | kernel_rfl
            case measure => first | (simp [strLen]; done) | decide | (show (_ : Nat) < _; kernel_rfl)
          · have hb := sum_bound v0 v1 (u := 1) (by omega)
            clear hm0 hne hne2
            unfold Rd.lets
            go_wp2_with fail
            refine hdig.out.mono ?_
            rintro e w3 ⟨rfl, rfl⟩
            go_wp2
            go_roundw
            case rel =>
              refine ⟨sum + xv * 1, 0, f, k.2.1, k.2.2, ?_, ?_, by omega, by omega, by omega, by omega, HR2.out, HX2.out, HK2.out, u0, u1, u2, HL2.out⟩
              · exact congrArg (Value.int .i64) (by omega)
              · first | rfl | kernel_rfl
            case measure => first | (simp [strLen]; done) | decide | (show (_ : Nat) < _; kernel_rfl)
end Go.Proofs.YtaghhndcimjjgaaGreatDoor

/- ReadDuration; what every law asks besides: told. -/
namespace Go.Proofs.YtaghhndcimjjgaaGreatDoor
open Go.RowKit Go.BigFrame

def durForms : Nat → FuncId | 0 => 65 | 1 => 66 | _ => 68
def durFs : Nat → ByteArray → Int × Nat × Bool | 0 => Rd.shortF | 1 => Rd.longF | _ => Rd.letteredF
theorem dur_isForm (j : Nat) (hj : j < 3) : IsForm (durForms j) (durFs j) := by
  rcases (show j = 0 ∨ j = 1 ∨ j = 2 by omega) with rfl | rfl | rfl
  · exact ⟨fun _ _ => by kernel_rfl, short_form⟩
  · exact ⟨fun _ _ => by kernel_rfl, long_form⟩
  · exact ⟨fun _ _ => by kernel_rfl, lettered_form⟩
def readDur (s : ByteArray) : Int × Nat × Int := Rd.ranged (Rd.readForms s [Rd.shortF, Rd.longF, Rd.letteredF]) 0 3599999
theorem readDuration_any (s : ByteArray) (w : World) (hs : s.size ≤ 9223372036854775807) :
    Calls Tryz.prog 40 #[.string s] w fun r w' => r = .returned (.tuple #[.int .i64 (readDur s).1, .int .i64 (readDur s).2.1, .int .i64 (readDur s).2.2]) ∧ Below w.heap.size w w' := by
  obtain ⟨z, hz⟩ : ∃ z, Rd.readForms s ((List.range 3).map durFs) = z := ⟨_, rfl⟩
  have hrf := fun (w : World) (R : Nat) (hR : R < w.heap.size) hf => readForms_any s w R 3 durForms durFs (by omega) hR hf dur_isForm hs z hz
  have Hrf := Lib.hid hrf
  have hd : readDur s = Rd.ranged z 0 3599999 := by rw [← hz]; rfl
  rw [hd]
  obtain ⟨n, a, e⟩ := z
  have hra := Lib.hid (ranged_any n e 0 3599999 a)
  generalize Rd.ranged (n, a, e) 0 3599999 = y at hra ⊢
  clear hz hd hrf
  go_enter Tryz.func40, Tryz.ntmps40
  go_wp2_with fail
  refine (Hrf.out _ w.heap.size (by simp) ?hf).mono ?_
  case hf =>
    intro j hj
    rw [World.cell?_alloc_at _ _ _ _ rfl]
    rcases (show j = 0 ∨ j = 1 ∨ j = 2 by omega) with rfl | rfl | rfl <;> rfl
  rintro r w1 ⟨rfl, hb1⟩
  have HB := Lib.hid (((Below.refl w.heap.size w).alloc (Nat.le_refl _) _).trans (hb1.mono (by simp)))
  clear hb1
  go_wp2_with fail
  refine (hra.out _).mono ?_
  rintro r w2 ⟨rfl, rfl⟩
  go_wp2
  go_ret3
  exact ⟨rfl, HB.out⟩
theorem told_dur : readDur ⟨#[49, 104, 53, 115]⟩ = (3605, 0, 0) := by decide +kernel
theorem told_sc : Sc.sc (-7) 1 2 5 = (-4, 0) := by decide +kernel
theorem told_any (w : World) : Calls Tryz.prog 23 #[] w fun e w' => e = .returned (.bool true) ∧ Below w.heap.size w w' := by
  have h1 := Lib.hid (scale_any (-7) 1 2 5 w (by omega) (by omega) (by omega) (by omega))
  have h2 := Lib.hid (fun w => readDuration_any ⟨#[49, 104, 53, 115]⟩ w (by decide))
  rw [told_dur] at h2
  rw [told_sc] at h1
  unfold scRet at h1
  go_enter Tryz.func23, Tryz.ntmps23
  go_wp2_with fail
  refine h1.out.mono ?_
  rintro e w1 ⟨rfl, hb⟩
  go_wp2_with fail
  refine (h2.out _).mono ?_
  rintro e w2 ⟨rfl, hb2⟩
  have HB := Lib.hid (hb.trans (hb2.mono hb.size))
  clear hb hb2
  go_wp2
  go_ret
  exact ⟨rfl, HB.out⟩
end Go.Proofs.YtaghhndcimjjgaaGreatDoor

/- The law QuantRoundsAreNear: its walk. -/
namespace Go.Proofs.YtaghhndcimjjgaaGreatDoor
open Go.RowKit Go.BigFrame

def Whole (w : World) (e : Ending) (w' : World) : Prop := e = .returned (.bool true) ∧ Below w.heap.size w w'
end Go.Proofs.YtaghhndcimjjgaaGreatDoor

/- Days and weeks: the program. -/
namespace Go.Proofs.YtaghhndcimjjgaaGreatDoor
open Go.RowKit Go.BigFrame

def dayB (n : Int) : Bool := decide (0 ≤ n) && decide (n ≤ 999999)
def okDay (n : Int) (e : Int) : Ending := .returned (.tuple #[.int .i64 n, .int .i64 e])
def weekdayF (day : Int) : Int × Int := if dayB day = true then (day % 7, 0) else (0, 9)
theorem dayB_true {n : Int} (h : dayB n = true) : 0 ≤ n ∧ n ≤ 999999 := by unfold dayB at h; simpa using h
def tri (p : Int × Int × Int) : Ending := .returned (.tuple #[.int .i64 p.1, .int .i64 p.2.1, .int .i64 p.2.2])
def thu (day : Int) : Int := day - day % 7 + 3
def weekF (day : Int) : Int × Int × Int := if dayB day = true then (Cal.yearOf (thu day), (thu day - Cal.dn (Cal.yearOf (thu day))) / 7 + 1, 0) else (0, 0, 9)
theorem dn_two : Cal.dn 2000 = -2 ∧ Cal.dn 4740 = 1000762 := by decide
theorem year_range {t : Int} (h0 : 0 ≤ t) (h1 : t ≤ 1000010) : 2000 ≤ Cal.yearOf t ∧ Cal.yearOf t ≤ 4740 := by
  have ⟨a, b⟩ := Cal.yr_spec t
  rw [Cal.yearOf_yr]
  have ⟨d1, d2⟩ := dn_two
  have c1 : 2000 ≤ Cal.yr t := Cal.dn_lt (by omega)
  have c2 : Cal.yr t ≤ 4740 := Cal.dn_lt (by have := Cal.dn_mono1 4740; omega)
  exact ⟨c1, c2⟩
end Go.Proofs.YtaghhndcimjjgaaGreatDoor

/- Zones: how they lie in memory; the program's offset. -/
namespace Go.Proofs.YtaghhndcimjjgaaGreatDoor
open Go.RowKit Go.BigFrame

/-- a slice of structs of two integers, as it lies in memory -/
structure Rows2 (w : World) (a : Option Addr) (len : Nat) (F O : Nat → Int) : Prop where
  here : 0 < len → ∃ b off, a = some ⟨b, off, none⟩ ∧ b < w.heap.size ∧ ∀ i, i < len → w.cell? ⟨b, off + i * 2, none⟩ = some (.int .i64 (F i)) ∧ w.cell? ⟨b, off + i * 2 + 1, none⟩ = some (.int .i64 (O i))
theorem Rows2.below {w w' : World} {a : Option Addr} {len B : Nat} {F O : Nat → Int} (h : Rows2 w a len F O) (hb : Below B w w') (hB : w.heap.size ≤ B) : Rows2 w' a len F O := by
  refine ⟨fun hl => ?_⟩
  obtain ⟨b, off, rfl, hlt, hc⟩ := h.here hl
  refine ⟨b, off, rfl, Nat.lt_of_lt_of_le hlt hb.size, fun i hi => ?_⟩
  obtain ⟨c0, c1⟩ := hc i hi
  exact ⟨(hb.cell (p := ⟨b, off + i * 2, none⟩) (Nat.lt_of_lt_of_le hlt hB)).trans c0, (hb.cell (p := ⟨b, off + i * 2 + 1, none⟩) (Nat.lt_of_lt_of_le hlt hB)).trans c1⟩

def offF (first moment : Int) (F O : Nat → Int) : Nat → Int
  | 0 => first
  | k + 1 => if F k ≤ moment then O k else offF first moment F O k

end Go.Proofs.YtaghhndcimjjgaaGreatDoor

/- Sets of spans as they lie in memory: rows that came in, rows of one's own. -/
namespace Go.Proofs.YtaghhndcimjjgaaGreatDoor
open Go.RowKit Go.BigFrame
open Sp (spl mem Norm)

def spC (x : Int × Int) : List Value := [.int .i64 x.1, .int .i64 x.2]
theorem spC_len (x : Int × Int) : (spC x).length = 2 := rfl
theorem flatSp_len (l : List (Int × Int)) : (l.flatMap spC).length = l.length * 2 := by
  induction l with
  | nil => rfl
  | cons t l ih => rw [List.flatMap_cons, List.length_append, ih]; show 2 + l.length * 2 = (l.length + 1) * 2; omega
theorem flatSp_get : ∀ (l : List (Int × Int)) (i : Nat) (x : Int × Int), l[i]? = some x → (l.flatMap spC)[i * 2]? = some (.int .i64 x.1) ∧ (l.flatMap spC)[i * 2 + 1]? = some (.int .i64 x.2)
  | [], i, x, h => by simp at h
  | y :: l, 0, x, h => by
    injection h with h
    subst h
    exact ⟨rfl, rfl⟩
  | y :: l, i + 1, x, h => by
    obtain ⟨h1, h2⟩ := flatSp_get l i x (by simpa using h)
    rw [List.flatMap_cons, show (i + 1) * 2 = i * 2 + 2 by omega, show i * 2 + 2 + 1 = (i * 2 + 1) + 2 by omega]
    exact ⟨by rw [List.getElem?_append_right (by rw [spC_len]; omega), spC_len, Nat.add_sub_cancel]; exact h1, by rw [List.getElem?_append_right (by rw [spC_len]; omega), spC_len, Nat.add_sub_cancel]; exact h2⟩
theorem flatSp_set : ∀ (l : List (Int × Int)) (i : Nat) (x : Int × Int), i < l.length → ((l.flatMap spC).set (i * 2) (.int .i64 x.1)).set (i * 2 + 1) (.int .i64 x.2) = (l.set i x).flatMap spC
  | [], i, x, h => by simp at h
  | y :: l, 0, x, _ => rfl
  | y :: l, i + 1, x, h => by
    have ih := flatSp_set l i x (by simpa using h)
    rw [List.set_cons_succ, List.flatMap_cons, List.flatMap_cons, ← ih, show (i + 1) * 2 = i * 2 + 1 + 1 by omega]
    simp [spC, List.set_cons_succ]
/-- only an end is put anew -/
theorem flatSp_set1 (l : List (Int × Int)) (i : Nat) (x : Int × Int) (t : Int) (h : l[i]? = some x) : (l.flatMap spC).set (i * 2 + 1) (.int .i64 t) = (l.set i (x.1, t)).flatMap spC := by
  have hi : i < l.length := (List.getElem?_eq_some_iff.1 h).1
  rw [← flatSp_set l i (x.1, t) hi]
  congr 1
  have h1 := (flatSp_get l i x h).1
  have hlt : i * 2 < (l.flatMap spC).length := by rw [flatSp_len]; omega
  apply List.ext_getElem?
  intro j
  rw [List.getElem?_set]
  by_cases hj : i * 2 = j
  · subst hj
    rw [if_pos rfl, if_pos hlt, h1]
  · rw [if_neg hj]
/-- a row of one's own of these spans -/
def SpOwn (w : World) (base : Nat) (v : Value) (l : List (Int × Int)) : Prop := w.ownsRow base 35 2 v l.length (l.flatMap spC)
theorem SpOwn.below {w w' : World} {base : Nat} {v : Value} {l : List (Int × Int)} (h : SpOwn w base v l) (hb : Below w.heap.size w w') : SpOwn w' base v l := ownsRow_below h hb
theorem SpOwn.nil (w : World) (base : Nat) : SpOwn w base (.slice none 0 0) [] := World.ownsRow_nil _ _ _ _
theorem SpOwn.weaken {w : World} {base base' : Nat} {v : Value} {l : List (Int × Int)} (h : SpOwn w base v l) (hb : base' ≤ base) : SpOwn w base' v l := by
  refine ⟨h.1, ?_⟩
  rcases h.2 with e | ⟨g, cap, cur, h1, h2, h3⟩
  · exact Or.inl e
  · exact Or.inr ⟨g, cap, cur, h1, Nat.le_trans hb h2, h3⟩
def spF (l : List (Int × Int)) (i : Nat) : Int := (l.getD i (0, 0)).1
def spT (l : List (Int × Int)) (i : Nat) : Int := (l.getD i (0, 0)).2
theorem spl_of (l : List (Int × Int)) : spl (spF l) (spT l) l.length = l := by
  apply List.ext_getElem?
  intro i
  by_cases hi : i < l.length
  · rw [Sp.spl_get hi, List.getElem?_eq_getElem hi]
    simp [spF, spT, List.getD_eq_getElem?_getD, List.getElem?_eq_getElem hi]
  · rw [List.getElem?_eq_none (by rw [Sp.spl_len]; omega), List.getElem?_eq_none (by omega)]
theorem SpOwn.rows {w : World} {base : Nat} {v : Value} {l : List (Int × Int)} (h : SpOwn w base v l) : ∃ a c, v = .slice a l.length c ∧ l.length ≤ c ∧ Rows2 w a l.length (spF l) (spT l) ∧ ∀ b, a = some b → base ≤ b.block := by
  rcases h.2 with ⟨e, h0⟩ | ⟨g, cap, cur, e, hb, hg, hn, hm, hs, ht⟩
  · refine ⟨none, 0, ?_, by omega, ⟨fun hl => by omega⟩, fun b hb => by cases hb⟩
    rw [e, h0]
  · refine ⟨_, cap, e, hn, ⟨fun _ => ⟨g, 0, rfl, lt_of_block hg, fun i hi => ?_⟩⟩, fun b hb' => by injection hb' with hb'; subst hb'; exact hb⟩
    have hx : l[i]? = some (l[i]) := List.getElem?_eq_getElem hi
    obtain ⟨c0, c1⟩ := flatSp_get l i _ hx
    have k0 := h.cells (g := g) (by rw [e]; rfl) (i * 2) _ c0
    have k1 := h.cells (g := g) (by rw [e]; rfl) (i * 2 + 1) _ c1
    rw [addr_add0] at k0 k1
    have ed : l.getD i (0, 0) = l[i] := by simp [List.getD_eq_getElem?_getD, List.getElem?_eq_getElem hi]
    rw [Nat.zero_add]
    exact ⟨by unfold spF; rw [ed]; exact k0, by unfold spT; rw [ed]; exact k1⟩
end Go.Proofs.YtaghhndcimjjgaaGreatDoor

/- CheckSpans of both, checkBoth of both. -/
namespace Go.Proofs.YtaghhndcimjjgaaGreatDoor
open Go.RowKit Go.BigFrame
open Sp (chkS chkL outN outN_false)

set_option maxHeartbeats 2000000 in
set_option maxRecDepth 100000 in
theorem checkSpans_any (a : Option Addr) (len cap : Nat) (F T : Nat → Int) (w : World) (hr : Rows2 w a len F T) :
    Calls Tryz.prog 18 #[.slice a len cap] w fun e w' => e = .returned (.int .i64 (chkS F T len)) ∧ Below w.heap.size w w' := by
  have HR := Lib.hid hr
  clear hr
  by_cases h2 : 1000 < len
  · have hz : chkS F T len = 3 := by unfold chkS; rw [if_pos h2]
    rw [hz]
    have t1 : decide ((1000 : Int) < (len : Int)) = true := by rw [decide_eq_true_eq]; omega
    have t1' : decide (1000 < len) = true := by simpa using h2
    clear h2 hz
    go_enter Tryz.func18, Tryz.ntmps18
    go_wp2
    go_ret
    exact ⟨rfl, Below.refl _ _⟩
  have t1 : decide ((1000 : Int) < (len : Int)) = false := by rw [decide_eq_false_iff_not]; omega
  have t1' : decide (1000 < len) = false := by simpa using h2
  have hl : (len : Int) ≤ 1000 := by omega
  have hz : chkS F T len = chkL F T len 0 := by unfold chkS; rw [if_neg h2]
  rw [hz]
  clear h2 hz
  obtain ⟨z, hz⟩ : ∃ z, chkL F T len 0 = z := ⟨_, rfl⟩
  rw [hz]
  have Hz := Lib.hid hz
  clear hz
  go_enter Tryz.func18, Tryz.ntmps18
  go_wp2_with fail
  go_loopw [10] (fun iv wr => ∃ (k : Nat), iv = .int .i64 k ∧ k ≤ len ∧ Hid (Below w.heap.size w wr) ∧ Hid (∀ i, i < k → 0 ≤ T i ∧ T i ≤ 1000000000000) ∧ Hid (chkL F T (len - k) k = z)) (fun iv _ => len - (intOf iv).toNat)
  case atStart => exact ⟨0, rfl, by omega, Lib.hid (Below.refl _ _), Lib.hid (fun i hi => by omega), Hz⟩
  case round =>
    obtain ⟨k, rfl, hk, HB, HT, HZ⟩ := hrel
    have hsz := HB.out.size
    by_cases hlt : k < len
    case neg =>
      have t2 : decide ((k : Int) < (len : Int)) = false := by rw [decide_eq_false_iff_not]; omega
      have t2' : decide (k < len) = false := by simpa using hlt
      have hzz := HZ.out
      rw [show len - k = 0 by omega, chkL] at hzz
      subst hzz
      clear hlt HZ
      go_wp2_with fail
      go_ret
      exact ⟨rfl, HB.out⟩
    case pos =>
    have t2 : decide ((k : Int) < (len : Int)) = true := by rw [decide_eq_true_eq]; omega
    have t2' : decide (k < len) = true := by simpa using hlt
    obtain ⟨b, off, rfl, hbl, hc⟩ := (HR.out.below HB.out (Nat.le_refl _)).here (by omega)
    obtain ⟨c0, c1⟩ := hc k hlt
    have Hc := Lib.hid hc
    have hzz := HZ.out
    rw [show len - k = (len - k - 1) + 1 by omega, chkL] at hzz
    clear hc HZ
    by_cases gn1 : F k < 0
    case pos =>
      have n1 : decide (F k < 0) = true := by simpa using gn1
      rw [if_pos (by unfold outN; simp only [Bool.or_eq_true, decide_eq_true_eq]; omega)] at hzz
      subst hzz
      clear gn1
      go_wp2_with fail
      go_ret
      exact ⟨rfl, HB.out.alloc (by omega) _⟩
    case neg =>
    have n1 : decide (F k < 0) = false := by simpa using gn1
    by_cases gn2 : 1000000000000 < F k
    case pos =>
      have n2 : decide (1000000000000 < F k) = true := by simpa using gn2
      rw [if_pos (by unfold outN; simp only [Bool.or_eq_true, decide_eq_true_eq]; omega)] at hzz
      subst hzz
      clear gn2
      go_wp2_with fail
      go_ret
      exact ⟨rfl, HB.out.alloc (by omega) _⟩
    case neg =>
    have n2 : decide (1000000000000 < F k) = false := by simpa using gn2
    by_cases gn3 : T k < 0
    case pos =>
      have n3 : decide (T k < 0) = true := by simpa using gn3
      rw [if_pos (by unfold outN; simp only [Bool.or_eq_true, decide_eq_true_eq]; omega)] at hzz
      subst hzz
      clear gn3
      go_wp2_with fail
      go_ret
      exact ⟨rfl, HB.out.alloc (by omega) _⟩
    case neg =>
    have n3 : decide (T k < 0) = false := by simpa using gn3
    by_cases gn4 : 1000000000000 < T k
    case pos =>
      have n4 : decide (1000000000000 < T k) = true := by simpa using gn4
      rw [if_pos (by unfold outN; simp only [Bool.or_eq_true, decide_eq_true_eq]; omega)] at hzz
      subst hzz
      clear gn4
      go_wp2_with fail
      go_ret
      exact ⟨rfl, HB.out.alloc (by omega) _⟩
    case neg =>
    have n4 : decide (1000000000000 < T k) = false := by simpa using gn4
    rw [if_neg (by unfold outN; simp only [Bool.or_eq_true, decide_eq_true_eq]; omega)] at hzz
    have HTk : Hid (0 ≤ T k ∧ T k ≤ 1000000000000) := Lib.hid (by omega)
    by_cases g5 : T k < F k
    case pos =>
      have n5 : decide (T k < F k) = true := by simpa using g5
      rw [if_pos (Or.inl g5)] at hzz
      subst hzz
      clear g5
      go_wp2_with fail
      go_quiet (fail)
      go_wp2
      go_ret
      exact ⟨rfl, below_drewN (HB.out.alloc (by omega) _) _⟩
    case neg =>
    have n5 : decide (T k < F k) = false := by simpa using g5
    by_cases hk0 : 0 < k
    case neg =>
      have n6 : decide ((0 : Int) < (k : Int)) = false := by rw [decide_eq_false_iff_not]; omega
      have n6' : decide (0 < k) = false := by simpa using hk0
      rw [if_neg (fun h => h.elim g5 (fun h => hk0 h.1))] at hzz
      have HZ2 := Lib.hid (show chkL F T (len - (k + 1)) (k + 1) = z by rw [← hzz, show len - (k + 1) = len - k - 1 by omega])
      clear hzz hk0 g5
      go_wp2_with fail
      go_quiet (fail)
      go_wp2
      go_roundw
      case rel => exact ⟨k + 1, by go_num, by omega, Lib.hid (below_drewN (HB.out.alloc (by omega) _) _), Lib.hid (fun i hi => (Nat.lt_succ_iff_lt_or_eq.1 hi).elim (fun h => HT.out i h) (fun e => by subst e; exact HTk.out)), HZ2⟩
      case measure => simp [intOf]; omega
    case pos =>
    have n6 : decide ((0 : Int) < (k : Int)) = true := by rw [decide_eq_true_eq]; omega
    have n6' : decide (0 < k) = true := by simpa using hk0
    obtain ⟨_, c3⟩ := Hc.out (k - 1) (by omega)
    have hidx : ((k : Int) - 1).toNat = k - 1 := by omega
    have hT := HT.out (k - 1) (by omega)
    by_cases g7 : F k < T (k - 1) + 2
    case pos =>
      have n7 : decide (F k < T (k - 1) + 2) = true := by simpa using g7
      rw [if_pos (Or.inr ⟨hk0, g7⟩)] at hzz
      subst hzz
      clear g7 g5
      go_wp2_with fail
      go_quiet (fail)
      go_wp2
      go_ret
      exact ⟨rfl, below_drewN (HB.out.alloc (by omega) _) _⟩
    case neg =>
    have n7 : decide (F k < T (k - 1) + 2) = false := by simpa using g7
    rw [if_neg (fun h => h.elim g5 (fun h => g7 h.2))] at hzz
    have HZ2 := Lib.hid (show chkL F T (len - (k + 1)) (k + 1) = z by rw [← hzz, show len - (k + 1) = len - k - 1 by omega])
    clear hzz g7 g5
    go_wp2_with fail
    go_quiet (fail)
    go_wp2
    go_roundw
    case rel => exact ⟨k + 1, by go_num, by omega, Lib.hid (below_drewN (HB.out.alloc (by omega) _) _), Lib.hid (fun i hi => (Nat.lt_succ_iff_lt_or_eq.1 hi).elim (fun h => HT.out i h) (fun e => by subst e; exact HTk.out)), HZ2⟩
    case measure => simp [intOf]; omega
set_option maxHeartbeats 2000000 in
set_option maxRecDepth 100000 in
theorem rcheckSpans_any (a : Option Addr) (len cap : Nat) (F T : Nat → Int) (w : World) (hr : Rows2 w a len F T) :
    Calls Tryz.prog 19 #[.slice a len cap] w fun e w' => e = .returned (.int .i64 (chkS F T len)) ∧ Below w.heap.size w w' := by
  have HR := Lib.hid hr
  clear hr
  by_cases h2 : 1000 < len
  · have hz : chkS F T len = 3 := by unfold chkS; rw [if_pos h2]
    rw [hz]
    have t1 : decide ((1000 : Int) < (len : Int)) = true := by rw [decide_eq_true_eq]; omega
    have t1' : decide (1000 < len) = true := by simpa using h2
    clear h2 hz
    go_enter Tryz.func19, Tryz.ntmps19
    go_wp2
    go_ret
    exact ⟨rfl, Below.refl _ _⟩
  have t1 : decide ((1000 : Int) < (len : Int)) = false := by rw [decide_eq_false_iff_not]; omega
  have t1' : decide (1000 < len) = false := by simpa using h2
  have hl : (len : Int) ≤ 1000 := by omega
  have hz : chkS F T len = chkL F T len 0 := by unfold chkS; rw [if_neg h2]
  rw [hz]
  clear h2 hz
  obtain ⟨z, hz⟩ : ∃ z, chkL F T len 0 = z := ⟨_, rfl⟩
  rw [hz]
  have Hz := Lib.hid hz
  clear hz
  go_enter Tryz.func19, Tryz.ntmps19
  go_wp2_with fail
  go_loopw [10] (fun iv wr => ∃ (k : Nat), iv = .int .i64 k ∧ k ≤ len ∧ Hid (Below w.heap.size w wr) ∧ Hid (∀ i, i < k → 0 ≤ T i ∧ T i ≤ 1000000000000) ∧ Hid (chkL F T (len - k) k = z)) (fun iv _ => len - (intOf iv).toNat)
  case atStart => exact ⟨0, rfl, by omega, Lib.hid (Below.refl _ _), Lib.hid (fun i hi => by omega), Hz⟩
  case round =>
    obtain ⟨k, rfl, hk, HB, HT, HZ⟩ := hrel
    have hsz := HB.out.size
    by_cases hlt : k < len
    case neg =>
      have t2 : decide ((k : Int) < (len : Int)) = false := by rw [decide_eq_false_iff_not]; omega
      have t2' : decide (k < len) = false := by simpa using hlt
      have hzz := HZ.out
      rw [show len - k = 0 by omega, chkL] at hzz
      subst hzz
      clear hlt HZ
      go_wp2_with fail
      go_ret
      exact ⟨rfl, HB.out⟩
    case pos =>
    have t2 : decide ((k : Int) < (len : Int)) = true := by rw [decide_eq_true_eq]; omega
    have t2' : decide (k < len) = true := by simpa using hlt
    obtain ⟨b, off, rfl, hbl, hc⟩ := (HR.out.below HB.out (Nat.le_refl _)).here (by omega)
    obtain ⟨c0, c1⟩ := hc k hlt
    have Hc := Lib.hid hc
    have hzz := HZ.out
    rw [show len - k = (len - k - 1) + 1 by omega, chkL] at hzz
    clear hc HZ
    have d1 := Lib.hid (fun W => outside_any (F k) 0 1000000000000 W)
    have d2 := Lib.hid (fun W => outside_any (T k) 0 1000000000000 W)
    have hzz : (if (outN (F k) || outN (T k)) = true then 9 else if T k < F k ∨ (0 < k ∧ F k < T (k - 1) + 2) then 10 else chkL F T (len - k - 1) (k + 1)) = z := hzz
    obtain ⟨o1, ho1⟩ : ∃ x, outN (F k) = x := ⟨_, rfl⟩
    obtain ⟨o2, ho2⟩ : ∃ x, outN (T k) = x := ⟨_, rfl⟩
    rw [show (decide (F k < 0) || decide (1000000000000 < F k)) = o1 from ho1] at d1
    rw [show (decide (T k < 0) || decide (1000000000000 < T k)) = o2 from ho2] at d2
    rw [ho1, ho2] at hzz
    clear ho1
    cases o1
    case true =>
      rw [if_pos (by simp)] at hzz
      subst hzz
      clear ho2 d2
      go_wp2_with fail
      refine (d1.out _).mono ?_
      rintro e _ ⟨rfl, rfl⟩
      go_wp2_with fail
      go_ret
      exact ⟨rfl, HB.out.alloc (by omega) _⟩
    case false =>
    have hto : o2 = false → 0 ≤ T k ∧ T k ≤ 1000000000000 := fun h => outN_false (ho2.trans h)
    clear ho2
    cases o2
    case true =>
      rw [if_pos (by simp)] at hzz
      subst hzz
      clear hto
      go_wp2_with fail
      refine (d1.out _).mono ?_
      rintro e _ ⟨rfl, rfl⟩
      go_wp2_with fail
      refine (d2.out _).mono ?_
      rintro e _ ⟨rfl, rfl⟩
      go_wp2_with fail
      go_ret
      exact ⟨rfl, HB.out.alloc (by omega) _⟩
    case false =>
    have HTk := Lib.hid (hto rfl)
    clear hto
    rw [if_neg (by simp)] at hzz
    by_cases g5 : T k < F k
    case pos =>
      have n5 : decide (T k < F k) = true := by simpa using g5
      rw [if_pos (Or.inl g5)] at hzz
      subst hzz
      clear g5
      go_wp2_with fail
      refine (d1.out _).mono ?_
      rintro e _ ⟨rfl, rfl⟩
      go_wp2_with fail
      refine (d2.out _).mono ?_
      rintro e _ ⟨rfl, rfl⟩
      go_wp2_with fail
      go_quiet (fail)
      go_wp2
      go_ret
      exact ⟨rfl, below_drewN (HB.out.alloc (by omega) _) _⟩
    case neg =>
    have n5 : decide (T k < F k) = false := by simpa using g5
    by_cases hk0 : 0 < k
    case neg =>
      have n6 : decide ((0 : Int) < (k : Int)) = false := by rw [decide_eq_false_iff_not]; omega
      have n6' : decide (0 < k) = false := by simpa using hk0
      rw [if_neg (fun h => h.elim g5 (fun h => hk0 h.1))] at hzz
      have HZ2 := Lib.hid (show chkL F T (len - (k + 1)) (k + 1) = z by rw [← hzz, show len - (k + 1) = len - k - 1 by omega])
      clear hzz hk0 g5
      go_wp2_with fail
      refine (d1.out _).mono ?_
      rintro e _ ⟨rfl, rfl⟩
      go_wp2_with fail
      refine (d2.out _).mono ?_
      rintro e _ ⟨rfl, rfl⟩
      go_wp2_with fail
      go_quiet (fail)
      go_wp2
      go_roundw
      case rel => exact ⟨k + 1, by go_num, by omega, Lib.hid (below_drewN (HB.out.alloc (by omega) _) _), Lib.hid (fun i hi => (Nat.lt_succ_iff_lt_or_eq.1 hi).elim (fun h => HT.out i h) (fun e => by subst e; exact HTk.out)), HZ2⟩
      case measure => simp [intOf]; omega
    case pos =>
    have n6 : decide ((0 : Int) < (k : Int)) = true := by rw [decide_eq_true_eq]; omega
    have n6' : decide (0 < k) = true := by simpa using hk0
    obtain ⟨_, c3⟩ := Hc.out (k - 1) (by omega)
    have hidx : ((k : Int) - 1).toNat = k - 1 := by omega
    have hT := HT.out (k - 1) (by omega)
    by_cases g7 : F k < T (k - 1) + 2
    case pos =>
      have n7 : decide (F k < T (k - 1) + 2) = true := by simpa using g7
      rw [if_pos (Or.inr ⟨hk0, g7⟩)] at hzz
      subst hzz
      clear g7 g5
      go_wp2_with fail
      refine (d1.out _).mono ?_
      rintro e _ ⟨rfl, rfl⟩
      go_wp2_with fail
      refine (d2.out _).mono ?_
      rintro e _ ⟨rfl, rfl⟩
      go_wp2_with fail
      go_quiet (fail)
      go_wp2
      go_ret
      exact ⟨rfl, below_drewN (HB.out.alloc (by omega) _) _⟩
    case neg =>
    have n7 : decide (F k < T (k - 1) + 2) = false := by simpa using g7
    rw [if_neg (fun h => h.elim g5 (fun h => g7 h.2))] at hzz
    have HZ2 := Lib.hid (show chkL F T (len - (k + 1)) (k + 1) = z by rw [← hzz, show len - (k + 1) = len - k - 1 by omega])
    clear hzz g7 g5
    go_wp2_with fail
    refine (d1.out _).mono ?_
    rintro e _ ⟨rfl, rfl⟩
    go_wp2_with fail
    refine (d2.out _).mono ?_
    rintro e _ ⟨rfl, rfl⟩
    go_wp2_with fail
    go_quiet (fail)
    go_wp2
    go_roundw
    case rel => exact ⟨k + 1, by go_num, by omega, Lib.hid (below_drewN (HB.out.alloc (by omega) _) _), Lib.hid (fun i hi => (Nat.lt_succ_iff_lt_or_eq.1 hi).elim (fun h => HT.out i h) (fun e => by subst e; exact HTk.out)), HZ2⟩
    case measure => simp [intOf]; omega
end Go.Proofs.YtaghhndcimjjgaaGreatDoor

/- Sets: what is in one, how many; two checks. -/
namespace Go.Proofs.YtaghhndcimjjgaaGreatDoor
open Go.RowKit Go.BigFrame
open Sp (chkS chkL spl mem Norm inB size)

def orC (c1 c2 : Int) : Int := if c1 = 0 then c2 else c1
theorem or_any (c1 c2 : Int) (b : Nat) (w : World) (h0 : w.cell? ⟨b, 0, none⟩ = some (.int .i64 c1)) (h1 : w.cell? ⟨b, 1, none⟩ = some (.int .i64 c2)) :
    Calls Tryz.prog 46 #[.slice (some ⟨b, 0, none⟩) 2 2] w fun e w' => e = .returned (.int .i64 (orC c1 c2)) ∧ w = w' := by
  by_cases g1 : c1 = 0
  · subst g1
    have HX := Lib.hid (show orC 0 c2 = c2 from if_pos rfl)
    rw [HX.out]
    by_cases g2 : c2 = 0
    · subst g2
      go_enter Tryz.func46, Tryz.ntmps46
      go_wp2_with fail
      go_loopw [8] (fun iv wr => ∃ (k : Nat), iv = .int .i64 k ∧ k ≤ 2 ∧ wr = w) (fun iv _ => 2 - (intOf iv).toNat)
      case atStart => exact ⟨0, rfl, by omega, rfl⟩
      case round =>
        obtain ⟨k, rfl, hk, rfl⟩ := hrel
        rcases (show k = 0 ∨ k = 1 ∨ k = 2 by omega) with rfl | rfl | rfl
        · go_wp2_with fail
          go_roundw
          case rel => exact ⟨1, by go_num, by omega, by trivial⟩
          case measure => simp [intOf]
        · go_wp2_with fail
          go_roundw
          case rel => exact ⟨2, by go_num, by omega, by trivial⟩
          case measure => simp [intOf]
        · go_wp2_with fail
          go_ret
          exact ⟨rfl, rfl⟩
    · have b1 : (c2 == 0) = false := by simpa using g2
      have b2 : (c2 != 0) = true := by simpa using g2
      clear g2
      go_enter Tryz.func46, Tryz.ntmps46
      go_wp2_with fail
      go_loopw [8] (fun iv wr => ∃ (k : Nat), iv = .int .i64 k ∧ k ≤ 1 ∧ wr = w) (fun iv _ => 2 - (intOf iv).toNat)
      case atStart => exact ⟨0, rfl, by omega, rfl⟩
      case round =>
        obtain ⟨k, rfl, hk, rfl⟩ := hrel
        rcases (show k = 0 ∨ k = 1 by omega) with rfl | rfl
        · go_wp2_with fail
          go_roundw
          case rel => exact ⟨1, by go_num, by omega, by trivial⟩
          case measure => simp [intOf]
        · go_wp2_with fail
          go_ret
          exact ⟨rfl, rfl⟩
  · have HX := Lib.hid (show orC c1 c2 = c1 from if_neg g1)
    rw [HX.out]
    have b1 : (c1 == 0) = false := by simpa using g1
    have b2 : (c1 != 0) = true := by simpa using g1
    clear g1
    go_enter Tryz.func46, Tryz.ntmps46
    go_wp2_with fail
    go_loopw [8] (fun iv wr => iv = .int .i64 0 ∧ wr = w) (fun iv _ => 2 - (intOf iv).toNat)
    case atStart => exact ⟨rfl, rfl⟩
    case round =>
      obtain ⟨rfl, rfl⟩ := hrel
      go_wp2_with fail
      go_ret
      exact ⟨rfl, rfl⟩
theorem checkBoth_any (a1 : Option Addr) (n1 k1 : Nat) (F1 T1 : Nat → Int) (a2 : Option Addr) (n2 k2 : Nat) (F2 T2 : Nat → Int) (w : World) (h1 : Rows2 w a1 n1 F1 T1) (h2 : Rows2 w a2 n2 F2 T2) :
    Calls Tryz.prog 26 #[.slice a1 n1 k1, .slice a2 n2 k2] w fun e w' => e = .returned (.int .i64 (orC (chkS F1 T1 n1) (chkS F2 T2 n2))) ∧ Below w.heap.size w w' := by
  have D1 := Lib.hid (checkSpans_any a1 n1 k1 F1 T1 w h1)
  have D2 := Lib.hid (fun W (h : Below w.heap.size w W) => checkSpans_any a2 n2 k2 F2 T2 W (h2.below h (Nat.le_refl _)))
  generalize chkS F1 T1 n1 = c1 at D1 ⊢
  generalize chkS F2 T2 n2 = c2 at D2 ⊢
  clear h1 h2
  go_enter Tryz.func26, Tryz.ntmps26
  go_wp2_with fail
  refine D1.out.mono ?_
  rintro e w1 ⟨rfl, hb1⟩
  go_wp2_with fail
  refine (D2.out w1 hb1).mono ?_
  rintro e w2 ⟨rfl, hb2⟩
  go_wp2_with fail
  obtain ⟨V, hV, hbV, hsV, hcV⟩ := alloc_cells w2 #[.int .i64 c1, .int .i64 c2] 23
  rw [hV]
  refine (or_any c1 c2 w2.heap.size V (hcV 0 _ rfl) (hcV 1 _ rfl)).mono ?_
  rintro e _ ⟨rfl, rfl⟩
  clear hV hcV
  go_wp2_with fail
  go_ret
  exact ⟨rfl, below_step (below_step hb1 hb2) hbV⟩
theorem rcheckBoth_any (a1 : Option Addr) (n1 k1 : Nat) (F1 T1 : Nat → Int) (a2 : Option Addr) (n2 k2 : Nat) (F2 T2 : Nat → Int) (w : World) (h1 : Rows2 w a1 n1 F1 T1) (h2 : Rows2 w a2 n2 F2 T2) :
    Calls Tryz.prog 52 #[.slice a1 n1 k1, .slice a2 n2 k2] w fun e w' => e = .returned (.int .i64 (orC (chkS F1 T1 n1) (chkS F2 T2 n2))) ∧ Below w.heap.size w w' := by
  have D1 := Lib.hid (rcheckSpans_any a1 n1 k1 F1 T1 w h1)
  have D2 := Lib.hid (fun W (h : Below w.heap.size w W) => rcheckSpans_any a2 n2 k2 F2 T2 W (h2.below h (Nat.le_refl _)))
  generalize chkS F1 T1 n1 = c1 at D1 ⊢
  generalize chkS F2 T2 n2 = c2 at D2 ⊢
  clear h1 h2
  by_cases g1 : c1 = 0
  · subst g1
    have HX := Lib.hid (show orC 0 c2 = c2 from if_pos rfl)
    rw [HX.out]
    go_enter Tryz.func52, Tryz.ntmps52
    go_wp2_with fail
    refine D1.out.mono ?_
    rintro e w1 ⟨rfl, hb1⟩
    go_wp2_with fail
    refine (D2.out w1 hb1).mono ?_
    rintro e w2 ⟨rfl, hb2⟩
    go_wp2_with fail
    go_ret
    exact ⟨rfl, below_step hb1 hb2⟩
  · have HX := Lib.hid (show orC c1 c2 = c1 from if_neg g1)
    rw [HX.out]
    have b1 : (c1 == 0) = false := by simpa using g1
    have b2 : (c1 != 0) = true := by simpa using g1
    clear g1
    go_enter Tryz.func52, Tryz.ntmps52
    go_wp2_with fail
    refine D1.out.mono ?_
    rintro e w1 ⟨rfl, hb1⟩
    go_wp2_with fail
    go_ret
    exact ⟨rfl, hb1⟩
def sizedE (n : Nat) : Int := if 1000 < n then 3 else 0
def sizedV (v : Value) (n : Nat) : Value := if 1000 < n then .slice none 0 0 else v
theorem sized_any (a : Option Addr) (n c : Nat) (w : World) : Calls Tryz.prog 27 #[.slice a n c] w fun e w' => e = .returned (.tuple #[sizedV (.slice a n c) n, .int .i64 (sizedE n)]) ∧ w = w' := by
  unfold sizedE sizedV
  by_cases h : 1000 < n
  · rw [if_pos h, if_pos h]
    have t1 : decide ((1000 : Int) < (n : Int)) = true := by rw [decide_eq_true_eq]; omega
    have t1' : decide (1000 < n) = true := by simpa using h
    clear h
    go_enter Tryz.func27, Tryz.ntmps27
    go_wp2
    go_ret2
    exact ⟨rfl, rfl⟩
  · rw [if_neg h, if_neg h]
    have t1 : decide ((1000 : Int) < (n : Int)) = false := by rw [decide_eq_false_iff_not]; omega
    have t1' : decide (1000 < n) = false := by simpa using h
    clear h
    go_enter Tryz.func27, Tryz.ntmps27
    go_wp2
    go_ret2
    exact ⟨rfl, rfl⟩
theorem inB_yes {F T : Nat → Int} {len i : Nat} {n : Int} (hi : i < len) (h1 : F i ≤ n) (h2 : n ≤ T i) : inB (spl F T len) n = true := Sp.inB_iff.2 ⟨(F i, T i), List.mem_of_getElem? (Sp.spl_get hi), h1, h2⟩
theorem inB_no {F T : Nat → Int} {len : Nat} {n : Int} (h : ∀ i, i < len → ¬ (F i ≤ n ∧ n ≤ T i)) : inB (spl F T len) n = false := by
  cases hb : inB (spl F T len) n with
  | false => rfl
  | true =>
    obtain ⟨x, hx, h1, h2⟩ := Sp.inB_iff.1 hb
    obtain ⟨i, hi, rfl⟩ := Sp.spl_mem hx
    exact absurd ⟨h1, h2⟩ (h i hi)
set_option maxHeartbeats 1000000 in
set_option maxRecDepth 100000 in
theorem in_any (n : Int) (a : Option Addr) (len cap : Nat) (F T : Nat → Int) (w : World) (hr : Rows2 w a len F T) (hl : len ≤ 1000000) :
    Calls Tryz.prog 33 #[.slice a len cap, .int .i64 n] w fun e w' => e = .returned (.bool (inB (spl F T len) n)) ∧ Below w.heap.size w w' := by
  have HR := Lib.hid hr
  have HY := Lib.hid (fun i (hi : i < len) => inB_yes (F := F) (T := T) (n := n) hi)
  have HN := Lib.hid (inB_no (F := F) (T := T) (len := len) (n := n))
  generalize inB (spl F T len) n = z at HY HN ⊢
  clear hr
  go_enter Tryz.func33, Tryz.ntmps33
  go_wp2_with fail
  go_loopw [9] (fun iv wr => ∃ (k : Nat), iv = .int .i64 k ∧ k ≤ len ∧ Hid (Below w.heap.size w wr) ∧ Hid (∀ i, i < k → ¬ (F i ≤ n ∧ n ≤ T i))) (fun iv _ => len - (intOf iv).toNat)
  case atStart => exact ⟨0, rfl, by omega, Lib.hid (Below.refl _ _), Lib.hid (fun i hi => by omega)⟩
  case round =>
    obtain ⟨k, rfl, hk, HB, HK⟩ := hrel
    have hsz := HB.out.size
    by_cases hlt : k < len
    case neg =>
      have t2 : decide ((k : Int) < (len : Int)) = false := by rw [decide_eq_false_iff_not]; omega
      have t2' : decide (k < len) = false := by simpa using hlt
      have hzz := HN.out (fun i hi => HK.out i (by omega))
      subst hzz
      clear hlt
      go_wp2_with fail
      go_ret
      exact ⟨rfl, HB.out⟩
    case pos =>
    have t2 : decide ((k : Int) < (len : Int)) = true := by rw [decide_eq_true_eq]; omega
    have t2' : decide (k < len) = true := by simpa using hlt
    obtain ⟨b, off, rfl, hbl, hc⟩ := (HR.out.below HB.out (Nat.le_refl _)).here (by omega)
    obtain ⟨c0, c1⟩ := hc k hlt
    clear hc
    by_cases g1 : F k ≤ n
    case neg =>
      have n1 : decide (F k ≤ n) = false := by simpa using g1
      have HK2 : Hid (∀ i, i < k + 1 → ¬ (F i ≤ n ∧ n ≤ T i)) := Lib.hid (fun i hi => (Nat.lt_succ_iff_lt_or_eq.1 hi).elim (fun h => HK.out i h) (fun e => by subst e; exact fun h => g1 h.1))
      clear g1
      go_wp2_with fail
      go_roundw
      case rel => exact ⟨k + 1, by go_num, by omega, Lib.hid (HB.out.alloc (by omega) _), HK2⟩
      case measure => simp [intOf]; omega
    case pos =>
    have n1 : decide (F k ≤ n) = true := by simpa using g1
    by_cases g2 : n ≤ T k
    case neg =>
      have n2 : decide (n ≤ T k) = false := by simpa using g2
      have HK2 : Hid (∀ i, i < k + 1 → ¬ (F i ≤ n ∧ n ≤ T i)) := Lib.hid (fun i hi => (Nat.lt_succ_iff_lt_or_eq.1 hi).elim (fun h => HK.out i h) (fun e => by subst e; exact fun h => g2 h.2))
      clear g1 g2
      go_wp2_with fail
      go_roundw
      case rel => exact ⟨k + 1, by go_num, by omega, Lib.hid (HB.out.alloc (by omega) _), HK2⟩
      case measure => simp [intOf]; omega
    case pos =>
      have n2 : decide (n ≤ T k) = true := by simpa using g2
      have hzz := HY.out k hlt g1 g2
      subst hzz
      clear g1 g2
      go_wp2_with fail
      go_ret
      exact ⟨rfl, HB.out.alloc (by omega) _⟩
end Go.Proofs.YtaghhndcimjjgaaGreatDoor

/- Sets: Common of the program. -/
namespace Sp
theorem spl_drop {F T : Nat → Int} {n i : Nat} (h : i < n) : (spl F T n).drop i = (F i, T i) :: (spl F T n).drop (i + 1) := by
  have hl : i < (spl F T n).length := by rw [spl_len]; exact h
  rw [List.drop_eq_getElem_cons hl]
  congr 1
  have := spl_get (F := F) (T := T) h
  rw [List.getElem?_eq_getElem hl] at this
  exact Option.some.inj this
theorem spl_end {F T : Nat → Int} {n i : Nat} (h : n ≤ i) : (spl F T n).drop i = [] := List.drop_eq_nil_of_le (by rw [spl_len]; exact h)
theorem com_nil1 (f : Nat) (b : List (Int × Int)) : com f [] b = [] := by cases f <;> rfl
theorem com_nil2 (f : Nat) (a : List (Int × Int)) : com f a [] = [] := by cases f <;> cases a <;> rfl
end Sp
namespace Go.Proofs.YtaghhndcimjjgaaGreatDoor
open Go.RowKit Go.BigFrame
open Sp (chkS chkL spl mem Norm inB com)

/-- an append to a row of one's own: what it leaves -/
theorem SpOwn.snoc {w' : World} {base : Nat} {v : Value} {l : List (Int × Int)} {x : Int × Int} (h : w'.ownsRow base 35 2 v (l.length + 1) (l.flatMap spC ++ [.int .i64 x.1, .int .i64 x.2])) : SpOwn w' base v (l ++ [x]) := by
  unfold SpOwn
  rw [List.length_append, List.flatMap_append]
  exact h
theorem SpOwn.alloc {w : World} {base : Nat} {v : Value} {l : List (Int × Int)} (h : SpOwn w base v l) (o : Obj) : SpOwn (w.alloc o) base v l := h.below (below_al w o)
theorem SpOwn.lt {w : World} {base : Nat} {v : Value} {l : List (Int × Int)} (h : SpOwn w base v l) : ∀ b, v.ownBlock = some b → base ≤ b ∧ b < w.heap.size := fun b e => World.ownsRow.lt h b e
theorem cell_new {w : World} {vs : Array Value} {T : TypeId} (j : Nat) (v : Value) (h : vs[j]? = some v) : (w.alloc (.cells vs T)).cell? ⟨w.heap.size, j, none⟩ = some v := by
  rw [World.cell?_alloc_at _ _ _ _ rfl]; exact h
/-- what a function of two sets answers: the rows' faults, or too many -/
def setE (c1 c2 : Int) (l : List (Int × Int)) : Int := if orC c1 c2 = 0 then sizedE l.length else orC c1 c2
def sizedL (l : List (Int × Int)) : List (Int × Int) := if 1000 < l.length then [] else l
def setL (c1 c2 : Int) (l : List (Int × Int)) : List (Int × Int) := if orC c1 c2 = 0 then sizedL l else []
theorem orC_zero {c1 c2 : Int} (h : orC c1 c2 = 0) : c1 = 0 ∧ c2 = 0 := by
  unfold orC at h
  split at h
  · rename_i h1
    exact ⟨h1, h⟩
  · rename_i h1
    exact absurd h h1
theorem SpOwn.sized {w : World} {base : Nat} {v : Value} {l : List (Int × Int)} (h : SpOwn w base v l) : SpOwn w base (sizedV v l.length) (sizedL l) := by
  unfold sizedV sizedL
  split
  · exact SpOwn.nil _ _
  · exact h
set_option maxHeartbeats 4000000 in
set_option maxRecDepth 100000 in
theorem common_any (a1 : Option Addr) (n1 k1 : Nat) (F1 T1 : Nat → Int) (a2 : Option Addr) (n2 k2 : Nat) (F2 T2 : Nat → Int) (w : World) (h1 : Rows2 w a1 n1 F1 T1) (h2 : Rows2 w a2 n2 F2 T2) :
    Calls Tryz.prog 8 #[.slice a1 n1 k1, .slice a2 n2 k2] w fun e w' => (∃ v, e = .returned (.tuple #[v, .int .i64 (setE (chkS F1 T1 n1) (chkS F2 T2 n2) (com (n1 + n2) (spl F1 T1 n1) (spl F2 T2 n2)))]) ∧ SpOwn w' w.heap.size v (setL (chkS F1 T1 n1) (chkS F2 T2 n2) (com (n1 + n2) (spl F1 T1 n1) (spl F2 T2 n2)))) ∧ Below w.heap.size w w' := by
  have D1 := Lib.hid (checkBoth_any a1 n1 k1 F1 T1 a2 n2 k2 F2 T2 w h1 h2)
  have H1 := Lib.hid h1
  have H2 := Lib.hid h2
  have hz1 : chkS F1 T1 n1 = 0 → n1 ≤ 1000 := fun h => (Sp.chkS_zero h).1
  have hz2 : chkS F2 T2 n2 = 0 → n2 ≤ 1000 := fun h => (Sp.chkS_zero h).1
  unfold setE setL
  generalize chkS F1 T1 n1 = c1 at D1 hz1 ⊢
  generalize chkS F2 T2 n2 = c2 at D1 hz2 ⊢
  clear h1 h2
  by_cases g : orC c1 c2 = 0
  case neg =>
    rw [if_neg g, if_neg g]
    obtain ⟨c, hc⟩ : ∃ c, orC c1 c2 = c := ⟨_, rfl⟩
    rw [hc] at D1 g ⊢
    have b1 : (c == 0) = false := by simpa using g
    have b2 : (c != 0) = true := by simpa using g
    clear g hc hz1 hz2
    go_enter Tryz.func8, Tryz.ntmps8
    go_wp2_with fail
    refine D1.out.mono ?_
    rintro e w1 ⟨rfl, hb1⟩
    go_wp2_with fail
    go_ret2
    exact ⟨⟨_, rfl, SpOwn.nil _ _⟩, hb1⟩
  case pos =>
  rw [g] at D1 ⊢
  rw [if_pos rfl, if_pos rfl]
  obtain ⟨g1, g2⟩ := orC_zero g
  have m1 := hz1 g1
  have m2 := hz2 g2
  clear hz1 hz2 g g1 g2
  obtain ⟨TT, hTT⟩ : ∃ TT, com (n1 + n2) (spl F1 T1 n1) (spl F2 T2 n2) = TT := ⟨_, rfl⟩
  rw [hTT]
  have HT := Lib.hid hTT
  clear hTT
  obtain ⟨i0, hi0, hy0, hy1, hy2⟩ := info_parts (show (Tryz.prog.info? 35).map (fun i => (i.zero, i.size, i.bytes)) = some (some (.agg #[.int .i64 0, .int .i64 0]), 2, 16) by kernel_rfl)
  have HI := Lib.hid (And.intro hi0 (And.intro hy0 (And.intro hy1 hy2)))
  clear hi0 hy0 hy1 hy2
  have DS := Lib.hid (fun (a : Option Addr) (n c : Nat) (W : World) => sized_any a n c W)
  go_enter Tryz.func8, Tryz.ntmps8
  go_wp2_with fail
  refine D1.out.mono ?_
  rintro e w1 ⟨rfl, hb1⟩
  have HB1 := Lib.hid hb1
  clear hb1 D1
  go_wp2_with fail
  go_loopw [7, 8, 9] (fun v iv kv wr => ∃ (i k f : Nat) (out : List (Int × Int)), iv = .int .i64 i ∧ kv = .int .i64 k ∧ i ≤ n1 ∧ k ≤ n2 ∧ (n1 - i) + (n2 - k) ≤ f ∧ out.length ≤ i + k ∧ Hid (Below w.heap.size w wr) ∧ Hid (SpOwn wr w.heap.size v out) ∧ Hid (out ++ com f ((spl F1 T1 n1).drop i) ((spl F2 T2 n2).drop k) = TT)) (fun _ iv kv _ => (n1 - (intOf iv).toNat) + (n2 - (intOf kv).toNat))
  case atStart => exact ⟨0, 0, n1 + n2, [], rfl, rfl, by omega, by omega, by omega, by simp, HB1, Lib.hid (SpOwn.nil _ _), HT⟩
  case round =>
    obtain ⟨i, k, f, out, rfl, rfl, hi, hk, hf, hol, HB, HO, HC⟩ := hrel
    have hsz := HB.out.size
    by_cases hlt1 : i < n1
    case neg =>
      have t1 : decide ((i : Int) < (n1 : Int)) = false := by rw [decide_eq_false_iff_not]; omega
      have t1' : decide (i < n1) = false := by simpa using hlt1
      have e : out = TT := by have := HC.out; rwa [Sp.spl_end (show n1 ≤ i by omega), Sp.com_nil1, List.append_nil] at this
      have HE := Lib.hid e
      obtain ⟨ao, co, rfl, _⟩ := HO.out.rows
      clear hlt1 e HC
      go_wp2_with fail
      refine (DS.out _ _ _ _).mono ?_
      rintro e _ ⟨rfl, rfl⟩
      go_wp2_with fail
      go_ret2
      exact ⟨⟨sizedV (.slice ao out.length co) out.length, by rw [← HE.out]; rfl, by rw [← HE.out]; exact HO.out.sized⟩, HB.out⟩
    case pos =>
    have t1 : decide ((i : Int) < (n1 : Int)) = true := by rw [decide_eq_true_eq]; omega
    have t1' : decide (i < n1) = true := by simpa using hlt1
    by_cases hlt2 : k < n2
    case neg =>
      have t2 : decide ((k : Int) < (n2 : Int)) = false := by rw [decide_eq_false_iff_not]; omega
      have t2' : decide (k < n2) = false := by simpa using hlt2
      have e : out = TT := by have := HC.out; rwa [Sp.spl_end (show n2 ≤ k by omega), Sp.com_nil2, List.append_nil] at this
      have HE := Lib.hid e
      obtain ⟨ao, co, rfl, _⟩ := HO.out.rows
      clear hlt2 hlt1 e HC
      go_wp2_with fail
      refine (DS.out _ _ _ _).mono ?_
      rintro e _ ⟨rfl, rfl⟩
      go_wp2_with fail
      go_ret2
      exact ⟨⟨sizedV (.slice ao out.length co) out.length, by rw [← HE.out]; rfl, by rw [← HE.out]; exact HO.out.sized⟩, HB.out⟩
    case pos =>
    have t2 : decide ((k : Int) < (n2 : Int)) = true := by rw [decide_eq_true_eq]; omega
    have t2' : decide (k < n2) = true := by simpa using hlt2
    obtain ⟨b1, o1, rfl, hbl1, hc1⟩ := H1.out.here (by omega)
    obtain ⟨b2, o2, rfl, hbl2, hc2⟩ := H2.out.here (by omega)
    have p0 := below_cell HB.out (hc1 i hlt1).1
    have p1 := below_cell HB.out (hc1 i hlt1).2
    have q0 := below_cell HB.out (hc2 k hlt2).1
    have q1 := below_cell HB.out (hc2 k hlt2).2
    obtain ⟨f, rfl⟩ : ∃ f', f = f' + 1 := ⟨f - 1, by omega⟩
    have hcc := HC.out
    rw [Sp.spl_drop hlt1, Sp.spl_drop hlt2, com, ← Sp.spl_drop hlt1, ← Sp.spl_drop hlt2] at hcc
    simp only at hcc
    have HC2 := Lib.hid hcc
    clear hc1 hc2 HC hcc
    obtain ⟨x1, hx1⟩ : ∃ x, F1 i = x := ⟨_, rfl⟩
    obtain ⟨y1, hy1⟩ : ∃ x, T1 i = x := ⟨_, rfl⟩
    obtain ⟨x2, hx2⟩ : ∃ x, F2 k = x := ⟨_, rfl⟩
    obtain ⟨y2, hy2⟩ : ∃ x, T2 k = x := ⟨_, rfl⟩
    rw [hx1] at p0
    rw [hy1] at p1
    rw [hx2] at q0
    rw [hy2] at q1
    rw [hx1, hy1, hx2, hy2] at HC2
    clear hx1 hy1 hx2 hy2
    have hn1 : (n1 : Int) ≤ 1000 := by omega
    have hn2 : (n2 : Int) ≤ 1000 := by omega
    go_upto_region 7 with fail
    go_cut [10] (fun p wx => p = .pointer (some ⟨wr.heap.size, 0, none⟩) ∧ wx = (wr.alloc (.cells #[.int .i64 (max x1 x2), .int .i64 (min y1 y2)] 35)).drew)
    case first =>
      go_region_held3 (fun w' => w'.cell? ⟨b1, o1 + i * 2, none⟩ = some (.int .i64 x1) ∧ w'.cell? ⟨b1, o1 + i * 2 + 1, none⟩ = some (.int .i64 y1) ∧ w'.cell? ⟨b2, o2 + k * 2, none⟩ = some (.int .i64 x2) ∧ w'.cell? ⟨b2, o2 + k * 2 + 1, none⟩ = some (.int .i64 y2)) (go_keep) (fail)
      all_goals (go_wp2_with fail; go_meet; exact ⟨rfl, rfl⟩)
    case rest =>
    obtain ⟨rfl, rfl⟩ := hcut
    obtain ⟨mx, hmx⟩ : ∃ x, max x1 x2 = x := ⟨_, rfl⟩
    obtain ⟨mn, hmn⟩ : ∃ x, min y1 y2 = x := ⟨_, rfl⟩
    rw [hmx, hmn] at HC2 ⊢
    clear hmx hmn
    obtain ⟨V, hV, hbV, hsV, hcV⟩ := alloc_cells wr #[.int .i64 mx, .int .i64 mn] 35
    rw [hV]
    have hbW : Below wr.heap.size wr V.drew := hbV.drew
    have m0 : V.drew.cell? ⟨wr.heap.size, 0, none⟩ = some (.int .i64 mx) := hcV 0 _ rfl
    have m1' : V.drew.cell? ⟨wr.heap.size, 1, none⟩ = some (.int .i64 mn) := hcV 1 _ rfl
    have p1 := below_cell hbW p1
    have q1 := below_cell hbW q1
    generalize V.drew = W at hbW m0 m1' p1 q1 ⊢
    obtain ⟨qb, hqb⟩ : ∃ q, wr.heap.size = q := ⟨_, rfl⟩
    have HBW := Lib.hid (below_step HB.out hbW)
    have HOW := Lib.hid (HO.out.below hbW)
    rw [hqb] at m0 m1' ⊢
    clear hV hbV hsV hcV hbW p0 q0 HB HO hqb
    have hbx := HBW.out.size
    by_cases e2 : y1 < y2
    case pos =>
      have u2 : decide (y1 < y2) = true := by simpa using e2
      rw [if_pos e2] at HC2
      clear e2
      by_cases e1 : mx ≤ mn
      case pos =>
        have u1 : decide (mx ≤ mn) = true := by simpa using e1
        have hcc := HC2.out
        rw [if_pos e1] at hcc
        clear e1 HC2
        obtain ⟨j1, j2, j3, j4⟩ := HI.out
        have ho := HOW.out
        go_upto_region 10 with (first
          | (at_builtin; go_loud (
             refine wpList_append_own _ rfl _ _ 22 rfl w.heap.size 35 i0 (.agg #[.int .i64 0, .int .i64 0]) 2 16 Tryz.underlying22 j1 j2 j3 j4 rfl (by decide) u7 out.length (out.flatMap spC) rfl (ho.alloc _) ⟨W.heap.size, 0, none⟩ 1 1 [.int .i64 mx, .int .i64 mn] rfl rfl (fun j u hj => by rw [addr_add0]; exact cell_new j u (by simpa using hj)) (fun u hu => by simp only [List.mem_cons, List.not_mem_nil, or_false] at hu; rcases hu with rfl | rfl <;> rfl) (by unfold maxLen; omega) (by omega) (by simp; omega) ?_
             intro v' w3 hown' hgrow _
             have HO3 := Lib.hid (SpOwn.snoc (l := out) (x := (mx, mn)) hown')
             have HG3 := Lib.hid hgrow
             have p1 := below_cell (below_al W (.cells #[.int .i64 mx, .int .i64 mn] 35)) p1
             have q1 := below_cell (below_al W (.cells #[.int .i64 mx, .int .i64 mn] 35)) q1
             have hb3 := (HBW.out.alloc hbx _).grown HG3.out (by simp; omega) (fun b hb => by have := ho.lt b hb; omega)
             have HB3 := Lib.hid hb3
             have hkp : Kept (fun b => u7.ownBlock = some b) (W.alloc (.cells #[.int .i64 mx, .int .i64 mn] 35)) w3 := Kept.of_grown HG3.out (fun g hg _ => hg)
             have p1 := hkp.cell (p := ⟨b1, o1 + i * 2 + 1, none⟩) (fun e => by have := (ho.lt b1 e).1; omega) p1
             have q1 := hkp.cell (p := ⟨b2, o2 + k * 2 + 1, none⟩) (fun e => by have := (ho.lt b2 e).1; omega) q1
             clear hown' hgrow hb3 hkp))
          | fail)
        go_wp2_with fail
        go_quiet (fail)
        go_wp2
        go_roundw
        case rel => exact ⟨i + 1, k, f, out ++ [(mx, mn)], by go_num, rfl, by omega, by omega, by omega, by simp; omega, Lib.hid (below_drewN HB3.out _), Lib.hid (HO3.out.below (below_drewN (Below.refl _ _) _)), Lib.hid (by rw [← hcc, List.append_assoc])⟩
        case measure => simp [intOf]; omega
      case neg =>
        have u1 : decide (mx ≤ mn) = false := by simpa using e1
        have hcc := HC2.out
        rw [if_neg e1, List.nil_append] at hcc
        clear e1 HC2
        go_upto_region 10 with fail
        go_wp2_with fail
        go_quiet (fail)
        go_wp2
        go_roundw
        case rel => exact ⟨i + 1, k, f, out, by go_num, rfl, by omega, by omega, by omega, by omega, Lib.hid (below_drewN HBW.out _), Lib.hid (HOW.out.below (below_drewN (Below.refl _ _) _)), Lib.hid hcc⟩
        case measure => simp [intOf]; omega
    case neg =>
      have u2 : decide (y1 < y2) = false := by simpa using e2
      rw [if_neg e2] at HC2
      clear e2
      by_cases e1 : mx ≤ mn
      case pos =>
        have u1 : decide (mx ≤ mn) = true := by simpa using e1
        have hcc := HC2.out
        rw [if_pos e1] at hcc
        clear e1 HC2
        obtain ⟨j1, j2, j3, j4⟩ := HI.out
        have ho := HOW.out
        go_upto_region 10 with (first
          | (at_builtin; go_loud (
             refine wpList_append_own _ rfl _ _ 22 rfl w.heap.size 35 i0 (.agg #[.int .i64 0, .int .i64 0]) 2 16 Tryz.underlying22 j1 j2 j3 j4 rfl (by decide) u7 out.length (out.flatMap spC) rfl (ho.alloc _) ⟨W.heap.size, 0, none⟩ 1 1 [.int .i64 mx, .int .i64 mn] rfl rfl (fun j u hj => by rw [addr_add0]; exact cell_new j u (by simpa using hj)) (fun u hu => by simp only [List.mem_cons, List.not_mem_nil, or_false] at hu; rcases hu with rfl | rfl <;> rfl) (by unfold maxLen; omega) (by omega) (by simp; omega) ?_
             intro v' w3 hown' hgrow _
             have HO3 := Lib.hid (SpOwn.snoc (l := out) (x := (mx, mn)) hown')
             have HG3 := Lib.hid hgrow
             have p1 := below_cell (below_al W (.cells #[.int .i64 mx, .int .i64 mn] 35)) p1
             have q1 := below_cell (below_al W (.cells #[.int .i64 mx, .int .i64 mn] 35)) q1
             have hb3 := (HBW.out.alloc hbx _).grown HG3.out (by simp; omega) (fun b hb => by have := ho.lt b hb; omega)
             have HB3 := Lib.hid hb3
             have hkp : Kept (fun b => u7.ownBlock = some b) (W.alloc (.cells #[.int .i64 mx, .int .i64 mn] 35)) w3 := Kept.of_grown HG3.out (fun g hg _ => hg)
             have p1 := hkp.cell (p := ⟨b1, o1 + i * 2 + 1, none⟩) (fun e => by have := (ho.lt b1 e).1; omega) p1
             have q1 := hkp.cell (p := ⟨b2, o2 + k * 2 + 1, none⟩) (fun e => by have := (ho.lt b2 e).1; omega) q1
             clear hown' hgrow hb3 hkp))
          | fail)
        go_wp2_with fail
        go_quiet (fail)
        go_wp2
        go_roundw
        case rel => exact ⟨i, k + 1, f, out ++ [(mx, mn)], rfl, by go_num, by omega, by omega, by omega, by simp; omega, Lib.hid (below_drewN HB3.out _), Lib.hid (HO3.out.below (below_drewN (Below.refl _ _) _)), Lib.hid (by rw [← hcc, List.append_assoc])⟩
        case measure => simp [intOf]; omega
      case neg =>
        have u1 : decide (mx ≤ mn) = false := by simpa using e1
        have hcc := HC2.out
        rw [if_neg e1, List.nil_append] at hcc
        clear e1 HC2
        go_upto_region 10 with fail
        go_wp2_with fail
        go_quiet (fail)
        go_wp2
        go_roundw
        case rel => exact ⟨i, k + 1, f, out, rfl, by go_num, by omega, by omega, by omega, by omega, Lib.hid (below_drewN HBW.out _), Lib.hid (HOW.out.below (below_drewN (Below.refl _ _) _)), Lib.hid hcc⟩
        case measure => simp [intOf]; omega
end Go.Proofs.YtaghhndcimjjgaaGreatDoor

/- The reader's row of digits. -/
namespace Go.Proofs.YtaghhndcimjjgaaGreatDoor
open Go.RowKit Go.BigFrame

theorem rowEnd {B : Nat} {s : ByteArray} {p : Nat} {ok : Bool} {most least : Nat} {w wr : World} {n : Int} {k q : Nat} (b : Bool) (hR : IsRd wr B s q ok) (hK : Kp B w wr)
    (hX : Rd.rowAt s most ok p = (n, k, q)) (hb : (ok && decide (least ≤ k)) = b) :
    Ending.returned (.tuple #[.int .i64 n, .int .i64 k]) = .returned (.tuple #[.int .i64 (Rd.rowAt s most ok p).1, .int .i64 ((Rd.rowAt s most ok p).2.1 : Nat)]) ∧
      IsRd (wr.setCell ⟨B + 3, 0, none⟩ (.bool b)) B s (Rd.rowAt s most ok p).2.2 (ok && decide (least ≤ (Rd.rowAt s most ok p).2.1)) ∧ Kp B w (wr.setCell ⟨B + 3, 0, none⟩ (.bool b)) := by
  rw [hX]
  refine ⟨rfl, ?_, hK.setOk _⟩
  show IsRd _ B s q (ok && decide (least ≤ k))
  rw [hb]; exact hR.setOk b
set_option maxHeartbeats 2000000 in
set_option maxRecDepth 100000 in
theorem row_any {B : Nat} {s : ByteArray} {p : Nat} {ok : Bool} (least most : Nat) (w : World) (h : IsRd w B s p ok) (hs : s.size ≤ 9223372036854775807) (hd : most ≤ 17) :
    Calls Tryz.prog 73 #[.int .i64 least, .int .i64 most, pt (B + 4), pt (B + 5), pt (B + 3)] w fun e w' =>
      e = .returned (.tuple #[.int .i64 (Rd.rowAt s most ok p).1, .int .i64 ((Rd.rowAt s most ok p).2.1 : Nat)]) ∧ IsRd w' B s (Rd.rowAt s most ok p).2.2 (ok && decide (least ≤ (Rd.rowAt s most ok p).2.1)) ∧ Kp B w w' := by
  have h' := Lib.hid h
  clear h
  unfold pt
  go_enter Tryz.func73, Tryz.ntmps73
  go_wp2_with fail
  go_loopw [7, 8] (fun n m wr => ∃ (nn : Int) (k q : Nat), n = .int .i64 nn ∧ m = .int .i64 k ∧ k ≤ most ∧ 0 ≤ nn ∧ Hid (nn < 10 ^ k) ∧ Hid (IsRd wr B s q ok) ∧ Hid (Kp B w wr) ∧
      Hid (Rd.rowLoop s most ok (most - k) nn k q = Rd.rowAt s most ok p)) (fun _ m _ => most - (intOf m).toNat)
  case atStart => exact ⟨0, 0, p, rfl, rfl, by omega, by omega, Lib.hid (by decide), h', Lib.hid (Kp.refl _ _), Lib.hid rfl⟩
  case round =>
    obtain ⟨n, k, q, rfl, rfl, hk, hn0, HN, HR, HK, HF⟩ := hrel
    obtain ⟨_, c0, c2, cf2, c3, cf3, cd, ct⟩ := HR.out
    unfold digF pt at cd
    unfold takeF pt at ct
    clear h'
    by_cases hkd : k < most
    case neg =>
      have t1 : decide ((k : Int) < (most : Int)) = false := by rw [decide_eq_false_iff_not]; omega
      have t1' : decide (k < most) = false := by simpa using hkd
      have HX := Lib.hid (HF.out.symm.trans (Rd.rowLoop_stop (by simp [hkd])))
      clear HF
      cases ok
      · go_wp2
        go_ret2
        exact rowEnd false HR.out HK.out HX.out rfl
      · obtain ⟨bl, hbl⟩ : ∃ x, decide (least ≤ k) = x := ⟨_, rfl⟩
        have l1 : decide ((least : Int) ≤ (k : Int)) = bl := by
          rw [← hbl]
          by_cases e : least ≤ k
          · rw [decide_eq_true e, decide_eq_true_eq]; omega
          · rw [decide_eq_false e, decide_eq_false_iff_not]; omega
        cases bl
        all_goals
          go_wp2
          go_ret2
          exact rowEnd _ HR.out HK.out HX.out (by rw [hbl]; rfl)
    case pos =>
      have t1 : decide ((k : Int) < (most : Int)) = true := by rw [decide_eq_true_eq]; omega
      have t1' : decide (k < most) = true := by simpa using hkd
      cases hdg : Rd.digAt s q ok
      case false =>
        have HX := Lib.hid (HF.out.symm.trans (Rd.rowLoop_stop (by simp [hdg])))
        have DG := Lib.hid (digit_any wr HR.out)
        rw [hdg] at DG
        clear HF hdg
        go_wp2_with fail
        refine DG.out.mono ?_
        rintro e w1 ⟨rfl, rfl⟩
        cases ok
        · go_wp2
          go_ret2
          exact rowEnd false HR.out HK.out HX.out rfl
        · obtain ⟨bl, hbl⟩ : ∃ x, decide (least ≤ k) = x := ⟨_, rfl⟩
          have l1 : decide ((least : Int) ≤ (k : Int)) = bl := by
            rw [← hbl]
            by_cases e : least ≤ k
            · rw [decide_eq_true e, decide_eq_true_eq]; omega
            · rw [decide_eq_false e, decide_eq_false_iff_not]; omega
          cases bl
          all_goals
            go_wp2
            go_ret2
            exact rowEnd _ HR.out HK.out HX.out (by rw [hbl]; rfl)
      case true =>
        obtain ⟨hok, hq, hb0, hb1⟩ := Rd.digAt_true hdg
        subst hok
        have DG := Lib.hid (digit_any wr HR.out)
        rw [hdg] at DG
        have HD := Lib.hid hdg
        have DT := Lib.hid (fun (W : World) (h : IsRd W B s q true) => take_any W h hs hq hb0)
        have hn9 : n ≤ 99999999999999999 := by
          have h1 := HN.out
          have h2 : (10 : Int) ^ k ≤ 10 ^ 17 := by exact_mod_cast Nat.pow_le_pow_right (show 0 < 10 by omega) (show k ≤ 17 by omega)
          have h3 : (10 : Int) ^ 17 = 100000000000000000 := by decide
          omega
        obtain ⟨d, hdd⟩ : ∃ d : Int, (Rd.byte s q : Int) - 48 = d := ⟨_, rfl⟩
        have hd0 : 0 ≤ d ∧ d ≤ 9 := by omega
        have HST := Lib.hid (show Rd.rowLoop s most true (most - (k + 1)) (10 * n + d) (k + 1) (q + 1) = Rd.rowAt s most true p by
          rw [← HF.out, show most - k = (most - (k + 1)) + 1 by omega, ← hdd]
          conv => rhs; rw [Rd.rowLoop]
          rw [if_pos ⟨hkd, hdg⟩])
        rw [hdd] at DT
        clear hdg HF hdd hb0 hb1
        go_wp2_with fail
        refine DG.out.mono ?_
        rintro e w1 ⟨rfl, rfl⟩
        go_wp2_with fail
        refine (DT.out _ HR.out).mono ?_
        rintro e w2 ⟨rfl, hR1, hK1⟩
        have HR1 := Lib.hid hR1
        have HK1 := Lib.hid (HK.out.trans hK1)
        clear hR1 hK1
        go_wp2
        go_roundw
        case rel =>
          refine ⟨10 * n + d, k + 1, q + 1, rfl, by go_num, by omega, by omega, Lib.hid ?_, HR1, HK1, HST⟩
          have := HN.out
          rw [Int.pow_succ]; omega
        case measure => simp [intOf]; omega
end Go.Proofs.YtaghhndcimjjgaaGreatDoor

/- The reader's last and begins. -/
namespace Go.Proofs.YtaghhndcimjjgaaGreatDoor
open Go.RowKit Go.BigFrame
open Rd (lastAt begAt exactAt)

theorem begins_rd {B : Nat} {s : ByteArray} {p : Nat} {ok : Bool} (c : Nat) (hc : c < 256) (w : World) (h : IsRd w B s p ok) (hp : p ≤ s.size) :
    Calls Tryz.prog 80 #[.string (Rd.byteT c), pt (B + 3), pt B, pt (B + 2)] w fun e w' => e = .returned (.bool (begAt s c p ok)) ∧ w = w' := by
  obtain ⟨_, c0, c2, _, c3, _, _, _⟩ := h
  unfold pt
  cases ok
  · go_enter Tryz.func80, Tryz.ntmps80
    go_wp2_with fail
    go_ret
    exact ⟨rfl, rfl⟩
  · have hsl : ∀ W : World, (Instr.slice 9 (.string s) (some (.int .i64 (p : Int))) none none).run Tryz.prog W = .ok (.string (s.extract p s.size)) W := fun W => by
      rw [run_slice_string_from_if W _ _ _ _ (by kernel_rfl), if_pos ⟨by omega, by omega⟩]
      rw [show ((p : Int)).toNat = p by omega]
    have DH := Lib.hid (fun W => Tryz.strings_HasPrefix (s.extract p s.size) (Rd.byteT c) W)
    have HV : Hid (Lib.hasPrefix (s.extract p s.size).data.toList (Rd.byteT c).data.toList = begAt s c p true) := Lib.hid (by
      have hx : (s.extract p s.size).data.toList = (Rd.sB s).drop p := by
        have := Rd.extract_list s p s.size
        rw [List.take_of_length_le (by rw [List.length_drop]; exact Nat.le_refl _)] at this
        exact this
      rw [hx]
      unfold begAt
      have hb : (Rd.byteT c).data.toList = [c.toUInt8] := rfl
      rw [hb]
      by_cases hlt : p < s.size
      · have hd : (Rd.sB s).drop p = s[p] :: (Rd.sB s).drop (p + 1) := by
          have hl : p < (Rd.sB s).length := hlt
          rw [List.drop_eq_getElem_cons hl]
          rfl
        rw [hd, Rd.byte_lt hlt]
        have e1 : Lib.hasPrefix (s[p] :: (Rd.sB s).drop (p + 1)) [c.toUInt8] = (s[p] == c.toUInt8) := by
          show (c.toUInt8 == s[p] && true) = _
          rw [Bool.and_true, Bool.eq_iff_iff, beq_iff_eq, beq_iff_eq]
          exact eq_comm
        rw [e1]
        have hcc : c.toUInt8.toNat = c := by simp; omega
        by_cases e : s[p].toNat = c
        · have : s[p] = c.toUInt8 := by rw [← UInt8.toNat_inj, hcc]; exact e
          simp [this, hcc, hlt]
        · have : s[p] ≠ c.toUInt8 := fun x => e (by rw [x, hcc])
          simp [this, e]
      · have hd : (Rd.sB s).drop p = [] := List.drop_eq_nil_of_le (by show s.size ≤ p; omega)
        rw [hd]
        simp [Lib.hasPrefix, hlt])
    rw [HV.out] at DH
    go_enter Tryz.func80, Tryz.ntmps80
    go_wp2_with (go_at_call 81; refine (DH.out _).mono ?_; rintro e _ ⟨rfl, rfl⟩)
    go_ret
    exact ⟨rfl, rfl⟩
set_option maxHeartbeats 4000000 in
set_option maxRecDepth 100000 in
theorem last_any {B : Nat} {s : ByteArray} {p : Nat} {ok : Bool} (ws : List ByteArray) (b off c : Nat) (w : World) (h : IsRd w B s p ok) (hs : s.size ≤ 1000000) (hp : p ≤ s.size)
    (hw : ∀ j, j < ws.length → w.cell? ⟨b, off + j, none⟩ = some (.string (ws.getD j ByteArray.empty))) (hl : ws.length ≤ 10) (hsz : ∀ j, j < ws.length → (ws.getD j ByteArray.empty).size ≤ 100) :
    Calls Tryz.prog 78 #[.slice (some ⟨b, off, none⟩) ws.length c, pt (B + 3), pt B, pt (B + 2)] w fun e w' =>
      e = .returned (.int .i64 (lastAt s ws p ok).1) ∧ IsRd w' B s (lastAt s ws p ok).2.1 (lastAt s ws p ok).2.2 ∧ Kp B w w' := by
  have HH := Lib.hid h
  obtain ⟨_, c0, c2, cf2, c3, cf3, _, _⟩ := h
  unfold pt
  cases ok
  case false =>
    go_enter Tryz.func78, Tryz.ntmps78
    go_wp2_with fail
    go_ret
    exact ⟨rfl, HH.out, Kp.refl _ _⟩
  case true =>
    have hsl : ∀ W : World, (Instr.slice 9 (.string s) (some (.int .i64 (p : Int))) none none).run Tryz.prog W = .ok (.string (s.extract p s.size)) W := fun W => by
      rw [run_slice_string_from_if W _ _ _ _ (by kernel_rfl), if_pos ⟨by omega, by omega⟩]
      rw [show ((p : Int)).toNat = p by omega]
    have hrs : (s.extract p s.size).size = s.size - p := by rw [ByteArray.size_extract]; omega
    have HG : Hid (∀ n (hn : n < (s.extract p s.size).size), ((s.extract p s.size)[n]'hn).toNat = Rd.byte s (p + n)) := Lib.hid (fun n hn => by
      rw [ByteArray.getElem_extract, Rd.byte_lt (by omega)])
    have HL : Hid (lastAt s ws p true = (Lib.idxOfS ws (s.extract p s.size), ws.foldl (fun a w => max a (exactAt s w p true).1) p, decide (0 ≤ Lib.idxOfS ws (s.extract p s.size)))) := Lib.hid rfl
    have DX := Lib.hid (fun W hW => Tryz.slices_Index_string b off ws.length c ws (s.extract p s.size) W (Nat.le_refl _) (by omega) hW)
    rw [List.take_length] at DX
    obtain ⟨r, hr⟩ : ∃ r, s.extract p s.size = r := ⟨_, rfl⟩
    rw [hr] at hsl hrs HG HL DX
    have C0 := Ext.ex c0
    have C2 := Ext.ex c2
    have C3 := Ext.ex c3
    have HW := Lib.hid hw
    have HSZ := Lib.hid hsz
    have HRS := Lib.hid hrs
    clear hr hw hsz cf2 cf3 hrs
    go_enter Tryz.func78, Tryz.ntmps78
    go_wp2_with fail
    go_loopw [7, 19] (fun mv iv wr => ∃ (k mo : Nat) (X : Ext w), mv = .int .i64 mo ∧ iv = .int .i64 k ∧ k ≤ ws.length ∧ mo ≤ 1000000 ∧ wr = X.1 ∧ Hid ((ws.take k).foldl (fun a x => max a (exactAt s x p true).1) p = p + mo)) (fun _ iv _ => ws.length - (intOf iv).toNat)
    case atStart => exact ⟨0, 0, ⟨w, Below.refl _ _⟩, rfl, rfl, by omega, by omega, rfl, Lib.hid (by simp)⟩
    case round =>
      obtain ⟨k, mo, X, rfl, rfl, hk, hmo, rfl, HF⟩ := hrel
      by_cases hlt : k < ws.length
      case neg =>
        have t1 : decide ((k : Int) < (ws.length : Int)) = false := by rw [lt_b]; simpa using hlt
        have t1' : decide (k < ws.length) = false := by simpa using hlt
        have hf := HF.out
        rw [List.take_of_length_le (by omega)] at hf
        have hl2 := HL.out
        rw [hf] at hl2
        have HL2 := Lib.hid hl2
        have DXX := Lib.hid (DX.out X.1 (fun j hj => below_cell X.2 (HW.out j hj)))
        obtain ⟨ix, hix⟩ : ∃ ix, Lib.idxOfS ws r = ix := ⟨_, rfl⟩
        rw [hix] at HL2 DXX
        have HRX := Lib.hid (HH.out.kept X.2)
        obtain ⟨_, y0, y2, yf2, y3, yf3, _, _⟩ := HRX.out
        obtain ⟨bi, hbi⟩ : ∃ x, decide (0 ≤ ix) = x := ⟨_, rfl⟩
        have hbi' : decide (ix ≥ 0) = bi := hbi
        rw [hbi] at HL2
        have HK0 := Lib.hid (Kp.of_below (B := B) X.2)
        clear hix hf hl2 HF hlt C0 C2 C3 c0 c2 c3 hbi
        go_upto_region 13 with (go_at_call 79; refine DXX.out.mono ?_; rintro e _ ⟨rfl, rfl⟩)
        go_wp2_with fail
        go_ret
        refine ⟨by rw [HL2.out]; rfl, ?_, ?_⟩
        · rw [HL2.out]
          exact (HRX.out.setOk bi).setAt (p + mo)
        · exact (HK0.out.setOk _).setAt _
      case pos =>
        have t1 : decide ((k : Int) < (ws.length : Int)) = true := by rw [lt_b]; simpa using hlt
        have t1' : decide (k < ws.length) = true := by simpa using hlt
        have e0 := below_cell X.2 (HW.out k hlt)
        have hxs := HSZ.out k hlt
        have hgk : ws.take (k + 1) = ws.take k ++ [ws.getD k ByteArray.empty] := by
          rw [List.take_add_one, List.getElem?_eq_getElem hlt, List.getD_eq_getElem?_getD, List.getElem?_eq_getElem hlt]
          rfl
        have HNX : Hid ((ws.take (k + 1)).foldl (fun a x => max a (exactAt s x p true).1) p = max (p + mo) (exactAt s (ws.getD k ByteArray.empty) p true).1) := Lib.hid (by rw [hgk, List.foldl_append, HF.out]; rfl)
        obtain ⟨x, hx⟩ : ∃ x, ws.getD k ByteArray.empty = x := ⟨_, rfl⟩
        rw [hx] at e0 hxs HNX
        clear hgk hx HF
        go_upto_region 8 with fail
        go_loopw [10] (fun nv wr => ∃ (n : Nat) (Y : Ext w), nv = .int .i64 n ∧ n ≤ x.size ∧ p + n ≤ s.size ∧ wr = Y.1 ∧ Hid (Rd.exactLoop s x (x.size - n) n (p + n) = exactAt s x p true)) (fun nv _ => x.size - (intOf nv).toNat)
        case atStart => exact ⟨0, X, rfl, by omega, by omega, rfl, Lib.hid (Rd.exactAt_yes s x p).symm⟩
        case round =>
          obtain ⟨n, Y, rfl, hn1, hn2, rfl, HE⟩ := hrel
          have hnr : n ≤ r.size := by have := HRS.out; omega
          by_cases hin : n < x.size ∧ n < r.size
          case neg =>
            have m1 : decide ((n : Int) < min (x.size : Int) (r.size : Int)) = false := by rw [decide_eq_false_iff_not]; omega
            have m2 : decide ((n : Int) < (x.size : Int)) = decide (n < x.size) := lt_b
            have HX : Hid ((exactAt s x p true).1 = p + n) := Lib.hid (by
              rw [← HE.out]
              by_cases hnx : n < x.size
              · rw [show x.size - n = (x.size - n - 1) + 1 by omega, Rd.exactLoop, if_pos hnx, if_neg (fun h => by have := HRS.out; omega)]
              · rw [show x.size - n = 0 by omega]; rfl)
            clear HE
            go_upto_region 8 with fail
            refine wp_region_ext Y (by kernel_rfl) (by kernel_rfl) ?_
            repeat (go_big_quiet_step (fail))
            refine wpQuiet_nil ?_
            intro _ hw'
            obtain ⟨Z, rfl⟩ := hw'
            go_wp2_with fail
            go_roundw
            case rel => exact ⟨k + 1, max mo n, Z, by go_num, by go_num, by omega, by omega, rfl, Lib.hid (by rw [HNX.out, HX.out]; omega)⟩
            case measure => simp [intOf]; omega
          case pos =>
            have m1 : decide ((n : Int) < min (x.size : Int) (r.size : Int)) = true := by rw [decide_eq_true_eq]; omega
            have hxn := hin.1
            have hrn := hin.2
            have hgn := HG.out n hrn
            have HGN := Lib.hid hgn
            by_cases he : x[n].toNat = r[n].toNat
            case neg =>
              have g5 : ((x[n].toNat : Int) == (r[n].toNat : Int)) = false := by rw [eq_b]; simpa using he
              have g7 : decide (x[n].toNat = r[n].toNat) = false := by simpa using he
              have HX : Hid ((exactAt s x p true).1 = p + n) := Lib.hid (by
                rw [← HE.out, show x.size - n = (x.size - n - 1) + 1 by omega, Rd.exactLoop, if_pos hxn, if_neg (fun h => by
                  have h2 := h.2
                  rw [← hgn, Rd.byte_lt hxn] at h2
                  exact he h2.symm)])
              clear HE hgn he
              go_upto_region 8 with fail
              refine wp_region_ext Y (by kernel_rfl) (by kernel_rfl) ?_
              repeat (go_big_quiet_step (fail))
              refine wpQuiet_nil ?_
              intro _ hw'
              obtain ⟨Z, rfl⟩ := hw'
              go_wp2_with fail
              go_roundw
              case rel => exact ⟨k + 1, max mo n, Z, by go_num, by go_num, by omega, by omega, rfl, Lib.hid (by rw [HNX.out, HX.out]; omega)⟩
              case measure => simp [intOf]; omega
            case pos =>
              have g5 : ((x[n].toNat : Int) == (r[n].toNat : Int)) = true := by rw [eq_b]; simpa using he
              have g7 : decide (x[n].toNat = r[n].toNat) = true := by simpa using he
              have HX : Hid (Rd.exactLoop s x (x.size - (n + 1)) (n + 1) (p + (n + 1)) = exactAt s x p true) := Lib.hid (by
                rw [← HE.out, show x.size - n = (x.size - (n + 1)) + 1 by omega]
                conv => rhs; rw [Rd.exactLoop]
                rw [if_pos hxn, if_pos ⟨by have := HRS.out; omega, by rw [← hgn, Rd.byte_lt hxn]; exact he.symm⟩, Nat.add_assoc])
              clear HE hgn he
              go_upto_region 8 with fail
              refine wp_region_ext Y (by kernel_rfl) (by kernel_rfl) ?_
              repeat (go_big_quiet_step (fail))
              refine wpQuiet_nil ?_
              intro _ hw'
              obtain ⟨Z, rfl⟩ := hw'
              go_wp2_with fail
              go_roundw
              case rel => exact ⟨n + 1, Z, by go_num, by omega, by have := HRS.out; omega, rfl, HX⟩
              case measure => simp [intOf]; omega
end Go.Proofs.YtaghhndcimjjgaaGreatDoor

/- Sets: the state of reading spans (program). -/
namespace Go.Proofs.YtaghhndcimjjgaaGreatDoor
open Go.RowKit Go.BigFrame
open Sp (chkS spl mem Norm)
open Rd (numS rd1 rdAll rdStart mostL wrongL nfL readR begAt exactAt minusB commaB)

theorem own_same {W W' : World} {base e k n : Nat} {v : Value} {xs : List Value} (h : W.ownsRow base e k v n xs) (hs : ∀ g, base ≤ g → g < W.heap.size → v.ownBlock = some g → W'.heap[g]? = W.heap[g]?) : W'.ownsRow base e k v n xs := by
  refine ⟨h.1, ?_⟩
  rcases h.2 with hh | ⟨g, cap, cur, hv, hb, hg, r⟩
  · exact Or.inl hh
  · exact Or.inr ⟨g, cap, cur, hv, hb, (hs g hb (lt_of_block hg) (by rw [hv]; rfl)).trans hg, r⟩
theorem IsRd.keep {O : Nat → Prop} {w w' : World} {B : Nat} {s : ByteArray} {p : Nat} {ok : Bool} (h : IsRd w B s p ok) (hk : Kept O w w') (hO : ∀ k, B ≤ k → k < B + 6 → ¬ O k) : IsRd w' B s p ok := by
  have hs := h.size
  have hb : ∀ k, B ≤ k → k < B + 6 → w'.heap[k]? = w.heap[k]? := fun k h1 h2 => hk.block k (by omega) (hO k h1 h2)
  refine ⟨Nat.le_trans hs hk.size, ?_, ?_, ?_, ?_, ?_, ?_, ?_⟩
  · rw [World.cell?_of_block (a := ⟨B, 0, none⟩) (hb B (by omega) (by omega))]; exact h.text
  · rw [World.cell?_of_block (a := ⟨B + 2, 0, none⟩) (hb (B + 2) (by omega) (by omega))]; exact h.place
  · rw [World.frozen?_of_block (a := ⟨B + 2, 0, none⟩) (hb (B + 2) (by omega) (by omega))]; exact h.placeF
  · rw [World.cell?_of_block (a := ⟨B + 3, 0, none⟩) (hb (B + 3) (by omega) (by omega))]; exact h.flag
  · rw [World.frozen?_of_block (a := ⟨B + 3, 0, none⟩) (hb (B + 3) (by omega) (by omega))]; exact h.flagF
  · rw [World.cell?_of_block (a := ⟨B + 4, 7, none⟩) (hb (B + 4) (by omega) (by omega))]; exact h.dig
  · rw [World.cell?_of_block (a := ⟨B + 5, 0, none⟩) (hb (B + 5) (by omega) (by omega))]; exact h.take
theorem Kept.of_kp {B : Nat} {w w' : World} (h : Kp B w w') : Kept (fun k => k = B + 2 ∨ k = B + 3) w w' := ⟨h.os, h.tape, h.output, h.size, fun k hk ho => h.block k hk (fun e => ho (Or.inl e)) (fun e => ho (Or.inr e))⟩
theorem Kept.wide {O O' : Nat → Prop} {w w' : World} (h : Kept O w w') (hO : ∀ k, O k → O' k) : Kept O' w w' := ⟨h.os, h.tape, h.output, h.size, fun k hk ho => h.block k hk (fun e => ho (hO k e))⟩
theorem kept_one {a : World} {b i : Nat} {v : Value} : Kept (fun k => k = b) a (a.setCell ⟨b, i, none⟩ v) := by
  refine ⟨rfl, rfl, rfl, by simp [World.setCell], fun k hk hne => ?_⟩
  simp only [World.setCell]
  rw [Array.getElem?_modify, if_neg (fun e => hne e.symm)]
/-- the state of the reading: reader, the greatest number so far, the row of spans -/
structure RdSt (w3 wr : World) (B qm : Nat) (s : ByteArray) (p : Nat) (ok : Bool) (m : Int) : Prop where
  rd : IsRd wr B s p ok
  kept : Kept (fun k => k = B + 2 ∨ k = B + 3 ∨ k = qm) w3 wr
  most : wr.heap[qm]? = some (.cells #[.int .i64 m] 3 (0, 0))
  hq : B + 6 ≤ qm
section
variable {w3 wr : World} {B qm : Nat} {s : ByteArray} {p : Nat} {ok : Bool} {m : Int}
theorem RdSt.below (h : RdSt w3 wr B qm s p ok m) {w' : World} (hb : Below wr.heap.size wr w') : RdSt w3 w' B qm s p ok m :=
  ⟨h.rd.kept hb, h.kept.trans (Kept.of_below hb), (hb.block qm (lt_of_block h.most)).trans h.most, h.hq⟩
/-- a block of the call's own was written -/
theorem RdSt.own (h : RdSt w3 wr B qm s p ok m) {w' : World} {g : Nat} (hk : Kept (fun k => k = g) wr w') (hg : w3.heap.size ≤ g) (hq : qm < w3.heap.size) : RdSt w3 w' B qm s p ok m := by
  have hqq := h.hq
  exact ⟨h.rd.keep hk (fun k h1 h2 e => by omega), ⟨hk.os.trans h.kept.os, hk.tape.trans h.kept.tape, hk.output.trans h.kept.output, Nat.le_trans h.kept.size hk.size, fun k h1 h2 => (hk.block k (Nat.lt_of_lt_of_le h1 h.kept.size) (by omega)).trans (h.kept.block k h1 h2)⟩, (hk.block qm (lt_of_block h.most) (by omega)).trans h.most, h.hq⟩
theorem RdSt.kp (h : RdSt w3 wr B qm s p ok m) {w' : World} {p' : Nat} {ok' : Bool} (hk : Kp B wr w') (hr : IsRd w' B s p' ok') : RdSt w3 w' B qm s p' ok' m := by
  have hqq := h.hq
  exact ⟨hr, h.kept.trans ((Kept.of_kp hk).wide (fun k e => e.elim Or.inl (fun e => Or.inr (Or.inl e)))), (hk.block qm (lt_of_block h.most) (by omega) (by omega)).trans h.most, h.hq⟩
end
theorem RdSt.grown {w3 wr : World} {B qm : Nat} {s : ByteArray} {p : Nat} {ok : Bool} {m : Int} (h : RdSt w3 wr B qm s p ok m) {w' : World} {row : Option Nat} (hg : wr.grownBy w' row) (hr : ∀ g, row = some g → w3.heap.size ≤ g) (hq : qm < w3.heap.size) : RdSt w3 w' B qm s p ok m := by
  have hqq := h.hq
  have hk : Kept (fun k => row = some k) wr w' := ⟨hg.os, hg.tape, hg.output, hg.size, fun k hk ho => hg.block k hk (fun e => ho e.symm)⟩
  refine ⟨h.rd.keep hk (fun k h1 h2 e => by have := hr k e; omega), ⟨hk.os.trans h.kept.os, hk.tape.trans h.kept.tape, hk.output.trans h.kept.output, Nat.le_trans h.kept.size hk.size, fun k h1 h2 => (hk.block k (Nat.lt_of_lt_of_le h1 h.kept.size) (fun e => by have := hr k e; omega)).trans (h.kept.block k h1 h2)⟩, (hk.block qm (lt_of_block h.most) (fun e => by have := hr qm e; omega)).trans h.most, h.hq⟩
def numF0 (B : Nat) : Value := .func (.func 72) #[] #[pt (B + 4), pt B, pt (B + 2), pt (B + 5), pt (B + 3)]
set_option maxHeartbeats 1000000 in
set_option maxRecDepth 100000 in
theorem numC_any {w3 : World} {B qm qr : Nat} {s : ByteArray} {p : Nat} {ok : Bool} {m : Int} (w : World) (h : RdSt w3 w B qm s p ok m) (hs : s.size ≤ 1000000) (hr : w.cell? ⟨qr, 0, none⟩ = some (numF0 B)) :
    Calls Tryz.prog 42 #[pt qr, pt qm] w fun e w' => e = .returned (.int .i64 (Rd.numAt s 13 0 9999999999999 ok p).1) ∧ RdSt w3 w' B qm s (Rd.numAt s 13 0 9999999999999 ok p).2.2 (Rd.numOk 0 ok (Rd.numAt s 13 0 9999999999999 ok p)) (max m (Rd.numAt s 13 0 9999999999999 ok p).1) ∧ Kept (fun k => k = B + 2 ∨ k = B + 3 ∨ k = qm) w w' := by
  have D := Lib.hid (number_any 13 0 9999999999999 w h.rd (by omega) (by omega))
  have hcalls : ∀ args w, Sem.run Tryz.prog (callFunc 72 args) w = .ok (.enter 72 args) w := fun _ _ => rfl
  have H := Lib.hid h
  generalize Rd.numAt s 13 0 9999999999999 ok p = x at D ⊢
  clear h
  unfold pt numF0 at *
  go_enter Tryz.func42, Tryz.ntmps42
  go_wp2_with fail
  refine D.out.mono ?_
  rintro e w1 ⟨rfl, hrd, hkp⟩
  have H1 := Lib.hid (H.out.kp hkp hrd)
  have HKN := Lib.hid ((Kept.of_kp hkp).wide (O' := fun k => k = B + 2 ∨ k = B + 3 ∨ k = qm) (fun k e => e.elim Or.inl (fun e => Or.inr (Or.inl e))))
  have hb := H1.out.most
  have c0 : w1.cell? ⟨qm, 0, none⟩ = some (.int .i64 m) := by rw [Lib.cell_of_heap hb]; rfl
  have f0 : w1.frozen? ⟨qm, 0, none⟩ = false := Lib.frozen_of_heap hb 0
  clear hb hrd hkp D
  go_wp2_with fail
  go_ret
  refine ⟨rfl, ?_, HKN.out.trans (kept_one.wide (fun k e => Or.inr (Or.inr e)))⟩
  have hqq := H1.out.hq
  refine ⟨H1.out.rd.keep kept_one (fun k h1 h2 e => by omega), H1.out.kept.trans (kept_one.wide (fun k e => Or.inr (Or.inr e))), ?_, hqq⟩
  have hb := H1.out.most
  simp [World.setCell, Array.getElem?_modify, hb]
def exactF0 (B : Nat) : Value := .func (.func 75) #[] #[pt (B + 3), pt (B + 2), pt B]
def begF0 (B : Nat) : Value := .func (.func 80) #[] #[pt (B + 3), pt B, pt (B + 2)]
def plcF0 (B : Nat) : Value := .func (.func 82) #[] #[pt (B + 2), pt (B + 3), pt B]
/-- the reader as it lies -/
theorem reader_cells {w w3 : World} {B qr qm : Nat} (h : ∀ i v, (rdVals B)[i]? = some v → w3.cell? ⟨qr, i, none⟩ = some v) (hr : qr < w3.heap.size) (hB : B + 6 ≤ qr) (hq : qr ≠ qm) (hk : Kept (fun k => k = B + 2 ∨ k = B + 3 ∨ k = qm) w3 w) :
    w.cell? ⟨qr, 0, none⟩ = some (numF0 B) ∧ w.cell? ⟨qr, 3, none⟩ = some (exactF0 B) ∧ w.cell? ⟨qr, 6, none⟩ = some (begF0 B) ∧ w.cell? ⟨qr, 8, none⟩ = some (plcF0 B) := by
  have hb := hk.block qr hr (by omega)
  refine ⟨?_, ?_, ?_, ?_⟩
  · rw [World.cell?_of_block (a := ⟨qr, 0, none⟩) hb]; exact h 0 _ rfl
  · rw [World.cell?_of_block (a := ⟨qr, 3, none⟩) hb]; exact h 3 _ rfl
  · rw [World.cell?_of_block (a := ⟨qr, 6, none⟩) hb]; exact h 6 _ rfl
  · rw [World.cell?_of_block (a := ⟨qr, 8, none⟩) hb]; exact h 8 _ rfl
/-- the state within a round: the span too -/
structure StX (w3 W : World) (B qm : Nat) (s : ByteArray) (p : Nat) (ok : Bool) (m : Int) (v : Value) (l : List (Int × Int)) (x : Nat) (f t : Int) : Prop where
  st : RdSt w3 W B qm s p ok m
  own : SpOwn W w3.heap.size v l
  box : W.heap[x]? = some (.cells #[.int .i64 f, .int .i64 t] 35 (0, 0))
  hx : w3.heap.size ≤ x
  hq : qm < w3.heap.size
  ne : v.ownBlock ≠ some x
section
variable {w3 W : World} {B qm : Nat} {s : ByteArray} {p : Nat} {ok : Bool} {m : Int} {v : Value} {l : List (Int × Int)} {x : Nat} {f t : Int}
theorem StX.cells (h : StX w3 W B qm s p ok m v l x f t) : W.cell? ⟨x, 0, none⟩ = some (.int .i64 f) ∧ W.cell? ⟨x, 1, none⟩ = some (.int .i64 t) ∧ W.frozen? ⟨x, 0, none⟩ = false ∧ W.frozen? ⟨x, 1, none⟩ = false :=
  ⟨by rw [Lib.cell_of_heap h.box]; rfl, by rw [Lib.cell_of_heap h.box]; rfl, Lib.frozen_of_heap h.box 0, Lib.frozen_of_heap h.box 1⟩
theorem StX.new (h : RdSt w3 W B qm s p ok m) (ho : SpOwn W w3.heap.size v l) (hq : qm < w3.heap.size) {V : World} (hb : Below W.heap.size W V) (hV : V.heap[W.heap.size]? = some (.cells #[.int .i64 0, .int .i64 0] 35 (0, 0))) : StX w3 V B qm s p ok m v l W.heap.size 0 0 :=
  ⟨h.below hb, ho.below hb, hV, h.kept.size, hq, fun e => by have := (ho.lt _ e).2; omega⟩
theorem StX.num (h : StX w3 W B qm s p ok m v l x f t) {W' : World} {p' : Nat} {ok' : Bool} {m' : Int} (hk : Kept (fun k => k = B + 2 ∨ k = B + 3 ∨ k = qm) W W') (hs : RdSt w3 W' B qm s p' ok' m') : StX w3 W' B qm s p' ok' m' v l x f t := by
  have hqq := h.st.hq
  have h1 := h.hq
  have h2 := h.hx
  exact ⟨hs, own_same h.own (fun g hg hl _ => hk.block g hl (by omega)), (hk.block x (lt_of_block h.box) (by omega)).trans h.box, h.hx, h.hq, h.ne⟩
theorem StX.kp (h : StX w3 W B qm s p ok m v l x f t) {W' : World} {p' : Nat} {ok' : Bool} (hk : Kp B W W') (hr : IsRd W' B s p' ok') : StX w3 W' B qm s p' ok' m v l x f t :=
  h.num ((Kept.of_kp hk).wide (fun _ e => e.elim Or.inl (fun e => Or.inr (Or.inl e)))) (h.st.kp hk hr)
theorem StX.setF (h : StX w3 W B qm s p ok m v l x f t) (n : Int) : StX w3 (W.setCell ⟨x, 0, none⟩ (.int .i64 n)) B qm s p ok m v l x n t := by
  refine ⟨h.st.own kept_one h.hx h.hq, own_same h.own (fun g hg hl e => kept_one.block g hl (fun e2 => h.ne (by rw [e, e2]))), ?_, h.hx, h.hq, h.ne⟩
  have hb := h.box
  simp [World.setCell, Array.getElem?_modify, hb]
theorem StX.setT (h : StX w3 W B qm s p ok m v l x f t) (n : Int) : StX w3 (W.setCell ⟨x, 1, none⟩ (.int .i64 n)) B qm s p ok m v l x f n := by
  refine ⟨h.st.own kept_one h.hx h.hq, own_same h.own (fun g hg hl e => kept_one.block g hl (fun e2 => h.ne (by rw [e, e2]))), ?_, h.hx, h.hq, h.ne⟩
  have hb := h.box
  simp [World.setCell, Array.getElem?_modify, hb]
end
end Go.Proofs.YtaghhndcimjjgaaGreatDoor

/- A row of a call's own, sorted by the library (tools; for any program). -/
namespace Go.Proofs.YtaghhndcimjjgaaGreatDoor
open Go.RowKit Go.BigFrame

section sorted
open Go.Sort
variable {α : Type} {enc : α → List Value} {k : Nat}
theorem flatE_len (hk : ∀ x, (enc x).length = k) : ∀ l : List α, (l.flatMap enc).length = l.length * k
  | [] => by simp
  | x :: l => by rw [List.flatMap_cons, List.length_append, hk, flatE_len hk l, List.length_cons, Nat.succ_mul]; omega
theorem perm_one {lt : α → α → Bool} (hO : SWO lt) : ∀ (l1 l2 : List α), l1.Perm l2 → l1.Pairwise (fun x y => lt x y = true) → l2.Pairwise (fun x y => lt x y = true) → l1 = l2
  | [], l2, hp, _, _ => by rw [List.nil_perm.1 hp]
  | a :: l1, [], hp, _, _ => by have := hp.length_eq; simp at this
  | a :: l1, b :: l2, hp, h1, h2 => by
    rw [List.pairwise_cons] at h1 h2
    have hab : a = b := by
      rcases List.mem_cons.1 (hp.subset (List.mem_cons_self (a := a) (l := l1))) with e | ha
      · exact e
      · rcases List.mem_cons.1 (hp.symm.subset (List.mem_cons_self (a := b) (l := l2))) with e | hb
        · exact e.symm
        · have := hO.trans _ _ _ (h1.1 b hb) (h2.1 a ha)
          rw [hO.irrefl] at this
          cases this
    subst hab
    rw [perm_one hO l1 l2 (List.Perm.cons_inv hp) h1.2 h2.2]
variable [Inhabited α]
theorem flat_at (hk : ∀ x, (enc x).length = k) : ∀ (l : List α) (i j : Nat), i < l.length → j < k → (l.flatMap enc)[i * k + j]? = (enc (l.getD i default))[j]?
  | [], i, j, h, _ => absurd h (by simp)
  | x :: l, 0, j, _, hj => by
    rw [List.flatMap_cons, Nat.zero_mul, Nat.zero_add, List.getElem?_append_left (by rw [hk]; exact hj)]
    rfl
  | x :: l, i + 1, j, h, hj => by
    rw [List.flatMap_cons, List.getElem?_append_right (by rw [hk, Nat.succ_mul]; omega), hk, show (i + 1) * k + j - k = i * k + j by rw [Nat.succ_mul]; omega]
    rw [flat_at hk l i j (by simpa using h) hj]
    rfl
theorem flatK_list (hk : ∀ x, (enc x).length = k) (l : List α) : (flatK enc k l.toArray).toList = l.flatMap enc := by
  apply List.ext_getElem?
  intro t
  by_cases h : t < l.length * k
  · have k0 : 0 < k := by
      rcases Nat.eq_zero_or_pos k with e | e
      · subst e; simp at h
      · exact e
    have h1 : t / k < l.length := (Nat.div_lt_iff_lt_mul k0).2 h
    have h2 : t % k < k := Nat.mod_lt _ k0
    have e := flat_at hk l (t / k) (t % k) h1 h2
    rw [Nat.mul_comm, Nat.div_add_mod] at e
    have hs : t < (flatK enc k l.toArray).size := by rw [size_flatK]; simpa using h
    rw [e, Array.getElem?_toList, Array.getElem?_eq_getElem hs]
    have g := get_flatK enc k l.toArray t (by simpa using h)
    rw [getElem!_pos _ t hs] at g
    have h3 : t % k < (enc (l.getD (t / k) default)).length := by rw [hk]; exact h2
    rw [List.getElem?_eq_getElem h3, g]
    congr 1
    have e2 : l.toArray[t / k]! = l.getD (t / k) default := by
      rw [getElem!_pos _ _ (by simpa using h1)]
      simp [List.getD_eq_getElem?_getD, List.getElem?_eq_getElem h1]
    rw [e2, getElem!_pos (enc (l.getD (t / k) default)) (t % k) h3]
  · rw [List.getElem?_eq_none (by rw [Array.length_toList, size_flatK]; simpa using h), List.getElem?_eq_none (by rw [flatE_len hk]; omega)]
theorem own_holds (hk : ∀ x, (enc x).length = k) {w : World} {base g n cap : Nat} {e : TypeId} {l : List α} (h : w.ownsRow base e k (.slice (some ⟨g, 0, none⟩) n cap) n (l.flatMap enc)) : HoldsK enc k w g 0 l.toArray := by
  intro j hj
  have hl : l.length * k = n * k := by rw [← flatE_len hk, h.1]
  have hj2 : j < n * k := by rw [← hl]; simpa using hj
  refine ⟨?_, by rw [Nat.zero_add]; exact h.frozenAt j⟩
  rw [Nat.zero_add, h.cellAt j hj2, ← flatK_list hk, Array.getElem?_toList, Array.getElem?_eq_getElem hj]
  show _ = some (flatK enc k l.toArray)[j]!
  rw [getElem!_pos _ j hj]
theorem heap_sortedK {w : World} {g n : Nat} {os : Array Obj} {cur F : Array Value} {e : TypeId} {fr : Nat × Nat} (hb : w.heap[g]? = some (.cells cur e fr)) :
    (grow (putRow id (Sort.ahead w n) g 0 F) os).heap[g]? = some (.cells (putCells id 0 F cur) e fr) := by
  have hg : g < w.heap.size := (Array.getElem?_eq_some_iff.1 hb).1
  rw [heap_grow_old _ _ (by simpa using hg)]
  simp [putRow, mapBlock, Sort.ahead, Array.getElem?_modify, hb, onCells]
theorem take_putCellsK (cur F : Array Value) (h : F.size ≤ cur.size) : (putCells id 0 F cur).toList.take F.size = F.toList := by
  apply List.ext_getElem?
  intro j
  by_cases hj : j < F.size
  · rw [List.getElem?_take_of_lt hj, Array.getElem?_toList]
    simp [putCells, hj, show j < cur.size by omega]
  · rw [List.getElem?_take_eq_none (by omega), List.getElem?_eq_none (by simp; omega)]
theorem own_sorted (hk : ∀ x, (enc x).length = k) {w : World} {base g n cap : Nat} {e : TypeId} {l : List α} {d : Array α} (h : w.ownsRow base e k (.slice (some ⟨g, 0, none⟩) n cap) n (l.flatMap enc)) (hd : d.size = l.length) (m : Nat) (os : Array Obj) :
    (sortWorldK enc k w g 0 m d os).ownsRow base e k (.slice (some ⟨g, 0, none⟩) n cap) n (d.toList.flatMap enc) ∧ w.grownBy (sortWorldK enc k w g 0 m d os) (some g) := by
  have hl : l.length * k = n * k := by rw [← flatE_len hk, h.1]
  have hF : (flatK enc k d).toList = d.toList.flatMap enc := flatK_list hk d.toList
  have hFs : (flatK enc k d).size = n * k := by rw [size_flatK, hd, hl]
  refine ⟨⟨by rw [flatE_len hk, ← hl, ← hd]; simp, ?_⟩, ⟨rfl, rfl, rfl, by simp [sortWorldK, putRowK, size_grow], fun q hq hne => ?_⟩⟩
  · rcases h.2 with ⟨h0, _⟩ | ⟨g', cap', cur, hv, hg, hb, hn, hcap, hcs, _⟩
    · cases h0
    · injection hv with h1 h2 h3
      injection h1 with h1
      injection h1 with h1
      subst h1
      subst h3
      refine Or.inr ⟨g, cap, putCells id 0 (flatK enc k d) cur, rfl, hg, heap_sortedK hb, hn, hcap, by simp [putCells, hcs], ?_⟩
      rw [← hF, ← hFs]
      exact take_putCellsK cur _ (by rw [hFs, hcs]; exact Nat.mul_le_mul_right _ hn)
  · unfold sortWorldK putRowK
    rw [heap_grow_old _ _ (by simpa using hq)]
    have : g ≠ q := fun e => hne (by rw [e])
    simp [putRow, mapBlock, Sort.ahead, Array.getElem?_modify, this]
end sorted
end Go.Proofs.YtaghhndcimjjgaaGreatDoor

/- Sets: spans sorted, joined (program). -/
namespace Go.Proofs.YtaghhndcimjjgaaGreatDoor
open Go.RowKit Go.BigFrame
open Sp (chkS chkL spl mem Norm inB joinStep joinAll)

theorem spC_one : ∀ (x : Int × Int), ∀ v ∈ spC x, v.oneCell' = true := fun x v hv => by
  simp only [spC, List.mem_cons, List.not_mem_nil, or_false] at hv
  rcases hv with rfl | rfl <;> rfl
section
open Go.Sort
def cfS (x y : Int × Int) : Int := Lib.compareInt x.1 y.1
theorem lt_cfS : ltOf cfS = fun x y => decide (x.1 < y.1) := by
  funext x y
  unfold ltOf cfS Lib.compareInt
  by_cases h : x.1 < y.1
  · rw [if_pos h]; simp [h]
  · rw [if_neg h]
    by_cases h2 : x.1 > y.1
    · rw [if_pos h2]; simp [h]
    · rw [if_neg h2]; simp [h]
theorem swo_cfS : SWO (ltOf cfS) := by
  rw [lt_cfS]
  refine ⟨fun x => by simp, fun x y z h1 h2 => ?_, fun x y z h1 h2 => ?_⟩
  · simp only [decide_eq_true_eq] at h1 h2 ⊢
    omega
  · simp only [decide_eq_false_iff_not] at h1 h2 ⊢
    omega
set_option maxHeartbeats 1000000 in
theorem joinC_grow (x y : Int × Int) (w : World) :
    Calls Tryz.prog 49 #[.agg #[.int .i64 x.1, .int .i64 x.2], .agg #[.int .i64 y.1, .int .i64 y.2]] w fun e w' => e = .returned (.int .i64 (cfS x y)) ∧ ∃ q os', w' = grow (w.drewN q) os' := by
  obtain ⟨f, t⟩ := x
  obtain ⟨f', t'⟩ := y
  have D1 := Lib.hid (fun W => Tryz.cmp_Compare_int f f' W)
  show Calls _ _ _ _ fun e w' => e = .returned (.int .i64 (Lib.compareInt f f')) ∧ _
  generalize Lib.compareInt f f' = ci at D1 ⊢
  have HF : Hid (∃ q os', (w.alloc (.cells #[.int .i64 f, .int .i64 t] 35)).alloc (.cells #[.int .i64 f', .int .i64 t'] 35) = grow (w.drewN q) os') := Lib.hid ⟨0, _, by rw [alloc_eq_grow, alloc_eq_grow, grow_grow]; rfl⟩
  go_enter Tryz.func49, Tryz.ntmps49
  go_wp2_with (go_at_call 50; refine (D1.out _).mono ?_; rintro e wn ⟨rfl, rfl⟩)
  go_ret
  exact ⟨rfl, HF.out⟩
theorem joinC_lays (blk off size : Nat) (w : World) : CmpLays Tryz.prog 49 #[] spC 2 cfS blk off size w :=
  fun _ _ _ _ x y => joinC_grow x y _
theorem sortSp_any (l : List (Int × Int)) (a : Option Addr) (cap base : Nat) (w : World) (hown : SpOwn w base (.slice a l.length cap) l) (hl : l.length ≤ 1000000) :
    Calls Tryz.prog 48 #[.slice a l.length cap, .func (.func 49) #[] #[]] w fun e w' =>
      e = .returned (.tuple #[]) ∧ (∃ l', l'.Perm l ∧ l'.Pairwise (fun x y => x.1 ≤ y.1) ∧ SpOwn w' base (.slice a l.length cap) l') ∧ w.grownBy w' (Value.slice a l.length cap).ownBlock := by
  by_cases h0 : l = []
  · subst h0
    have h := AnyF.slices_SortFunc_none Tryz.sortSpan a cap (.func (.func 49) #[] #[]) w
    change Calls Tryz.prog 48 _ w _ at h
    refine h.mono ?_
    rintro e w' ⟨rfl, rfl⟩
    exact ⟨rfl, ⟨[], List.Perm.refl _, List.Pairwise.nil, hown⟩, ⟨rfl, rfl, rfl, Nat.le_refl _, fun _ _ _ => rfl⟩⟩
  · obtain ⟨q, c, he⟩ := own_open hown (List.length_pos_iff.2 h0)
    injection he with e1 e2 e3
    subst e1 e3
    have eg : ∀ args w, (callFunc 49 args).run Tryz.prog w = .ok (.enter 49 args) w := enters_of Tryz.func49 (by kernel_rfl) rfl
    have hq : q < w.heap.size := (hown.lt q rfl).2
    have hcon := AnyQ.slices_SortFunc Tryz.sortSpan 2 Tryz.isAgg35 Tryz.sizeOf35 spC (fun _ => rfl) spC_one cfS swo_cfS 49 #[] q 0 cap l.toArray w eg (joinC_lays q 0 l.toArray.size w) (own_holds (enc := spC) (k := 2) (fun _ => rfl) hown) hq (by simp; omega)
    change Calls Tryz.prog 48 #[.slice (some ⟨q, 0, none⟩) l.length cap, .func (.func 49) #[] #[]] w _ at hcon
    refine hcon.mono ?_
    rintro e w' ⟨rfl, d, m, os, h1, h2, rfl⟩
    have h3 := own_sorted (enc := spC) (k := 2) (fun _ => rfl) hown (d := d) (by rw [h1.1]; simp) m os
    obtain ⟨p1, _, p3⟩ := h1
    have f1 : d.extract 0 l.toArray.size = d := by rw [← p1]; simp
    have f2 : l.toArray.extract 0 l.toArray.size = l.toArray := by simp
    rw [f1, f2] at p3
    have hperm : d.toList.Perm l := p3
    have hlen : d.toList.length = l.length := hperm.length_eq
    refine ⟨rfl, ⟨d.toList, hperm, ?_, ?_⟩, h3.2⟩
    · rw [List.pairwise_iff_getElem]
      intro i j hi hj hij
      have hj' : j < d.size := by simpa using hj
      have hs := h2 i j (Nat.zero_le _) hij (by rw [← p1]; exact hj')
      rw [lt_cfS] at hs
      simp only [decide_eq_false_iff_not] at hs
      rw [getElem!_pos d j hj', getElem!_pos d i (by omega)] at hs
      rw [Array.getElem_toList, Array.getElem_toList]
      omega
    · show World.ownsRow _ _ _ _ _ d.toList.length _
      rw [hlen]
      exact h3.1
end
theorem spl_flat (F T : Nat → Int) (n : Nat) : ∀ i, i < n → ((spl F T n).flatMap spC)[i * 2]? = some (.int .i64 (F i)) ∧ ((spl F T n).flatMap spC)[i * 2 + 1]? = some (.int .i64 (T i)) := fun i hi => flatSp_get _ i _ (Sp.spl_get hi)
set_option maxHeartbeats 2000000 in
set_option maxRecDepth 100000 in
theorem cloneSp_any (a : Option Addr) (len cap : Nat) (F T : Nat → Int) (w : World) (hr : Rows2 w a len F T) (hl : len ≤ 1000000000000) :
    Calls Tryz.prog 47 #[.slice a len cap] w fun e w' => (∃ v, e = .returned v ∧ SpOwn w' w.heap.size v (spl F T len)) ∧ Below w.heap.size w w' := by
  have HU := Lib.hid (show Tryz.prog.underlying 22 = some (.slice 35) by kernel_rfl)
  have hq : ∀ (w : World) (a : Option Addr) (n c n' c' : Nat), (binOp .eql 22 (.slice a n c) (.slice none n' c')).run Tryz.prog w = .ok (.bool a.isNone) w := fun w a n c n' c' => Lib.run_eql_slice_nil w _ _ a n c n' c' HU.out
  have u22 : ∀ w, Sem.run Tryz.prog (underlying 22) w = .ok (TypeDesc.slice 35) w := run_underlying HU.out
  cases a with
  | none =>
    have h0 : len = 0 := by
      rcases Nat.eq_zero_or_pos len with h | h
      · exact h
      · obtain ⟨b, off, h1, _⟩ := hr.here h
        cases h1
    have HH := Lib.hid h0
    clear h0 hr
    go_enter Tryz.func47, Tryz.ntmps47
    go_wp2_with fail
    go_ret
    exact ⟨⟨_, rfl, by rw [HH.out]; exact SpOwn.nil _ _⟩, Below.refl _ _⟩
  | some a =>
    obtain ⟨i0, hi0, hz0, hz1, hz2⟩ := info_parts (show (Tryz.prog.info? 35).map (fun i => (i.zero, i.size, i.bytes)) = some (some (.agg #[.int .i64 0, .int .i64 0]), 2, 16) by kernel_rfl)
    have HI0 := Lib.hid hi0
    have HZ0 := Lib.hid hz0
    have HZ1 := Lib.hid hz1
    have HZ2 := Lib.hid hz2
    have hc : ∀ j u, ((spl F T len).flatMap spC)[j]? = some u → w.cell? (a.add j) = some u := by
      intro j u hj
      have hjl : j < len * 2 := by
        have := (List.getElem?_eq_some_iff.1 hj).1
        rw [flatSp_len, Sp.spl_len] at this
        exact this
      obtain ⟨b, off, h1, _, h2⟩ := hr.here (by omega)
      injection h1 with h1
      subst h1
      rw [show (⟨b, off, none⟩ : Addr).add j = ⟨b, off + j, none⟩ by unfold Addr.add; split <;> simp_all]
      obtain ⟨c0, c1⟩ := spl_flat F T len (j / 2) (by omega)
      obtain ⟨d0, d1⟩ := h2 (j / 2) (by omega)
      rcases (show j = j / 2 * 2 ∨ j = j / 2 * 2 + 1 by omega) with e | e
      · rw [e] at hj ⊢
        rw [c0] at hj
        rw [← Option.some.inj hj]
        exact d0
      · rw [e] at hj ⊢
        rw [c1] at hj
        rw [← Option.some.inj hj]
        exact d1
    have HC := Lib.hid hc
    have HL := Lib.hid (show ((spl F T len).flatMap spC).length = len * 2 by rw [flatSp_len, Sp.spl_len])
    have H1 := Lib.hid (show ∀ u ∈ (spl F T len).flatMap spC, u.oneCell' = true from fun u hu => by
      obtain ⟨x, _, hx⟩ := List.mem_flatMap.1 hu
      exact spC_one x u hx)
    have HLN := Lib.hid (Sp.spl_len F T len)
    clear hi0 hz0 hz1 hz2 hc hr
    go_enter Tryz.func47, Tryz.ntmps47
    go_wp2_with (at_builtin; refine wpList_append_own _ rfl _ _ 22 rfl w.heap.size 35 i0 (.agg #[.int .i64 0, .int .i64 0]) 2 16 HU.out HI0.out HZ0.out HZ1.out HZ2.out rfl (by decide) _ _ _ rfl (World.ownsRow_made w #[] 0 (Nat.le_refl _) (Nat.zero_le _) (by simp)) a len cap ((spl F T len).flatMap spC) rfl ?qc1 ?qc2 ?qc3 ?qc4 ?qc5 ?qc6 ?_)
    case qc1 => exact HL.out
    case qc2 =>
      intro j u hj
      exact Lib.cell?_alloc_some _ (HC.out j u hj)
    case qc3 => exact H1.out
    case qc4 => rw [Nat.zero_add]; unfold maxLen; omega
    case qc5 => rw [Nat.zero_add]; omega
    case qc6 => simp
    intro v' w1 hown hgrow hnil
    go_wp2_with fail
    go_ret
    exact ⟨⟨v', rfl, by unfold SpOwn; rw [HLN.out]; simpa using hown⟩, ((Below.refl _ w).alloc (Nat.le_refl _) _).grown hgrow (by simp) (by intro k hk; simp [Value.ownBlock] at hk; omega)⟩
end Go.Proofs.YtaghhndcimjjgaaGreatDoor

/- Sets: spans in any order, joined (program). -/
namespace Go.Proofs.YtaghhndcimjjgaaGreatDoor
open Go.RowKit Go.BigFrame
open Sp (chkS chkL spl mem Norm inB joinStep joinAll)

theorem set_last (o : List (Int × Int)) (z x : Int × Int) : (o ++ [z]).set o.length x = o ++ [x] := by
  rw [List.set_append_right _ _ (Nat.le_refl _), Nat.sub_self]
  rfl
theorem kept_put {a : World} {b i : Nat} {v : Value} : Kept (fun k => k = b) a (a.setCell ⟨b, i, none⟩ v) := by
  refine ⟨rfl, rfl, rfl, by simp [World.setCell], fun k hk hne => ?_⟩
  simp only [World.setCell]
  rw [Array.getElem?_modify, if_neg (fun e => hne e.symm)]
/-- the end of the last one put anew -/
theorem SpOwn.setLast {w : World} {base g c m : Nat} {o : List (Int × Int)} {z : Int × Int} (t : Int) (hm : o.length = m) (h : SpOwn w base (.slice (some ⟨g, 0, none⟩) (m + 1) c) (o ++ [z])) :
    SpOwn (w.setCell ⟨g, m * 2 + 1, none⟩ (.int .i64 t)) base (.slice (some ⟨g, 0, none⟩) (m + 1) c) (o ++ [(z.1, t)]) ∧ Kept (fun b => b = g) w (w.setCell ⟨g, m * 2 + 1, none⟩ (.int .i64 t)) := by
  subst hm
  unfold SpOwn at h ⊢
  rw [List.length_append] at h ⊢
  have h1 := (World.ownsRow.stored h (o.length * 2 + 1) (.int .i64 t)).1
  rw [flatSp_set1 (o ++ [z]) o.length z t (by rw [List.getElem?_append_right (Nat.le_refl _), Nat.sub_self]; rfl), set_last] at h1
  exact ⟨h1, kept_put⟩
theorem SpOwn.free {w : World} {base g n c : Nat} {l : List (Int × Int)} (h : SpOwn w base (.slice (some ⟨g, 0, none⟩) n c) l) (j : Nat) : w.frozen? ⟨g, j, none⟩ = false := by
  rcases h.2 with ⟨e, _⟩ | ⟨g', cap, cur, e, _, hg, _⟩
  · cases e
  · injection e with e1
    injection e1 with e1
    injection e1 with e1
    subst e1
    exact Lib.frozen_of_heap hg j
set_option maxHeartbeats 8000000 in
set_option maxRecDepth 100000 in
theorem joined_any (a : Option Addr) (len cap : Nat) (F T : Nat → Int) (w : World) (hr : Rows2 w a len F T) (hl : len ≤ 1000000) (hft : ∀ i, i < len → (0 ≤ F i ∧ F i ≤ 10000000000000) ∧ (0 ≤ T i ∧ T i ≤ 10000000000000) ∧ F i ≤ T i) :
    Calls Tryz.prog 28 #[.slice a len cap] w fun e w' => (∃ v u, e = .returned v ∧ SpOwn w' w.heap.size v u ∧ Norm u ∧ (∀ n, mem u n ↔ mem (spl F T len) n) ∧ u.length ≤ len) ∧ Below w.heap.size w w' := by
  have D1 := Lib.hid (cloneSp_any a len cap F T w hr (by omega))
  have hll := Sp.spl_len F T len
  have HF := Lib.hid (fun y (hy : y ∈ spl F T len) => (show (0 ≤ y.1 ∧ y.1 ≤ 10000000000000) ∧ (0 ≤ y.2 ∧ y.2 ≤ 10000000000000) ∧ y.1 ≤ y.2 by
    obtain ⟨i, hi, rfl⟩ := Sp.spl_mem hy
    exact hft i hi))
  generalize spl F T len = l at D1 hll HF ⊢
  subst hll
  clear hr hft
  obtain ⟨i0, hi0, hy0, hy1, hy2⟩ := info_parts (show (Tryz.prog.info? 35).map (fun i => (i.zero, i.size, i.bytes)) = some (some (.agg #[.int .i64 0, .int .i64 0]), 2, 16) by kernel_rfl)
  have HI := Lib.hid (And.intro hi0 (And.intro hy0 (And.intro hy1 hy2)))
  clear hi0 hy0 hy1 hy2
  go_enter Tryz.func28, Tryz.ntmps28
  go_wp2_with fail
  refine D1.out.mono ?_
  rintro e w1 ⟨⟨v0, rfl, ho1⟩, hb1⟩
  obtain ⟨a1, c1, rfl, _⟩ := ho1.rows
  have HB1 := Lib.hid hb1
  have D2 := Lib.hid (sortSp_any l a1 c1 w.heap.size w1 ho1 hl)
  have HO1 := Lib.hid ho1
  clear hb1 D1 ho1
  go_wp2_with fail
  refine D2.out.mono ?_
  rintro e w2 ⟨rfl, ⟨l', hp, hs, ho2⟩, hg2⟩
  have hb2 : Below w.heap.size w w2 := HB1.out.grown hg2 HB1.out.size (fun b hb => (HO1.out.lt b hb).1)
  have hlen : l'.length = l.length := hp.length_eq
  obtain ⟨a2, c2, he, _, hrow, _⟩ := ho2.rows
  injection he with e1 e2 e3
  subst e1
  have HR := Lib.hid hrow
  have HB2 := Lib.hid hb2
  have hJ := Sp.join_all (l := l') (fun x hx => (HF.out x (hp.mem_iff.1 hx)).2.2) hs
  have HJ := Lib.hid (show Norm (joinAll l') ∧ ∀ n, mem (joinAll l') n ↔ mem l n from ⟨hJ.1, fun n => by
    rw [hJ.2 n]
    exact ⟨fun ⟨x, hx, h⟩ => ⟨x, hp.mem_iff.1 hx, h⟩, fun ⟨x, hx, h⟩ => ⟨x, hp.mem_iff.2 hx, h⟩⟩⟩)
  have HF2 := Lib.hid (fun y (hy : y ∈ l') => HF.out y (hp.mem_iff.1 hy))
  rw [← hlen] at hl ⊢
  clear hp hs ho2 hg2 hb2 hJ e2 e3 hrow HF HO1 HB1 D2
  have hsz2 := HB2.out.size
  obtain ⟨n, hn⟩ : ∃ n, l'.length = n := ⟨_, rfl⟩
  rw [hn] at hl HR ⊢
  go_wp2_with fail
  go_loopw [3, 13] (fun v iv wr => ∃ (i : Nat) (out : List (Int × Int)), iv = .int .i64 i ∧ i ≤ n ∧ out.length ≤ i ∧ Hid (Below w2.heap.size w2 wr) ∧ Hid (SpOwn wr w2.heap.size v out) ∧ Hid (out = (l'.take i).foldl joinStep []) ∧ Hid (∀ y, y ∈ out → 0 ≤ y.2 ∧ y.2 ≤ 10000000000000)) (fun _ iv _ => n - (intOf iv).toNat)
  case atStart => exact ⟨0, [], rfl, by omega, by simp, Lib.hid (Below.refl _ _), Lib.hid (SpOwn.nil _ _), Lib.hid rfl, Lib.hid (fun y hy => by cases hy)⟩
  case round =>
    obtain ⟨i, out, rfl, hi, hol, HB, HO, HE, HM⟩ := hrel
    have hsz := HB.out.size
    by_cases hlt : i < n
    case neg =>
      have t1 : decide ((i : Int) < (n : Int)) = false := by rw [decide_eq_false_iff_not]; omega
      have t1' : decide (i < n) = false := by simpa using hlt
      have HX := Lib.hid (show out = joinAll l' by rw [HE.out, List.take_of_length_le (by omega)]; rfl)
      clear hlt HE HM
      go_wp2_with fail
      go_ret
      exact ⟨⟨_, out, rfl, HO.out.weaken hsz2, by rw [HX.out]; exact HJ.out.1, by rw [HX.out]; exact HJ.out.2, by omega⟩, HB2.out.trans (HB.out.mono hsz2)⟩
    case pos =>
    have t1 : decide ((i : Int) < (n : Int)) = true := by rw [decide_eq_true_eq]; omega
    have t1' : decide (i < n) = true := by simpa using hlt
    obtain ⟨b, off, rfl, hbl, hc⟩ := (HR.out.below HB.out (Nat.le_refl _)).here (by omega)
    obtain ⟨p0, p1⟩ := hc i hlt
    have hgl : l'[i]? = some (l'[i]'(by omega)) := List.getElem?_eq_getElem (by omega)
    obtain ⟨x, hx⟩ : ∃ x, l'[i]'(by omega) = x := ⟨_, rfl⟩
    rw [hx] at hgl
    have hF : spF l' i = x.1 := by unfold spF; rw [List.getD_eq_getElem?_getD, hgl]; rfl
    have hT : spT l' i = x.2 := by unfold spT; rw [List.getD_eq_getElem?_getD, hgl]; rfl
    rw [hF] at p0
    rw [hT] at p1
    obtain ⟨⟨f0, f1⟩, ⟨t0, t1x⟩, hfx⟩ := HF2.out x (List.mem_of_getElem? hgl)
    have HE2 := Lib.hid (show (l'.take (i + 1)).foldl joinStep [] = joinStep out x by rw [List.take_add_one, List.foldl_append, ← HE.out, hgl]; rfl)
    clear hc hgl hx hF hT HE
    obtain ⟨f, t⟩ := x
    simp only at p0 p1 f0 f1 t0 t1x hfx
    go_upto_region 7 with fail
    obtain ⟨V, hV, hbV, hsV, hcV⟩ := alloc_cells wr #[.int .i64 f, .int .i64 t] 35
    rw [hV]
    have m0 := hcV 0 _ rfl
    have m1 := hcV 1 _ rfl
    have HBV := Lib.hid (below_step HB.out hbV)
    have HOV := Lib.hid (HO.out.below hbV)
    have hnq := fun g (hg : u3.ownBlock = some g) => (show g ≠ wr.heap.size by have := (HO.out.lt g hg).2; omega)
    obtain ⟨qb, hqb⟩ : ∃ q, wr.heap.size = q := ⟨_, rfl⟩
    rw [hqb] at m0 m1 hnq ⊢
    clear hV hbV hsV hcV p0 p1 HB HO hqb
    rcases Sp.snoc_cases out with rfl | ⟨o, z, rfl⟩
    case inl =>
      obtain ⟨ao, co, rfl, _⟩ := HOV.out.rows
      go_wp2_with fail
      go_quiet (fail)
      have HBW := Lib.hid (below_drewN HBV.out nq)
      have HOW := Lib.hid (HOV.out.below (below_drewN (Below.refl V.heap.size V) nq))
      have m0 := below_cell (below_drewN (Below.refl V.heap.size V) nq) m0
      have m1 := below_cell (below_drewN (Below.refl V.heap.size V) nq) m1
      generalize V.drewN nq = W at HBW HOW m0 m1 ⊢
      have hbx := HBW.out.size
      obtain ⟨j1, j2, j3, j4⟩ := HI.out
      have ho := HOW.out
      go_upto_region 11 with (first
        | (at_builtin; go_loud (
           refine wpList_append_own _ rfl _ _ 22 rfl w2.heap.size 35 i0 (.agg #[.int .i64 0, .int .i64 0]) 2 16 Tryz.underlying22 j1 j2 j3 j4 rfl (by decide) _ ([] : List (Int × Int)).length (([] : List (Int × Int)).flatMap spC) rfl (ho.alloc _) ⟨W.heap.size, 0, none⟩ 1 1 [.int .i64 f, .int .i64 t] rfl rfl (fun j u hj => by rw [addr_add0]; exact cell_new j u (by simpa using hj)) (fun u hu => by simp only [List.mem_cons, List.not_mem_nil, or_false] at hu; rcases hu with rfl | rfl <;> rfl) (by unfold maxLen; omega) (by omega) (by simp; omega) ?_
           intro v' w3 hown' hgrow _
           have HO3 := Lib.hid (SpOwn.snoc (l := ([] : List (Int × Int))) (x := (f, t)) hown')
           have HG3 := Lib.hid hgrow
           have hb3 := (HBW.out.alloc hbx _).grown HG3.out (by simp; omega) (fun b hb => by have := ho.lt b hb; omega)
           have HB3 := Lib.hid hb3
           clear hown' hgrow hb3))
        | fail)
      go_wp2_with fail
      go_roundw
      case rel => exact ⟨i + 1, [(f, t)], by go_num, by omega, by simp, HB3, HO3, Lib.hid HE2.out.symm, Lib.hid (fun y hy => by rw [List.mem_singleton.1 hy]; exact ⟨t0, t1x⟩)⟩
      case measure => simp [intOf]; omega
    case inr =>
      obtain ⟨g, co, he⟩ := own_open HOV.out (by rw [List.length_append]; show 0 < o.length + 1; omega)
      obtain ⟨m, hm⟩ : ∃ m, o.length = m := ⟨_, rfl⟩
      have hlen2 : (o ++ [z]).length = m + 1 := by rw [List.length_append, hm]; rfl
      rw [hlen2] at he hol
      subst he
      have hz := HM.out z (List.mem_append_right _ (List.mem_cons_self ..))
      have hix : ((m + 1 : Nat) : Int) - 1 = (m : Int) := by omega
      have hm0 : (0 : Int) ≤ (m : Int) := by omega
      have s1 : decide ((0 : Int) ≤ (m : Int)) = true := by simp
      have hgz : ((o ++ [z]).flatMap spC)[m * 2 + 1]? = some (.int .i64 z.2) := (flatSp_get (o ++ [z]) m z (by rw [← hm, List.getElem?_append_right (Nat.le_refl _), Nat.sub_self]; rfl)).2
      have cz : V.cell? ⟨g, m * 2 + 1, none⟩ = some (.int .i64 z.2) := by
        have := HOV.out.cells (g := g) rfl (m * 2 + 1) _ hgz
        rwa [addr_add0] at this
      have hgq := hnq g rfl
      have HGZ := Lib.hid hgz
      clear hgz hnq
      rw [Sp.joinStep_snoc] at HE2
      obtain ⟨zf, zt⟩ := z
      simp only at HE2 cz hz
      by_cases hj : f ≤ zt + 1
      case pos =>
        have s2 : decide (f ≤ zt + 1) = true := by simpa using hj
        rw [if_pos hj] at HE2
        clear hj
        go_wp2_with fail
        go_quiet (fail)
        have HBW := Lib.hid (below_drewN HBV.out nq)
        have HOW := Lib.hid (HOV.out.below (below_drewN (Below.refl V.heap.size V) nq))
        have m1 := below_cell (below_drewN (Below.refl V.heap.size V) nq) m1
        have cz := below_cell (below_drewN (Below.refl V.heap.size V) nq) cz
        generalize V.drewN nq = W at HBW HOW m1 cz ⊢
        have hbx := HBW.out.size
        have hm1 : (m : Int) < (m : Int) + 1 := by omega
        have fz : W.frozen? ⟨g, m * 2 + 1, none⟩ = false := HOW.out.free _
        go_upto_region 9 with fail
        go_region
        obtain ⟨hS1, hS2⟩ := HOW.out.setLast (max zt t) hm
        have HS1 := Lib.hid hS1
        have HS2 := Lib.hid (Kept.below (B := w2.heap.size) HBW.out hS2 HBW.out.size (fun k hk e => by have := (HOW.out.lt g rfl).1; omega))
        clear hS1 hS2
        go_wp2_with fail
        go_roundw
        case rel => exact ⟨i + 1, o ++ [(zf, max zt t)], by go_num, by omega, by simp; omega, Lib.hid HS2.out.drew, Lib.hid (HS1.out.below (Below.refl _ _).drew), Lib.hid HE2.out.symm, Lib.hid (fun y hy => by
          rcases List.mem_append.1 hy with hy | hy
          · exact HM.out y (List.mem_append_left _ hy)
          · rw [List.mem_singleton.1 hy]
            show 0 ≤ max zt t ∧ max zt t ≤ _
            omega)⟩
        case measure => simp [intOf]; omega
      case neg =>
        have s2 : decide (f ≤ zt + 1) = false := by simpa using hj
        rw [if_neg hj] at HE2
        clear hj
        go_wp2_with fail
        go_quiet (fail)
        have HBW := Lib.hid (below_drewN HBV.out nq)
        have HOW := Lib.hid (HOV.out.below (below_drewN (Below.refl V.heap.size V) nq))
        have m0 := below_cell (below_drewN (Below.refl V.heap.size V) nq) m0
        have m1 := below_cell (below_drewN (Below.refl V.heap.size V) nq) m1
        generalize V.drewN nq = W at HBW HOW m0 m1 ⊢
        have hbx := HBW.out.size
        have hll : (o ++ [(zf, zt)]).length = m + 1 := hlen2
        obtain ⟨j1, j2, j3, j4⟩ := HI.out
        have ho := HOW.out
        go_upto_region 11 with (first
          | (at_builtin; go_loud (
             refine wpList_append_own _ rfl _ _ 22 rfl w2.heap.size 35 i0 (.agg #[.int .i64 0, .int .i64 0]) 2 16 Tryz.underlying22 j1 j2 j3 j4 rfl (by decide) _ (o ++ [(zf, zt)]).length ((o ++ [(zf, zt)]).flatMap spC) rfl (ho.alloc _) ⟨W.heap.size, 0, none⟩ 1 1 [.int .i64 f, .int .i64 t] rfl rfl (fun j u hj => by rw [addr_add0]; exact cell_new j u (by simpa using hj)) (fun u hu => by simp only [List.mem_cons, List.not_mem_nil, or_false] at hu; rcases hu with rfl | rfl <;> rfl) (by unfold maxLen; omega) (by omega) (by simp; omega) ?_
             intro v' w3 hown' hgrow _
             have HO3 := Lib.hid (SpOwn.snoc (l := (o ++ [(zf, zt)])) (x := (f, t)) hown')
             have HG3 := Lib.hid hgrow
             have hb3 := (HBW.out.alloc hbx _).grown HG3.out (by simp; omega) (fun b hb => by have := ho.lt b hb; omega)
             have HB3 := Lib.hid hb3
             clear hown' hgrow hb3))
          | fail)
        go_wp2_with fail
        go_roundw
        case rel => exact ⟨i + 1, (o ++ [(zf, zt)]) ++ [(f, t)], by go_num, by omega, by simp; omega, HB3, HO3, Lib.hid HE2.out.symm, Lib.hid (fun y hy => by
          rcases List.mem_append.1 hy with hy | hy
          · exact HM.out y hy
          · rw [List.mem_singleton.1 hy]; exact ⟨t0, t1x⟩)⟩
        case measure => simp [intOf]; omega
end Go.Proofs.YtaghhndcimjjgaaGreatDoor
