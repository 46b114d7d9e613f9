/- The reader: readerOf and its functions, each by its contract. -/
import Derived.Test.YthcddmjgehcgaaaG
import Derived.Test.YthcddmjgehcgaaaRd
import Derived.WalkSmall
import Derived.Laws.EntriesVeiled
import Derived.Handy
namespace Go.Proofs.Ythcddmjgehcgaaa
open Go.RowKit Go.BigFrame

def pt (b : Nat) : Value := .pointer (some ⟨b, 0, none⟩)
def digF (B : Nat) : Value := .func (.func 93) #[] #[pt (B + 3), pt (B + 2), pt B]
def takeF (B : Nat) : Value := .func (.func 95) #[] #[pt (B + 2), pt B]
def rdVals (B : Nat) : Array Value := #[
  .func (.func 96) #[] #[pt (B + 4), pt B, pt (B + 2), pt (B + 5), pt (B + 3)],
  .func (.func 97) #[] #[pt (B + 4), pt (B + 5), pt (B + 3)],
  .func (.func 98) #[] #[pt (B + 4), pt B, pt (B + 2), pt (B + 3), pt (B + 5)],
  .func (.func 99) #[] #[pt (B + 3), pt (B + 2), pt B],
  .func (.func 100) #[] #[pt (B + 3), pt (B + 2), pt B],
  .func (.func 102) #[] #[pt (B + 3), pt B, pt (B + 2)],
  .func (.func 104) #[] #[pt (B + 3), pt B, pt (B + 2)],
  digF B,
  .func (.func 106) #[] #[pt (B + 2), pt (B + 3), pt B]]
/-- a reader of the text s, at p -/
structure IsRd (w : World) (B : Nat) (s : ByteArray) (p : Nat) (ok : Bool) : Prop where
  size : B + 6 ≤ w.heap.size
  text : w.cell? ⟨B, 0, none⟩ = some (.string s)
  place : w.cell? ⟨B + 2, 0, none⟩ = some (.int .i64 p)
  placeF : w.frozen? ⟨B + 2, 0, none⟩ = false
  flag : w.cell? ⟨B + 3, 0, none⟩ = some (.bool ok)
  flagF : w.frozen? ⟨B + 3, 0, none⟩ = false
  dig : w.cell? ⟨B + 4, 7, none⟩ = some (digF B)
  take : w.cell? ⟨B + 5, 0, none⟩ = some (takeF B)

theorem cell_past {w : World} {o : Obj} {b j : Nat} {v : Value} (h : w.cell? ⟨b, j, none⟩ = some v) : (w.alloc o).cell? ⟨b, j, none⟩ = some v := by
  rw [World.cell?_alloc_past _ _ _ ?_]; exact h
  rcases Nat.lt_or_ge b w.heap.size with h1 | h1
  · exact h1
  · simp [World.cell?, Array.getElem?_eq_none h1] at h
theorem frozen_past {w : World} {o : Obj} {b j : Nat} (hb : b < w.heap.size) (h : w.frozen? ⟨b, j, none⟩ = false) : (w.alloc o).frozen? ⟨b, j, none⟩ = false := by
  rw [World.frozen?_alloc_past _ _ _ hb]; exact h
theorem isRd_new (w : World) (s : ByteArray) (o1 : Obj) (row : Array Value) (T0 T2 T3 T4 T5 : TypeId) (hr : row[7]? = some (digF w.heap.size)) :
    IsRd ((((((w.alloc (.cells #[.string s] T0)).alloc o1).alloc (.cells #[.int .i64 0] T2)).alloc (.cells #[.bool true] T3)).alloc (.cells row T4)).alloc (.cells #[takeF w.heap.size] T5)) w.heap.size s 0 true := by
  refine ⟨by simp, ?_, ?_, ?_, ?_, ?_, ?_, ?_⟩
  · iterate 5 refine cell_past ?_
    rw [World.cell?_alloc_at _ _ _ _ (by simp)]; rfl
  · iterate 3 refine cell_past ?_
    rw [World.cell?_alloc_at _ _ _ _ (by simp)]; rfl
  · iterate 3 refine frozen_past (by simp) ?_
    exact World.frozen?_alloc_at _ _ _ _ (by simp)
  · iterate 2 refine cell_past ?_
    rw [World.cell?_alloc_at _ _ _ _ (by simp)]; rfl
  · iterate 2 refine frozen_past (by simp) ?_
    exact World.frozen?_alloc_at _ _ _ _ (by simp)
  · refine cell_past ?_
    rw [World.cell?_alloc_at _ _ _ _ (by simp)]; exact hr
  · rw [World.cell?_alloc_at _ _ _ _ (by simp)]; rfl
theorem readerOf_any (s : ByteArray) (w : World) :
    Calls Try.prog 77 #[.string s] w fun e w' => e = .returned (.agg (rdVals w.heap.size)) ∧ IsRd w' w.heap.size s 0 true ∧ Below w.heap.size w w' := by
  have hmf : ∀ (fn : Fn) (first cap : Array Value) (w : World), (Instr.makeFunc fn first cap).run Try.prog w = .ok (.func fn first cap) w := fun _ _ _ _ => rfl
  go_enter Try.func77, Try.ntmps77
  go_wp2
  refine bodyPost_ret (v := .agg (rdVals w.heap.size)) (by simp [results, Try.results77, go_sem, rdVals, digF, pt]) rfl ⟨rfl, ?_, ?_⟩
  · exact isRd_new w s _ _ _ _ _ _ _ rfl
  · go_grown

/-! ### how the world moves under a reader -/
theorem cell_set_same {w : World} {b j : Nat} {v : Value} (h : w.cell? ⟨b, j, none⟩ = some v) (u : Value) : (w.setCell ⟨b, j, none⟩ u).cell? ⟨b, j, none⟩ = some u := by
  unfold World.cell? at h ⊢
  simp only [World.setCell, Array.getElem?_modify, if_true]
  cases hb : w.heap[b]? with
  | none => simp [hb] at h
  | some o =>
    cases o with
    | cells c e f =>
      simp [hb] at h ⊢
      obtain ⟨hj, _⟩ := Array.getElem?_eq_some_iff.1 h
      rw [Array.getElem?_setIfInBounds_self_of_lt hj]
    | _ => simp [hb] at h
theorem cell_set_far {w : World} {b j b' j' : Nat} (hne : b' ≠ b) (u : Value) : (w.setCell ⟨b, j, none⟩ u).cell? ⟨b', j', none⟩ = w.cell? ⟨b', j', none⟩ :=
  World.cell?_of_block (w := w) (Below.heap_setCell w ⟨b, j, none⟩ u b' hne)
theorem frozen_set_far {w : World} {b j b' j' : Nat} (hne : b' ≠ b) (u : Value) : (w.setCell ⟨b, j, none⟩ u).frozen? ⟨b', j', none⟩ = w.frozen? ⟨b', j', none⟩ :=
  World.frozen?_of_block (w := w) (Below.heap_setCell w ⟨b, j, none⟩ u b' hne)
theorem frozen_set_same {w : World} {b j : Nat} (h : w.frozen? ⟨b, j, none⟩ = false) (u : Value) : (w.setCell ⟨b, j, none⟩ u).frozen? ⟨b, j, none⟩ = false := by
  unfold World.frozen? at h ⊢
  simp only [World.setCell, Array.getElem?_modify, if_true]
  cases hb : w.heap[b]? with
  | none => simp
  | some o => cases o <;> simp_all
theorem IsRd.setAt {w : World} {B : Nat} {s : ByteArray} {p : Nat} {ok : Bool} (h : IsRd w B s p ok) (q : Nat) : IsRd (w.setCell ⟨B + 2, 0, none⟩ (.int .i64 q)) B s q ok :=
  ⟨by rw [World.size_setCell]; exact h.size, by rw [cell_set_far (by omega)]; exact h.text, cell_set_same h.place _, frozen_set_same h.placeF _, by rw [cell_set_far (by omega)]; exact h.flag, by rw [frozen_set_far (by omega)]; exact h.flagF, by rw [cell_set_far (by omega)]; exact h.dig, by rw [cell_set_far (by omega)]; exact h.take⟩
theorem IsRd.setOk {w : World} {B : Nat} {s : ByteArray} {p : Nat} {ok : Bool} (h : IsRd w B s p ok) (q : Bool) : IsRd (w.setCell ⟨B + 3, 0, none⟩ (.bool q)) B s p q :=
  ⟨by rw [World.size_setCell]; exact h.size, by rw [cell_set_far (by omega)]; exact h.text, by rw [cell_set_far (by omega)]; exact h.place, by rw [frozen_set_far (by omega)]; exact h.placeF, cell_set_same h.flag _, frozen_set_same h.flagF _, by rw [cell_set_far (by omega)]; exact h.dig, by rw [cell_set_far (by omega)]; exact h.take⟩
theorem IsRd.kept {w w' : World} {B : Nat} {s : ByteArray} {p : Nat} {ok : Bool} (h : IsRd w B s p ok) (hb : Below w.heap.size w w') : IsRd w' B s p ok :=
  have hs := h.size
  ⟨Nat.le_trans hs hb.size, (hb.cell (p := ⟨B, 0, none⟩) (by show B < _; omega)).trans h.text, (hb.cell (p := ⟨B + 2, 0, none⟩) (by show B + 2 < _; omega)).trans h.place, (hb.frozen (p := ⟨B + 2, 0, none⟩) (by show B + 2 < _; omega)).trans h.placeF,
   (hb.cell (p := ⟨B + 3, 0, none⟩) (by show B + 3 < _; omega)).trans h.flag, (hb.frozen (p := ⟨B + 3, 0, none⟩) (by show B + 3 < _; omega)).trans h.flagF, (hb.cell (p := ⟨B + 4, 7, none⟩) (by show B + 4 < _; omega)).trans h.dig, (hb.cell (p := ⟨B + 5, 0, none⟩) (by show B + 5 < _; omega)).trans h.take⟩
/-- nothing but the reader's place and flag has turned -/
structure Kp (B : Nat) (w w' : World) : Prop where
  os : w'.os = w.os
  tape : w'.tape = w.tape
  output : w'.output = w.output
  size : w.heap.size ≤ w'.heap.size
  block : ∀ k, k < w.heap.size → k ≠ B + 2 → k ≠ B + 3 → w'.heap[k]? = w.heap[k]?
theorem Kp.refl (B : Nat) (w : World) : Kp B w w := ⟨rfl, rfl, rfl, Nat.le_refl _, fun _ _ _ _ => rfl⟩
theorem Kp.trans {B : Nat} {a b c : World} (h : Kp B a b) (k : Kp B b c) : Kp B a c :=
  ⟨k.os.trans h.os, k.tape.trans h.tape, k.output.trans h.output, Nat.le_trans h.size k.size, fun i h1 h2 h3 => (k.block i (Nat.lt_of_lt_of_le h1 h.size) h2 h3).trans (h.block i h1 h2 h3)⟩
theorem Kp.of_below {B : Nat} {w w' : World} (h : Below w.heap.size w w') : Kp B w w' := ⟨h.os, h.tape, h.output, h.size, fun k hk _ _ => h.block k hk⟩
theorem Kp.setAt {B : Nat} {a w : World} (h : Kp B a w) (v : Value) : Kp B a (w.setCell ⟨B + 2, 0, none⟩ v) :=
  h.trans ⟨rfl, rfl, rfl, by rw [World.size_setCell]; exact Nat.le_refl _, fun k _ h2 _ => Below.heap_setCell _ _ _ _ h2⟩
theorem Kp.setOk {B : Nat} {a w : World} (h : Kp B a w) (v : Value) : Kp B a (w.setCell ⟨B + 3, 0, none⟩ v) :=
  h.trans ⟨rfl, rfl, rfl, by rw [World.size_setCell]; exact Nat.le_refl _, fun k _ _ h3 => Below.heap_setCell _ _ _ _ h3⟩
theorem Kp.drewN {B : Nat} {a w : World} (h : Kp B a w) (n : Nat) : Kp B a (w.drewN n) := h.trans ⟨rfl, rfl, rfl, Nat.le_refl _, fun _ _ _ _ => rfl⟩
theorem Kp.alloc {B : Nat} {a w : World} (h : Kp B a w) (o : Obj) : Kp B a (w.alloc o) := h.trans (Kp.of_below ((Below.refl _ _).alloc (Nat.le_refl _) o))
theorem Kp.below {B C : Nat} {w w' : World} (h : Kp B w w') (hB : C ≤ B) (hs : C ≤ w.heap.size) : Below C w w' := ⟨h.os, h.tape, h.output, h.size, fun k hk => h.block k (by omega) (by omega) (by omega)⟩

/-! ### the functions -/
theorem isDigit_any (c : Nat) (w : World) : Calls Try.prog 94 #[.int .u8 c] w fun e w' => e = .returned (.bool (Rd.isD c)) ∧ w = w' := by
  by_cases h : 48 ≤ c
  · have h1 : decide ((48 : Int) ≤ (c : Int)) = true := by rw [decide_eq_true_eq]; omega
    by_cases h2 : c ≤ 57
    · have h3 : decide ((c : Int) ≤ 57) = true := by rw [decide_eq_true_eq]; omega
      go_enter Try.func94, Try.ntmps94
      go_wp2
      go_ret
      exact ⟨ret_bool (by simp [Rd.isD, h, h2]), rfl⟩
    · have h3 : decide ((c : Int) ≤ 57) = false := by rw [decide_eq_false_iff_not]; omega
      go_enter Try.func94, Try.ntmps94
      go_wp2
      go_ret
      exact ⟨ret_bool (by simp [Rd.isD, h2]), rfl⟩
  · have h1 : decide ((48 : Int) ≤ (c : Int)) = false := by rw [decide_eq_false_iff_not]; omega
    go_enter Try.func94, Try.ntmps94
    go_wp2
    go_ret
    exact ⟨ret_bool (by simp [Rd.isD, h]), rfl⟩

theorem digit_any {B : Nat} {s : ByteArray} {p : Nat} {ok : Bool} (w : World) (h : IsRd w B s p ok) :
    Calls Try.prog 93 #[pt (B + 3), pt (B + 2), pt B] w fun e w' => e = .returned (.bool (Rd.digAt s p ok)) ∧ w = w' := by
  obtain ⟨_, c0, c2, _, c3, _, _, _⟩ := h
  unfold pt
  cases ok
  · go_enter Try.func93, Try.ntmps93
    go_wp2
    go_ret
    exact ⟨ret_bool (by simp [Rd.digAt]), rfl⟩
  · by_cases hp : p < s.size
    · have h1 : decide ((p : Int) < (s.size : Int)) = true := by rw [decide_eq_true_eq]; omega
      have hd := Lib.hid (isDigit_any (s[p].toNat))
      go_enter Try.func93, Try.ntmps93
      go_wp2_with fail
      refine (hd.out _).mono ?_
      rintro e w1 ⟨rfl, rfl⟩
      go_wp2
      go_ret
      exact ⟨ret_bool (by simp [Rd.digAt, hp, Rd.byte_lt hp]), rfl⟩
    · have h1 : decide ((p : Int) < (s.size : Int)) = false := by rw [decide_eq_false_iff_not]; omega
      have h2 : decide (p < s.size) = false := by simpa using hp
      go_enter Try.func93, Try.ntmps93
      go_wp2
      go_ret
      exact ⟨ret_bool (by simp [Rd.digAt, hp]), rfl⟩
theorem take_any {B : Nat} {s : ByteArray} {p : Nat} {ok : Bool} (w : World) (h : IsRd w B s p ok) (hs : s.size ≤ 9223372036854775807) (hp : p < s.size) (hd : 48 ≤ Rd.byte s p) :
    Calls Try.prog 95 #[pt (B + 2), pt B] w fun e w' => e = .returned (.int .i64 ((Rd.byte s p : Int) - 48)) ∧ IsRd w' B s (p + 1) ok ∧ Kp B w w' := by
  have h' := h
  obtain ⟨_, c0, c2, cf, _, _, _, _⟩ := h
  have hb := Rd.byte_lt hp
  have hle := Rd.byte_le s p
  rw [hb] at hd hle
  unfold pt
  go_enter Try.func95, Try.ntmps95
  go_wp2
  go_ret
  exact ⟨ret_int (by rw [hb]), h'.setAt (p + 1), (Kp.refl _ _).setAt _⟩
end Go.Proofs.Ythcddmjgehcgaaa
