/- Forms of durations. -/
import Derived.Test.YthcddmjgehcgaaaU
import Derived.Test.YthcddmjgehcgaaaRf
namespace Go.Proofs.Ythcddmjgehcgaaa
open Go.RowKit Go.BigFrame

def FormOk (f : FuncId) (F : ByteArray → Int × Nat × Bool) : Prop := ∀ (B : Nat) (s : ByteArray) (w : World), IsRd w B s 0 true → s.size ≤ 1000 →
  Calls Try.prog f #[.agg (rdVals B)] w fun e w' => e = .returned (.int .i64 (F s).1) ∧ IsRd w' B s (F s).2.1 (F s).2.2 ∧ Kp B w w'
theorem cell_box {w : World} {vs : Array Value} {T : TypeId} (j : Nat) (v : Value) (h : vs[j]? = some v) : (w.alloc (.cells vs T)).cell? ⟨w.heap.size, j, none⟩ = some v := by
  rw [World.cell?_alloc_at _ _ _ _ rfl]; exact h
theorem IsRd.boxed {w : World} {B : Nat} {s : ByteArray} {p : Nat} {ok : Bool} (h : IsRd w B s p ok) (o : Obj) : IsRd (w.alloc o) B s p ok := h.kept ((Below.refl _ _).alloc (Nat.le_refl _) o)

def numF (B : Nat) : Value := .func (.func 96) #[] #[.pointer (some ⟨B + 4, 0, none⟩), .pointer (some ⟨B, 0, none⟩), .pointer (some ⟨B + 2, 0, none⟩), .pointer (some ⟨B + 5, 0, none⟩), .pointer (some ⟨B + 3, 0, none⟩)]
def pairF (B : Nat) : Value := .func (.func 98) #[] #[.pointer (some ⟨B + 4, 0, none⟩), .pointer (some ⟨B, 0, none⟩), .pointer (some ⟨B + 2, 0, none⟩), .pointer (some ⟨B + 3, 0, none⟩), .pointer (some ⟨B + 5, 0, none⟩)]
def exactF (B : Nat) : Value := .func (.func 99) #[] #[.pointer (some ⟨B + 3, 0, none⟩), .pointer (some ⟨B + 2, 0, none⟩), .pointer (some ⟨B, 0, none⟩)]
def oneF (B : Nat) : Value := .func (.func 100) #[] #[.pointer (some ⟨B + 3, 0, none⟩), .pointer (some ⟨B + 2, 0, none⟩), .pointer (some ⟨B, 0, none⟩)]
def digF' (B : Nat) : Value := .func (.func 93) #[] #[.pointer (some ⟨B + 3, 0, none⟩), .pointer (some ⟨B + 2, 0, none⟩), .pointer (some ⟨B, 0, none⟩)]
def placeF (B : Nat) : Value := .func (.func 106) #[] #[.pointer (some ⟨B + 2, 0, none⟩), .pointer (some ⟨B + 3, 0, none⟩), .pointer (some ⟨B, 0, none⟩)]
/-- a variable of type reader, in block C -/
structure IsBox (w : World) (C B : Nat) : Prop where
  num : w.cell? ⟨C, 0, none⟩ = some (numF B)
  pair : w.cell? ⟨C, 2, none⟩ = some (pairF B)
  exact_ : w.cell? ⟨C, 3, none⟩ = some (exactF B)
  one : w.cell? ⟨C, 4, none⟩ = some (oneF B)
  dig : w.cell? ⟨C, 7, none⟩ = some (digF' B)
  place : w.cell? ⟨C, 8, none⟩ = some (placeF B)
theorem isBox_new (w : World) (B : Nat) (T : TypeId) : IsBox (w.alloc (.cells (rdVals B) T)) w.heap.size B :=
  ⟨cell_box 0 _ rfl, cell_box 2 _ rfl, cell_box 3 _ rfl, cell_box 4 _ rfl, cell_box 7 _ rfl, cell_box 8 _ rfl⟩
theorem IsBox.kp {w w' : World} {C B : Nat} (h : IsBox w C B) (hk : Kp B w w') (hC : B + 4 ≤ C) : IsBox w' C B :=
  ⟨IsRd.of_kp hk h.num (by omega) (by omega), IsRd.of_kp hk h.pair (by omega) (by omega), IsRd.of_kp hk h.exact_ (by omega) (by omega), IsRd.of_kp hk h.one (by omega) (by omega), IsRd.of_kp hk h.dig (by omega) (by omega), IsRd.of_kp hk h.place (by omega) (by omega)⟩

set_option maxHeartbeats 1000000 in
set_option maxRecDepth 100000 in
theorem short_form : FormOk 56 Rd.shortF := by
  intro B s w h hs
  have hsz := h.size
  have hR0 := h.boxed (.cells (rdVals B) 83)
  have hK0 := (Kp.refl B w).alloc (.cells (rdVals B) 83)
  have hX := isBox_new w B 83
  have HX := Lib.hid hX
  have k0 := hX.num
  unfold numF at k0
  clear hX
  have hnum := Lib.hid (fun w (h : IsRd w B s 0 true) => number_any 2 0 59 w h (by omega) (by omega))
  generalize hm : Rd.numAt s 2 0 59 true 0 = m at hnum
  have hv : 0 ≤ m.1 ∧ m.1 ≤ 59 := by
    have := Rd.numLoop_val s 2 0 59 true 2 0 0 0 (by omega) (by omega)
    rw [← hm]; unfold Rd.numAt; omega
  have hex := Lib.hid (fun w (h : IsRd w B s m.2.2 (Rd.numOk 0 true m)) => exact_any Rd.colon w h (by omega) (by decide))
  generalize hc : Rd.exactAt s Rd.colon m.2.2 (Rd.numOk 0 true m) = c at hex
  have hpr := Lib.hid (fun w (h : IsRd w B s c.1 c.2) => pair_any 59 w h (by omega))
  have hx := Rd.pairAt_val s (most := 59) c.1 c.2 (by omega)
  generalize hxx : Rd.pairAt s 59 c.1 c.2 = x at hpr hx
  have hF : Rd.shortF s = (60 * m.1 + x.1, x.2.1, x.2.2) := by unfold Rd.shortF; simp only [hm, hc, hxx]
  rw [hF]
  have v0 := hv.1
  have v1 := hv.2
  have x0 := hx.1
  have x1 := hx.2
  clear hF hm hc hxx hv hx
  generalize hn1 : m.1 = mv at *
  generalize hn2 : x.1 = xv at *
  have hK0' := Lib.hid hK0
  have hR0' := Lib.hid hR0
  clear hK0 hR0 h hn1 hn2
  go_enter Try.func56, Try.ntmps56
  go_wp2_with fail
  refine (hnum.out _ hR0'.out).mono ?_
  rintro e w1 ⟨rfl, hR1, hK1⟩
  have HX1 := Lib.hid (HX.out.kp hK1 (by omega))
  have k3 := HX1.out.exact_
  unfold exactF at k3
  have HR1 := Lib.hid hR1
  have HK1 := Lib.hid (hK0'.out.trans hK1)
  clear hR1 hK1 k0 HX
  go_wp2_with fail
  refine (hex.out _ HR1.out).mono ?_
  rintro e w2 ⟨rfl, hR2, hK2⟩
  have HX2 := Lib.hid (HX1.out.kp hK2 (by omega))
  have k2 := HX2.out.pair
  unfold pairF at k2
  have HR2 := Lib.hid hR2
  have HK2 := Lib.hid (HK1.out.trans hK2)
  clear hR2 hK2 k3 HX1
  go_wp2_with fail
  refine (hpr.out _ HR2.out).mono ?_
  rintro e w3 ⟨rfl, hR3, hK3⟩
  have HR3 := Lib.hid hR3
  have HK3 := Lib.hid (HK2.out.trans hK3)
  clear hR3 hK3 k2
  go_wp2
  go_ret
  exact ⟨rfl, HR3.out, HK3.out⟩
end Go.Proofs.Ythcddmjgehcgaaa
