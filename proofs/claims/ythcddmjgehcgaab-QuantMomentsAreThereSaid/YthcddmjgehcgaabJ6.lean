/- Zones: what Moments gathers (the program's closure). -/
import Derived.Test.YthcddmjgehcgaabJ5
import Derived.OneCell
import Derived.OwnWalk
import Derived.Deep.AppendLies
namespace Go.Proofs.Ythcddmjgehcgaab
open Go.RowKit Go.BigFrame

theorem int_info : (Try.prog.info? 3).map (fun i => (i.zero, i.size, i.bytes)) = some (some (.int .i64 0), 1, 8) := by kernel_rfl
/-- a variable of block Ob holds a slice of the call's own, of these integers -/
structure Gath (w : World) (Ob : Nat) (L : List Int) : Prop where
  ex : ∃ v, w.heap[Ob]? = some (.cells #[v] 29 (0, 0)) ∧ w.ownsRow (Ob + 1) 3 1 v L.length (L.map (.int .i64))
/-- the moment of one offset -/
def momOf (day second o : Int) : Int := day * 86400 + second - 60 * o
def momGood (first : Int) (F O : Nat → Int) (len : Nat) (day second o : Int) : Bool := momB (momOf day second o) && (offF first (momOf day second o) F O len == o)

set_option maxHeartbeats 1000000 in
set_option maxRecDepth 100000 in
theorem gather_any (o day second first : Int) (a : Option Addr) (len cap : Nat) (F O : Nat → Int) (D S Z Ob : Nat) (L : List Int) (w : World)
    (o0 : -720 ≤ o) (o1 : o ≤ 840) (d0 : 0 ≤ day) (d1 : day ≤ 999999) (s0 : 0 ≤ second) (s1 : second ≤ 86399) (hl : (len : Int) ≤ 200)
    (cD : w.cell? ⟨D, 0, none⟩ = some (.int .i64 day)) (cS : w.cell? ⟨S, 0, none⟩ = some (.int .i64 second))
    (cZ0 : w.cell? ⟨Z, 0, none⟩ = some (.int .i64 first)) (cZ1 : w.cell? ⟨Z, 1, none⟩ = some (.slice a len cap))
    (hr : Rows2 w a len F O) (hg : Gath w Ob L) (hL : L.length ≤ 1000) :
    Calls Try.prog 15 #[.int .i64 o, .pointer (some ⟨D, 0, none⟩), .pointer (some ⟨S, 0, none⟩), .pointer (some ⟨Z, 0, none⟩), .pointer (some ⟨Ob, 0, none⟩)] w fun e w' =>
      e = .returned (.tuple #[]) ∧ Gath w' Ob (if momGood first F O len day second o = true then L ++ [momOf day second o] else L) ∧ Below Ob w w' := by
  obtain ⟨i0, hi0, hz0, hz1, hz2⟩ := info_parts int_info
  obtain ⟨v, hb, hown⟩ := hg.ex
  have cO := cell_of_one hb
  have fO := free_of_one hb
  have hlt := lt_of_block hb
  have hm := Lib.hid (isMoment_any (momOf day second o))
  have ho := Lib.hid (offset_any first (momOf day second o) a len cap F O w (by omega) hr)
  have HG := Lib.hid hg
  have HB := Lib.hid hb
  have HO := Lib.hid hown
  have em : day * 86400 + second - 60 * o = momOf day second o := rfl
  unfold momGood
  clear hg hb hown
  generalize momOf day second o = M at hm ho em ⊢
  cases h1 : momB M
  · rw [if_neg (by simp)]
    rw [h1] at hm
    clear h1 ho
    go_enter Try.func15, Try.ntmps15
    go_wp2_with fail
    refine (hm.out _).mono ?_
    rintro e w1 ⟨rfl, rfl⟩
    go_wp2_with fail
    go_end0
    exact ⟨rfl, HG.out, Below.refl _ _⟩
  · rw [h1] at hm
    clear h1
    generalize offF first M F O len = N at ho ⊢
    cases h2 : (N == o)
    · rw [if_neg (by simp)]
      go_enter Try.func15, Try.ntmps15
      go_wp2_with fail
      refine (hm.out _).mono ?_
      rintro e w1 ⟨rfl, rfl⟩
      go_wp2_with fail
      refine ho.out.mono ?_
      rintro e w1 ⟨rfl, hb1⟩
      have HB1 := Lib.hid hb1
      have B1 := Lib.hid ((hb1.block Ob hlt).trans HB.out)
      have O1 := Lib.hid (HO.out.kept (w' := w1) (row := none) ⟨hb1.os, hb1.tape, hb1.output, hb1.size, fun k hk _ => hb1.block k hk⟩ (by cases v.ownBlock <;> simp))
      clear hb1
      go_wp2_with fail
      go_end0
      exact ⟨rfl, ⟨_, B1.out, O1.out⟩, HB1.out.mono (by omega)⟩
    · rw [if_pos (by simp)]
      go_enter Try.func15, Try.ntmps15
      go_wp2_with fail
      refine (hm.out _).mono ?_
      rintro e w1 ⟨rfl, rfl⟩
      go_wp2_with fail
      refine ho.out.mono ?_
      rintro e w1 ⟨rfl, hb1⟩
      have HB1 := Lib.hid hb1
      have B1 := (hb1.block Ob hlt).trans HB.out
      have cO1 := cell_of_one B1
      have fO1 := free_of_one B1
      have BB1 := Lib.hid B1
      have hs1 := hb1.size
      have O1 := HO.out.kept (w' := w1) (row := none) ⟨hb1.os, hb1.tape, hb1.output, hb1.size, fun k hk _ => hb1.block k hk⟩ (by cases v.ownBlock <;> simp)
      clear hb1 B1
      go_wp2_with (first
        | (at_builtin; go_loud (
           refine wpList_append_own _ rfl _ _ 29 rfl (Ob + 1) 3 i0 (.int .i64 0) 1 8 Try.underlying29 hi0 hz0 hz1 hz2 rfl (by decide) v L.length (L.map (.int .i64)) rfl (O1.alloc _) ⟨w1.heap.size, 0, none⟩ 1 1 [.int .i64 M] rfl rfl (fun j u hj => by match j, hj with | 0, hj => (simp at hj; subst hj; simp [Addr.add])) (fun u hu => by simp at hu; subst hu; rfl) (by unfold maxLen; omega) (by omega) (by simp; omega) ?_
           intro v' w2 hown' hgrow _
           obtain ⟨g, cap', rfl, hg0, hg1⟩ := hown'.form (Nat.succ_pos _)
           have B2 := (hgrow.block Ob (by simp; omega) (by have := O1.lt; intro he; have h3 := this Ob he.symm; omega)).trans ((Below.heap_alloc w1 _ Ob (by omega)).trans BB1.out)
           have cO2 := cell_of_one B2
           have fO2 := free_of_one B2))
        | fail)
      go_end0
      have hB2 : Below (Ob + 1) w1 w2 := ((Below.refl _ _).alloc (by omega) _).grown hgrow (by simp; omega) (fun k hk => (O1.lt k hk).1)
      refine ⟨rfl, ⟨_, one_setCell B2, ?_⟩, ?_⟩
      · have h3 := ownsRow_setCell_other hown' (a := ⟨Ob, 0, none⟩) (by simp [Value.ownBlock]; omega) (.slice (some ⟨g, 0, none⟩) (L.length + 1) cap')
        simpa using h3
      · have h4 : Below Ob w w2 := (HB1.out.mono (by omega)).trans (hB2.mono (by omega))
        exact h4.setCell (p := ⟨Ob, 0, none⟩) (Nat.le_refl _) _
end Go.Proofs.Ythcddmjgehcgaab
