/- Parts: the comparison that it hands to the stable sort; the stable sort of an order of numbers. -/
import Derived.Test.YtbkpoepacjinlaaSy
import Derived.Test.YtbkpoepacjinlaaSp
namespace Go.Proofs.Ytbkpoepacjinlaa
open Go.RowKit Go.BigFrame
open Stb (at' Srt)

/-- a row of the call's own, of n integers -/
def RowF (w : World) (g n : Nat) (f : Nat → Int) : Prop := w.ownsRow g 3 1 (.slice (some ⟨g, 0, none⟩) n n) n ((List.range n).map fun i => .int .i64 (f i))
theorem RowF.cell {w : World} {g n : Nat} {f : Nat → Int} (h : RowF w g n f) {j : Nat} (hj : j < n) : w.cell? ⟨g, j, none⟩ = some (.int .i64 (f j)) := by
  rw [World.ownsRow.cellAt h j (by omega), List.getElem?_map, List.getElem?_range hj]
  rfl
theorem RowF.frozen {w : World} {g n : Nat} {f : Nat → Int} (h : RowF w g n f) (j : Nat) : w.frozen? ⟨g, j, none⟩ = false := World.ownsRow.frozenAt h j
theorem RowF.lt {w : World} {g n : Nat} {f : Nat → Int} (h : RowF w g n f) : g < w.heap.size := (World.ownsRow.lt h g rfl).2
theorem RowF.kept {w w' : World} {g n : Nat} {f : Nat → Int} {row : Option Nat} (h : RowF w g n f) (hg : w.grownBy w' row) (hne : some g ≠ row) : RowF w' g n f := World.ownsRow.kept h hg (Or.inr hne)
theorem RowF.ext {w : World} {g n : Nat} {f f' : Nat → Int} (h : RowF w g n f) (he : ∀ i, i < n → f i = f' i) : RowF w g n f' := by
  unfold RowF at h ⊢
  rwa [List.map_congr_left (fun i hi => by rw [he i (List.mem_range.1 hi)])] at h
theorem RowF.stored {w : World} {g n : Nat} {f : Nat → Int} (h : RowF w g n f) (k : Nat) (x : Int) :
    RowF (w.setCell ⟨g, k, none⟩ (.int .i64 x)) g n (fun i => if i = k then x else f i) ∧ w.grownBy (w.setCell ⟨g, k, none⟩ (.int .i64 x)) (some g) := by
  obtain ⟨h1, h2⟩ := World.ownsRow.stored h k (.int .i64 x)
  refine ⟨?_, h2⟩
  unfold RowF
  have e : ((List.range n).map fun i => Value.int .i64 (f i)).set k (.int .i64 x) = (List.range n).map fun i => Value.int .i64 (if i = k then x else f i) := by
    apply List.ext_getElem
    · simp
    · intro i h3 h4
      simp only [List.getElem_set, List.getElem_map, List.getElem_range]
      by_cases e1 : k = i
      · subst e1; simp
      · rw [if_neg e1, if_neg (fun h => e1 h.symm)]
  rw [← e]
  exact h1
theorem RowF.of_make {w : World} {g n : Nat} (h : w.ownsRow g 3 1 (.slice (some ⟨g, 0, none⟩) n n) n (madeCells (Value.int .i64 0).cells (n * 1)).toList) : RowF w g n (fun _ => 0) := by
  unfold RowF
  have e : (madeCells (Value.int .i64 0).cells (n * 1)).toList = (List.range n).map fun _ => Value.int .i64 0 := by
    rw [Nat.mul_one]
    show (madeCells #[Value.int .i64 0] n).toList = _
    rw [toList_madeCells_one]
    apply List.ext_getElem <;> simp
  rw [← e]
  exact h

theorem grown_drewN' (w : World) (n : Nat) (row : Option Nat) : w.grownBy (w.drewN n) row := ⟨rfl, rfl, rfl, Nat.le_refl _, fun _ _ _ => rfl⟩
/-- the comparison of two numbers of weights -/
theorem cmp_any (x y c g n : Nat) (f : Nat → Int) (w : World) (hx : x < n) (hy : y < n) (hv : w.heap[c]? = some (.cells #[.slice (some ⟨g, 0, none⟩) n n] 131 (0, 0))) (hr : RowF w g n f) :
    Calls Try.prog 158 #[.int .i64 x, .int .i64 y, .pointer (some ⟨c, 0, none⟩)] w fun e w' => e = .returned (.int .i64 (Lib.compareInt (f y) (f x))) ∧ ∃ q, w' = w.drewN q := by
  have cv := cell_of_one hv
  have c1 := hr.cell hx
  have c2 := hr.cell hy
  have HC := Lib.hid (fun q => Try.cmp_Compare_int (f y) (f x) (w.drewN q))
  generalize f x = u at c1 HC
  generalize f y = v at c2 HC
  clear hv hr
  go_enter Try.func158, Try.ntmps158
  go_wp2_with fail
  go_quiet ((go_at_call 105; exact Calls.quiet_of_same (HC.out _)))
  go_wp2_with fail
  go_ret
  exact ⟨rfl, _, rfl⟩

/-- the stable sort of the numbers from 0 on, by what stands in a row -/
theorem sortStable_any (w : World) (g c h n : Nat) (f : Nat → Int) (hn0 : 0 < n) (hn : (n : Int) ≤ 1000000) (hv : w.heap[c]? = some (.cells #[.slice (some ⟨h, 0, none⟩) n n] 131 (0, 0))) (hr : RowF w h n f)
    (ho : RowF w g n (fun i => (i : Int))) (hgc : g ≠ c) (hgh : g ≠ h) :
    Calls Try.prog 157 #[.slice (some ⟨g, 0, none⟩) n n, .func (.func 158) #[] #[.pointer (some ⟨c, 0, none⟩)]] w fun e w' =>
      e = .returned (.tuple #[]) ∧ ∃ l : List Nat, Shr.IsOrd f n l ∧ RowF w' g n (fun i => (l.getD i 0 : Nat)) ∧ w.grownBy w' (some g) := by
  have hlenM : ((List.range n).map (fun (i : Nat) => (i : Int))).length = n := by simp
  have hS : SW w w g g n n ((List.range n).map (fun (i : Nat) => (i : Int))) := ⟨hlenM, by rw [List.map_map]; exact ho, ⟨rfl, rfl, rfl, Nat.le_refl _, fun _ _ _ => rfl⟩⟩
  have hat : ∀ p, p < n → at' ((List.range n).map (fun (i : Nat) => (i : Int))) p = (p : Int) := fun p hp => by
    rw [Stb.at', List.getD_eq_getElem?_getD, List.getElem?_map, List.getElem?_range hp]
    rfl
  have hmem : ∀ x, x ∈ (List.range n).map (fun (i : Nat) => (i : Int)) → ∃ i : Nat, i < n ∧ x = i := fun x hx => by
    obtain ⟨i, hi, rfl⟩ := List.mem_map.1 hx
    exact ⟨i, List.mem_range.1 hi, rfl⟩
  have hcmp : CmpOk (fun x => f x.toNat) w g g n n c ((List.range n).map (fun (i : Nat) => (i : Int))) := by
    intro w' M hSW x y hx hy
    obtain ⟨i, hi, rfl⟩ := hmem x hx
    obtain ⟨j, hj, rfl⟩ := hmem y hy
    have hc : c < w.heap.size := lt_of_block hv
    have hv' := (hSW.grown.block c hc (by simpa using fun e => hgc e.symm)).trans hv
    have hr' := hr.kept hSW.grown (by simpa using fun e => hgh e.symm)
    exact cmp_any i j c h n f w' hi hj hv' hr'
  have HC := Lib.hid (stable_any (fun x => f x.toNat) w w g g n n c _ hS hat hcmp hn0 hn)
  have HM := Lib.hid hmem
  have HL := Lib.hid hlenM
  clear hS hat hcmp hmem hlenM hv hr ho
  go_enter Try.func157, Try.ntmps157
  go_wp2_with fail
  refine HC.out.mono ?_
  rintro e w1 ⟨rfl, M, hS, hP, hO⟩
  have HS := Lib.hid hS
  have HF := Lib.hid (show ∃ l : List Nat, Shr.IsOrd f n l ∧ RowF w1 g n (fun i => (l.getD i 0 : Nat)) from by
    have hl : M.length = n := hS.len
    have hnn : ∀ i (hi : i < M.length), ∃ k : Nat, k < n ∧ M[i] = (k : Int) := fun i hi => HM.out _ (hP.mem_iff.1 (List.getElem_mem hi))
    refine ⟨M.map Int.toNat, ⟨?_, ?_⟩, ?_⟩
    · have := hP.map Int.toNat
      rw [List.map_map] at this
      have e : (Int.toNat ∘ fun (i : Nat) => (i : Int)) = id := by funext i; simp
      rw [e, List.map_id] at this
      exact this
    · rw [List.pairwise_map, List.pairwise_iff_getElem]
      intro i j hi hj hij
      have := hO i j (Nat.zero_le _) hij (by omega)
      rw [Stb.at', Stb.at', List.getD_eq_getElem?_getD, List.getD_eq_getElem?_getD, List.getElem?_eq_getElem hi, List.getElem?_eq_getElem hj] at this
      simp only [Option.getD_some] at this
      obtain ⟨u, _, hu⟩ := hnn i hi
      obtain ⟨v, _, hv⟩ := hnn j hj
      rw [hu, hv] at this ⊢
      unfold Stb.Bf at this
      unfold Shr.Bef
      simp only [Int.toNat_natCast] at this ⊢
      omega
    · have hrow := hS.row
      unfold RowF
      have e : M.map (Value.int .i64) = (List.range n).map fun i => Value.int .i64 (((M.map Int.toNat).getD i 0 : Nat) : Int) := by
        apply List.ext_getElem
        · simp [hl]
        · intro i h1 h2
          simp only [List.length_map] at h1
          obtain ⟨u, _, hu⟩ := hnn i h1
          simp only [List.getElem_map, List.getElem_range, List.getD_eq_getElem?_getD, List.getElem?_map, List.getElem?_eq_getElem h1, Option.map_some, Option.getD_some, hu, Int.toNat_natCast]
      rw [← e]
      exact hrow)
  clear hS hP hO
  go_wp2_with fail
  go_end0
  obtain ⟨l, hl1, hl2⟩ := HF.out
  exact ⟨rfl, l, hl1, hl2, HS.out.grown⟩
end Go.Proofs.Ytbkpoepacjinlaa
