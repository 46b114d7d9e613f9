/- Zones: Moments of the program. -/
import Derived.Test.YthcddmjgehcgaabJ6
import Derived.Sort.OwnSortedInts
import Derived.Lib.OwnBridge
import Derived.Laws.EntriesVeiled
namespace Go.Proofs.Ythcddmjgehcgaab
open Go.RowKit Go.BigFrame

/-- a slice value reads as a list of integers -/
def IntsAt (w : World) (v : Value) (L : List Int) : Prop :=
  ∃ a c, v = .slice a L.length c ∧ L.length ≤ c ∧ (0 < L.length → ∃ b, a = some ⟨b, 0, none⟩ ∧ b < w.heap.size ∧ ∀ j, j < L.length → w.cell? ⟨b, j, none⟩ = some (.int .i64 (L.getD j 0)))
theorem IntsAt.below {w w' : World} {v : Value} {L : List Int} {B : Nat} (h : IntsAt w v L) (hb : Below B w w') (hB : w.heap.size ≤ B) : IntsAt w' v L := by
  obtain ⟨a, c, rfl, hc, h⟩ := h
  refine ⟨a, c, rfl, hc, fun hl => ?_⟩
  obtain ⟨b, rfl, hlt, hx⟩ := h hl
  exact ⟨b, rfl, Nat.lt_of_lt_of_le hlt hb.size, fun j hj => (hb.cell (p := ⟨b, j, none⟩) (Nat.lt_of_lt_of_le hlt hB)).trans (hx j hj)⟩
theorem IntsAt.nil (w : World) : IntsAt w (.slice none 0 0) [] := ⟨none, 0, rfl, by simp, fun h => by simp at h⟩
theorem IntsAt.of_own {w : World} {base c : Nat} {a : Option Addr} {L : List Int} {e : TypeId} (h : w.ownsRow base e 1 (.slice a L.length c) L.length (L.map (.int .i64))) : IntsAt w (.slice a L.length c) L := by
  rcases h.2 with ⟨h0, h1⟩ | ⟨g, cap, cur, hv, hb, hg, hn, hm, hs, ht⟩
  · injection h0 with _ _ h2
    refine ⟨a, c, rfl, by omega, fun hl => by omega⟩
  · injection hv with h1 _ h3
    subst h1; subst h3
    refine ⟨_, _, rfl, hn, fun hl => ⟨g, rfl, lt_of_block hg, fun j hj => ?_⟩⟩
    rw [h.cellAt j (by omega)]
    simp [List.getD, hj]

def candO (first : Int) (O : Nat → Int) : Nat → Int
  | 0 => first
  | k + 1 => O k
/-- what the first k offsets give, in their order -/
def gathL (first : Int) (F O : Nat → Int) (len : Nat) (day second : Int) : Nat → List Int
  | 0 => []
  | k + 1 => if momGood first F O len day second (candO first O k) = true then gathL first F O len day second k ++ [momOf day second (candO first O k)] else gathL first F O len day second k
theorem gathL_le (first : Int) (F O : Nat → Int) (len : Nat) (day second : Int) (k : Nat) : (gathL first F O len day second k).length ≤ k := by
  induction k with
  | zero => simp [gathL]
  | succ k ih => rw [gathL]; split; simp; omega; omega
def momErr (first : Int) (F O : Nat → Int) (len : Nat) (day second : Int) : Int :=
  if chk first F O len = 0 then (if dayB day = true ∧ 0 ≤ second ∧ second ≤ 86399 then 0 else 9) else chk first F O len
def momList (first : Int) (F O : Nat → Int) (len : Nat) (day second : Int) : List Int :=
  if momErr first F O len day second = 0 then Lib.compact ((gathL first F O len day second (len + 1)).mergeSort fun x y => decide (x ≤ y)) else []
end Go.Proofs.Ythcddmjgehcgaab
