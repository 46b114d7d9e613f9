/- Zones: Moments: plain laws of lists: what is gathered, sorted, told once; and the insertion sort of the reference. -/
import Derived.Test.YthcddmjgehcgaabJ8
import Derived.Lib.SlicesCompact
import Derived.Maps.AppendAt
namespace Go.Proofs.Ythcddmjgehcgaab
open Go.RowKit Go.BigFrame

theorem strict_ext : ∀ {a b : List Int}, a.Pairwise (· < ·) → b.Pairwise (· < ·) → (∀ x, x ∈ a ↔ x ∈ b) → a = b
  | [], [], _, _, _ => rfl
  | [], y :: b, _, _, h => absurd ((h y).2 (by simp)) (by simp)
  | x :: a, [], _, _, h => absurd ((h x).1 (by simp)) (by simp)
  | x :: a, y :: b, ha, hb, h => by
    rw [List.pairwise_cons] at ha hb
    have hxy : x = y := by
      rcases List.mem_cons.1 ((h x).1 (by simp)) with h1 | h1
      · exact h1
      · rcases List.mem_cons.1 ((h y).2 (by simp)) with h2 | h2
        · exact h2.symm
        · have := hb.1 x h1; have := ha.1 y h2; omega
    subst hxy
    have ht : a = b := strict_ext ha.2 hb.2 fun z => by
      constructor
      · intro hz
        rcases List.mem_cons.1 ((h z).1 (List.mem_cons_of_mem _ hz)) with h1 | h1
        · have := ha.1 z hz; omega
        · exact h1
      · intro hz
        rcases List.mem_cons.1 ((h z).2 (List.mem_cons_of_mem _ hz)) with h1 | h1
        · have := hb.1 z hz; omega
        · exact h1
    rw [ht]
theorem get_sorted {zs : List Int} (h : zs.Pairwise (· ≤ ·)) {i j : Nat} (hij : i ≤ j) (hj : j < zs.length) : zs.toArray[i]! ≤ zs.toArray[j]! := by
  simp only [List.getElem!_toArray]
  rw [getElem!_pos zs i (by omega), getElem!_pos zs j hj]
  rcases Nat.eq_or_lt_of_le hij with rfl | hlt
  · exact Int.le_refl _
  · exact List.pairwise_iff_getElem.1 h i j (by omega) hj hlt
theorem compact_strict {zs : List Int} (h : zs.Pairwise (· ≤ ·)) : (Lib.compact zs).Pairwise (· < ·) := by
  unfold Lib.compact Lib.compactUpTo
  rw [List.pairwise_map]
  have hp : ((List.range zs.length).filter (Lib.keeps zs.toArray)).Pairwise (· < ·) := (List.pairwise_lt_range (n := zs.length)).filter _
  refine List.Pairwise.imp_of_mem ?_ hp
  intro i j hi hj hij
  rw [List.mem_filter, List.mem_range] at hi hj
  have hk := hj.2
  unfold Lib.keeps at hk
  rw [decide_eq_true_eq] at hk
  rcases hk with h0 | h0
  · omega
  · have h1 := get_sorted h (i := i) (j := j - 1) (by omega) (by omega)
    have h2 := get_sorted h (i := j - 1) (j := j) (by omega) hj.1
    omega
theorem mem_compact {zs : List Int} {x : Int} : x ∈ Lib.compact zs ↔ x ∈ zs := by
  unfold Lib.compact Lib.compactUpTo
  rw [List.mem_map]
  constructor
  · rintro ⟨i, hi, rfl⟩
    rw [List.mem_filter, List.mem_range] at hi
    simp only [List.getElem!_toArray]
    rw [getElem!_pos zs i hi.1]
    exact List.getElem_mem _
  · intro hx
    obtain ⟨i, hi, rfl⟩ := List.getElem_of_mem hx
    have key : ∀ n i, i ≤ n → (hi : i < zs.length) → ∃ a, a ∈ (List.range zs.length).filter (Lib.keeps zs.toArray) ∧ zs.toArray[a]! = zs[i] := by
      intro n
      induction n with
      | zero =>
        intro i h0 hi
        refine ⟨i, ?_, ?_⟩
        · rw [List.mem_filter, List.mem_range]; exact ⟨hi, by simp [Lib.keeps]; omega⟩
        · simp only [List.getElem!_toArray]; rw [getElem!_pos zs i hi]
      | succ n ih =>
        intro i h0 hi
        by_cases hk : Lib.keeps zs.toArray i = true
        · refine ⟨i, ?_, ?_⟩
          · rw [List.mem_filter, List.mem_range]; exact ⟨hi, hk⟩
          · simp only [List.getElem!_toArray]; rw [getElem!_pos zs i hi]
        · unfold Lib.keeps at hk
          rw [decide_eq_true_eq] at hk
          have h1 : i ≠ 0 := fun h => hk (Or.inl h)
          have h2 : zs.toArray[i]! = zs.toArray[i - 1]! := Classical.byContradiction fun h => hk (Or.inr h)
          obtain ⟨a, ha, hb⟩ := ih (i - 1) (by omega) (by omega)
          refine ⟨a, ha, ?_⟩
          rw [hb]
          simp only [List.getElem!_toArray] at h2
          rw [getElem!_pos zs i hi, getElem!_pos zs (i - 1) (by omega)] at h2
          exact h2.symm
    exact key i i (Nat.le_refl _) hi
theorem sort_pairwise (L : List Int) : (L.mergeSort fun x y => decide (x ≤ y)).Pairwise (· ≤ ·) := by
  have h := List.pairwise_mergeSort (le := fun x y : Int => decide (x ≤ y)) (by simp; omega) (by simp; omega) L
  exact h.imp (by simp)
theorem compact_sort_eq {P D Q : List Int} (hm : ∀ x, x ∈ D ↔ x ∈ P) (hd : D.Nodup) (hp : Q.Perm D) (hs : Q.Pairwise (· ≤ ·)) :
    Lib.compact (P.mergeSort fun x y => decide (x ≤ y)) = Q := by
  have hn : Q.Nodup := hp.nodup_iff.2 hd
  refine strict_ext (compact_strict (sort_pairwise P)) ?_ ?_
  · have := hs.and hn
    exact this.imp (by intro a b h; omega)
  · intro x
    rw [mem_compact, List.mem_mergeSort, hp.mem_iff, hm]
def Srt (f : Nat → Int) (i : Nat) : Prop := ∀ a b, a < b → b < i → f a ≤ f b
def Ins (f : Nat → Int) (i k : Nat) : Prop := (∀ a b, a < b → b ≤ i → a ≠ k → b ≠ k → f a ≤ f b) ∧ ∀ b, k < b → b ≤ i → f k ≤ f b
def swp (M : List Int) (k : Nat) : List Int := (M.set k (M.getD (k - 1) 0)).set (k - 1) (M.getD k 0)
theorem swp_length (M : List Int) (k : Nat) : (swp M k).length = M.length := by simp [swp]
theorem swp_perm {M : List Int} {k : Nat} (h0 : 0 < k) (hk : k < M.length) : (swp M k).Perm M := by
  have h := List.set_set_perm hk (by omega : k - 1 < M.length)
  unfold swp
  have e1 : M.getD (k - 1) 0 = M[k - 1] := by simp [List.getD, List.getElem?_eq_getElem (show k - 1 < M.length by omega)]
  have e2 : M.getD k 0 = M[k] := by simp [List.getD, List.getElem?_eq_getElem hk]
  rw [e1, e2]
  exact h
theorem swp_get {M : List Int} {k : Nat} (h0 : 0 < k) (hk : k < M.length) (j : Nat) : (swp M k).getD j 0 = if j = k then M.getD (k - 1) 0 else if j = k - 1 then M.getD k 0 else M.getD j 0 := by
  unfold swp
  simp only [List.getD_eq_getElem?_getD, List.getElem?_set, List.length_set]
  by_cases h1 : j = k
  · subst h1
    rw [if_pos rfl, if_neg (by omega), if_pos rfl, if_pos hk]; rfl
  · rw [if_neg h1]
    by_cases h2 : j = k - 1
    · subst h2
      rw [if_pos rfl, if_pos rfl, if_pos (by omega)]; rfl
    · rw [if_neg h2, if_neg (fun h => h2 h.symm), if_neg (fun h => h1 h.symm)]
theorem ins_start {f : Nat → Int} {i : Nat} (h : Srt f i) : Ins f i i := ⟨fun a b h1 h2 h3 h4 => h a b h1 (by omega), fun b h1 h2 => by omega⟩
theorem ins_step {M : List Int} {i k : Nat} (h : Ins (fun j => M.getD j 0) i k) (h0 : 0 < k) (hk : k ≤ i) (hi : i < M.length) (hl : M.getD k 0 < M.getD (k - 1) 0) : Ins (fun j => (swp M k).getD j 0) i (k - 1) := by
  have g := swp_get (M := M) h0 (by omega : k < M.length)
  obtain ⟨ha, hb⟩ := h
  refine ⟨fun a b h1 h2 h3 h4 => ?_, fun b h1 h2 => ?_⟩
  · show (swp M k).getD a 0 ≤ (swp M k).getD b 0
    rw [g a, g b]
    rw [if_neg h3, if_neg h4]
    by_cases e1 : a = k
    · rw [if_pos e1, if_neg (by omega)]; exact ha (k - 1) b (by omega) h2 (by omega) (by omega)
    · rw [if_neg e1]
      by_cases e2 : b = k
      · rw [if_pos e2]; exact ha a (k - 1) (by omega) (by omega) e1 (by omega)
      · rw [if_neg e2]; exact ha a b h1 h2 e1 e2
  · show (swp M k).getD (k - 1) 0 ≤ (swp M k).getD b 0
    rw [g (k - 1), g b, if_neg (by omega), if_pos rfl]
    by_cases e2 : b = k
    · rw [if_pos e2]; omega
    · rw [if_neg e2, if_neg (by omega)]; exact hb b (by omega) h2
theorem ins_end {f : Nat → Int} {i k : Nat} (h : Ins f i k) (hk : k ≤ i) (he : k = 0 ∨ f (k - 1) ≤ f k) : Srt f (i + 1) := by
  obtain ⟨ha, hb⟩ := h
  intro a b h1 h2
  by_cases e1 : a = k
  · subst e1; exact hb b h1 (by omega)
  · by_cases e2 : b = k
    · subst e2
      rcases he with h0 | h0
      · omega
      · by_cases e3 : a = b - 1
        · subst e3; exact h0
        · exact Int.le_trans (ha a (b - 1) (by omega) (by omega) e1 (by omega)) h0
    · exact ha a b h1 (by omega) e1 e2
theorem srt_pairwise {M : List Int} (h : Srt (fun j => M.getD j 0) M.length) : M.Pairwise (· ≤ ·) := by
  rw [List.pairwise_iff_getElem]
  intro i j hi hj hij
  have := h i j hij hj
  simpa [List.getD, List.getElem?_eq_getElem hi, List.getElem?_eq_getElem hj] using this
/-- what the first k offsets give, each moment once -/
def dedL (first : Int) (F O : Nat → Int) (len : Nat) (day second : Int) : Nat → List Int
  | 0 => []
  | k + 1 => if momGood first F O len day second (candO first O k) = true ∧ momOf day second (candO first O k) ∉ dedL first F O len day second k then dedL first F O len day second k ++ [momOf day second (candO first O k)] else dedL first F O len day second k
theorem dedL_succ (first : Int) (F O : Nat → Int) (len : Nat) (day second : Int) (k : Nat) : dedL first F O len day second (k + 1) = if momGood first F O len day second (candO first O k) = true ∧ momOf day second (candO first O k) ∉ dedL first F O len day second k then dedL first F O len day second k ++ [momOf day second (candO first O k)] else dedL first F O len day second k := rfl
theorem dedL_mem (first : Int) (F O : Nat → Int) (len : Nat) (day second : Int) (x : Int) : ∀ k, x ∈ dedL first F O len day second k ↔ x ∈ gathL first F O len day second k
  | 0 => by simp [dedL, gathL]
  | k + 1 => by
    have ih := dedL_mem first F O len day second x k
    rw [dedL, gathL]
    split
    · rename_i h
      rw [if_pos h.1, List.mem_append, List.mem_append, ih]
    · rename_i h
      split
      · rename_i h1
        have h2 : momOf day second (candO first O k) ∈ dedL first F O len day second k := Classical.byContradiction fun h3 => h ⟨h1, h3⟩
        rw [List.mem_append, ← ih]
        constructor
        · exact Or.inl
        · rintro (h3 | h3)
          · exact h3
          · rw [List.mem_singleton] at h3; rw [h3]; exact h2
      · exact ih
theorem dedL_nodup (first : Int) (F O : Nat → Int) (len : Nat) (day second : Int) : ∀ k, (dedL first F O len day second k).Nodup
  | 0 => by simp [dedL]
  | k + 1 => by
    have ih := dedL_nodup first F O len day second k
    rw [dedL]
    split
    · rename_i h
      rw [List.nodup_append]
      refine ⟨ih, by simp, ?_⟩
      intro a ha b hb
      rw [List.mem_singleton] at hb
      subst hb
      intro he
      subst he
      exact h.2 ha
    · exact ih
theorem dedL_le (first : Int) (F O : Nat → Int) (len : Nat) (day second : Int) (k : Nat) : (dedL first F O len day second k).length ≤ k := by
  induction k with
  | zero => simp [dedL]
  | succ k ih => rw [dedL]; split; simp; omega; omega
theorem momList_eq {first : Int} {F O : Nat → Int} {len : Nat} {day second : Int} {Q : List Int} (h : momErr first F O len day second = 0)
    (hp : Q.Perm (dedL first F O len day second (len + 1))) (hs : Q.Pairwise (· ≤ ·)) : momList first F O len day second = Q := by
  unfold momList
  rw [if_pos h]
  exact compact_sort_eq (fun x => dedL_mem _ _ _ _ _ _ x _) (dedL_nodup _ _ _ _ _ _ _) hp hs
/-- an exchange in a row of the call's own -/
theorem row_swap {w : World} {base g cap n : Nat} {e : TypeId} {M : List Int} (h : w.ownsRow base e 1 (.slice (some ⟨g, 0, none⟩) n cap) n (M.map (.int .i64))) (k : Nat) (x y : Int) (hx : M.getD k 0 = x) (hy : M.getD (k - 1) 0 = y) :
    ((w.setCell ⟨g, k, none⟩ (.int .i64 y)).setCell ⟨g, k - 1, none⟩ (.int .i64 x)).ownsRow base e 1 (.slice (some ⟨g, 0, none⟩) n cap) n ((swp M k).map (.int .i64)) ∧
      w.grownBy ((w.setCell ⟨g, k, none⟩ (.int .i64 y)).setCell ⟨g, k - 1, none⟩ (.int .i64 x)) (some g) := by
  obtain ⟨h1, g1⟩ := h.stored k (.int .i64 y)
  obtain ⟨h2, g2⟩ := h1.stored (k - 1) (.int .i64 x)
  refine ⟨?_, g1.trans g2⟩
  unfold swp
  rw [hx, hy, List.map_set, List.map_set]
  exact h2
end Go.Proofs.Ythcddmjgehcgaab
