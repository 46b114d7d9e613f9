/- Gear: what a right garage means for its mounts and uses, in plain lists. -/
import Derived.Test.YtbkpoepacjinlaaGc
import Derived.Test.YtbkpoepacjinlaaGw
namespace Go.Proofs.Ytbkpoepacjinlaa
open Go
open Gar (endG momG chkP chkS chkM chkU chk anyOver overB hasS hasP befM befU chkUse)
namespace Gar
def mnt (g : Gar) (i : Nat) : Pcs.Mnt := ⟨g.ms i, g.mp i, g.mf i, g.mt i⟩
theorem en_mnt (g : Gar) (i : Nat) : Pcs.en (g.mnt i) = endG (g.mt i) := rfl
/-- the mounts of a slot among the first k, in order -/
def mountsK (g : Gar) (s : ByteArray) : Nat → List Pcs.Mnt
  | 0 => []
  | k + 1 => if g.ms k = s then mountsK g s k ++ [g.mnt k] else mountsK g s k
def mounts (g : Gar) (s : ByteArray) : List Pcs.Mnt := mountsK g s g.nm
theorem chkM_each {g : Gar} : ∀ (n k : Nat), chkM g n k = 0 → ∀ i, k ≤ i → i < k + n →
    (hasS g (g.ms i) = true ∧ hasP g (g.mp i) = true) ∧ (momG (g.mf i) = true ∧ (g.mt i = -1 ∨ momG (g.mt i) = true)) ∧ ¬ (g.mt i ≠ -1 ∧ g.mt i ≤ g.mf i) ∧ (0 < i → befM g (i - 1) i = true)
  | 0, k, _, i, h1, h2 => by omega
  | n + 1, k, h, i, h1, h2 => by
    rw [chkM] at h
    split at h
    · omega
    · split at h
      · omega
      · split at h
        · omega
        · rename_i a b c
          by_cases e : i = k
          · subst e
            refine ⟨?_, ?_, fun hh => c (Or.inl hh), fun hp => ?_⟩
            · simpa using a
            · simp at b
              refine ⟨b.1, ?_⟩
              by_cases e1 : g.mt i = -1
              · exact Or.inl e1
              · exact Or.inr (b.2 e1)
            · cases hb : befM g (i - 1) i
              · exact absurd (Or.inr ⟨hp, hb⟩) c
              · rfl
          · exact chkM_each n (k + 1) h i (by omega) (by omega)
theorem mf_step {g : Gar} (h : chkM g g.nm 0 = 0) (i : Nat) (hi : i + 1 < g.nm) : g.mf i ≤ g.mf (i + 1) := by
  have := (chkM_each g.nm 0 h (i + 1) (by omega) (by omega)).2.2.2 (by omega)
  simp [befM] at this
  omega
theorem mf_mono {g : Gar} (h : chkM g g.nm 0 = 0) : ∀ (j i : Nat), i ≤ j → j < g.nm → g.mf i ≤ g.mf j
  | 0, i, h1, _ => by rw [Nat.le_zero.1 h1]; exact Int.le_refl _
  | j + 1, i, h1, h2 => by
    by_cases e : i = j + 1
    · subst e; exact Int.le_refl _
    · exact Int.le_trans (mf_mono h j i (by omega) (by omega)) (mf_step h j h2)
theorem mt_cases {g : Gar} (h : chkM g g.nm 0 = 0) (i : Nat) (hi : i < g.nm) : 0 ≤ g.mf i ∧ g.mf i ≤ 86399999999 ∧ g.mf i < endG (g.mt i) := by
  obtain ⟨_, ⟨h1, h2⟩, h3, _⟩ := chkM_each g.nm 0 h i (by omega) (by omega)
  simp [momG] at h1
  refine ⟨h1.1, h1.2, ?_⟩
  unfold endG
  split
  · omega
  · rename_i hn
    rcases h2 with h2 | h2
    · omega
    · by_cases e : g.mt i = -1
      · omega
      · rcases Int.lt_or_le (g.mf i) (g.mt i) with h4 | h4
        · exact h4
        · exact absurd ⟨e, h4⟩ h3
theorem over_none {g : Gar} (h : anyOver g = false) {i k : Nat} (hik : i < k) (hk : k < g.nm) : overB g i k = false := by
  cases ho : overB g i k
  · rfl
  · rw [← h]
    unfold anyOver
    symm
    rw [List.any_eq_true]
    exact ⟨k, List.mem_range.2 hk, by rw [List.any_eq_true]; exact ⟨i, List.mem_range.2 hik, ho⟩⟩
theorem apart {g : Gar} (h : chkM g g.nm 0 = 0) (ho : anyOver g = false) {i k : Nat} (hik : i < k) (hk : k < g.nm) (hs : g.ms i = g.ms k ∨ g.mp i = g.mp k) : endG (g.mt i) ≤ g.mf k := by
  have h1 := over_none ho hik hk
  have h2 := mf_mono h k i (by omega) hk
  have h3 := mt_cases h i (by omega)
  have h4 := mt_cases h k hk
  unfold overB at h1
  rw [show (decide (g.ms i = g.ms k) || decide (g.mp i = g.mp k)) = true by simpa using hs, Bool.true_and, decide_eq_false_iff_not] at h1
  omega
theorem mem_mountsK {g : Gar} {s : ByteArray} {m : Pcs.Mnt} : ∀ {k : Nat}, m ∈ mountsK g s k → ∃ i, i < k ∧ g.ms i = s ∧ m = g.mnt i
  | 0, h => by simp [mountsK] at h
  | k + 1, h => by
    rw [mountsK] at h
    split at h
    · rename_i e
      rcases List.mem_append.1 h with h | h
      · obtain ⟨i, h1, h2⟩ := mem_mountsK h
        exact ⟨i, by omega, h2⟩
      · simp at h
        exact ⟨k, by omega, e, h⟩
    · obtain ⟨i, h1, h2⟩ := mem_mountsK h
      exact ⟨i, by omega, h2⟩
theorem ord_append {ms : List Pcs.Mnt} {m : Pcs.Mnt} (h : Pcs.Ord ms) (hm : m.f < Pcs.en m) (hx : ∀ x, x ∈ ms → Pcs.en x ≤ m.f) : Pcs.Ord (ms ++ [m]) := by
  induction h with
  | nil => exact .cons m [] hm (by simp) .nil
  | cons a l h1 h2 h3 ih =>
    refine .cons a _ h1 (fun x hx' => ?_) (ih fun x hx' => hx x (by simp [hx']))
    rcases List.mem_append.1 hx' with h4 | h4
    · exact h2 x h4
    · simp at h4
      subst h4
      exact hx a (by simp)
theorem ord_mounts {g : Gar} (h : chkM g g.nm 0 = 0) (ho : anyOver g = false) (s : ByteArray) : ∀ k, k ≤ g.nm → Pcs.Ord (mountsK g s k)
  | 0, _ => .nil
  | k + 1, hk => by
    rw [mountsK]
    split
    · rename_i e
      refine ord_append (ord_mounts h ho s k (by omega)) (mt_cases h k (by omega)).2.2 fun x hx => ?_
      obtain ⟨i, h1, h2, rfl⟩ := mem_mountsK hx
      exact apart h ho h1 (by omega) (Or.inl (h2.trans e.symm))
    · exact ord_mounts h ho s k (by omega)
theorem chk_parts {g : Gar} (h : chk g = 0) : g.np ≤ 500 ∧ g.ns ≤ 100 ∧ g.nm ≤ 2000 ∧ g.nu ≤ 5000 ∧ chkP g g.np 0 = 0 ∧ chkS g g.ns 0 = 0 ∧ chkM g g.nm 0 = 0 ∧ anyOver g = false ∧ chkU g g.nu 0 = 0 := by
  unfold chk at h
  split at h
  · omega
  · rename_i hsz
    split at h
    · rename_i h1; exact absurd h h1
    · split at h
      · rename_i h1; exact absurd h h1
      · split at h
        · rename_i h1; exact absurd h h1
        · split at h
          · omega
          · rename_i h1 h2 h3 h4
            exact ⟨by omega, by omega, by omega, by omega, by simpa using h1, by simpa using h2, by simpa using h3, by simpa using h4, h⟩
theorem chkU_each {g : Gar} : ∀ (n k : Nat), chkU g n k = 0 → ∀ i, k ≤ i → i < k + n →
    chkUse (g.un i) (g.ur i) ((List.range i).any fun j => decide (g.un j = g.un i)) (g.uf i) (g.us i) (g.uw i) = 0 ∧ (0 < i → befU g (i - 1) i = true)
  | 0, k, _, i, h1, h2 => by omega
  | n + 1, k, h, i, h1, h2 => by
    rw [chkU] at h
    split at h
    · rename_i a; exact absurd h a
    · split at h
      · omega
      · rename_i a b
        by_cases e : i = k
        · subst e
          refine ⟨by simpa using a, fun hp => ?_⟩
          cases hb : befU g (i - 1) i
          · exact absurd ⟨hp, hb⟩ b
          · rfl
        · exact chkU_each n (k + 1) h i (by omega) (by omega)
theorem use_right {g : Gar} (h : chkU g g.nu 0 = 0) {i : Nat} (hi : i < g.nu) :
    (nameB (g.un i) = true ∧ nameB (g.ur i) = true) ∧ (∀ j, j < i → g.un j ≠ g.un i) ∧ 0 ≤ g.uf i ∧ g.uf i ≤ 86399999999 ∧ 1 ≤ g.us i ∧ g.us i ≤ 1000000 ∧ 0 ≤ g.uw i ∧ g.uw i ≤ 1000000000 := by
  have h1 := (chkU_each g.nu 0 h i (by omega) (by omega)).1
  unfold chkUse at h1
  split at h1
  · omega
  · split at h1
    · omega
    · split at h1
      · omega
      · rename_i a b c
        simp [momG] at a b c
        exact ⟨a, fun j hj => b j hj, by omega⟩
end Gar
end Go.Proofs.Ytbkpoepacjinlaa
