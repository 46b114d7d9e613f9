/- Several texts of this claim in one. -/
/- Gear: mounts overlap, in plain numbers: the end of the last mount of a slot, or of a part, tells it. -/
namespace Go.Proofs.YtaghhndcimjjgaaGreatDoor
namespace Gmt
/-- the end of the last of the first k mounts with this name; 0: there is none -/
def lastE (x : Nat → ByteArray) (e : Nat → Int) : Nat → ByteArray → Int
  | 0, _ => 0
  | k + 1, key => if x k = key then e k else lastE x e k key
def bad1 (s p : Nat → ByteArray) (f e : Nat → Int) (k : Nat) : Prop := f k < lastE s e k (s k) ∨ f k < lastE p e k (p k)
def bad2 (s p : Nat → ByteArray) (f e : Nat → Int) (k : Nat) : Prop := ∃ i, i < k ∧ (s i = s k ∨ p i = p k) ∧ max (f i) (f k) < min (e i) (e k)
theorem lastE_spec (x : Nat → ByteArray) (e : Nat → Int) (key : ByteArray) : ∀ k, (lastE x e k key = 0 ∧ ∀ i, i < k → x i ≠ key) ∨ ∃ j, j < k ∧ x j = key ∧ lastE x e k key = e j ∧ ∀ i, j < i → i < k → x i ≠ key
  | 0 => Or.inl ⟨rfl, fun i hi => by omega⟩
  | k + 1 => by
    rw [lastE]
    by_cases h : x k = key
    · rw [if_pos h]
      exact Or.inr ⟨k, by omega, h, rfl, fun i h1 h2 => by omega⟩
    · rw [if_neg h]
      rcases lastE_spec x e key k with ⟨h1, h2⟩ | ⟨j, h1, h2, h3, h4⟩
      · exact Or.inl ⟨h1, fun i hi => by
          by_cases e1 : i = k
          · subst e1; exact h
          · exact h2 i (by omega)⟩
      · exact Or.inr ⟨j, by omega, h2, h3, fun i h5 h6 => by
          by_cases e1 : i = k
          · subst e1; exact h
          · exact h4 i h5 (by omega)⟩
theorem bad_iff {s p : Nat → ByteArray} {f e : Nat → Int} {n : Nat} (h0 : ∀ i, i < n → 0 ≤ f i ∧ f i < e i) (hs : ∀ i j, i < j → j < n → f i ≤ f j) :
    (∃ k, k < n ∧ bad1 s p f e k) ↔ ∃ k, k < n ∧ bad2 s p f e k := by
  constructor
  · rintro ⟨k, hk, h⟩
    have hfk := h0 k hk
    refine ⟨k, hk, ?_⟩
    rcases h with h | h
    · rcases lastE_spec s e (s k) k with ⟨h1, _⟩ | ⟨j, h1, h2, h3, _⟩
      · omega
      · have := hs j k h1 hk
        exact ⟨j, h1, Or.inl h2, by omega⟩
    · rcases lastE_spec p e (p k) k with ⟨h1, _⟩ | ⟨j, h1, h2, h3, _⟩
      · omega
      · have := hs j k h1 hk
        exact ⟨j, h1, Or.inr h2, by omega⟩
  · -- the least k
    have key : ∀ m k, k ≤ m → k < n → bad2 s p f e k → ∃ k', k' < n ∧ bad1 s p f e k' := by
      intro m
      induction m with
      | zero =>
        intro k hk _ h
        obtain ⟨i, hi, _⟩ := h
        omega
      | succ m ih =>
        intro k hk hkn h
        by_cases hex : ∃ k', k' < k ∧ bad2 s p f e k'
        · obtain ⟨k', h1, h2⟩ := hex
          exact ih k' (by omega) (by omega) h2
        · obtain ⟨i, hi, hsp, hov⟩ := h
          have hik := hs i k hi hkn
          have hov2 : f k < e i := by omega
          refine ⟨k, hkn, ?_⟩
          rcases hsp with hsp | hsp
          · left
            rcases lastE_spec s e (s k) k with ⟨_, h2⟩ | ⟨j, h1, h2, h3, h4⟩
            · exact absurd hsp (h2 i hi)
            · rw [h3]
              by_cases e1 : j = i
              · subst e1; exact hov2
              · have hij : i < j := by
                  rcases Nat.lt_or_ge i j with h5 | h5
                  · exact h5
                  · exact absurd hsp (h4 i (by omega) hi)
                by_cases hji : f j < e i
                · exact absurd ⟨j, h1, i, hij, Or.inl (hsp.trans h2.symm), by have := h0 j (by omega); have := hs i j hij (by omega); omega⟩ hex
                · have := hs j k h1 hkn
                  omega
          · right
            rcases lastE_spec p e (p k) k with ⟨_, h2⟩ | ⟨j, h1, h2, h3, h4⟩
            · exact absurd hsp (h2 i hi)
            · rw [h3]
              by_cases e1 : j = i
              · subst e1; exact hov2
              · have hij : i < j := by
                  rcases Nat.lt_or_ge i j with h5 | h5
                  · exact h5
                  · exact absurd hsp (h4 i (by omega) hi)
                by_cases hji : f j < e i
                · exact absurd ⟨j, h1, i, hij, Or.inr (hsp.trans h2.symm), by have := h0 j (by omega); have := hs i j hij (by omega); omega⟩ hex
                · have := hs j k h1 hkn
                  omega
    rintro ⟨k, hk, h⟩
    exact key k k (Nat.le_refl _) hk h
end Gmt
end Go.Proofs.YtaghhndcimjjgaaGreatDoor
