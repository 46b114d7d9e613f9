/- Several texts of this claim in one. -/
/- The best shift, in plain words. -/
namespace Ft
/-- how well a shift fits: how many samples, the sum -/
structure Mt where
  shift : Int
  many : Int
  sum : Int
def absI (n : Int) : Int := max n (-n)
def better (m o : Mt) : Bool :=
  if m.sum * o.many = o.sum * m.many then
    if o.many = m.many then
      if absI m.shift = absI o.shift then decide (o.shift < m.shift) else decide (absI m.shift < absI o.shift)
    else decide (o.many < m.many)
  else decide (m.sum * o.many < o.sum * m.many)
/-- one more shift -/
def take (least : Int) (best : Option Mt) (m : Mt) : Option Mt :=
  if m.many < least then best
  else match best with
    | none => some m
    | some b => if better m b = true then some m else some b
/-- the shifts from s on, so many -/
def fitF (D : Int → Mt) (least : Int) : Nat → Int → Option Mt → Option Mt
  | 0, _, best => best
  | n + 1, s, best => fitF D least n (s + 1) (take least best (D s))
theorem mul_cancel {a b c : Int} (hc : 0 < c) (h : a * c ≤ b * c) : a ≤ b := by
  rcases Int.lt_or_le b a with g | g
  · have := Int.mul_lt_mul_of_pos_right g hc
    omega
  · exact g
/-- no worse, by cross products -/
def notWorse (b m : Mt) : Prop := b.sum * m.many ≤ m.sum * b.many
theorem notWorse_trans {a b c : Mt} (ha : 0 ≤ a.many) (hb : 0 < b.many) (hc : 0 ≤ c.many) (h1 : notWorse a b) (h2 : notWorse b c) : notWorse a c := by
  unfold notWorse at *
  apply mul_cancel hb
  have e1 : a.sum * c.many * b.many = a.sum * b.many * c.many := by rw [Int.mul_assoc, Int.mul_comm c.many, ← Int.mul_assoc]
  have e2 : c.sum * a.many * b.many = c.sum * b.many * a.many := by rw [Int.mul_assoc, Int.mul_comm a.many, ← Int.mul_assoc]
  have e3 : b.sum * a.many * c.many = b.sum * c.many * a.many := by rw [Int.mul_assoc, Int.mul_comm a.many, ← Int.mul_assoc]
  rw [e1, e2]
  have p1 := Int.mul_le_mul_of_nonneg_right h1 hc
  have p2 := Int.mul_le_mul_of_nonneg_right h2 ha
  rw [e3] at p1
  omega
theorem better_le {m o : Mt} (h : better m o = true) : notWorse m o := by
  unfold better at h
  unfold notWorse
  split at h
  · rename_i e
    omega
  · simp only [decide_eq_true_eq] at h
    omega
theorem better_not {m o : Mt} (h : better m o = false) : notWorse o m := by
  unfold better at h
  unfold notWorse
  split at h
  · rename_i e
    omega
  · simp only [decide_eq_false_iff_not] at h
    omega
/-- what the best one keeps: it is one of those seen, and no one seen is better -/
structure Best (D : Int → Mt) (least : Int) (from_ upto : Int) (b : Option Mt) : Prop where
  none_ : b = none → ∀ s, from_ ≤ s → s < upto → (D s).many < least
  some_ : ∀ m, b = some m → (∃ s, from_ ≤ s ∧ s < upto ∧ m = D s) ∧ least ≤ m.many ∧ ∀ s, from_ ≤ s → s < upto → least ≤ (D s).many → notWorse m (D s)
theorem Best.start (D : Int → Mt) (least s : Int) : Best D least s s none := ⟨fun _ t h1 h2 => by omega, fun m h => by cases h⟩
theorem Best.step {D : Int → Mt} {least f s : Int} {b : Option Mt} (hl : 1 ≤ least) (hf : f ≤ s) (h : Best D least f s b) : Best D least f (s + 1) (take least b (D s)) := by
  unfold take
  by_cases hm : (D s).many < least
  · rw [if_pos hm]
    refine ⟨fun e t h1 h2 => ?_, fun m e => ?_⟩
    · rcases Int.lt_or_le t s with g | g
      · exact h.none_ e t h1 g
      · rw [show t = s by omega]; exact hm
    · obtain ⟨⟨t, a1, a2, a3⟩, a4, a5⟩ := h.some_ m e
      refine ⟨⟨t, a1, by omega, a3⟩, a4, fun u b1 b2 b3 => ?_⟩
      rcases Int.lt_or_le u s with g | g
      · exact a5 u b1 g b3
      · rw [show u = s by omega] at b3; omega
  · rw [if_neg hm]
    cases b with
    | none =>
      refine ⟨(fun e => by cases e), fun m e => ?_⟩
      injection e with e
      subst e
      refine ⟨⟨s, hf, by omega, rfl⟩, by omega, fun u b1 b2 b3 => ?_⟩
      rcases Int.lt_or_le u s with g | g
      · have := h.none_ rfl u b1 g
        omega
      · rw [show u = s by omega]
        exact Int.le_refl _
    | some o =>
      obtain ⟨⟨t, a1, a2, a3⟩, a4, a5⟩ := h.some_ o rfl
      by_cases hb : better (D s) o = true
      · simp only
        rw [if_pos hb]
        refine ⟨(fun e => by cases e), fun m e => ?_⟩
        injection e with e
        subst e
        refine ⟨⟨s, hf, by omega, rfl⟩, by omega, fun u b1 b2 b3 => ?_⟩
        rcases Int.lt_or_le u s with g | g
        · exact notWorse_trans (by omega) (by omega) (by omega) (better_le hb) (a5 u b1 g b3)
        · rw [show u = s by omega]
          exact Int.le_refl _
      · simp only
        rw [if_neg hb]
        have hb : better (D s) o = false := by simpa using hb
        refine ⟨(fun e => by cases e), fun m e => ?_⟩
        injection e with e
        subst e
        refine ⟨⟨t, a1, by omega, a3⟩, a4, fun u b1 b2 b3 => ?_⟩
        rcases Int.lt_or_le u s with g | g
        · exact a5 u b1 g b3
        · rw [show u = s by omega]
          exact better_not hb
theorem fit_best {D : Int → Mt} {least f : Int} (hl : 1 ≤ least) : ∀ (n : Nat) (s : Int) (b : Option Mt), f ≤ s → Best D least f s b → Best D least f (s + n) (fitF D least n s b)
  | 0, s, b, _, h => by rw [fitF]; simpa using h
  | n + 1, s, b, hf, h => by
    rw [fitF]
    have := fit_best hl n (s + 1) _ (by omega) (h.step hl hf)
    rw [show s + ((n + 1 : Nat) : Int) = s + 1 + (n : Int) by omega]
    exact this
/-- from -most to most -/
def fitM (D : Int → Mt) (most least : Int) : Option Mt := fitF D least (2 * most + 1).toNat (-most) none
theorem fitM_best {D : Int → Mt} {most least : Int} (hl : 1 ≤ least) (hm : 0 ≤ most) : Best D least (-most) (most + 1) (fitM D most least) := by
  have := fit_best (D := D) hl (2 * most + 1).toNat (-most) none (Int.le_refl _) (Best.start D least (-most))
  rw [show -most + ((2 * most + 1).toNat : Int) = most + 1 by omega] at this
  exact this
/-- a clock put forward: the same matches at later shifts -/
theorem follows {D D' : Int → Mt} {most least by_ : Int} (hl : 1 ≤ least) (hm : 0 ≤ most) (hb : 0 ≤ by_) (hD : ∀ s, (D' (s + by_)).many = (D s).many ∧ (D' (s + by_)).sum = (D s).sum) {m : Mt} (h : fitM D most least = some m) :
    ∃ n, fitM D' (most + by_) least = some n ∧ n.sum * m.many ≤ m.sum * n.many ∧ least ≤ n.many ∧ ∃ s, -most - by_ ≤ s ∧ s ≤ most + by_ ∧ n = D' s := by
  obtain ⟨⟨s, s1, s2, e⟩, hm1, _⟩ := (fitM_best hl hm).some_ m h
  have hB := fitM_best (D := D') (most := most + by_) hl (by omega)
  obtain ⟨d1, d2⟩ := hD s
  cases hn : fitM D' (most + by_) least with
  | none =>
    have := hB.none_ hn (s + by_) (by omega) (by omega)
    rw [d1, ← e] at this
    omega
  | some n =>
    obtain ⟨⟨t, t1, t2, et⟩, a4, a5⟩ := hB.some_ n hn
    have := a5 (s + by_) (by omega) (by omega) (by rw [d1, ← e]; exact hm1)
    unfold notWorse at this
    rw [d1, d2, ← e] at this
    exact ⟨n, rfl, this, a4, t, by omega, by omega, et⟩
end Ft
