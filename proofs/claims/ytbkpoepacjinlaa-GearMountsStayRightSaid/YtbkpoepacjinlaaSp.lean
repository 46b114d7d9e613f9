/- Shares in plain numbers: the order of the rests, the pick of a round, the sum of the parts. -/
namespace Go.Proofs.Ytbkpoepacjinlaa
namespace Shr
def sumF (W : Nat → Int) : Nat → Int
  | 0 => 0
  | k + 1 => sumF W k + W k
/-- i stands before k -/
def Bef (R : Nat → Int) (i k : Nat) : Prop := R k < R i ∨ R k = R i ∧ i < k
structure IsOrd (R : Nat → Int) (n : Nat) (l : List Nat) : Prop where
  perm : l.Perm (List.range n)
  sorted : l.Pairwise (Bef R)
theorem IsOrd.length {R : Nat → Int} {n : Nat} {l : List Nat} (h : IsOrd R n l) : l.length = n := by
  have := h.perm.length_eq; simpa using this
theorem IsOrd.mem {R : Nat → Int} {n : Nat} {l : List Nat} (h : IsOrd R n l) {i : Nat} : i ∈ l ↔ i < n := by
  rw [h.perm.mem_iff, List.mem_range]
theorem IsOrd.nodup {R : Nat → Int} {n : Nat} {l : List Nat} (h : IsOrd R n l) : l.Nodup := h.perm.nodup_iff.2 List.nodup_range
theorem bef_asymm {R : Nat → Int} {i k : Nat} (h : Bef R i k) (g : Bef R k i) : False := by
  unfold Bef at h g; omega
theorem bef_total {R : Nat → Int} {i k : Nat} (h : i ≠ k) : Bef R i k ∨ Bef R k i := by
  unfold Bef; omega
theorem bef_trans {R : Nat → Int} {i j k : Nat} (h : Bef R i j) (g : Bef R j k) : Bef R i k := by
  unfold Bef at *; omega
theorem sorted_unique {R : Nat → Int} : ∀ {a b : List Nat}, a.Perm b → a.Pairwise (Bef R) → b.Pairwise (Bef R) → a = b
  | [], b, hp, _, _ => (List.Perm.nil_eq hp)
  | x :: a, [], hp, _, _ => absurd hp.length_eq (by simp)
  | x :: a, y :: b, hp, ha, hb => by
    rw [List.pairwise_cons] at ha hb
    have hxy : x = y := by
      rcases List.mem_cons.1 (hp.mem_iff.1 (List.mem_cons_self (a := x) (l := a))) with h1 | h1
      · exact h1
      · rcases List.mem_cons.1 (hp.mem_iff.2 (List.mem_cons_self (a := y) (l := b))) with h2 | h2
        · exact h2.symm
        · exact (bef_asymm (hb.1 x h1) (ha.1 y h2)).elim
    subst hxy
    rw [sorted_unique (List.Perm.cons_inv hp) ha.2 hb.2]
theorem IsOrd.unique {R : Nat → Int} {n : Nat} {a b : List Nat} (h : IsOrd R n a) (g : IsOrd R n b) : a = b :=
  sorted_unique (h.perm.trans g.perm.symm) h.sorted g.sorted

/-- the pick of a round: of those that are not among the first t the one before all others -/
theorem pick {R : Nat → Int} {n t b : Nat} {l : List Nat} (h : IsOrd R n l) (ht : t < n) (hb : b < n) (hg : b ∉ l.take t)
    (hm : ∀ j, j < n → j ∉ l.take t → j ≠ b → Bef R b j) : l.take (t + 1) = l.take t ++ [b] := by
  have hl := h.length
  have htl : t < l.length := by omega
  rw [List.take_succ_eq_append_getElem htl]
  have hn := h.nodup
  have h1 : l[t] ∉ l.take t := by
    intro hin
    obtain ⟨j, hj, he⟩ := List.getElem_of_mem hin
    rw [List.length_take] at hj
    rw [List.getElem_take] at he
    have := (List.nodup_iff_pairwise_ne.1 hn)
    rw [List.pairwise_iff_getElem] at this
    exact this j t (by omega) htl (by omega) he
  by_cases he : l[t] = b
  · rw [he]
  · exfalso
    have h2 := hm l[t] (h.mem.1 (List.getElem_mem _)) h1 he
    have h3 : b ∈ l.drop t := by
      have : b ∈ l.take t ++ l.drop t := by rw [List.take_append_drop]; exact h.mem.2 hb
      rcases List.mem_append.1 this with h4 | h4
      · exact absurd h4 hg
      · exact h4
    obtain ⟨j, hj, hbj⟩ := List.getElem_of_mem h3
    rw [List.getElem_drop] at hbj
    rw [List.length_drop] at hj
    have hj0 : j ≠ 0 := by
      intro h0; subst h0; exact he hbj
    have h4 := List.pairwise_iff_getElem.1 h.sorted t (t + j) htl (by omega) (by omega)
    rw [hbj] at h4
    exact bef_asymm h2 h4

/-- the parts -/
def quo (T S : Int) (W : Nat → Int) (i : Nat) : Int := T * W i / S
def rst (T S : Int) (W : Nat → Int) (i : Nat) : Int := T * W i % S
theorem sum_left (T S : Int) (W : Nat → Int) : ∀ k, T * sumF W k = S * sumF (quo T S W) k + sumF (rst T S W) k
  | 0 => by simp [sumF]
  | k + 1 => by
    have h := sum_left T S W k
    have e := Int.mul_ediv_add_emod (T * W k) S
    unfold sumF
    show T * (sumF W k + W k) = S * (sumF (quo T S W) k + T * W k / S) + (sumF (rst T S W) k + T * W k % S)
    rw [Int.mul_add, Int.mul_add, h]
    omega
theorem rst_sum_bounds {T S : Int} (W : Nat → Int) (hS : 0 < S) : ∀ k, 0 ≤ sumF (rst T S W) k ∧ sumF (rst T S W) k ≤ S * k
  | 0 => by simp [sumF]
  | k + 1 => by
    obtain ⟨h0, h1⟩ := rst_sum_bounds (T := T) W hS k
    have e0 := Int.emod_nonneg (T * W k) (by omega : S ≠ 0)
    have e1 := Int.emod_lt_of_pos (T * W k) hS
    unfold sumF
    show 0 ≤ sumF (rst T S W) k + T * W k % S ∧ sumF (rst T S W) k + T * W k % S ≤ S * ((k + 1 : Nat) : Int)
    have : S * ((k + 1 : Nat) : Int) = S * k + S := by push_cast; rw [Int.mul_add, Int.mul_one]
    rw [this]
    omega
theorem left_bounds {T S : Int} {W : Nat → Int} {n : Nat} (hS : 0 < S) (hs : sumF W n = S) : 0 ≤ T - sumF (quo T S W) n ∧ T - sumF (quo T S W) n ≤ n := by
  have h := sum_left T S W n
  obtain ⟨h0, h1⟩ := rst_sum_bounds (T := T) W hS n
  rw [hs] at h
  have e : S * (T - sumF (quo T S W) n) = sumF (rst T S W) n := by rw [Int.mul_sub, Int.mul_comm S T, h]; omega
  constructor
  · exact Int.not_lt.1 fun hlt => by
      have : S * (T - sumF (quo T S W) n) < 0 := Int.mul_neg_of_pos_of_neg hS hlt
      omega
  · rw [← e] at h1
    exact Int.le_of_mul_le_mul_left h1 hS
end Shr
end Go.Proofs.Ytbkpoepacjinlaa
