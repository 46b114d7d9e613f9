/- A stable sort in plain numbers: insertion, exchange, rotation, merge. -/
namespace Go.Proofs.Ytbkpoepacjinlaa
namespace Stb
/-- i stands before k (numbers of weights as integers) -/
def Bf (R : Int → Int) (x y : Int) : Prop := R y < R x ∨ R x = R y ∧ x < y
theorem Bf.trans {R : Int → Int} {x y z : Int} (h : Bf R x y) (g : Bf R y z) : Bf R x z := by unfold Bf at *; omega
theorem Bf.total {R : Int → Int} {x y : Int} (h : x ≠ y) : Bf R x y ∨ Bf R y x := by unfold Bf; omega
theorem Bf.of_lt {R : Int → Int} {x y : Int} (h : x < y) : Bf R y x ↔ R x < R y := by unfold Bf; omega
theorem Bf.not_of_lt {R : Int → Int} {x y : Int} (h : x < y) : Bf R x y ↔ ¬ R x < R y := by unfold Bf; omega

/-- an exchange in a list -/
def sw2 (M : List Int) (i j : Nat) : List Int := (M.set i (M.getD j 0)).set j (M.getD i 0)
theorem sw2_length (M : List Int) (i j : Nat) : (sw2 M i j).length = M.length := by simp [sw2]
theorem sw2_perm {M : List Int} {i j : Nat} (hi : i < M.length) (hj : j < M.length) : (sw2 M i j).Perm M := by
  have h := List.set_set_perm (as := M) (i := i) (j := j) hi hj
  unfold sw2
  have e1 : M.getD j 0 = M[j] := by simp [List.getD, List.getElem?_eq_getElem hj]
  have e2 : M.getD i 0 = M[i] := by simp [List.getD, List.getElem?_eq_getElem hi]
  rw [e1, e2]
  exact h
theorem sw2_get {M : List Int} {i j : Nat} (hij : i ≠ j) (hi : i < M.length) (hj : j < M.length) (p : Nat) : (sw2 M i j).getD p 0 = if p = i then M.getD j 0 else if p = j then M.getD i 0 else M.getD p 0 := by
  unfold sw2
  simp only [List.getD_eq_getElem?_getD, List.getElem?_set, List.length_set]
  by_cases h1 : p = i
  · subst h1
    rw [if_pos rfl, if_neg (fun h => hij h.symm), if_pos rfl, if_pos hi]; rfl
  · rw [if_neg h1]
    by_cases h2 : p = j
    · subst h2
      rw [if_pos rfl, if_pos rfl, if_pos hj]; rfl
    · rw [if_neg h2, if_neg (fun h => h2 h.symm), if_neg (fun h => h1 h.symm)]

/-- the elements of M, in place -/
def at' (M : List Int) (p : Nat) : Int := M.getD p 0
def Srt (R : Int → Int) (M : List Int) (a b : Nat) : Prop := ∀ p q, a ≤ p → p < q → q < b → Bf R (at' M p) (at' M q)
structure Res (M M' : List Int) (a b : Nat) : Prop where
  perm : M'.Perm M
  out : ∀ p, p < a ∨ b ≤ p → at' M' p = at' M p
  img : ∀ p, a ≤ p → p < b → ∃ q, a ≤ q ∧ q < b ∧ at' M' p = at' M q
theorem Res.length {M M' : List Int} {a b : Nat} (h : Res M M' a b) : M'.length = M.length := h.perm.length_eq
theorem Res.refl (M : List Int) (a b : Nat) : Res M M a b := ⟨List.Perm.refl _, fun _ _ => rfl, fun p h1 h2 => ⟨p, h1, h2, rfl⟩⟩
theorem Res.trans {M M' M'' : List Int} {a b : Nat} (h : Res M M' a b) (g : Res M' M'' a b) : Res M M'' a b :=
  ⟨g.perm.trans h.perm, fun p hp => (g.out p hp).trans (h.out p hp), fun p h1 h2 => by
    obtain ⟨q, q1, q2, e⟩ := g.img p h1 h2
    obtain ⟨r, r1, r2, e2⟩ := h.img q q1 q2
    exact ⟨r, r1, r2, e.trans e2⟩⟩
theorem Res.mono {M M' : List Int} {a b c d : Nat} (h : Res M M' a b) (hc : c ≤ a) (hd : b ≤ d) : Res M M' c d :=
  ⟨h.perm, fun p hp => h.out p (by omega), fun p h1 h2 => by
    by_cases hp : p < a ∨ b ≤ p
    · exact ⟨p, h1, h2, h.out p hp⟩
    · obtain ⟨q, q1, q2, e⟩ := h.img p (by omega) (by omega)
      exact ⟨q, by omega, by omega, e⟩⟩
theorem Res.sw2 {M : List Int} {a b i j : Nat} (hij : i ≠ j) (hi : a ≤ i) (hi2 : i < b) (hj : a ≤ j) (hj2 : j < b) (hb : b ≤ M.length) : Res M (sw2 M i j) a b :=
  ⟨sw2_perm (by omega) (by omega), fun p hp => by
    unfold at'
    rw [sw2_get hij (by omega) (by omega), if_neg (by omega), if_neg (by omega)], fun p h1 h2 => by
    unfold at'
    rw [sw2_get hij (by omega) (by omega)]
    split
    · exact ⟨j, hj, hj2, rfl⟩
    · split
      · exact ⟨i, hi, hi2, rfl⟩
      · exact ⟨p, h1, h2, rfl⟩⟩

/-! ### insertion -/
structure InsI (R : Int → Int) (M : List Int) (a i k : Nat) : Prop where
  rest : ∀ p q, a ≤ p → p < q → q ≤ i → p ≠ k → q ≠ k → Bf R (at' M p) (at' M q)
  up : ∀ q, k < q → q ≤ i → Bf R (at' M k) (at' M q)
  last : ∀ p, a ≤ p → p ≤ i → p ≠ k → at' M p < at' M k
theorem ins_start {R : Int → Int} {M : List Int} {a i : Nat} (h : Srt R M a i) (hl : ∀ p, a ≤ p → p < i → at' M p < at' M i) : InsI R M a i i :=
  ⟨fun p q h1 h2 h3 h4 h5 => h p q h1 h2 (by omega), fun q h1 h2 => by omega, fun p h1 h2 h3 => hl p h1 (by omega)⟩
theorem ins_step {R : Int → Int} {M : List Int} {a i k : Nat} (h : InsI R M a i k) (h0 : a < k) (hk : k ≤ i) (hi : i < M.length) (hl : R (at' M (k - 1)) < R (at' M k)) : InsI R (sw2 M k (k - 1)) a i (k - 1) := by
  have g : ∀ p, at' (sw2 M k (k - 1)) p = if p = k then at' M (k - 1) else if p = k - 1 then at' M k else at' M p := fun p => sw2_get (by omega) (by omega) (by omega) p
  have hb : Bf R (at' M k) (at' M (k - 1)) := Or.inl hl
  refine ⟨fun p q h1 h2 h3 h4 h5 => ?_, fun q h1 h2 => ?_, fun p h1 h2 h3 => ?_⟩
  · rw [g p, g q, if_neg h4, if_neg h5]
    by_cases e1 : p = k
    · rw [if_pos e1, if_neg (by omega)]; exact h.rest (k - 1) q (by omega) (by omega) h3 (by omega) (by omega)
    · rw [if_neg e1]
      by_cases e2 : q = k
      · rw [if_pos e2]; exact h.rest p (k - 1) h1 (by omega) (by omega) e1 (by omega)
      · rw [if_neg e2]; exact h.rest p q h1 h2 h3 e1 e2
  · rw [g (k - 1), g q, if_neg (by omega), if_pos rfl]
    by_cases e2 : q = k
    · rw [if_pos e2]; exact hb
    · rw [if_neg e2, if_neg (by omega)]; exact h.up q (by omega) h2
  · rw [g p, g (k - 1), if_neg h3, if_neg (show ¬ k - 1 = k by omega), if_pos rfl]
    by_cases e1 : p = k
    · rw [if_pos e1]; exact h.last (k - 1) (by omega) (by omega) (by omega)
    · rw [if_neg e1]; exact h.last p h1 h2 e1
theorem ins_end {R : Int → Int} {M : List Int} {a i k : Nat} (h : InsI R M a i k) (hak : a ≤ k) (hk : k ≤ i) (he : k = a ∨ ¬ R (at' M (k - 1)) < R (at' M k)) : Srt R M a (i + 1) := by
  intro p q h1 h2 h3
  by_cases e1 : p = k
  · subst e1; exact h.up q h2 (by omega)
  · by_cases e2 : q = k
    · subst e2
      rcases he with h0 | h0
      · omega
      · have h4 : Bf R (at' M (q - 1)) (at' M q) := (Bf.not_of_lt (h.last (q - 1) (by omega) (by omega) (by omega))).2 h0
        by_cases e3 : p = q - 1
        · rw [e3]; exact h4
        · exact (h.rest p (q - 1) h1 (by omega) (by omega) e1 (by omega)).trans h4
    · exact h.rest p q h1 h2 (by omega) e1 e2

/-! ### one element put among others -/
/-- the element of a goes to k, those between one place down -/
def upF (f : Nat → Int) (a k p : Nat) : Int := if p < a then f p else if p < k then f (p + 1) else if p = k then f a else f p
/-- the element of m goes to k, those between one place up -/
def dnF (f : Nat → Int) (m k p : Nat) : Int := if m < p then f p else if k < p then f (p - 1) else if p = k then f m else f p
theorem upF_start (f : Nat → Int) (a p : Nat) : upF f a a p = f p := by
  unfold upF
  by_cases h : p < a
  · rw [if_pos h]
  · rw [if_neg h, if_neg h]
    split
    · rename_i h2; rw [h2]
    · rfl
theorem dnF_start (f : Nat → Int) (m p : Nat) : dnF f m m p = f p := by
  unfold dnF
  by_cases h : m < p
  · rw [if_pos h]
  · rw [if_neg h, if_neg h]
    split
    · rename_i h2; rw [h2]
    · rfl
theorem upF_step {M : List Int} {f : Nat → Int} {a k : Nat} (hak : a ≤ k) (hk : k + 1 < M.length) (h : ∀ p, at' M p = upF f a k p) (p : Nat) : at' (sw2 M k (k + 1)) p = upF f a (k + 1) p := by
  have g : at' (sw2 M k (k + 1)) p = if p = k then at' M (k + 1) else if p = k + 1 then at' M k else at' M p := sw2_get (by omega) (by omega) (by omega) p
  rw [g, h, h, h]
  unfold upF
  (repeat' split) <;> first | rfl | (exfalso; omega) | (congr 1; omega)
theorem dnF_step {M : List Int} {f : Nat → Int} {m k : Nat} (hkm : k ≤ m) (h0 : 0 < k) (hm : m < M.length) (h : ∀ p, at' M p = dnF f m k p) (p : Nat) : at' (sw2 M k (k - 1)) p = dnF f m (k - 1) p := by
  have g : at' (sw2 M k (k - 1)) p = if p = k then at' M (k - 1) else if p = k - 1 then at' M k else at' M p := sw2_get (by omega) (by omega) (by omega) p
  rw [g, h, h, h]
  unfold dnF
  (repeat' split) <;> first | rfl | (exfalso; omega) | (congr 1; omega)
/-- what a merge finds -/
structure Mrg (R : Int → Int) (M : List Int) (a m b : Nat) : Prop where
  am : a < m
  mb : m < b
  bl : b ≤ M.length
  left : Srt R M a m
  right : Srt R M m b
  less : ∀ p q, a ≤ p → p < m → m ≤ q → q < b → at' M p < at' M q
theorem Mrg.lt_iff {R : Int → Int} {M : List Int} {a m b : Nat} (h : Mrg R M a m b) {p q : Nat} (h1 : a ≤ p) (h2 : p < m) (h3 : m ≤ q) (h4 : q < b) : R (at' M p) < R (at' M q) ↔ Bf R (at' M q) (at' M p) :=
  (Bf.of_lt (h.less p q h1 h2 h3 h4)).symm
theorem Mrg.nlt_iff {R : Int → Int} {M : List Int} {a m b : Nat} (h : Mrg R M a m b) {p q : Nat} (h1 : a ≤ p) (h2 : p < m) (h3 : m ≤ q) (h4 : q < b) : ¬ R (at' M p) < R (at' M q) ↔ Bf R (at' M p) (at' M q) :=
  (Bf.not_of_lt (h.less p q h1 h2 h3 h4)).symm
theorem up_sorted {R : Int → Int} {M M' : List Int} {a b i : Nat} (h : Mrg R M a (a + 1) b) (h1 : a + 1 ≤ i) (h2 : i ≤ b)
    (hlo : ∀ q, a + 1 ≤ q → q < i → R (at' M a) < R (at' M q)) (hhi : ∀ q, i ≤ q → q < b → ¬ R (at' M a) < R (at' M q))
    (hM : ∀ p, at' M' p = upF (at' M) a (i - 1) p) : Srt R M' a b := by
  intro p q hp hpq hq
  rw [hM p, hM q]
  unfold upF
  (repeat' split) <;> first
    | (exfalso; omega)
    | exact h.right _ _ (by omega) (by omega) (by omega)
    | exact (h.lt_iff (Nat.le_refl _) (by omega) (by omega) (by omega)).1 (hlo _ (by omega) (by omega))
    | exact (h.nlt_iff (Nat.le_refl _) (by omega) (by omega) hq).1 (hhi _ (by omega) hq)
theorem dn_sorted {R : Int → Int} {M M' : List Int} {a m i : Nat} (h : Mrg R M a m (m + 1)) (h1 : a ≤ i) (h2 : i ≤ m)
    (hlo : ∀ q, a ≤ q → q < i → ¬ R (at' M q) < R (at' M m)) (hhi : ∀ q, i ≤ q → q < m → R (at' M q) < R (at' M m))
    (hM : ∀ p, at' M' p = dnF (at' M) m i p) : Srt R M' a (m + 1) := by
  intro p q hp hpq hq
  rw [hM p, hM q]
  unfold dnF
  (repeat' split) <;> first
    | (exfalso; omega)
    | exact h.left _ _ (by omega) (by omega) (by omega)
    | exact (h.lt_iff (by omega) (by omega) (Nat.le_refl _) (by omega)).1 (hhi _ (by omega) (by omega))
    | exact (h.nlt_iff (by omega) (by omega) (Nat.le_refl _) (by omega)).1 (hlo _ (by omega) (by omega))

/-! ### two ranges exchanged, a rotation -/
def exF (f : Nat → Int) (x y n p : Nat) : Int := if x ≤ p ∧ p < x + n then f (p - x + y) else if y ≤ p ∧ p < y + n then f (p - y + x) else f p
def rotF (f : Nat → Int) (a m b p : Nat) : Int := if p < a then f p else if p < a + (b - m) then f (p + (m - a)) else if p < b then f (p - (b - m)) else f p
theorem exF_start (f : Nat → Int) (x y p : Nat) : exF f x y 0 p = f p := by
  unfold exF
  (repeat' split) <;> first | rfl | (exfalso; omega) | (congr 1; omega)
theorem exF_step {M : List Int} {f : Nat → Int} {x y n i : Nat} (hxy : x + n ≤ y) (hi : i < n) (hy : y + n ≤ M.length) (h : ∀ p, at' M p = exF f x y i p) (p : Nat) : at' (sw2 M (x + i) (y + i)) p = exF f x y (i + 1) p := by
  have g : at' (sw2 M (x + i) (y + i)) p = if p = x + i then at' M (y + i) else if p = y + i then at' M (x + i) else at' M p := sw2_get (by omega) (by omega) (by omega) p
  rw [g, h, h, h]
  unfold exF
  (repeat' split) <;> first | rfl | (exfalso; omega) | (congr 1; omega)
theorem rot_eq {f : Nat → Int} {m i : Nat} (hi : i ≤ m) (p : Nat) : exF f (m - i) m i p = rotF f (m - i) m (m + i) p := by
  unfold exF rotF
  (repeat' split) <;> first | rfl | (exfalso; omega) | (congr 1; omega)
theorem rot_more {f g : Nat → Int} {m i j : Nat} (hi : i ≤ m) (hij : j < i) (hg : ∀ p, g p = exF f (m - i) m j p) (p : Nat) : rotF g (m - (i - j)) m (m + j) p = rotF f (m - i) m (m + j) p := by
  unfold rotF
  simp only [hg]
  unfold exF
  (repeat' split) <;> first | rfl | (exfalso; omega) | (congr 1; omega)
theorem rot_less {f g : Nat → Int} {m i j : Nat} (hi : i ≤ m) (hij : i < j) (hg : ∀ p, g p = exF f (m - i) (m + j - i) i p) (p : Nat) : rotF g (m - i) m (m + (j - i)) p = rotF f (m - i) m (m + j) p := by
  unfold rotF
  simp only [hg]
  unfold exF
  (repeat' split) <;> first | rfl | (exfalso; omega) | (congr 1; omega)
/-- what is made of M by a rotation stays in its place -/
theorem rot_res {M M' : List Int} {a m b : Nat} (hp : M'.Perm M) (hm : a ≤ m) (hb : m ≤ b) (h : ∀ p, at' M' p = rotF (at' M) a m b p) : Res M M' a b := by
  refine ⟨hp, fun p hp => ?_, fun p h1 h2 => ?_⟩
  · rw [h]; unfold rotF; (repeat' split) <;> first | rfl | (exfalso; omega)
  · rw [h]; unfold rotF
    (repeat' split)
    · exact ⟨p, h1, h2, rfl⟩
    · exact ⟨_, by omega, by omega, rfl⟩
    · exact ⟨_, by omega, by omega, rfl⟩
theorem up_res {M M' : List Int} {a k b : Nat} (hp : M'.Perm M) (hk : a ≤ k) (hb : k < b) (h : ∀ p, at' M' p = upF (at' M) a k p) : Res M M' a b := by
  refine ⟨hp, fun p hp => ?_, fun p h1 h2 => ?_⟩
  · rw [h]; unfold upF; (repeat' split) <;> first | rfl | (exfalso; omega)
  · rw [h]; unfold upF
    (repeat' split)
    · exact ⟨p, h1, h2, rfl⟩
    · exact ⟨_, by omega, by omega, rfl⟩
    · exact ⟨_, by omega, by omega, rfl⟩
    · exact ⟨p, h1, h2, rfl⟩
theorem dn_res {M M' : List Int} {a k m : Nat} (hp : M'.Perm M) (hk : a ≤ k) (hm : k ≤ m) (h : ∀ p, at' M' p = dnF (at' M) m k p) : Res M M' a (m + 1) := by
  refine ⟨hp, fun p hp => ?_, fun p h1 h2 => ?_⟩
  · rw [h]; unfold dnF; (repeat' split) <;> first | rfl | (exfalso; omega)
  · rw [h]; unfold dnF
    (repeat' split)
    · exact ⟨p, h1, h2, rfl⟩
    · exact ⟨_, by omega, by omega, rfl⟩
    · exact ⟨_, by omega, by omega, rfl⟩
    · exact ⟨p, h1, h2, rfl⟩

/-! ### the merge -/
/-- what the search of a merge finds: s of the left, e of the right: s + e = mid + m -/
structure Cutp (R : Int → Int) (M : List Int) (a m b mid s e : Nat) : Prop where
  sum : s + e = mid + m
  as : a ≤ s
  sm : s ≤ m
  me : m ≤ e
  eb : e ≤ b
  smid : s ≤ mid
  mide : mid ≤ e
  lo : ∀ x y, a ≤ x → x < s → e ≤ y → y < b → Bf R (at' M x) (at' M y)
  hi : ∀ x y, s ≤ x → x < m → m ≤ y → y < e → Bf R (at' M y) (at' M x)
theorem cut_lo {R : Int → Int} {M : List Int} {a m b s e : Nat} (h : Mrg R M a m b) (h0 : ∀ x, x + 1 = s → a ≤ x → x < m → m ≤ e → e < b → Bf R (at' M x) (at' M e)) (hs : s ≤ m) (he : m ≤ e) :
    ∀ x y, a ≤ x → x < s → e ≤ y → y < b → Bf R (at' M x) (at' M y) := by
  intro x y h1 h2 h3 h4
  have g := h0 (s - 1) (by omega) (by omega) (by omega) he (by omega)
  have g1 : Bf R (at' M x) (at' M e) := by
    by_cases e1 : x = s - 1
    · rw [e1]; exact g
    · exact (h.left x (s - 1) h1 (by omega) (by omega)).trans g
  by_cases e2 : y = e
  · rw [e2]; exact g1
  · exact g1.trans (h.right e y he (by omega) h4)
theorem cut_hi {R : Int → Int} {M : List Int} {a m b s e : Nat} (h : Mrg R M a m b) (h0 : ∀ y, y + 1 = e → m ≤ y → y < b → a ≤ s → s < m → Bf R (at' M y) (at' M s)) (hs : a ≤ s) (he : e ≤ b) :
    ∀ x y, s ≤ x → x < m → m ≤ y → y < e → Bf R (at' M y) (at' M x) := by
  intro x y h1 h2 h3 h4
  have g := h0 (e - 1) (by omega) (by omega) (by omega) hs (by omega)
  have g1 : Bf R (at' M y) (at' M s) := by
    by_cases e1 : y = e - 1
    · rw [e1]; exact g
    · exact (h.right y (e - 1) h3 (by omega) (by omega)).trans g
  by_cases e2 : x = s
  · rw [e2]; exact g1
  · exact g1.trans (h.left s x hs (by omega) h2)
theorem cut_left {R : Int → Int} {M M1 : List Int} {a m b mid s e : Nat} (h : Mrg R M a m b) (c : Cutp R M a m b mid s e) (hr : Res M M1 s e) (hf : ∀ p, at' M1 p = rotF (at' M) s m e p) (h1 : a < s) (h2 : s < mid) : Mrg R M1 a s mid := by
  have := c.sum; have := c.me; have := c.sm; have := c.eb; have := h.bl; have := hr.length; have := c.mide
  refine ⟨h1, h2, by omega, ?_, ?_, ?_⟩
  · intro p q g1 g2 g3
    rw [hr.out p (Or.inl (by omega)), hr.out q (Or.inl g3)]
    exact h.left p q g1 g2 (by omega)
  · intro p q g1 g2 g3
    rw [hf, hf]; unfold rotF
    rw [if_neg (by omega), if_pos (by omega), if_neg (by omega), if_pos (by omega)]
    exact h.right _ _ (by omega) (by omega) (by omega)
  · intro p q g1 g2 g3 g4
    rw [hr.out p (Or.inl (by omega)), hf]; unfold rotF
    rw [if_neg (by omega), if_pos (by omega)]
    exact h.less _ _ g1 (by omega) (by omega) (by omega)
theorem cut_right {R : Int → Int} {M M1 : List Int} {a m b mid s e : Nat} (h : Mrg R M a m b) (c : Cutp R M a m b mid s e) (hr : Res M M1 s e) (hf : ∀ p, at' M1 p = rotF (at' M) s m e p) (h1 : mid < e) (h2 : e < b) : Mrg R M1 mid e b := by
  have := c.sum; have := c.me; have := c.sm; have := c.eb; have := h.bl; have := hr.length; have := c.smid; have := c.as
  refine ⟨h1, h2, by omega, ?_, ?_, ?_⟩
  · intro p q g1 g2 g3
    rw [hf, hf]; unfold rotF
    rw [if_neg (by omega), if_neg (by omega), if_pos (by omega), if_neg (by omega), if_neg (by omega), if_pos (by omega)]
    exact h.left _ _ (by omega) (by omega) (by omega)
  · intro p q g1 g2 g3
    rw [hr.out p (Or.inr (by omega)), hr.out q (Or.inr (by omega))]
    exact h.right p q (by omega) g2 g3
  · intro p q g1 g2 g3 g4
    rw [hr.out q (Or.inr (by omega)), hf]; unfold rotF
    rw [if_neg (by omega), if_neg (by omega), if_pos (by omega)]
    exact h.less _ _ (by omega) (by omega) (by omega) g4
/-- left of mid all stand before those right of it -/
theorem cut_mid {R : Int → Int} {M M1 : List Int} {a m b mid s e : Nat} (h : Mrg R M a m b) (c : Cutp R M a m b mid s e) (hf : ∀ p, at' M1 p = rotF (at' M) s m e p) : ∀ p q, a ≤ p → p < mid → mid ≤ q → q < b → Bf R (at' M1 p) (at' M1 q) := by
  intro p q g1 g2 g3 g4
  have := c.sum; have := c.me; have := c.sm; have := c.eb; have := c.smid; have := c.as; have := c.mide
  rw [hf, hf]; unfold rotF
  by_cases e1 : p < s
  · rw [if_pos e1, if_neg (by omega), if_neg (by omega)]
    by_cases e2 : q < e
    · rw [if_pos e2]; exact h.left _ _ g1 (by omega) (by omega)
    · rw [if_neg e2]; exact c.lo _ _ g1 e1 (by omega) g4
  · rw [if_neg e1, if_pos (by omega), if_neg (by omega), if_neg (by omega)]
    by_cases e2 : q < e
    · rw [if_pos e2]; exact c.hi _ _ (by omega) (by omega) (by omega) (by omega)
    · rw [if_neg e2]; exact h.right _ _ (by omega) (by omega) g4
/-- both halves sorted: all is -/
theorem halves {R : Int → Int} {M1 M2 M3 : List Int} {a mid b : Nat} (h : ∀ p q, a ≤ p → p < mid → mid ≤ q → q < b → Bf R (at' M1 p) (at' M1 q)) (r1 : Res M1 M2 a mid) (s1 : Srt R M2 a mid) (r2 : Res M2 M3 mid b) (s2 : Srt R M3 mid b) : Srt R M3 a b := by
  intro p q h1 h2 h3
  by_cases e1 : q < mid
  · rw [r2.out p (Or.inl (by omega)), r2.out q (Or.inl e1)]; exact s1 p q h1 h2 e1
  · by_cases e2 : mid ≤ p
    · exact s2 p q e2 h2 h3
    · rw [r2.out p (Or.inl (by omega))]
      obtain ⟨q', g1, g2, e⟩ := r2.img q (by omega) h3
      rw [e, r1.out q' (Or.inr (by omega))]
      obtain ⟨p', k1, k2, e'⟩ := r1.img p h1 (by omega)
      rw [e']
      exact h p' q' k1 k2 g1 g2
theorem Srt.mono {R : Int → Int} {M : List Int} {a b c d : Nat} (h : Srt R M a b) (h1 : a ≤ c) (h2 : d ≤ b) : Srt R M c d := fun p q g1 g2 g3 => h p q (by omega) g2 (by omega)
theorem Mrg.lo {R : Int → Int} {M : List Int} {a m b p h : Nat} (g : Mrg R M a m b) (hp : a ≤ p) (hpm : p < m) (hh : h < b) (hc : R (at' M p) < R (at' M h)) : ∀ q, m ≤ q → q ≤ h → R (at' M p) < R (at' M q) := by
  intro q h1 h2
  by_cases e : q = h
  · rw [e]; exact hc
  · exact (g.lt_iff hp hpm h1 (by omega)).2 ((g.right q h h1 (by omega) hh).trans ((g.lt_iff hp hpm (by omega) hh).1 hc))
theorem Mrg.hi {R : Int → Int} {M : List Int} {a m b p h : Nat} (g : Mrg R M a m b) (hp : a ≤ p) (hpm : p < m) (hh : m ≤ h) (hc : ¬ R (at' M p) < R (at' M h)) : ∀ q, h ≤ q → q < b → ¬ R (at' M p) < R (at' M q) := by
  intro q h1 h2
  by_cases e : q = h
  · rw [e]; exact hc
  · exact (g.nlt_iff hp hpm (by omega) h2).2 (((g.nlt_iff hp hpm hh (by omega)).1 hc).trans (g.right h q hh (by omega) h2))
theorem Mrg.lo' {R : Int → Int} {M : List Int} {a m b p h : Nat} (g : Mrg R M a m b) (hp : m ≤ p) (hpb : p < b) (hh : h < m) (hc : ¬ R (at' M h) < R (at' M p)) : ∀ q, a ≤ q → q ≤ h → ¬ R (at' M q) < R (at' M p) := by
  intro q h1 h2
  by_cases e : q = h
  · rw [e]; exact hc
  · exact (g.nlt_iff h1 (by omega) hp hpb).2 ((g.left q h h1 (by omega) hh).trans ((g.nlt_iff (by omega) hh hp hpb).1 hc))
theorem Mrg.hi' {R : Int → Int} {M : List Int} {a m b p h : Nat} (g : Mrg R M a m b) (hp : m ≤ p) (hpb : p < b) (hh : a ≤ h) (hc : R (at' M h) < R (at' M p)) : ∀ q, h ≤ q → q < m → R (at' M q) < R (at' M p) := by
  intro q h1 h2
  by_cases e : q = h
  · rw [e]; exact hc
  · exact (g.lt_iff (by omega) h2 hp hpb).2 (((g.lt_iff hh (by omega) hp hpb).1 hc).trans (g.left h q hh (by omega) h2))
theorem rotF_id {f : Nat → Int} {s m e : Nat} (h1 : s ≤ m) (h2 : m ≤ e) (h : s = m ∨ m = e) (p : Nat) : rotF f s m e p = f p := by
  unfold rotF
  (repeat' split) <;> first | rfl | (exfalso; omega) | (congr 1; omega)
theorem cut_of {R : Int → Int} {M : List Int} {a m b mid s : Nat} (h : Mrg R M a m b) (hmid : mid = (a + b) / 2) (hab : a + 4 ≤ b) (hs0 : (mid < m ∧ mid + m - b ≤ s ∧ s ≤ mid) ∨ (m ≤ mid ∧ a ≤ s ∧ s ≤ m))
    (hlo : (mid < m ∧ s = mid + m - b) ∨ (m ≤ mid ∧ s = a) ∨ ¬ R (at' M (s - 1)) < R (at' M (mid + m - 1 - (s - 1))))
    (hhi : (mid < m ∧ s = mid) ∨ (m ≤ mid ∧ s = m) ∨ R (at' M s) < R (at' M (mid + m - 1 - s))) : Cutp R M a m b mid s (mid + m - s) := by
  have := h.am; have := h.mb
  refine ⟨by omega, by omega, by omega, by omega, by omega, by omega, by omega, ?_, ?_⟩
  · refine cut_lo h (fun x h1 h2 h3 h4 h5 => ?_) (by omega) (by omega)
    rcases hlo with h6 | h6 | h6
    · omega
    · omega
    · have e1 : s - 1 = x := by omega
      have e2 : mid + m - 1 - (s - 1) = mid + m - s := by omega
      rw [e1] at h6
      rw [← e1, e2, e1] at h6
      exact (h.nlt_iff h2 h3 h4 h5).1 h6
  · refine cut_hi h (fun y h1 h2 h3 h4 h5 => ?_) (by omega) (by omega)
    rcases hhi with h6 | h6 | h6
    · omega
    · omega
    · have e1 : mid + m - 1 - s = y := by omega
      rw [e1] at h6
      exact (h.lt_iff h4 h5 h2 h3).1 h6
theorem cut_left_sorted {R : Int → Int} {M M1 : List Int} {a m b mid s e : Nat} (h : Mrg R M a m b) (c : Cutp R M a m b mid s e) (hf : ∀ p, at' M1 p = rotF (at' M) s m e p) (h1 : ¬ (a < s ∧ s < mid)) : Srt R M1 a mid := by
  have := c.sum; have := c.as; have := c.sm; have := c.me; have := c.eb; have := c.smid; have := c.mide
  intro p q g1 g2 g3
  rw [hf, hf]; unfold rotF
  (repeat' split) <;> first
    | (exfalso; omega)
    | exact h.left _ _ (by omega) (by omega) (by omega)
    | exact h.right _ _ (by omega) (by omega) (by omega)
theorem cut_right_sorted {R : Int → Int} {M M1 : List Int} {a m b mid s e : Nat} (h : Mrg R M a m b) (c : Cutp R M a m b mid s e) (hf : ∀ p, at' M1 p = rotF (at' M) s m e p) (h1 : ¬ (mid < e ∧ e < b)) : Srt R M1 mid b := by
  have := c.sum; have := c.as; have := c.sm; have := c.me; have := c.eb; have := c.smid; have := c.mide
  intro p q g1 g2 g3
  rw [hf, hf]; unfold rotF
  (repeat' split) <;> first
    | (exfalso; omega)
    | exact h.left _ _ (by omega) (by omega) (by omega)
    | exact h.right _ _ (by omega) (by omega) (by omega)
theorem Mrg.congr {R : Int → Int} {M M' : List Int} {a m b : Nat} (h : Mrg R M a m b) (hl : M'.length = M.length) (he : ∀ p, a ≤ p → p < b → at' M' p = at' M p) : Mrg R M' a m b := by
  have := h.am; have := h.mb
  exact ⟨h.am, h.mb, by rw [hl]; exact h.bl, fun p q g1 g2 g3 => by rw [he p g1 (by omega), he q (by omega) (by omega)]; exact h.left p q g1 g2 g3,
    fun p q g1 g2 g3 => by rw [he p (by omega) (by omega), he q (by omega) g3]; exact h.right p q g1 g2 g3,
    fun p q g1 g2 g3 g4 => by rw [he p g1 (by omega), he q (by omega) g4]; exact h.less p q g1 g2 g3 g4⟩
theorem Srt.congr {R : Int → Int} {M M' : List Int} {a b : Nat} (h : Srt R M a b) (he : ∀ p, a ≤ p → p < b → at' M' p = at' M p) : Srt R M' a b := fun p q g1 g2 g3 => by
  rw [he p g1 (by omega), he q (by omega) g3]; exact h p q g1 g2 g3
end Stb
end Go.Proofs.Ytbkpoepacjinlaa
