/- Several texts of this claim in one. -/
/- Sets of spans, in plain words: what belongs to one, and that a right one is told by what belongs to it. -/
namespace Sp
def mem (l : List (Int × Int)) (n : Int) : Prop := ∃ x, x ∈ l ∧ x.1 ≤ n ∧ n ≤ x.2
/-- each begins not behind its end; behind each at least one number is missing -/
def Norm : List (Int × Int) → Prop
  | [] => True
  | x :: l => x.1 ≤ x.2 ∧ (∀ y, y ∈ l → x.2 + 2 ≤ y.1) ∧ Norm l
theorem mem_nil (n : Int) : ¬ mem [] n := fun ⟨_, h, _⟩ => by cases h
theorem mem_cons {x : Int × Int} {l : List (Int × Int)} {n : Int} : mem (x :: l) n ↔ (x.1 ≤ n ∧ n ≤ x.2) ∨ mem l n := by
  constructor
  · rintro ⟨y, hy, h⟩
    rcases List.mem_cons.1 hy with rfl | hy
    · exact Or.inl h
    · exact Or.inr ⟨y, hy, h⟩
  · rintro (h | ⟨y, hy, h⟩)
    · exact ⟨x, List.mem_cons_self .., h⟩
    · exact ⟨y, List.mem_cons_of_mem _ hy, h⟩
theorem mem_append {a b : List (Int × Int)} {n : Int} : mem (a ++ b) n ↔ mem a n ∨ mem b n := by
  constructor
  · rintro ⟨y, hy, h⟩
    rcases List.mem_append.1 hy with hy | hy
    · exact Or.inl ⟨y, hy, h⟩
    · exact Or.inr ⟨y, hy, h⟩
  · rintro (⟨y, hy, h⟩ | ⟨y, hy, h⟩)
    · exact ⟨y, List.mem_append_left _ hy, h⟩
    · exact ⟨y, List.mem_append_right _ hy, h⟩
theorem mem_one {x : Int × Int} {n : Int} : mem [x] n ↔ x.1 ≤ n ∧ n ≤ x.2 := by
  rw [mem_cons]
  exact ⟨fun h => h.elim id (fun h => absurd h (mem_nil n)), Or.inl⟩
theorem Norm.each : ∀ {l : List (Int × Int)}, Norm l → ∀ x, x ∈ l → x.1 ≤ x.2
  | [], _, x, hx => by cases hx
  | y :: l, h, x, hx => by
    rcases List.mem_cons.1 hx with rfl | hx
    · exact h.1
    · exact h.2.2.each x hx
theorem norm_snoc {z : Int × Int} : ∀ {o : List (Int × Int)}, Norm (o ++ [z]) ↔ Norm o ∧ z.1 ≤ z.2 ∧ ∀ y, y ∈ o → y.2 + 2 ≤ z.1
  | [] => ⟨fun h => ⟨trivial, h.1, fun y hy => by cases hy⟩, fun h => ⟨h.2.1, (fun y hy => by cases hy), trivial⟩⟩
  | x :: o => by
    constructor
    · intro h
      obtain ⟨h1, h2, h3⟩ := (show Norm (x :: (o ++ [z])) from h)
      obtain ⟨k1, k2, k3⟩ := norm_snoc.1 h3
      refine ⟨⟨h1, fun y hy => h2 y (List.mem_append_left _ hy), k1⟩, k2, fun y hy => ?_⟩
      rcases List.mem_cons.1 hy with rfl | hy
      · exact h2 z (List.mem_append_right _ (List.mem_cons_self ..))
      · exact k3 y hy
    · rintro ⟨⟨h1, h2, h3⟩, h4, h5⟩
      refine (show Norm (x :: (o ++ [z])) from ⟨h1, fun y hy => ?_, norm_snoc.2 ⟨h3, h4, fun y hy => h5 y (List.mem_cons_of_mem _ hy)⟩⟩)
      rcases List.mem_append.1 hy with hy | hy
      · exact h2 y hy
      · rw [List.mem_singleton.1 hy]
        exact h5 x (List.mem_cons_self ..)
/-- a right row is told by what belongs to it -/
theorem norm_unique : ∀ {l k : List (Int × Int)}, Norm l → Norm k → (∀ n, mem l n ↔ mem k n) → l = k
  | [], [], _, _, _ => rfl
  | [], y :: k, _, hk, h => absurd ((h y.1).2 (mem_cons.2 (Or.inl ⟨Int.le_refl _, hk.1⟩))) (mem_nil _)
  | x :: l, [], hl, _, h => absurd ((h x.1).1 (mem_cons.2 (Or.inl ⟨Int.le_refl _, hl.1⟩))) (mem_nil _)
  | x :: l, y :: k, hl, hk, h => by
    have low : ∀ {x : Int × Int} {l : List (Int × Int)} {n : Int}, Norm (x :: l) → mem l n → x.2 + 2 ≤ n := fun hl hm => by
      obtain ⟨z, hz, h1, _⟩ := hm
      have := hl.2.1 z hz
      omega
    have e1 : x.1 = y.1 := by
      have a := mem_cons.1 ((h x.1).1 (mem_cons.2 (Or.inl ⟨Int.le_refl _, hl.1⟩)))
      have b := mem_cons.1 ((h y.1).2 (mem_cons.2 (Or.inl ⟨Int.le_refl _, hk.1⟩)))
      have h1 := hl.1
      have h2 := hk.1
      rcases a with a | a
      · rcases b with b | b
        · omega
        · have := low hl b
          omega
      · have := low hk a
        rcases b with b | b
        · omega
        · have := low hl b
          omega
    have e2 : x.2 = y.2 := by
      have h1 := hl.1
      have h2 := hk.1
      rcases Int.lt_trichotomy x.2 y.2 with hlt | heq | hgt
      · have a := mem_cons.1 ((h (x.2 + 1)).2 (mem_cons.2 (Or.inl (by omega))))
        rcases a with a | a
        · omega
        · have := low hl a
          omega
      · exact heq
      · have a := mem_cons.1 ((h (y.2 + 1)).1 (mem_cons.2 (Or.inl (by omega))))
        rcases a with a | a
        · omega
        · have := low hk a
          omega
    have e : x = y := Prod.ext e1 e2
    subst e
    rw [norm_unique hl.2.2 hk.2.2 (fun n => by
      constructor
      · intro hm
        have := low hl hm
        rcases mem_cons.1 ((h n).1 (mem_cons.2 (Or.inr hm))) with a | a
        · omega
        · exact a
      · intro hm
        have := low hk hm
        rcases mem_cons.1 ((h n).2 (mem_cons.2 (Or.inr hm))) with a | a
        · omega
        · exact a)]
/-! ### spans in the order of their beginnings, joined -/
def joinStep (out : List (Int × Int)) (s : Int × Int) : List (Int × Int) :=
  match out.getLast? with
  | none => [s]
  | some z => if s.1 ≤ z.2 + 1 then out.dropLast ++ [(z.1, max z.2 s.2)] else out ++ [s]
theorem joinStep_nil (s : Int × Int) : joinStep [] s = [s] := rfl
theorem joinStep_snoc (o : List (Int × Int)) (z s : Int × Int) : joinStep (o ++ [z]) s = if s.1 ≤ z.2 + 1 then o ++ [(z.1, max z.2 s.2)] else (o ++ [z]) ++ [s] := by
  unfold joinStep
  rw [List.getLast?_concat, List.dropLast_concat]
def joinAll (l : List (Int × Int)) : List (Int × Int) := l.foldl joinStep []
/-- what the rounds keep: a right row, what belongs to it, and its last one begins not behind the next one -/
structure Join (out done : List (Int × Int)) : Prop where
  n : Norm out
  m : ∀ n, mem out n ↔ mem done n
  b : ∀ y, y ∈ out → ∃ x, x ∈ done ∧ y.1 = x.1
theorem snoc_cases (out : List (Int × Int)) : out = [] ∨ ∃ o z, out = o ++ [z] := by
  rcases List.eq_nil_or_concat out with h | ⟨o, z, h⟩
  · exact Or.inl h
  · exact Or.inr ⟨o, z, by rw [h, List.concat_eq_append]⟩
theorem Join.step {out done : List (Int × Int)} {s : Int × Int} (h : Join out done) (hs : s.1 ≤ s.2) (hle : ∀ x, x ∈ done → x.1 ≤ s.1) : Join (joinStep out s) (done ++ [s]) := by
  rcases snoc_cases out with rfl | ⟨o, z, rfl⟩
  · rw [joinStep_nil]
    refine ⟨⟨hs, (fun y hy => by cases hy), trivial⟩, fun n => ?_, fun y hy => ⟨s, List.mem_append_right _ (List.mem_cons_self ..), by rw [List.mem_singleton.1 hy]⟩⟩
    rw [mem_append, ← h.m n]
    exact ⟨Or.inr, fun h => h.elim (fun h => absurd h (mem_nil n)) id⟩
  · obtain ⟨h1, h2, h3⟩ := norm_snoc.1 h.n
    obtain ⟨x, hx, hzx⟩ := h.b z (List.mem_append_right _ (List.mem_cons_self ..))
    have hzs := hle x hx
    rw [joinStep_snoc]
    by_cases hj : s.1 ≤ z.2 + 1
    · rw [if_pos hj]
      refine ⟨norm_snoc.2 ⟨h1, by show z.1 ≤ max z.2 s.2; omega, h3⟩, fun n => ?_, fun y hy => ?_⟩
      · have hm := h.m n
        rw [mem_append, mem_one] at hm
        rw [mem_append, mem_one, mem_append, mem_one, ← hm]
        show mem o n ∨ z.1 ≤ n ∧ n ≤ max z.2 s.2 ↔ (mem o n ∨ z.1 ≤ n ∧ n ≤ z.2) ∨ s.1 ≤ n ∧ n ≤ s.2
        constructor
        · rintro (a | a)
          · exact Or.inl (Or.inl a)
          · by_cases hn : n ≤ z.2
            · exact Or.inl (Or.inr ⟨a.1, hn⟩)
            · exact Or.inr (by omega)
        · rintro ((a | a) | a)
          · exact Or.inl a
          · exact Or.inr (by omega)
          · exact Or.inr (by omega)
      · rcases List.mem_append.1 hy with hy | hy
        · obtain ⟨w, hw, e⟩ := h.b y (List.mem_append_left _ hy)
          exact ⟨w, List.mem_append_left _ hw, e⟩
        · rw [List.mem_singleton.1 hy]
          exact ⟨x, List.mem_append_left _ hx, hzx⟩
    · rw [if_neg hj]
      refine ⟨norm_snoc.2 ⟨h.n, hs, fun y hy => ?_⟩, fun n => ?_, fun y hy => ?_⟩
      · rcases List.mem_append.1 hy with hy | hy
        · have := h3 y hy
          omega
        · rw [List.mem_singleton.1 hy]
          omega
      · rw [mem_append, mem_append (a := done), h.m n]
      · rcases List.mem_append.1 hy with hy | hy
        · obtain ⟨w, hw, e⟩ := h.b y hy
          exact ⟨w, List.mem_append_left _ hw, e⟩
        · exact ⟨s, List.mem_append_right _ (List.mem_cons_self ..), by rw [List.mem_singleton.1 hy]⟩
theorem join_fold : ∀ (l out done : List (Int × Int)), Join out done → (∀ x, x ∈ l → x.1 ≤ x.2) → (done ++ l).Pairwise (fun x y => x.1 ≤ y.1) → Join (l.foldl joinStep out) (done ++ l)
  | [], out, done, h, _, _ => by rw [List.append_nil]; exact h
  | s :: l, out, done, h, hs, hp => by
    have e : done ++ s :: l = (done ++ [s]) ++ l := by rw [List.append_assoc]; rfl
    rw [List.foldl_cons, e]
    rw [e] at hp
    refine join_fold l _ _ (h.step (hs s (List.mem_cons_self ..)) (fun x hx => ?_)) (fun x hx => hs x (List.mem_cons_of_mem _ hx)) hp
    have h2 := (List.pairwise_append.1 (List.pairwise_append.1 hp).1).2.2
    exact h2 x hx s (List.mem_cons_self ..)
/-- joined in the order of their beginnings: a right row of what belongs to them -/
theorem join_all {l : List (Int × Int)} (h : ∀ x, x ∈ l → x.1 ≤ x.2) (hp : l.Pairwise (fun x y => x.1 ≤ y.1)) : Norm (joinAll l) ∧ ∀ n, mem (joinAll l) n ↔ mem l n := by
  have := join_fold l [] [] ⟨trivial, fun n => Iff.rfl, fun y hy => by cases hy⟩ h hp
  exact ⟨this.n, this.m⟩
/-! ### what belongs to both -/
def com : Nat → List (Int × Int) → List (Int × Int) → List (Int × Int)
  | 0, _, _ => []
  | _ + 1, [], _ => []
  | _ + 1, _ :: _, [] => []
  | f + 1, x :: a, y :: b => (if max x.1 y.1 ≤ min x.2 y.2 then [(max x.1 y.1, min x.2 y.2)] else []) ++ (if x.2 < y.2 then com f a (y :: b) else com f (x :: a) b)
theorem com_of : ∀ (f : Nat) (a b : List (Int × Int)) (z : Int × Int), z ∈ com f a b → ∃ x y, x ∈ a ∧ y ∈ b ∧ z = (max x.1 y.1, min x.2 y.2) ∧ z.1 ≤ z.2
  | 0, _, _, z, h => by cases h
  | _ + 1, [], _, z, h => by cases h
  | _ + 1, _ :: _, [], z, h => by cases h
  | f + 1, x :: a, y :: b, z, h => by
    rw [com] at h
    rcases List.mem_append.1 h with h | h
    · split at h
      · rename_i hc
        rw [List.mem_singleton.1 h]
        exact ⟨x, y, List.mem_cons_self .., List.mem_cons_self .., rfl, hc⟩
      · cases h
    · split at h
      · obtain ⟨u, v, hu, hv, e⟩ := com_of f a (y :: b) z h
        exact ⟨u, v, List.mem_cons_of_mem _ hu, hv, e⟩
      · obtain ⟨u, v, hu, hv, e⟩ := com_of f (x :: a) b z h
        exact ⟨u, v, hu, List.mem_cons_of_mem _ hv, e⟩
theorem com_norm : ∀ (f : Nat) (a b : List (Int × Int)), Norm a → Norm b → Norm (com f a b)
  | 0, _, _, _, _ => trivial
  | _ + 1, [], _, _, _ => trivial
  | _ + 1, _ :: _, [], _, _ => trivial
  | f + 1, x :: a, y :: b, ha, hb => by
    rw [com]
    by_cases hlt : x.2 < y.2
    · rw [if_pos hlt]
      have ih := com_norm f a (y :: b) ha.2.2 hb
      split
      · rename_i hc
        refine ⟨hc, fun z hz => ?_, ih⟩
        obtain ⟨u, v, hu, _, rfl, _⟩ := com_of f a (y :: b) z hz
        have := ha.2.1 u hu
        show min x.2 y.2 + 2 ≤ max u.1 v.1
        omega
      · exact ih
    · rw [if_neg hlt]
      have ih := com_norm f (x :: a) b ha hb.2.2
      split
      · rename_i hc
        refine ⟨hc, fun z hz => ?_, ih⟩
        obtain ⟨u, v, _, hv, rfl, _⟩ := com_of f (x :: a) b z hz
        have := hb.2.1 v hv
        show min x.2 y.2 + 2 ≤ max u.1 v.1
        omega
      · exact ih
theorem com_mem : ∀ (f : Nat) (a b : List (Int × Int)) (n : Int), a.length + b.length ≤ f → Norm a → Norm b → (mem (com f a b) n ↔ mem a n ∧ mem b n)
  | 0, a, b, n, hf, _, _ => by
    have : a = [] := List.length_eq_zero_iff.1 (by omega)
    subst this
    exact ⟨fun h => absurd h (mem_nil n), fun h => absurd h.1 (mem_nil n)⟩
  | _ + 1, [], b, n, _, _, _ => ⟨fun h => absurd h (mem_nil n), fun h => absurd h.1 (mem_nil n)⟩
  | _ + 1, _ :: _, [], n, _, _, _ => ⟨fun h => absurd h (mem_nil n), fun h => absurd h.2 (mem_nil n)⟩
  | f + 1, x :: a, y :: b, n, hf, ha, hb => by
    have lowa : ∀ {m}, mem a m → x.2 + 2 ≤ m := fun ⟨z, hz, h1, _⟩ => by have := ha.2.1 z hz; omega
    have lowb : ∀ {m}, mem b m → y.2 + 2 ≤ m := fun ⟨z, hz, h1, _⟩ => by have := hb.2.1 z hz; omega
    have piece : mem (if max x.1 y.1 ≤ min x.2 y.2 then [(max x.1 y.1, min x.2 y.2)] else []) n ↔ (x.1 ≤ n ∧ n ≤ x.2) ∧ y.1 ≤ n ∧ n ≤ y.2 := by
      split
      · rw [mem_one]
        show max x.1 y.1 ≤ n ∧ n ≤ min x.2 y.2 ↔ _
        omega
      · exact ⟨fun h => absurd h (mem_nil n), fun h => by omega⟩
    simp only [List.length_cons] at hf
    rw [com, mem_append, piece]
    by_cases hlt : x.2 < y.2
    · rw [if_pos hlt, com_mem f a (y :: b) n (by simp only [List.length_cons]; omega) ha.2.2 hb, mem_cons (x := x), mem_cons]
      constructor
      · rintro (h | h)
        · exact ⟨Or.inl h.1, Or.inl h.2⟩
        · exact ⟨Or.inr h.1, h.2⟩
      · rintro ⟨h1 | h1, h2⟩
        · rcases h2 with h2 | h2
          · exact Or.inl ⟨h1, h2⟩
          · have := lowb h2
            omega
        · exact Or.inr ⟨h1, h2⟩
    · rw [if_neg hlt, com_mem f (x :: a) b n (by simp only [List.length_cons]; omega) ha hb.2.2, mem_cons (x := x), mem_cons]
      constructor
      · rintro (h | h)
        · exact ⟨Or.inl h.1, Or.inl h.2⟩
        · exact ⟨h.1, Or.inr h.2⟩
      · rintro ⟨h1, h2 | h2⟩
        · rcases h1 with h1 | h1
          · exact Or.inl ⟨h1, h2⟩
          · have := lowa h1
            omega
        · exact Or.inr ⟨h1, h2⟩
end Sp

/- Sets of spans, in plain words: what belongs to the first one alone; what the ends of spans tell. -/
namespace Sp
/-! ### without -/
def cutS (to : Int) : Int → List (Int × Int) → List (Int × Int)
  | fr, [] => if fr ≤ to then [(fr, to)] else []
  | fr, y :: b => if y.1 ≤ to then (if fr < y.1 then [(fr, y.1 - 1)] else []) ++ cutS to (y.2 + 1) b else if fr ≤ to then [(fr, to)] else []
theorem mem_if {c : Prop} [Decidable c] {x : Int × Int} {n : Int} : mem (if c then [x] else []) n ↔ c ∧ x.1 ≤ n ∧ n ≤ x.2 := by
  by_cases h : c
  · rw [if_pos h, mem_one]; exact ⟨fun a => ⟨h, a⟩, fun a => a.2⟩
  · rw [if_neg h]; exact ⟨fun a => absurd a (mem_nil n), fun a => absurd a.1 h⟩
theorem cut_in (to : Int) : ∀ (b : List (Int × Int)) (fr : Int), Norm b → (∀ y, y ∈ b → fr ≤ y.2) → ∀ z, z ∈ cutS to fr b → fr ≤ z.1 ∧ z.1 ≤ z.2 ∧ z.2 ≤ to
  | [], fr, _, _, z, hz => by
    rw [cutS] at hz
    split at hz
    · rename_i h
      rw [List.mem_singleton.1 hz]
      exact ⟨Int.le_refl _, h, Int.le_refl _⟩
    · cases hz
  | y :: b, fr, hb, hf, z, hz => by
    have hy := hf y (List.mem_cons_self ..)
    have h1 := hb.1
    rw [cutS] at hz
    split at hz
    · rename_i ht
      rcases List.mem_append.1 hz with hz | hz
      · split at hz
        · rename_i hlt
          rw [List.mem_singleton.1 hz]
          exact ⟨Int.le_refl _, by show fr ≤ y.1 - 1; omega, by show y.1 - 1 ≤ to; omega⟩
        · cases hz
      · have ih := cut_in to b (y.2 + 1) hb.2.2 (fun w hw => by have := hb.2.1 w hw; have := hb.2.2.each w hw; omega) z hz
        omega
    · split at hz
      · rename_i h
        rw [List.mem_singleton.1 hz]
        exact ⟨Int.le_refl _, h, Int.le_refl _⟩
      · cases hz
theorem norm_one_if {c : Prop} [Decidable c] {x : Int × Int} (h : c → x.1 ≤ x.2) : Norm (if c then [x] else []) := by
  by_cases hc : c
  · rw [if_pos hc]; exact ⟨h hc, (fun y hy => by cases hy), trivial⟩
  · rw [if_neg hc]; trivial
theorem cut_norm (to : Int) : ∀ (b : List (Int × Int)) (fr : Int), Norm b → (∀ y, y ∈ b → fr ≤ y.2) → Norm (cutS to fr b)
  | [], fr, _, _ => by rw [cutS]; exact norm_one_if id
  | y :: b, fr, hb, hf => by
    have h1 := hb.1
    have hrest : ∀ w, w ∈ b → y.2 + 1 ≤ w.2 := fun w hw => by have := hb.2.1 w hw; have := hb.2.2.each w hw; omega
    rw [cutS]
    split
    · have ih := cut_norm to b (y.2 + 1) hb.2.2 hrest
      split
      · refine ⟨by show fr ≤ y.1 - 1; omega, fun z hz => ?_, ih⟩
        have := cut_in to b (y.2 + 1) hb.2.2 hrest z hz
        show y.1 - 1 + 2 ≤ z.1
        omega
      · exact ih
    · exact norm_one_if id
theorem cut_mem (to : Int) : ∀ (b : List (Int × Int)) (fr n : Int), Norm b → (∀ y, y ∈ b → fr ≤ y.2) → (mem (cutS to fr b) n ↔ (fr ≤ n ∧ n ≤ to) ∧ ¬ mem b n)
  | [], fr, n, _, _ => by
    rw [cutS, mem_if]
    constructor
    · rintro ⟨_, h⟩
      exact ⟨h, mem_nil n⟩
    · rintro ⟨h, _⟩
      exact ⟨by omega, h⟩
  | y :: b, fr, n, hb, hf => by
    have h1 := hb.1
    have hy := hf y (List.mem_cons_self ..)
    have hrest : ∀ w, w ∈ b → y.2 + 1 ≤ w.2 := fun w hw => by have := hb.2.1 w hw; have := hb.2.2.each w hw; omega
    have low : mem b n → y.2 + 2 ≤ n := fun ⟨z, hz, k1, _⟩ => by have := hb.2.1 z hz; omega
    rw [cutS]
    by_cases ht : y.1 ≤ to
    · rw [if_pos ht, mem_append, mem_if, cut_mem to b (y.2 + 1) n hb.2.2 hrest, mem_cons]
      show fr < y.1 ∧ fr ≤ n ∧ n ≤ y.1 - 1 ∨ (y.2 + 1 ≤ n ∧ n ≤ to) ∧ ¬ mem b n ↔ (fr ≤ n ∧ n ≤ to) ∧ ¬ ((y.1 ≤ n ∧ n ≤ y.2) ∨ mem b n)
      constructor
      · rintro (h | h)
        · refine ⟨by omega, fun hn => ?_⟩
          rcases hn with hn | hn
          · omega
          · have := low hn
            omega
        · refine ⟨by omega, fun hn => ?_⟩
          rcases hn with hn | hn
          · omega
          · exact h.2 hn
      · rintro ⟨h, hn⟩
        by_cases hlt : n < y.1
        · exact Or.inl (by omega)
        · refine Or.inr ⟨?_, fun hm => hn (Or.inr hm)⟩
          have : ¬ (y.1 ≤ n ∧ n ≤ y.2) := fun h => hn (Or.inl h)
          omega
    · rw [if_neg ht, mem_if, mem_cons]
      constructor
      · rintro ⟨_, h⟩
        have h : fr ≤ n ∧ n ≤ to := h
        refine ⟨h, fun hn => ?_⟩
        rcases hn with hn | hn
        · omega
        · have := low hn
          omega
      · rintro ⟨h, _⟩
        exact ⟨by omega, h⟩
def dropB (fr : Int) : List (Int × Int) → List (Int × Int)
  | [] => []
  | y :: b => if y.2 < fr then dropB fr b else y :: b
theorem drop_norm (fr : Int) : ∀ {b : List (Int × Int)}, Norm b → Norm (dropB fr b) ∧ (∀ y, y ∈ dropB fr b → fr ≤ y.2) ∧ ∀ n, fr ≤ n → (mem (dropB fr b) n ↔ mem b n)
  | [], _ => ⟨trivial, (fun y hy => by cases hy), fun n _ => Iff.rfl⟩
  | y :: b, h => by
    obtain ⟨h1, h2, h3⟩ := drop_norm fr h.2.2
    rw [dropB]
    by_cases hlt : y.2 < fr
    · rw [if_pos hlt]
      refine ⟨h1, h2, fun n hn => ?_⟩
      rw [h3 n hn, mem_cons]
      exact ⟨Or.inr, fun a => a.elim (fun a => by omega) id⟩
    · rw [if_neg hlt]
      refine ⟨h, fun z hz => ?_, fun n _ => Iff.rfl⟩
      rcases List.mem_cons.1 hz with rfl | hz
      · omega
      · have := h.2.1 z hz
        have := h.2.2.each z hz
        omega
def wo : List (Int × Int) → List (Int × Int) → List (Int × Int)
  | [], _ => []
  | s :: a, b => cutS s.2 s.1 (dropB s.1 b) ++ wo a (dropB s.1 b)
theorem wo_in : ∀ (a b : List (Int × Int)), Norm a → Norm b → ∀ z, z ∈ wo a b → ∃ s, s ∈ a ∧ s.1 ≤ z.1 ∧ z.2 ≤ s.2
  | [], _, _, _, z, hz => by cases hz
  | s :: a, b, ha, hb, z, hz => by
    obtain ⟨h1, h2, _⟩ := drop_norm s.1 hb
    rw [wo] at hz
    rcases List.mem_append.1 hz with hz | hz
    · have := cut_in s.2 _ s.1 h1 h2 z hz
      exact ⟨s, List.mem_cons_self .., this.1, this.2.2⟩
    · obtain ⟨u, hu, e⟩ := wo_in a _ ha.2.2 h1 z hz
      exact ⟨u, List.mem_cons_of_mem _ hu, e⟩
theorem norm_append : ∀ {a b : List (Int × Int)}, Norm a → Norm b → (∀ x y, x ∈ a → y ∈ b → x.2 + 2 ≤ y.1) → Norm (a ++ b)
  | [], _, _, hb, _ => hb
  | x :: a, b, ha, hb, h => ⟨ha.1, fun y hy => by
      rcases List.mem_append.1 hy with hy | hy
      · exact ha.2.1 y hy
      · exact h x y (List.mem_cons_self ..) hy, norm_append ha.2.2 hb (fun u v hu hv => h u v (List.mem_cons_of_mem _ hu) hv)⟩
theorem wo_norm : ∀ (a b : List (Int × Int)), Norm a → Norm b → Norm (wo a b)
  | [], _, _, _ => trivial
  | s :: a, b, ha, hb => by
    obtain ⟨h1, h2, _⟩ := drop_norm s.1 hb
    rw [wo]
    refine norm_append (cut_norm s.2 _ s.1 h1 h2) (wo_norm a _ ha.2.2 h1) (fun x y hx hy => ?_)
    have k1 := cut_in s.2 _ s.1 h1 h2 x hx
    obtain ⟨u, hu, k2, _⟩ := wo_in a _ ha.2.2 h1 y hy
    have := ha.2.1 u hu
    omega
theorem wo_mem : ∀ (a b : List (Int × Int)) (n : Int), Norm a → Norm b → (mem (wo a b) n ↔ mem a n ∧ ¬ mem b n)
  | [], b, n, _, _ => ⟨fun h => absurd h (mem_nil n), fun h => absurd h.1 (mem_nil n)⟩
  | s :: a, b, n, ha, hb => by
    obtain ⟨h1, h2, h3⟩ := drop_norm s.1 hb
    have hs := ha.1
    rw [wo, mem_append, cut_mem s.2 _ s.1 n h1 h2, wo_mem a _ n ha.2.2 h1, mem_cons]
    have low : mem a n → s.2 + 2 ≤ n := fun ⟨z, hz, k1, _⟩ => by have := ha.2.1 z hz; omega
    constructor
    · rintro (⟨h, hn⟩ | ⟨h, hn⟩)
      · rw [h3 n h.1] at hn
        exact ⟨Or.inl h, hn⟩
      · rw [h3 n (by have := low h; omega)] at hn
        exact ⟨Or.inr h, hn⟩
    · rintro ⟨h | h, hn⟩
      · exact Or.inl ⟨h, by rw [h3 n h.1]; exact hn⟩
      · exact Or.inr ⟨h, by rw [h3 n (by have := low h; omega)]; exact hn⟩
/-! ### the reference: pieces between the ends -/
def addP (out : List (Int × Int)) (p q : Int) : List (Int × Int) :=
  match out.getLast? with
  | none => [(p, q - 1)]
  | some z => if z.2 = p - 1 then out.dropLast ++ [(z.1, q - 1)] else out ++ [(p, q - 1)]
theorem addP_nil (p q : Int) : addP [] p q = [(p, q - 1)] := rfl
theorem addP_snoc (o : List (Int × Int)) (z : Int × Int) (p q : Int) : addP (o ++ [z]) p q = if z.2 = p - 1 then o ++ [(z.1, q - 1)] else (o ++ [z]) ++ [(p, q - 1)] := by
  unfold addP
  rw [List.getLast?_concat, List.dropLast_concat]
theorem addP_ok {out : List (Int × Int)} {p q : Int} (hn : Norm out) (hz : ∀ z, z ∈ out → z.2 < p) (hpq : p < q) :
    Norm (addP out p q) ∧ (∀ z, z ∈ addP out p q → z.2 < q) ∧ ∀ n, mem (addP out p q) n ↔ mem out n ∨ (p ≤ n ∧ n < q) := by
  rcases snoc_cases out with rfl | ⟨o, z, rfl⟩
  · rw [addP_nil]
    refine ⟨⟨by show p ≤ q - 1; omega, (fun y hy => by cases hy), trivial⟩, fun z hz => by rw [List.mem_singleton.1 hz]; show q - 1 < q; omega, fun n => ?_⟩
    rw [mem_one]
    show p ≤ n ∧ n ≤ q - 1 ↔ _
    exact ⟨fun h => Or.inr (by omega), fun h => h.elim (fun h => absurd h (mem_nil n)) (fun h => by omega)⟩
  · obtain ⟨h1, h2, h3⟩ := norm_snoc.1 hn
    have hzp := hz z (List.mem_append_right _ (List.mem_cons_self ..))
    rw [addP_snoc]
    by_cases he : z.2 = p - 1
    · rw [if_pos he]
      refine ⟨norm_snoc.2 ⟨h1, by show z.1 ≤ q - 1; omega, h3⟩, fun y hy => ?_, fun n => ?_⟩
      · rcases List.mem_append.1 hy with hy | hy
        · have := hz y (List.mem_append_left _ hy)
          omega
        · rw [List.mem_singleton.1 hy]
          show q - 1 < q
          omega
      · rw [mem_append, mem_one, mem_append, mem_one]
        show mem o n ∨ z.1 ≤ n ∧ n ≤ q - 1 ↔ (mem o n ∨ z.1 ≤ n ∧ n ≤ z.2) ∨ _
        constructor
        · rintro (h | h)
          · exact Or.inl (Or.inl h)
          · by_cases hh : n ≤ z.2
            · exact Or.inl (Or.inr ⟨h.1, hh⟩)
            · exact Or.inr (by omega)
        · rintro ((h | h) | h)
          · exact Or.inl h
          · exact Or.inr (by omega)
          · exact Or.inr (by omega)
    · rw [if_neg he]
      refine ⟨norm_snoc.2 ⟨hn, by show p ≤ q - 1; omega, fun y hy => ?_⟩, fun y hy => ?_, fun n => ?_⟩
      · rcases List.mem_append.1 hy with hy | hy
        · have := h3 y hy
          show y.2 + 2 ≤ p
          omega
        · rw [List.mem_singleton.1 hy]
          show z.2 + 2 ≤ p
          omega
      · rcases List.mem_append.1 hy with hy | hy
        · have := hz y hy
          omega
        · rw [List.mem_singleton.1 hy]
          show q - 1 < q
          omega
      · rw [mem_append, mem_one]
        show mem (o ++ [z]) n ∨ p ≤ n ∧ n ≤ q - 1 ↔ _
        exact ⟨fun h => h.elim Or.inl (fun h => Or.inr (by omega)), fun h => h.elim Or.inl (fun h => Or.inr (by omega))⟩
def combF (keep : Int → Bool) : List (Int × Int) → List Int → List (Int × Int)
  | out, [] => out
  | out, [_] => out
  | out, p :: q :: r => combF keep (if p = q ∨ keep p = false then out else addP out p q) (q :: r)
/-- what belongs to it does not turn between two neighbours -/
def Flat (keep : Int → Bool) (K : Int → Prop) : List Int → Prop
  | [] => True
  | [_] => True
  | p :: q :: r => (p ≤ q ∧ ∀ n, p ≤ n → n < q → (K n ↔ keep p = true)) ∧ Flat keep K (q :: r)
theorem comb_ok (keep : Int → Bool) (K : Int → Prop) : ∀ (r : List Int) (p : Int) (out : List (Int × Int)), Flat keep K (p :: r) → Norm out → (∀ z, z ∈ out → z.2 < p) →
    Norm (combF keep out (p :: r)) ∧ ∀ n, mem (combF keep out (p :: r)) n ↔ mem out n ∨ (p ≤ n ∧ n < (p :: r).getLast (List.cons_ne_nil _ _) ∧ K n)
  | [], p, out, _, hn, _ => ⟨hn, fun n => ⟨Or.inl, fun h => h.elim id (fun h => by
      have h2 : n < p := h.2.1
      omega)⟩⟩
  | q :: r, p, out, hF, hn, hz => by
    obtain ⟨⟨hpq, hK⟩, hF2⟩ := hF
    have hl : (p :: q :: r).getLast (List.cons_ne_nil _ _) = (q :: r).getLast (List.cons_ne_nil _ _) := List.getLast_cons _
    have hq : ∀ (r : List Int) (q : Int), Flat keep K (q :: r) → q ≤ (q :: r).getLast (List.cons_ne_nil _ _) := fun r => by
      induction r with
      | nil => intro q _; exact Int.le_refl _
      | cons u r ih =>
        intro q h
        have := ih u h.2
        rw [List.getLast_cons (List.cons_ne_nil _ _)]
        have := h.1.1
        omega
    have hql := hq r q hF2
    rw [combF, hl]
    by_cases hc : p = q ∨ keep p = false
    · rw [if_pos hc]
      obtain ⟨i1, i2⟩ := comb_ok keep K r q out hF2 hn (fun z h => by have := hz z h; omega)
      refine ⟨i1, fun n => ?_⟩
      rw [i2 n]
      constructor
      · rintro (h | h)
        · exact Or.inl h
        · exact Or.inr ⟨by omega, h.2⟩
      · rintro (h | ⟨h1, h2, h3⟩)
        · exact Or.inl h
        · by_cases hnq : n < q
          · exfalso
            have hk := (hK n h1 hnq).1 h3
            rcases hc with rfl | hc
            · omega
            · rw [hc] at hk
              cases hk
          · exact Or.inr ⟨by omega, h2, h3⟩
    · rw [if_neg hc]
      have hlt : p < q := by
        rcases Int.lt_or_eq_of_le hpq with h | h
        · exact h
        · exact absurd (Or.inl h) hc
      have hkp : keep p = true := by
        cases hk : keep p with
        | true => rfl
        | false => exact absurd (Or.inr hk) hc
      obtain ⟨a1, a2, a3⟩ := addP_ok hn hz hlt
      obtain ⟨i1, i2⟩ := comb_ok keep K r q (addP out p q) hF2 a1 a2
      refine ⟨i1, fun n => ?_⟩
      rw [i2 n, a3 n]
      constructor
      · rintro ((h | h) | h)
        · exact Or.inl h
        · exact Or.inr ⟨h.1, by omega, (hK n h.1 h.2).2 hkp⟩
        · exact Or.inr ⟨by omega, h.2⟩
      · rintro (h | ⟨h1, h2, h3⟩)
        · exact Or.inl (Or.inl h)
        · by_cases hnq : n < q
          · exact Or.inl (Or.inr ⟨h1, hnq⟩)
          · exact Or.inr ⟨by omega, h2, h3⟩
/-! ### the ends, in order -/
def endsOf : List (Int × Int) → List Int
  | [] => []
  | x :: l => x.1 :: (x.2 + 1) :: endsOf l
def mg : Nat → List Int → List Int → List Int
  | 0, _, _ => []
  | _ + 1, [], [] => []
  | f + 1, [], y :: b => y :: mg f [] b
  | f + 1, x :: a, [] => x :: mg f a []
  | f + 1, x :: a, y :: b => if x ≤ y then x :: mg f a (y :: b) else y :: mg f (x :: a) b
theorem mg_mem : ∀ (f : Nat) (a b : List Int) (z : Int), a.length + b.length ≤ f → (z ∈ mg f a b ↔ z ∈ a ∨ z ∈ b)
  | 0, a, b, z, h => by
    have e1 : a = [] := List.length_eq_zero_iff.1 (by omega)
    have e2 : b = [] := List.length_eq_zero_iff.1 (by omega)
    subst e1 e2
    simp [mg]
  | f + 1, [], [], z, _ => by simp [mg]
  | f + 1, [], y :: b, z, h => by
    rw [mg, List.mem_cons, mg_mem f [] b z (by simp only [List.length_cons] at h; omega)]
    simp
  | f + 1, x :: a, [], z, h => by
    rw [mg, List.mem_cons, mg_mem f a [] z (by simp only [List.length_cons] at h; omega)]
    simp
  | f + 1, x :: a, y :: b, z, h => by
    simp only [List.length_cons] at h
    rw [mg]
    split
    · rw [List.mem_cons, mg_mem f a (y :: b) z (by simp only [List.length_cons]; omega), List.mem_cons (a := z) (b := x), or_assoc]
    · rw [List.mem_cons, mg_mem f (x :: a) b z (by simp only [List.length_cons]; omega), List.mem_cons (a := z) (b := y)]
      constructor
      · rintro (h | h | h)
        · exact Or.inr (Or.inl h)
        · exact Or.inl h
        · exact Or.inr (Or.inr h)
      · rintro (h | h | h)
        · exact Or.inr (Or.inl h)
        · exact Or.inl h
        · exact Or.inr (Or.inr h)
theorem mg_sorted : ∀ (f : Nat) (a b : List Int), a.length + b.length ≤ f → a.Pairwise (· ≤ ·) → b.Pairwise (· ≤ ·) → (mg f a b).Pairwise (· ≤ ·)
  | 0, _, _, _, _, _ => List.Pairwise.nil
  | f + 1, [], [], _, _, _ => List.Pairwise.nil
  | f + 1, [], y :: b, h, ha, hb => by
    simp only [List.length_cons, List.length_nil] at h
    rw [mg]
    refine List.Pairwise.cons (fun z hz => ?_) (mg_sorted f [] b (by simp; omega) ha (List.pairwise_cons.1 hb).2)
    rcases (mg_mem f [] b z (by simp; omega)).1 hz with h | h
    · cases h
    · exact (List.pairwise_cons.1 hb).1 z h
  | f + 1, x :: a, [], h, ha, hb => by
    simp only [List.length_cons, List.length_nil] at h
    rw [mg]
    refine List.Pairwise.cons (fun z hz => ?_) (mg_sorted f a [] (by simp; omega) (List.pairwise_cons.1 ha).2 hb)
    rcases (mg_mem f a [] z (by simp; omega)).1 hz with h | h
    · exact (List.pairwise_cons.1 ha).1 z h
    · cases h
  | f + 1, x :: a, y :: b, h, ha, hb => by
    simp only [List.length_cons] at h
    obtain ⟨a1, a2⟩ := List.pairwise_cons.1 ha
    obtain ⟨b1, b2⟩ := List.pairwise_cons.1 hb
    rw [mg]
    split
    · rename_i hle
      refine List.Pairwise.cons (fun z hz => ?_) (mg_sorted f a (y :: b) (by simp only [List.length_cons]; omega) a2 hb)
      rcases (mg_mem f a (y :: b) z (by simp only [List.length_cons]; omega)).1 hz with h | h
      · exact a1 z h
      · rcases List.mem_cons.1 h with rfl | h
        · exact hle
        · exact Int.le_trans hle (b1 z h)
    · rename_i hle
      refine List.Pairwise.cons (fun z hz => ?_) (mg_sorted f (x :: a) b (by simp only [List.length_cons]; omega) ha b2)
      rcases (mg_mem f (x :: a) b z (by simp only [List.length_cons]; omega)).1 hz with h | h
      · rcases List.mem_cons.1 h with rfl | h
        · omega
        · have := a1 z h
          omega
      · exact b1 z h
theorem ends_len : ∀ l : List (Int × Int), (endsOf l).length = 2 * l.length
  | [] => rfl
  | x :: l => by rw [endsOf, List.length_cons, List.length_cons, ends_len l, List.length_cons]; omega
theorem ends_mem : ∀ {l : List (Int × Int)} {x : Int × Int}, x ∈ l → x.1 ∈ endsOf l ∧ x.2 + 1 ∈ endsOf l
  | y :: l, x, h => by
    rw [endsOf]
    rcases List.mem_cons.1 h with rfl | h
    · exact ⟨List.mem_cons_self .., List.mem_cons_of_mem _ (List.mem_cons_self ..)⟩
    · obtain ⟨h1, h2⟩ := ends_mem h
      exact ⟨List.mem_cons_of_mem _ (List.mem_cons_of_mem _ h1), List.mem_cons_of_mem _ (List.mem_cons_of_mem _ h2)⟩
theorem ends_ge : ∀ {l : List (Int × Int)} {B : Int}, Norm l → (∀ y, y ∈ l → B ≤ y.1) → ∀ z, z ∈ endsOf l → B ≤ z
  | [], B, _, _, z, hz => by cases hz
  | y :: l, B, hl, hB, z, hz => by
    have := hB y (List.mem_cons_self ..)
    have := hl.1
    rw [endsOf] at hz
    rcases List.mem_cons.1 hz with rfl | hz
    · assumption
    · rcases List.mem_cons.1 hz with rfl | hz
      · omega
      · exact ends_ge hl.2.2 (fun y hy => hB y (List.mem_cons_of_mem _ hy)) z hz
theorem ends_sorted : ∀ {l : List (Int × Int)}, Norm l → (endsOf l).Pairwise (· ≤ ·)
  | [], _ => List.Pairwise.nil
  | x :: l, h => by
    have h1 := h.1
    have hg := fun z hz => ends_ge h.2.2 h.2.1 z hz
    rw [endsOf]
    refine List.Pairwise.cons (fun z hz => ?_) (List.Pairwise.cons (fun z hz => ?_) (ends_sorted h.2.2))
    · rcases List.mem_cons.1 hz with rfl | hz
      · omega
      · have := hg z hz
        omega
    · have := hg z hz
      omega
theorem mem_flat {l : List (Int × Int)} {p n : Int} (hp : p ≤ n) (h : ∀ z, z ∈ endsOf l → ¬ (p < z ∧ z ≤ n)) : mem l n ↔ mem l p := by
  constructor
  · rintro ⟨x, hx, h1, h2⟩
    obtain ⟨e1, e2⟩ := ends_mem hx
    refine ⟨x, hx, ?_, by omega⟩
    have := h _ e1
    omega
  · rintro ⟨x, hx, h1, h2⟩
    obtain ⟨e1, e2⟩ := ends_mem hx
    refine ⟨x, hx, by omega, ?_⟩
    have := h _ e2
    omega
theorem flat_of (keep : Int → Bool) (K : Int → Prop) : ∀ (L : List Int), L.Pairwise (· ≤ ·) → (∀ p n, p ∈ L → p ≤ n → (∀ z, z ∈ L → ¬ (p < z ∧ z ≤ n)) → (K n ↔ keep p = true)) → ∀ (P : List Int), (∀ z, z ∈ P → ∀ y, y ∈ L → z ≤ y) →
    (∀ p n, p ∈ L → p ≤ n → (∀ z, z ∈ P ++ L → ¬ (p < z ∧ z ≤ n)) → (K n ↔ keep p = true)) → Flat keep K L
  | [], _, _, _, _, _ => trivial
  | [_], _, _, _, _, _ => trivial
  | p :: q :: r, hs, hk, P, hP, hPk => by
    obtain ⟨s1, s2⟩ := List.pairwise_cons.1 hs
    have hpq := s1 q (List.mem_cons_self ..)
    refine ⟨⟨hpq, fun n h1 h2 => hk p n (List.mem_cons_self ..) h1 (fun z hz => ?_)⟩, ?_⟩
    · rcases List.mem_cons.1 hz with rfl | hz
      · omega
      · rcases List.mem_cons.1 hz with rfl | hz
        · omega
        · have := (List.pairwise_cons.1 s2).1 z hz
          omega
    · have hk2 : ∀ p' n, p' ∈ q :: r → p' ≤ n → (∀ z, z ∈ q :: r → ¬ (p' < z ∧ z ≤ n)) → (K n ↔ keep p' = true) := fun p' n hp' hn h => hk p' n (List.mem_cons_of_mem _ hp') hn (fun z hz => by
        rcases List.mem_cons.1 hz with rfl | hz
        · have := s1 p' hp'
          omega
        · exact h z hz)
      exact flat_of keep K (q :: r) s2 hk2 [] (fun z hz => by cases hz) (by simpa using hk2)
/-- what the reference makes of two right rows -/
theorem comb_all (how : Bool → Bool → Bool) (h0 : how false false = false) {a b : List (Int × Int)} (ha : Norm a) (hb : Norm b) (keep : Int → Bool) (hk : ∀ p, keep p = true ↔ (∃ x y, how x y = true ∧ (x = true ↔ mem a p) ∧ (y = true ↔ mem b p))) :
    Norm (combF keep [] (mg (2 * a.length + 2 * b.length) (endsOf a) (endsOf b))) ∧ ∀ n, mem (combF keep [] (mg (2 * a.length + 2 * b.length) (endsOf a) (endsOf b))) n ↔ ∃ x y, how x y = true ∧ (x = true ↔ mem a n) ∧ (y = true ↔ mem b n) := by
  have hlen : (endsOf a).length + (endsOf b).length ≤ 2 * a.length + 2 * b.length := by rw [ends_len, ends_len]; omega
  have hm := fun z => mg_mem _ (endsOf a) (endsOf b) z hlen
  have hs := mg_sorted _ (endsOf a) (endsOf b) hlen (ends_sorted ha) (ends_sorted hb)
  generalize mg (2 * a.length + 2 * b.length) (endsOf a) (endsOf b) = L at hm hs ⊢
  let K : Int → Prop := fun n => ∃ x y, how x y = true ∧ (x = true ↔ mem a n) ∧ (y = true ↔ mem b n)
  have hconst : ∀ p n, p ∈ L → p ≤ n → (∀ z, z ∈ L → ¬ (p < z ∧ z ≤ n)) → (K n ↔ keep p = true) := fun p n _ hpn h => by
    have e1 : mem a n ↔ mem a p := mem_flat hpn (fun z hz => h z ((hm z).2 (Or.inl hz)))
    have e2 : mem b n ↔ mem b p := mem_flat hpn (fun z hz => h z ((hm z).2 (Or.inr hz)))
    rw [hk]
    show (∃ x y, how x y = true ∧ (x = true ↔ mem a n) ∧ (y = true ↔ mem b n)) ↔ _
    rw [e1, e2]
  have hF := flat_of keep K L hs hconst [] (fun z hz => by cases hz) (by simpa using hconst)
  have none_of : ∀ n, ¬ mem a n → ¬ mem b n → ¬ K n := fun n na nb ⟨x, y, h, hx, hy⟩ => by
    have x0 : x = false := by cases x with
      | false => rfl
      | true => exact absurd (hx.1 rfl) na
    have y0 : y = false := by cases y with
      | false => rfl
      | true => exact absurd (hy.1 rfl) nb
    rw [x0, y0, h0] at h
    cases h
  match L, hm, hs, hF with
  | [], hm, _, _ =>
    refine ⟨trivial, fun n => ⟨fun h => absurd h (mem_nil n), fun h => absurd h (none_of n ?_ ?_)⟩⟩
    · rintro ⟨x, hx, _⟩
      cases (hm _).2 (Or.inl (ends_mem hx).1)
    · rintro ⟨x, hx, _⟩
      cases (hm _).2 (Or.inr (ends_mem hx).1)
  | p :: r, hm, hs, hF =>
    obtain ⟨i1, i2⟩ := comb_ok keep K r p [] hF trivial (fun z hz => by cases hz)
    refine ⟨i1, fun n => ?_⟩
    rw [i2 n]
    constructor
    · rintro (h | h)
      · exact absurd h (mem_nil n)
      · exact h.2.2
    · intro h
      refine Or.inr ?_
      have last_ge : ∀ z, z ∈ p :: r → z ≤ (p :: r).getLast (List.cons_ne_nil _ _) := by
        have gen : ∀ (l : List Int) (hne : l ≠ []), l.Pairwise (· ≤ ·) → ∀ z, z ∈ l → z ≤ l.getLast hne := fun l => by
          induction l with
          | nil => intro hne; exact absurd rfl hne
          | cons u l ih =>
            intro hne hp z hz
            cases l with
            | nil => rw [List.mem_singleton.1 hz]; exact Int.le_refl _
            | cons v l =>
              rw [List.getLast_cons (List.cons_ne_nil _ _)]
              have ih := ih (List.cons_ne_nil _ _) (List.pairwise_cons.1 hp).2
              rcases List.mem_cons.1 hz with rfl | hz
              · exact Int.le_trans ((List.pairwise_cons.1 hp).1 v (List.mem_cons_self ..)) (ih v (List.mem_cons_self ..))
              · exact ih z hz
        exact gen _ _ hs
      have first_le : ∀ z, z ∈ p :: r → p ≤ z := fun z hz => by
        rcases List.mem_cons.1 hz with rfl | hz
        · exact Int.le_refl _
        · exact (List.pairwise_cons.1 hs).1 z hz
      have inr : ∀ {l : List (Int × Int)}, (∀ z, z ∈ endsOf l → z ∈ p :: r) → mem l n → p ≤ n ∧ n < (p :: r).getLast (List.cons_ne_nil _ _) := fun hl ⟨x, hx, h1, h2⟩ => by
        obtain ⟨e1, e2⟩ := ends_mem hx
        have := first_le _ (hl _ e1)
        have := last_ge _ (hl _ e2)
        omega
      by_cases ma : mem a n
      · obtain ⟨h1, h2⟩ := inr (fun z hz => (hm z).2 (Or.inl hz)) ma
        exact ⟨h1, h2, h⟩
      · by_cases mb : mem b n
        · obtain ⟨h1, h2⟩ := inr (fun z hz => (hm z).2 (Or.inr hz)) mb
          exact ⟨h1, h2, h⟩
        · exact absurd h (none_of n ma mb)
end Sp

/- Sets of spans, in plain words: what the check of a row says. -/
namespace Sp
def spl (F T : Nat → Int) (n : Nat) : List (Int × Int) := (List.range n).map fun i => (F i, T i)
theorem spl_len (F T : Nat → Int) (n : Nat) : (spl F T n).length = n := by unfold spl; simp
theorem spl_succ (F T : Nat → Int) (n : Nat) : spl F T (n + 1) = spl F T n ++ [(F n, T n)] := by unfold spl; rw [List.range_succ, List.map_append]; rfl
theorem spl_get {F T : Nat → Int} {n i : Nat} (h : i < n) : (spl F T n)[i]? = some (F i, T i) := by
  unfold spl
  rw [List.getElem?_map, List.getElem?_range h]
  rfl
theorem spl_mem {F T : Nat → Int} {n : Nat} {y : Int × Int} (h : y ∈ spl F T n) : ∃ i, i < n ∧ y = (F i, T i) := by
  unfold spl at h
  obtain ⟨i, hi, e⟩ := List.mem_map.1 h
  exact ⟨i, List.mem_range.1 hi, e.symm⟩
def outN (n : Int) : Bool := decide (n < 0) || decide (1000000000000 < n)
def chkL (F T : Nat → Int) : Nat → Nat → Int
  | 0, _ => 0
  | n + 1, k => if (outN (F k) || outN (T k)) = true then 9 else if T k < F k ∨ (0 < k ∧ F k < T (k - 1) + 2) then 10 else chkL F T n (k + 1)
def chkS (F T : Nat → Int) (n : Nat) : Int := if 1000 < n then 3 else chkL F T n 0
theorem outN_false {n : Int} (h : outN n = false) : 0 ≤ n ∧ n ≤ 1000000000000 := by
  unfold outN at h
  simp only [Bool.or_eq_false_iff, decide_eq_false_iff_not] at h
  omega
theorem chkL_zero {F T : Nat → Int} : ∀ (n k : Nat), chkL F T n k = 0 → ∀ i, k ≤ i → i < k + n → (0 ≤ F i ∧ F i ≤ 1000000000000) ∧ (0 ≤ T i ∧ T i ≤ 1000000000000) ∧ F i ≤ T i ∧ (0 < i → T (i - 1) + 2 ≤ F i)
  | 0, k, _, i, h1, h2 => by omega
  | n + 1, k, h, i, h1, h2 => by
    rw [chkL] at h
    split at h
    · cases h
    · rename_i ho
      have ho : (outN (F k) || outN (T k)) = false := by simpa using ho
      rw [Bool.or_eq_false_iff] at ho
      split at h
      · cases h
      · rename_i hd
        rcases Nat.lt_or_eq_of_le h1 with hlt | rfl
        · exact chkL_zero n (k + 1) h i (by omega) (by omega)
        · refine ⟨outN_false ho.1, outN_false ho.2, ?_, fun h0 => ?_⟩
          · rcases Int.lt_or_le (T k) (F k) with g | g
            · exact absurd (Or.inl g) hd
            · exact g
          · rcases Int.lt_or_le (F k) (T (k - 1) + 2) with g | g
            · exact absurd (Or.inr ⟨h0, g⟩) hd
            · exact g
theorem chkS_zero {F T : Nat → Int} {n : Nat} (h : chkS F T n = 0) : n ≤ 1000 ∧ Norm (spl F T n) ∧ ∀ i, i < n → (0 ≤ F i ∧ F i ≤ 1000000000000) ∧ (0 ≤ T i ∧ T i ≤ 1000000000000) ∧ F i ≤ T i ∧ (0 < i → T (i - 1) + 2 ≤ F i) := by
  unfold chkS at h
  split at h
  · cases h
  · rename_i hn
    have hz := fun i (hi : i < n) => chkL_zero n 0 h i (Nat.zero_le _) (by omega)
    refine ⟨by omega, ?_, hz⟩
    have up : ∀ k, k ≤ n → Norm (spl F T k) ∧ ∀ i, i < k → k < n → T i + 2 ≤ F k := fun k => by
      induction k with
      | zero => exact fun _ => ⟨trivial, fun i hi => by omega⟩
      | succ k ih =>
        intro hk
        obtain ⟨h1, h2⟩ := ih (by omega)
        obtain ⟨_, _, z3, _⟩ := hz k (by omega)
        refine ⟨?_, fun i hi hk2 => ?_⟩
        · rw [spl_succ]
          refine norm_snoc.2 ⟨h1, z3, fun y hy => ?_⟩
          obtain ⟨i, hi, rfl⟩ := spl_mem hy
          exact h2 i hi (by omega)
        · have hb := (hz (k + 1) hk2).2.2.2 (by omega)
          rw [Nat.add_sub_cancel] at hb
          rcases Nat.lt_or_eq_of_le (Nat.lt_succ_iff.1 hi) with hlt | rfl
          · have := h2 i hlt (by omega)
            omega
          · exact hb
    exact (up n (Nat.le_refl _)).1
/-- a right row's numbers are small -/
theorem mem_range {F T : Nat → Int} {n : Nat} (h : chkS F T n = 0) {m : Int} (hm : mem (spl F T n) m) : 0 ≤ m ∧ m ≤ 1000000000000 := by
  obtain ⟨x, hx, h1, h2⟩ := hm
  obtain ⟨i, hi, rfl⟩ := spl_mem hx
  obtain ⟨a, b, _⟩ := (chkS_zero h).2.2 i hi
  simp only at h1 h2
  omega
end Sp

/- Scale, as a plain function; the law that rounded quotients are near. -/
namespace Sc
/-- does a quotient with a rest go away from 0? -/
def away (how : Int) (below : Bool) (whole rest den : Nat) : Bool :=
  if how = 1 then below
  else if how = 2 then !below
  else if how = 3 then false
  else if how = 4 then decide (den < 2 * rest) || (decide (2 * rest = den) && !below)
  else decide (den < 2 * rest) || (decide (2 * rest = den) && decide (whole % 2 = 1))
def quo (how : Int) (below : Bool) (whole rest den : Nat) : Nat :=
  if 0 < rest ∧ away how below whole rest den = true then whole + 1 else whole
def sgn (below : Bool) (q : Nat) : Int := if below = true then -(q : Int) else (q : Int)
/-- Scale's results. -/
def sc (a num den how : Int) : Int × Int :=
  if how < 1 ∨ 5 < how then (0, 7)
  else if den ≤ 0 ∨ num < 0 then (0, 1)
  else
    let n := a.natAbs * num.toNat
    if den.toNat ≤ n / 18446744073709551616 then (0, 9)
    else
      let q := quo how (decide (a < 0)) (n / den.toNat) (n % den.toNat) den.toNat
      if 4611686018427387904 < q then (0, 9) else (sgn (decide (a < 0)) q, 0)

theorem away_mul {k : Nat} (hk : 0 < k) (how : Int) (below : Bool) (whole rest den : Nat) :
    away how below whole (k * rest) (k * den) = away how below whole rest den := by
  have h1 : (k * den < 2 * (k * rest)) ↔ den < 2 * rest := by
    rw [show 2 * (k * rest) = k * (2 * rest) by rw [Nat.mul_left_comm]]
    exact ⟨fun h => Nat.lt_of_mul_lt_mul_left h, fun h => Nat.mul_lt_mul_of_pos_left h hk⟩
  have h2 : (2 * (k * rest) = k * den) ↔ 2 * rest = den := by
    rw [show 2 * (k * rest) = k * (2 * rest) by rw [Nat.mul_left_comm]]
    exact ⟨fun h => Nat.eq_of_mul_eq_mul_left hk h, fun h => by rw [h]⟩
  simp only [away, h1, h2]

theorem quo_mul {k : Nat} (hk : 0 < k) (how : Int) (below : Bool) (whole rest den : Nat) :
    quo how below whole (k * rest) (k * den) = quo how below whole rest den := by
  have : 0 < k * rest ↔ 0 < rest := by
    constructor
    · intro h
      rcases Nat.eq_zero_or_pos rest with h0 | h0
      · subst h0; simp at h
      · exact h0
    · exact fun h => Nat.mul_pos hk h
  simp only [quo, away_mul hk, this]

/-- at moderate numbers: the value. -/
theorem sc_small (a num den how : Int) (h1 : 1 ≤ how) (h5 : how ≤ 5) (hd : 1 ≤ den) (hn : 0 ≤ num) (hs : a.natAbs * num.toNat < 4611686018427387904) :
    sc a num den how = (sgn (decide (a < 0)) (quo how (decide (a < 0)) (a.natAbs * num.toNat / den.toNat) (a.natAbs * num.toNat % den.toNat) den.toNat), 0) := by
  unfold sc
  rw [if_neg (by omega), if_neg (by omega)]
  have h0 : a.natAbs * num.toNat / 18446744073709551616 = 0 := Nat.div_eq_of_lt (by omega)
  simp only [h0]
  rw [if_neg (by omega), if_neg]
  have hle : a.natAbs * num.toNat / den.toNat ≤ a.natAbs * num.toNat := Nat.div_le_self _ _
  unfold quo
  split <;> omega

theorem sc_arg (a num den how : Int) (h1 : 1 ≤ how) (h5 : how ≤ 5) (h : den ≤ 0 ∨ num < 0) : sc a num den how = (0, 1) := by
  unfold sc; rw [if_neg (by omega), if_pos h]
/-- where the arguments are right: in terms of the two words of the product -/
theorem sc_high (a how : Int) (num den : Nat) (h1 : 1 ≤ how) (h5 : how ≤ 5) (hd : 1 ≤ den) (h : den ≤ a.natAbs * num / 18446744073709551616) : sc a num den how = (0, 9) := by
  unfold sc; rw [if_neg (by omega), if_neg (by omega)]
  simp only [Int.toNat_natCast]
  rw [if_pos h]
theorem sc_of (a how : Int) (num den : Nat) (h1 : 1 ≤ how) (h5 : how ≤ 5) (hd : 1 ≤ den) (h : a.natAbs * num / 18446744073709551616 < den) :
    sc a num den how = if 4611686018427387904 < quo how (decide (a < 0)) (a.natAbs * num / den) (a.natAbs * num % den) den then (0, 9)
      else (sgn (decide (a < 0)) (quo how (decide (a < 0)) (a.natAbs * num / den) (a.natAbs * num % den) den), 0) := by
  unfold sc; rw [if_neg (by omega), if_neg (by omega)]
  simp only [Int.toNat_natCast]
  rw [if_neg (by omega)]
theorem sc_kind (a num den how : Int) (h : how < 1 ∨ 5 < how) : sc a num den how = (0, 7) := by unfold sc; rw [if_pos h]

/-- THE LAW QuantRoundsAreNear, of the plain function. -/
theorem near (a b k how : Int) (ha : -1000000000 ≤ a) (ha' : a ≤ 1000000000) (hb : 1 ≤ b) (hb' : b ≤ 1000000000) (hk : 1 ≤ k) (hk' : k ≤ 1000) (h1 : 1 ≤ how) (h5 : how ≤ 5) :
    ∃ n : Int, sc a 1 b how = (n, 0) ∧ sc (k * a) 1 (k * b) how = (n, 0) ∧ sc a k (k * b) how = (n, 0) ∧
      -b < a - n * b ∧ a - n * b < b ∧ -1000000000 ≤ n ∧ n ≤ 1000000000 ∧
      (how = 1 → 0 ≤ a - n * b) ∧ (how = 2 → a - n * b ≤ 0) ∧ (how = 3 → a - n * b = 0 ∨ ((0 < a - n * b) ↔ 0 < a)) ∧
      (4 ≤ how → 2 * (a - n * b) ≤ b ∧ -b ≤ 2 * (a - n * b)) := by
  have hK : 0 < k.toNat := by omega
  have hB : 0 < b.toNat := by omega
  have hsz : a.natAbs * k.toNat ≤ 1000000000 * 1000 := Nat.mul_le_mul (by omega) (by omega)
  have e1 : (k * a).natAbs = k.toNat * a.natAbs := by rw [Int.natAbs_mul]; congr 1; omega
  have e2 : (k * b).toNat = k.toNat * b.toNat := Int.toNat_mul (by omega) (by omega)
  have hkb : 1 ≤ k * b := by
    have := Int.mul_pos (show 0 < k by omega) (show 0 < b by omega); omega
  have hneg : decide (k * a < 0) = decide (a < 0) := by
    rcases (show a < 0 ∨ 0 ≤ a by omega) with h | h
    · have : k * a < 0 := Int.mul_neg_of_pos_of_neg (by omega) h
      simp [h, this]
    · have : 0 ≤ k * a := Int.mul_nonneg (by omega) h
      simp only [decide_eq_decide]; omega
  have hdm := Nat.div_add_mod a.natAbs b.toNat
  have hr := Nat.mod_lt a.natAbs hB
  have hq0 : a.natAbs / b.toNat ≤ a.natAbs := Nat.div_le_self _ _
  refine ⟨sgn (decide (a < 0)) (quo how (decide (a < 0)) (a.natAbs / b.toNat) (a.natAbs % b.toNat) b.toNat), ?_, ?_, ?_, ?_⟩
  · rw [sc_small a 1 b how h1 h5 hb (by omega) (by simp; omega)]; simp
  · rw [sc_small (k * a) 1 (k * b) how h1 h5 hkb (by omega) (by rw [e1]; simp; rw [Nat.mul_comm]; omega)]
    rw [e1, e2, hneg]; simp only [Int.toNat_one, Nat.mul_one]
    rw [Nat.mul_div_mul_left _ _ hK, Nat.mul_mod_mul_left, quo_mul hK]
  · rw [sc_small a k (k * b) how h1 h5 hkb (by omega) (by omega)]
    rw [e2, Nat.mul_comm a.natAbs, Nat.mul_div_mul_left _ _ hK, Nat.mul_mod_mul_left, quo_mul hK]
  · generalize hq : a.natAbs / b.toNat = q at *
    generalize hrr : a.natAbs % b.toNat = r at *
    have hbb : (b.toNat : Int) = b := by omega
    have hq' : (b * q + r : Int) = (a.natAbs : Int) := by
      have := congrArg (fun n : Nat => (n : Int)) hdm
      simp only [Int.natCast_add, Int.natCast_mul, hbb] at this; exact this
    have hw : ∀ n : Int, n * b = b * n := fun n => Int.mul_comm _ _
    have hqb : (q : Int) ≤ b * q := by
      have := Int.mul_le_mul_of_nonneg_right (show (1 : Int) ≤ b from hb) (show (0 : Int) ≤ (q : Int) by omega); omega
    have h12 : how = 1 ∨ how = 2 ∨ how = 3 ∨ how = 4 ∨ how = 5 := by omega
    have hst : r = 0 ∨ 0 < r := by omega
    have hneg2 : b * (-(q : Int)) = -(b * q) := by rw [Int.mul_neg]
    have hsucc : b * ((q : Int) + 1) = b * q + b := by rw [Int.mul_add, Int.mul_one]
    have hneg3 : b * (-((q : Int) + 1)) = -(b * q) - b := by rw [Int.mul_neg, hsucc]; omega
    by_cases hn : a < 0
    · have hab : (a.natAbs : Int) = -a := by omega
      simp only [hn, decide_true]
      have key : ∀ m : Nat, (m = q ∨ (m = q + 1 ∧ 0 < r)) → (quo how true q r b.toNat = m) → 
        (-b < a - sgn true m * b ∧ a - sgn true m * b < b ∧ -1000000000 ≤ sgn true m ∧ sgn true m ≤ 1000000000) ∧ ((m = q → a - sgn true m * b = -r) ∧ (m = q + 1 → a - sgn true m * b = b - r)) := by
        intro m hm _
        simp only [sgn, if_true, hw]
        rcases hm with rfl | ⟨rfl, h0⟩
        · rw [hneg2]; omega
        · rw [show ((q + 1 : Nat) : Int) = (q : Int) + 1 by omega, hneg3]; omega
      by_cases hup : 0 < r ∧ away how true q r b.toNat = true
      · have hm : quo how true q r b.toNat = q + 1 := by unfold quo; rw [if_pos hup]
        have ⟨k1, k2, k3⟩ := key (q + 1) (.inr ⟨rfl, hup.1⟩) hm
        rw [hm]; have k3 := k3 rfl
        refine ⟨k1.1, k1.2.1, k1.2.2.1, k1.2.2.2, ?_⟩
        rw [k3]
        obtain ⟨hr0, hup⟩ := hup
        rcases h12 with rfl | rfl | rfl | rfl | rfl <;> simp [away] at hup <;> omega
      · have hm : quo how true q r b.toNat = q := by unfold quo; rw [if_neg hup]
        have ⟨k1, k2, k3⟩ := key q (.inl rfl) hm
        rw [hm]; have k2 := k2 rfl
        refine ⟨k1.1, k1.2.1, k1.2.2.1, k1.2.2.2, ?_⟩
        rw [k2]
        rcases hst with rfl | hst
        · omega
        · have hup : ¬ away how true q r b.toNat = true := fun h => hup ⟨hst, h⟩
          rcases h12 with rfl | rfl | rfl | rfl | rfl <;> simp [away] at hup <;> omega
    · have hab : (a.natAbs : Int) = a := by omega
      simp only [hn, decide_false]
      have key : ∀ m : Nat, (m = q ∨ (m = q + 1 ∧ 0 < r)) → (quo how false q r b.toNat = m) → 
        (-b < a - sgn false m * b ∧ a - sgn false m * b < b ∧ -1000000000 ≤ sgn false m ∧ sgn false m ≤ 1000000000) ∧ ((m = q → a - sgn false m * b = r) ∧ (m = q + 1 → a - sgn false m * b = r - b)) := by
        intro m hm _
        simp only [sgn, Bool.false_eq_true, if_false, hw]
        rcases hm with rfl | ⟨rfl, h0⟩
        · omega
        · rw [show ((q + 1 : Nat) : Int) = (q : Int) + 1 by omega, hsucc]; omega
      by_cases hup : 0 < r ∧ away how false q r b.toNat = true
      · have hm : quo how false q r b.toNat = q + 1 := by unfold quo; rw [if_pos hup]
        have ⟨k1, k2, k3⟩ := key (q + 1) (.inr ⟨rfl, hup.1⟩) hm
        rw [hm]; have k3 := k3 rfl
        refine ⟨k1.1, k1.2.1, k1.2.2.1, k1.2.2.2, ?_⟩
        rw [k3]
        obtain ⟨hr0, hup⟩ := hup
        rcases h12 with rfl | rfl | rfl | rfl | rfl <;> simp [away] at hup <;> omega
      · have hm : quo how false q r b.toNat = q := by unfold quo; rw [if_neg hup]
        have ⟨k1, k2, k3⟩ := key q (.inl rfl) hm
        rw [hm]; have k2 := k2 rfl
        refine ⟨k1.1, k1.2.1, k1.2.2.1, k1.2.2.2, ?_⟩
        rw [k2]
        rcases hst with rfl | hst
        · omega
        · have hup : ¬ away how false q r b.toNat = true := fun h => hup ⟨hst, h⟩
          rcases h12 with rfl | rfl | rfl | rfl | rfl <;> simp [away] at hup <;> omega
end Sc

/- One digit of a long division, in plain numbers. -/
namespace Knuth
/-- one digit: B the base, y = a*B+b the divisor, u < y the head, d < B the next digit. -/
theorem up {B u d a b q : Nat} (hd : d < B) (hq : q * (a * B + b) ≤ u * B + d) (ha : 0 < a) : q ≤ u / a := by
  rw [Nat.le_div_iff_mul_le ha]
  have h1 : q * a * B ≤ u * B + d := by
    have : q * (a * B + b) = q * a * B + q * b := by rw [Nat.mul_add, Nat.mul_assoc]
    omega
  have h2 : q * a * B < (u + 1) * B := by rw [Nat.add_mul]; omega
  have := Nat.lt_of_mul_lt_mul_right h2
  omega

/-- the test is exact -/
theorem test {B u d a b q r : Nat} (h : r + q * a = u) : (u * B + d < q * (a * B + b)) ↔ r * B + d < q * b := by
  subst h
  have e1 : (r + q * a) * B = r * B + q * a * B := Nat.add_mul _ _ _
  have e2 : q * (a * B + b) = q * a * B + q * b := by rw [Nat.mul_add, Nat.mul_assoc]
  omega

theorem first {B u a b : Nat} (hb : b < B) (ha : B ≤ 2 * a) (ha0 : 0 < a) (hu : u < a * B + b) : u / a ≤ B + 1 := by
  have : u / a < B + 2 := by
    rw [Nat.div_lt_iff_lt_mul ha0]
    have : (B + 2) * a = a * B + 2 * a := by rw [Nat.add_mul, Nat.mul_comm B a]
    omega
  omega

/-- where the rest has grown to the base, the digit is not too great -/
theorem small {B u d a b q r : Nat} (hb : b < B) (h : r + q * a = u) (hr : B ≤ r) (hq : q ≤ B) : q * (a * B + b) ≤ u * B + d := by
  have := (test (B := B) (d := d) (b := b) h)
  have h1 : q * b ≤ B * B := Nat.mul_le_mul hq (Nat.le_of_lt hb)
  have h2 : B * B ≤ r * B := Nat.mul_le_mul_right _ hr
  have h3 : ¬ (u * B + d < q * (a * B + b)) := by rw [this]; omega
  omega

theorem digit {n y q : Nat} (h1 : q * y ≤ n) (h2 : n < (q + 1) * y) : n / y = q := by
  have hy : 0 < y := by
    rcases Nat.eq_zero_or_pos y with h | h
    · subst h; simp at h2
    · exact h
  rw [Nat.div_eq_iff hy]
  rw [Nat.add_mul] at h2
  omega

/-- the quotient's digit is below the base -/
theorem below {B u d y : Nat} (hd : d < B) (hu : u < y) : (u * B + d) / y < B := by
  rw [Nat.div_lt_iff_lt_mul (by omega)]
  have : u * B + B ≤ y * B := by rw [← Nat.succ_mul]; exact Nat.mul_le_mul_right _ hu
  rw [Nat.mul_comm B y]; omega

/-- two digits: the quotient and the rest out of the digits. -/
theorem two {B u d1 d0 y : Nat} (hy : 0 < y) :
    ((u * B + d1) * B + d0) / y = (u * B + d1) / y * B + ((u * B + d1) % y * B + d0) / y ∧
    ((u * B + d1) * B + d0) % y = ((u * B + d1) % y * B + d0) % y := by
  have h := Nat.div_add_mod (u * B + d1) y
  have e : (u * B + d1) * B + d0 = ((u * B + d1) % y * B + d0) + y * ((u * B + d1) / y * B) := by
    have h' : (u * B + d1) * B = (y * ((u * B + d1) / y) + (u * B + d1) % y) * B := by rw [h]
    rw [h', Nat.add_mul, Nat.mul_assoc]; omega
  constructor
  · conv => lhs; rw [e]
    rw [Nat.add_mul_div_left _ _ hy]; omega
  · conv => lhs; rw [e]
    rw [Nat.add_mul_mod_self_left]

/-- shifting both by a power -/
theorem shifted {n y s : Nat} : (n * 2 ^ s) / (y * 2 ^ s) = n / y ∧ (n * 2 ^ s) % (y * 2 ^ s) / 2 ^ s = n % y := by
  have hp : 0 < 2 ^ s := Nat.two_pow_pos s
  refine ⟨Nat.mul_div_mul_right _ _ hp, ?_⟩
  rw [Nat.mul_mod_mul_right, Nat.mul_div_cancel _ hp]

/-! ### the base 2^32 -/
/-- q is not below the digit, r is the rest that goes with it. -/
def Dig (u d a b q r : Nat) : Prop := q ≤ 4294967297 ∧ r < 4294967296 ∧ r + q * a = u ∧ (u * 4294967296 + d) / (a * 4294967296 + b) ≤ q
structure Par (u d a b : Nat) : Prop where
  uY : u < a * 4294967296 + b
  dB : d < 4294967296
  a0 : 2147483648 ≤ a
  aB : a < 4294967296
  bB : b < 4294967296
theorem dig_start {u d a b : Nat} (h : Par u d a b) : Dig u d a b (u / a) (u % a) := by
  obtain ⟨hu, hd, ha, ha', hb⟩ := h
  have h1 := first (B := 4294967296) hb (by omega) (by omega) hu
  have h2 := up (B := 4294967296) (u := u) (d := d) (a := a) (b := b) (q := (u * 4294967296 + d) / (a * 4294967296 + b)) hd (Nat.div_mul_le_self _ _) (by omega)
  have h3 := Nat.div_add_mod u a
  have h4 := Nat.mod_lt u (show 0 < a by omega)
  rw [Nat.mul_comm] at h3
  exact ⟨by omega, by omega, by omega, h2⟩
theorem dig_lt {u d a b : Nat} (h : Par u d a b) : (u * 4294967296 + d) / (a * 4294967296 + b) < 4294967296 := below h.dB h.uY
theorem Dig.over {u d a b q r : Nat} (h : Par u d a b) (g : Dig u d a b q r) (ht : 4294967296 ≤ q ∨ r * 4294967296 + d < q * b) : (u * 4294967296 + d) / (a * 4294967296 + b) < q := by
  have h1 := h.a0
  rcases ht with ht | ht
  · exact Nat.lt_of_lt_of_le (dig_lt h) ht
  · rw [Nat.div_lt_iff_lt_mul (by omega)]
    exact (test g.2.2.1).2 ht
theorem Dig.rest {u d a b q r : Nat} (g : Dig u d a b q r) (hq : 0 < q) : (r + a) + (q - 1) * a = u := by
  obtain ⟨g1, g2, g3, g4⟩ := g
  obtain ⟨k, rfl⟩ : ∃ k, q = k + 1 := ⟨q - 1, by omega⟩
  rw [Nat.add_sub_cancel]; rw [Nat.add_mul] at g3; omega
/-- too great: one less -/
theorem Dig.less {u d a b q r : Nat} (h : Par u d a b) (g : Dig u d a b q r) (ht : 4294967296 ≤ q ∨ r * 4294967296 + d < q * b) (hr : r + a < 4294967296) : Dig u d a b (q - 1) (r + a) := by
  have h1 := g.over h ht
  have h2 := g.rest (Nat.zero_lt_of_lt h1)
  have h3 := g.1
  exact ⟨by omega, hr, h2, Nat.le_sub_one_of_lt h1⟩
/-- too great, and behind it the rest has grown to the base: one less is the digit. -/
theorem Dig.last {u d a b q r : Nat} (h : Par u d a b) (g : Dig u d a b q r) (ht : 4294967296 ≤ q ∨ r * 4294967296 + d < q * b) (hr : 4294967296 ≤ r + a) : q - 1 = (u * 4294967296 + d) / (a * 4294967296 + b) := by
  have h1 := g.over h ht
  have h2 := g.rest (Nat.zero_lt_of_lt h1)
  have h3 := g.1
  have h4 := h.a0
  have h7 := small (B := 4294967296) (d := d) h.bB h2 (by omega) (by omega)
  have h8 : q - 1 ≤ (u * 4294967296 + d) / (a * 4294967296 + b) := by rw [Nat.le_div_iff_mul_le (by omega)]; exact h7
  omega
/-- not too great: the digit. -/
theorem Dig.done {u d a b q r : Nat} (h : Par u d a b) (g : Dig u d a b q r) (ht : q * b ≤ r * 4294967296 + d) : q = (u * 4294967296 + d) / (a * 4294967296 + b) := by
  have h4 := h.a0
  have h5 := g.2.2.2
  have h8 : q ≤ (u * 4294967296 + d) / (a * 4294967296 + b) := by
    rw [Nat.le_div_iff_mul_le (by omega)]
    have := (test (B := 4294967296) (d := d) (b := b) g.2.2.1)
    omega
  omega
theorem Dig.pos {u d a b q r : Nat} (h : Par u d a b) (g : Dig u d a b q r) (ht : 4294967296 ≤ q ∨ r * 4294967296 + d < q * b) : 1 ≤ q := by
  exact Nat.zero_lt_of_lt (g.over h ht)
/-- a product of two half words -/
theorem mul_half {q b : Nat} (hq : q < 4294967296) (hb : b < 4294967296) : q * b < 18446744073709551616 := by
  have : q * b ≤ 4294967295 * 4294967295 := Nat.mul_le_mul (by omega) (by omega)
  omega
theorem digits {B N y s u d1 d0 Y : Nat} (hY : y * 2 ^ s = Y) (h0 : 0 < Y) (hN : N * 2 ^ s = (u * B + d1) * B + d0) :
    ∃ Q1 u2 Q0 r2, Q1 = (u * B + d1) / Y ∧ Q0 = (u2 * B + d0) / Y ∧ Y * Q1 + u2 = u * B + d1 ∧ Y * Q0 + r2 = u2 * B + d0 ∧ u2 < Y ∧ r2 < Y ∧ N / y = Q1 * B + Q0 ∧ N % y = r2 / 2 ^ s := by
  have htwo := two (B := B) (u := u) (d1 := d1) (d0 := d0) (y := Y) h0
  rw [← hN, ← hY] at htwo
  have hsh := shifted (n := N) (y := y) (s := s)
  rw [hsh.1] at htwo
  rw [htwo.2] at hsh
  rw [hY] at htwo hsh
  exact ⟨_, _, _, _, rfl, rfl, Nat.div_add_mod _ _, Nat.div_add_mod _ _, Nat.mod_lt _ h0, Nat.mod_lt _ h0, htwo.1, hsh.2.symm⟩
theorem start {u d a b : Nat} (h : Par u d a b) : ∃ qh rh, qh = u / a ∧ rh = u % a ∧ qh ≤ 4294967297 ∧ rh < a ∧ Dig u d a b qh rh := by
  have h1 := dig_start h
  have h2 := h.a0
  exact ⟨_, _, rfl, rfl, h1.1, Nat.mod_lt _ (by omega), h1⟩
end Knuth

/- Years, leap years and weeks, in plain numbers. -/
namespace Cal
def gg (n : Nat) : Nat := n - n/1460 + n/36524 - n/146096
def st (y : Nat) : Nat := 365*y + y/4 - y/100 + y/400
theorem gg_mono1 (n : Nat) : gg n ≤ gg (n+1) := by unfold gg; omega
theorem gg_mono (a d : Nat) : gg a ≤ gg (a+d) := by
  induction d with
  | zero => exact Nat.le_refl _
  | succ d ih => exact Nat.le_trans ih (gg_mono1 (a+d))
theorem ends : ∀ y, y < 400 → gg (st y) / 365 = y ∧ gg (st (y+1) - 1) / 365 = y := by decide +kernel
theorem st_mono1 (y : Nat) : st y < st (y+1) := by unfold st; omega
/-- the year within an era: where the days lie. -/
theorem yoe_of (n y : Nat) (hy : y < 400) (h1 : st y ≤ n) (h2 : n < st (y+1)) : gg n / 365 = y := by
  have ⟨e1, e2⟩ := ends y hy
  have m1 := gg_mono (st y) (n - st y)
  have m2 := gg_mono n (st (y+1) - 1 - n)
  rw [show st y + (n - st y) = n by omega] at m1
  rw [show n + (st (y+1) - 1 - n) = st (y+1) - 1 by omega] at m2
  omega
theorem find (n : Nat) (k : Nat) (h : n < st k) : ∃ y, y < k ∧ st y ≤ n ∧ n < st (y+1) := by
  induction k with
  | zero => simp [st] at h
  | succ k ih =>
    by_cases hk : n < st k
    · obtain ⟨y, h1, h2, h3⟩ := ih hk; exact ⟨y, by omega, h2, h3⟩
    · exact ⟨k, by omega, by omega, h⟩
theorem yoe (n : Nat) (h : n < 146097) : gg n / 365 < 400 ∧ st (gg n / 365) ≤ n ∧ n < st (gg n / 365 + 1) := by
  obtain ⟨y, h1, h2, h3⟩ := find n 400 (by simp [st]; omega)
  rw [yoe_of n y h1 h2 h3]; exact ⟨h1, h2, h3⟩

/-- dayNumber of the 1st of January, less 1 .. as Int -/
def dn (y : Int) : Int := (y - 1) / 400 * 146097 + (y - 1) % 400 * 365 + (y - 1) % 400 / 4 - (y - 1) % 400 / 100 + 306 - 730427
/-- the year of a day, as dateOf reckons it -/
def yr (day : Int) : Int :=
  let n := day + 730427
  let era := n / 146097
  let n := n % 146097
  let o := (n - n / 1460 + n / 36524 - n / 146096) / 365
  let n := n - (365 * o + o / 4 - o / 100)
  let m := (5 * n + 2) / 153
  if 12 < m + 3 then era * 400 + o + 1 else era * 400 + o
theorem dn_mono1 (y : Int) : dn y + 365 ≤ dn (y + 1) ∧ dn (y+1) ≤ dn y + 366 := by unfold dn; omega
theorem dn_mono (y : Int) (k : Nat) : dn y + 365 * k ≤ dn (y + k) := by
  induction k with
  | zero => simp
  | succ k ih => have := dn_mono1 (y + k); rw [show y + ((k + 1 : Nat) : Int) = y + k + 1 by omega]; omega
theorem dn_lt {y z : Int} (h : dn y < dn (z + 1)) : y ≤ z := by
  rcases (show y ≤ z ∨ z + 1 ≤ y by omega) with h1 | h1
  · exact h1
  · have := dn_mono (z + 1) (y - (z + 1)).toNat
    rw [show z + 1 + (((y - (z+1)).toNat : Nat) : Int) = y by omega] at this; omega
theorem dn_at (e o : Int) (h0 : 0 ≤ o) (h1 : o < 400) : dn (400 * e + o + 1) = e * 146097 + o * 365 + o / 4 - o / 100 + 306 - 730427 := by
  unfold dn
  have e1 : (400 * e + o + 1 - 1) / 400 = e := by omega
  have e2 : (400 * e + o + 1 - 1) % 400 = o := by omega
  rw [e1, e2]
/-- the year out of the era, the year of it, and the day of that. -/
theorem year_at (e o k : Int) (h0 : 0 ≤ o) (h1 : o < 400) (k0 : 0 ≤ k) (k1 : k < 365 + ((o + 1) / 4 - o / 4) - ((o + 1) / 100 - o / 100) + (o + 1) / 400) :
    let y := if 12 < (5 * k + 2) / 153 + 3 then e * 400 + o + 1 else e * 400 + o
    let day := e * 146097 + (365 * o + o / 4 - o / 100) + k - 730427
    dn y ≤ day ∧ day < dn (y + 1) := by
  have hm : 12 < (5 * k + 2) / 153 + 3 ↔ 306 ≤ k := by omega
  simp only [hm]
  by_cases hk : 306 ≤ k
  · simp only [hk, if_true]
    rw [show e * 400 + o + 1 = 400 * e + o + 1 by omega, dn_at e o h0 h1]
    refine ⟨by omega, ?_⟩
    by_cases h : o = 399
    · subst h
      rw [show 400 * e + 399 + 1 + 1 = 400 * (e + 1) + 0 + 1 by omega, dn_at (e+1) 0 (by omega) (by omega)]; omega
    · rw [show 400 * e + o + 1 + 1 = 400 * e + (o + 1) + 1 by omega, dn_at e (o+1) (by omega) (by omega)]; omega
  · simp only [hk, if_false]
    rw [show e * 400 + o + 1 = 400 * e + o + 1 by omega, dn_at e o h0 h1]
    refine ⟨?_, by omega⟩
    by_cases h : o = 0
    · subst h
      rw [show e * 400 + 0 = 400 * (e - 1) + 399 + 1 by omega, dn_at (e-1) 399 (by omega) (by omega)]; omega
    · rw [show e * 400 + o = 400 * e + (o - 1) + 1 by omega, dn_at e (o-1) (by omega) (by omega)]; omega
theorem yr_spec (day : Int) : dn (yr day) ≤ day ∧ day < dn (yr day + 1) := by
  obtain ⟨n, hn⟩ : ∃ n : Nat, (n : Int) = (day + 730427) % 146097 := ⟨((day + 730427) % 146097).toNat, by omega⟩
  have hlt : n < 146097 := by omega
  have hy := yoe n hlt
  have hg : ((gg n : Nat) : Int) = n - (n : Int) / 1460 + (n : Int) / 36524 - (n : Int) / 146096 := by unfold gg; omega
  generalize ho : gg n / 365 = o at hy
  have ho' : (o : Int) = (n - (n : Int) / 1460 + (n : Int) / 36524 - (n : Int) / 146096) / 365 := by rw [← hg]; omega
  have hy' : (o : Int) < 400 ∧ 365 * (o : Int) + (o : Int) / 4 - (o : Int) / 100 ≤ n ∧ (n : Int) < 365 * ((o : Int) + 1) + ((o : Int) + 1) / 4 - ((o : Int) + 1) / 100 + ((o : Int) + 1) / 400 := by
    have c1 : ((st o : Nat) : Int) = 365 * (o : Int) + (o : Int) / 4 - (o : Int) / 100 + (o : Int) / 400 := by unfold st; omega
    have c2 : ((st (o + 1) : Nat) : Int) = 365 * ((o : Int) + 1) + ((o : Int) + 1) / 4 - ((o : Int) + 1) / 100 + ((o : Int) + 1) / 400 := by
      have : ((o + 1 : Nat) : Int) = (o : Int) + 1 := by omega
      rw [← this]; unfold st; omega
    clear ho' hg ho
    omega
  clear hy hg ho
  have key := year_at ((day + 730427) / 146097) o (n - (365 * (o : Int) + (o : Int) / 4 - (o : Int) / 100)) (by omega) hy'.1 (by omega) (by omega)
  unfold yr
  simp only [← hn, ← ho']
  have hd : (day + 730427) / 146097 * 146097 + (365 * (o : Int) + (o : Int) / 4 - (o : Int) / 100) + (n - (365 * (o : Int) + (o : Int) / 4 - (o : Int) / 100)) - 730427 = day := by omega
  simp only [hd] at key
  exact key
theorem yr_unique {day y : Int} (h1 : dn y ≤ day) (h2 : day < dn (y + 1)) : yr day = y := by
  have ⟨a, b⟩ := yr_spec day
  have c : y ≤ yr day := dn_lt (by omega)
  have d : yr day ≤ y := dn_lt (by omega)
  omega

/-! ### the reference -/
def leap (y : Int) : Bool := y % 4 == 0 && (y % 100 != 0 || y % 400 == 0)
def yl (y : Int) : Int := if leap y = true then 366 else 365
theorem yl_dn (y : Int) : yl y = dn (y + 1) - dn y := by
  unfold yl leap
  simp only [Bool.and_eq_true, Bool.or_eq_true, beq_iff_eq, bne_iff_ne, ne_eq]
  unfold dn
  split <;> omega
/-- the sum of the lengths of k years from y on. -/
def suml (y : Int) : Nat → Int
  | 0 => 0
  | k + 1 => suml y k + yl (y + k)
theorem suml_dn (y : Int) (k : Nat) : suml y k = dn (y + k) - dn y := by
  induction k with
  | zero => simp [suml]
  | succ k ih => rw [suml, ih, yl_dn, show y + ((k + 1 : Nat) : Int) = y + k + 1 by omega]; omega
theorem dn2000 : dn 2000 = -2 := by decide
theorem dn_era (y k : Int) : dn (y + 400 * k) = dn y + 146097 * k := by unfold dn; omega
/-- before(year), for a year from 2000 on -/
theorem before_dn (y : Int) : (y - 2000) / 400 * 146097 + suml 2000 ((y - 2000) % 400).toNat = dn y + 2 := by
  rw [suml_dn, dn2000, show 2000 + ((((y - 2000) % 400).toNat : Nat) : Int) = 2000 + (y - 2000) % 400 by omega]
  have := dn_era (2000 + (y - 2000) % 400) ((y - 2000) / 400)
  rw [show 2000 + (y - 2000) % 400 + 400 * ((y - 2000) / 400) = y by omega] at this
  omega
/-- the first Monday of week 1 of a year -/
def fm (y : Int) : Int := dn y + 3 - (dn y + 3) % 7
theorem fm_le (y day : Int) : fm y ≤ day ↔ dn y ≤ day - day % 7 + 3 := by unfold fm; omega
theorem fm_week (y day : Int) : (day - fm y) / 7 + 1 = (day - day % 7 + 3 - dn y) / 7 + 1 := by unfold fm; omega

/-! ### what the program reckons -/
/-- the number of a day, as the program reckons it -/
def dayNum (y m d : Int) : Int :=
  let y' := if m < 3 then y - 1 else y
  y' / 400 * 146097 + y' % 400 * 365 + y' % 400 / 4 - y' % 400 / 100 + (153 * ((m + 9) % 12) + 2) / 5 + d - 1 - 730427
theorem dayNum_jan (y d : Int) : dayNum y 1 d = dn y + d - 1 := by
  unfold dayNum dn; simp; omega
/-- the day within the era, the year of the era, the day of that year, the month counted from March -/
def eraOf (day : Int) : Int := (day + 730427) / 146097
def inEra (day : Int) : Int := (day + 730427) % 146097
def yoeOf (day : Int) : Int := (inEra day - inEra day / 1460 + inEra day / 36524 - inEra day / 146096) / 365
def doyOf (day : Int) : Int := inEra day - (365 * yoeOf day + yoeOf day / 4 - yoeOf day / 100)
def mpOf (day : Int) : Int := (5 * doyOf day + 2) / 153
def yearOf (day : Int) : Int := if 12 < mpOf day + 3 then eraOf day * 400 + yoeOf day + 1 else eraOf day * 400 + yoeOf day
def monthOf (day : Int) : Int := if 12 < mpOf day + 3 then mpOf day + 3 - 12 else mpOf day + 3
def dateOf (day : Int) : Int := doyOf day - (153 * mpOf day + 2) / 5 + 1
theorem yearOf_yr (day : Int) : yearOf day = yr day := rfl
theorem bounds (day : Int) : 0 ≤ inEra day ∧ inEra day < 146097 ∧ 0 ≤ yoeOf day ∧ yoeOf day < 400 ∧ 0 ≤ doyOf day ∧ doyOf day ≤ 365 ∧ 0 ≤ mpOf day ∧ mpOf day ≤ 11 := by
  have h1 : 0 ≤ inEra day ∧ inEra day < 146097 := by unfold inEra; omega
  obtain ⟨n, hn⟩ := Int.eq_ofNat_of_zero_le h1.1
  have hlt : n < 146097 := by omega
  have hy := yoe n hlt
  have hg : ((gg n : Nat) : Int) = n - (n : Int) / 1460 + (n : Int) / 36524 - (n : Int) / 146096 := by unfold gg; omega
  have ho : yoeOf day = ((gg n / 365 : Nat) : Int) := by unfold yoeOf; rw [hn, ← hg]; omega
  generalize gg n / 365 = o at hy ho
  have hy' : (o : Int) < 400 ∧ 365 * (o : Int) + (o : Int) / 4 - (o : Int) / 100 ≤ n ∧ (n : Int) < 365 * ((o : Int) + 1) + ((o : Int) + 1) / 4 - ((o : Int) + 1) / 100 + ((o : Int) + 1) / 400 := by
    have c1 : ((st o : Nat) : Int) = 365 * (o : Int) + (o : Int) / 4 - (o : Int) / 100 + (o : Int) / 400 := by unfold st; omega
    have c2 : ((st (o + 1) : Nat) : Int) = 365 * ((o : Int) + 1) + ((o : Int) + 1) / 4 - ((o : Int) + 1) / 100 + ((o : Int) + 1) / 400 := by
      have : ((o + 1 : Nat) : Int) = (o : Int) + 1 := by omega
      rw [← this]; unfold st; omega
    clear ho hg
    omega
  have h3 : 0 ≤ doyOf day ∧ doyOf day ≤ 365 := by unfold doyOf; rw [ho, hn]; omega
  have h4 : 0 ≤ mpOf day ∧ mpOf day ≤ 11 := by unfold mpOf; omega
  exact ⟨h1.1, h1.2, by omega, by omega, h3.1, h3.2, h4.1, h4.2⟩
/-! ### the months of the reference -/
def ml (y m : Int) : Int := if m = 2 then yl y - 337 else if m = 4 ∨ m = 6 ∨ m = 9 ∨ m = 11 then 30 else 31
theorem yl_cases (y : Int) : yl y = 365 ∨ yl y = 366 := by unfold yl; split <;> simp
theorem ml_bounds (y m : Int) : 28 ≤ ml y m ∧ ml y m ≤ 31 := by
  have := yl_cases y
  unfold ml; split
  · omega
  · split <;> omega
/-- month by month -/
def mloop (y : Int) : Nat → Int → Int → Int × Int
  | 0, m, n => (m, n)
  | f + 1, m, n => if ml y m ≤ n then mloop y f (m + 1) (n - ml y m) else (m, n)
/-- the days ahead of a month -/
def cum (y : Int) (m : Nat) : Int := match m with | 0 => 0 | k + 1 => cum y k + ml y ((k : Int) + 1)
theorem cum_all (y : Int) : cum y 12 = yl y := by
  simp only [cum, ml]
  omega
end Cal

/- Sets of spans, in plain words: how many numbers belong to one. -/
namespace Sp
def inB (l : List (Int × Int)) (n : Int) : Bool := l.any fun x => decide (x.1 ≤ n) && decide (n ≤ x.2)
theorem inB_iff {l : List (Int × Int)} {n : Int} : inB l n = true ↔ mem l n := by
  unfold inB mem
  rw [List.any_eq_true]
  constructor
  · rintro ⟨x, hx, h⟩
    simp only [Bool.and_eq_true, decide_eq_true_eq] at h
    exact ⟨x, hx, h⟩
  · rintro ⟨x, hx, h⟩
    exact ⟨x, hx, by simpa only [Bool.and_eq_true, decide_eq_true_eq] using h⟩
def size (l : List (Int × Int)) : Int := l.foldl (fun n x => n + (x.2 - x.1 + 1)) 0
theorem foldl_acc (l : List (Int × Int)) : ∀ n : Int, l.foldl (fun n x => n + (x.2 - x.1 + 1)) n = n + l.foldl (fun n x => n + (x.2 - x.1 + 1)) 0 := by
  induction l with
  | nil => intro n; simp
  | cons x l ih =>
    intro n
    rw [List.foldl_cons, List.foldl_cons, ih, ih (0 + _)]
    omega
theorem size_cons (x : Int × Int) (l : List (Int × Int)) : size (x :: l) = x.2 - x.1 + 1 + size l := by
  unfold size
  rw [List.foldl_cons, foldl_acc]
  omega
/-- how many of lo, lo + 1, .. lo + (k - 1) -/
def cnt (f : Int → Bool) (lo : Int) : Nat → Int
  | 0 => 0
  | k + 1 => cnt f lo k + if f (lo + (k : Int)) = true then 1 else 0
theorem cnt_two (f g : Int → Bool) (lo : Int) : ∀ k, cnt (fun n => f n || g n) lo k + cnt (fun n => f n && g n) lo k = cnt f lo k + cnt g lo k
  | 0 => rfl
  | k + 1 => by
    have ih := cnt_two f g lo k
    simp only [cnt]
    by_cases hf : f (lo + (k : Int)) = true <;> by_cases hg : g (lo + (k : Int)) = true <;> simp [hf, hg] <;> omega
theorem cnt_congr {f g : Int → Bool} {lo : Int} (h : ∀ n, f n = g n) : ∀ k, cnt f lo k = cnt g lo k
  | 0 => rfl
  | k + 1 => by rw [cnt, cnt, cnt_congr h k, h]
theorem cnt_none {f : Int → Bool} {lo : Int} (h : ∀ n, f n = false) : ∀ k, cnt f lo k = 0
  | 0 => rfl
  | k + 1 => by rw [cnt, cnt_none h k, h]; rfl
theorem cnt_span (a b lo : Int) : ∀ k : Nat, cnt (fun n => decide (a ≤ n) && decide (n ≤ b)) lo k = max 0 (min b (lo + (k : Int) - 1) - max a lo + 1)
  | 0 => by
    show (0 : Int) = _
    omega
  | k + 1 => by
    rw [cnt, cnt_span a b lo k]
    by_cases h : a ≤ lo + (k : Int) ∧ lo + (k : Int) ≤ b
    · rw [if_pos (by simpa only [Bool.and_eq_true, decide_eq_true_eq] using h)]
      omega
    · rw [if_neg (by simpa only [Bool.and_eq_true, decide_eq_true_eq] using h)]
      omega
theorem size_cnt {lo : Int} {k : Nat} : ∀ {l : List (Int × Int)}, Norm l → (∀ x, x ∈ l → lo ≤ x.1 ∧ x.2 < lo + (k : Int)) → size l = cnt (inB l) lo k
  | [], _, _ => (cnt_none (fun _ => rfl) k).symm
  | x :: l, h, hb => by
    have h1 := h.1
    obtain ⟨b1, b2⟩ := hb x (List.mem_cons_self ..)
    have ih := size_cnt h.2.2 (fun y hy => hb y (List.mem_cons_of_mem _ hy))
    have two := cnt_two (fun n => decide (x.1 ≤ n) && decide (n ≤ x.2)) (inB l) lo k
    have hn : cnt (fun n => (decide (x.1 ≤ n) && decide (n ≤ x.2)) && inB l n) lo k = 0 := cnt_none (fun n => by
      cases hb2 : ((decide (x.1 ≤ n) && decide (n ≤ x.2)) && inB l n) with
      | false => rfl
      | true =>
        simp only [Bool.and_eq_true, decide_eq_true_eq] at hb2
        obtain ⟨z, hz, k1, _⟩ := inB_iff.1 hb2.2
        have := h.2.1 z hz
        omega) k
    have hs := cnt_span x.1 x.2 lo k
    have ho : cnt (inB (x :: l)) lo k = cnt (fun n => (decide (x.1 ≤ n) && decide (n ≤ x.2)) || inB l n) lo k := cnt_congr (fun n => rfl) k
    rw [size_cons, ho]
    omega
/-- sizes add up -/
theorem sizes {a b u c r : List (Int × Int)} {M : Nat} (ha : Norm a) (hb : Norm b) (hu : Norm u) (hc : Norm c) (hr : Norm r) (hu2 : ∀ n, mem u n ↔ mem a n ∨ mem b n) (hc2 : ∀ n, mem c n ↔ mem a n ∧ mem b n) (hr2 : ∀ n, mem r n ↔ mem a n ∧ ¬ mem b n)
    (ba : ∀ x, x ∈ a → 0 ≤ x.1 ∧ x.2 < (M : Int)) (bb : ∀ x, x ∈ b → 0 ≤ x.1 ∧ x.2 < (M : Int)) : size u + size c = size a + size b ∧ size r + size c = size a := by
  have inr : ∀ {l : List (Int × Int)}, Norm l → (∀ n, mem l n → 0 ≤ n ∧ n < (M : Int)) → ∀ x, x ∈ l → (0 : Int) ≤ x.1 ∧ x.2 < 0 + (M : Int) := fun hl h x hx => by
    have e := hl.each x hx
    have h1 := h x.1 ⟨x, hx, Int.le_refl _, e⟩
    have h2 := h x.2 ⟨x, hx, e, Int.le_refl _⟩
    omega
  have ma : ∀ n, mem a n → 0 ≤ n ∧ n < (M : Int) := fun n ⟨x, hx, h1, h2⟩ => by have := ba x hx; omega
  have mb : ∀ n, mem b n → 0 ≤ n ∧ n < (M : Int) := fun n ⟨x, hx, h1, h2⟩ => by have := bb x hx; omega
  rw [size_cnt hu (inr hu (fun n h => ((hu2 n).1 h).elim (ma n) (mb n))), size_cnt hc (inr hc (fun n h => ma n ((hc2 n).1 h).1)), size_cnt hr (inr hr (fun n h => ma n ((hr2 n).1 h).1)), size_cnt ha (inr ha ma), size_cnt hb (inr hb mb)]
  have b_or : ∀ n, inB u n = (inB a n || inB b n) := fun n => by
    have := hu2 n
    rw [← inB_iff, ← inB_iff, ← inB_iff] at this
    cases h1 : inB u n <;> cases h2 : inB a n <;> cases h3 : inB b n <;> simp_all
  have b_and : ∀ n, inB c n = (inB a n && inB b n) := fun n => by
    have := hc2 n
    rw [← inB_iff, ← inB_iff, ← inB_iff] at this
    cases h1 : inB c n <;> cases h2 : inB a n <;> cases h3 : inB b n <;> simp_all
  have b_less : ∀ n, inB r n = (inB a n && !inB b n) := fun n => by
    have := hr2 n
    rw [← inB_iff, ← inB_iff, ← inB_iff] at this
    cases h1 : inB r n <;> cases h2 : inB a n <;> cases h3 : inB b n <;> simp_all
  rw [cnt_congr b_or, cnt_congr b_and, cnt_congr b_less]
  refine ⟨cnt_two _ _ _ _, ?_⟩
  have two := cnt_two (fun n => inB a n && !inB b n) (fun n => inB a n && inB b n) 0 M
  have h1 : cnt (fun n => (inB a n && !inB b n) || (inB a n && inB b n)) 0 M = cnt (inB a) 0 M := cnt_congr (fun n => by cases inB a n <;> cases inB b n <;> rfl) M
  have h2 : cnt (fun n => (inB a n && !inB b n) && (inB a n && inB b n)) 0 M = 0 := cnt_none (fun n => by cases inB a n <;> cases inB b n <;> rfl) M
  omega
end Sp
