/- Several texts of this claim in one. -/
/- A text of this claim. -/
namespace Tr
structure Ed where
 k : Int
 n : Int
 f : Int
 t : Int
 s : ByteArray
theorem Ed.ext' {x y : Ed} (h1 : x.k = y.k) (h2 : x.n = y.n) (h3 : x.f = y.f) (h4 : x.t = y.t) (h5 : x.s = y.s) : x = y := by
 cases x; cases y
 simp only at h1 h2 h3 h4 h5
 subst h1 h2 h3 h4 h5
 rfl
def isZero (x : Ed) : Bool := decide (x.n = 0) && (decide (x.k = 5) || decide (x.k = 6) || decide (x.k = 9))
def most (k : Int) : Int := if k = 5 then 86399999999 else 200000
def inR (n least most : Int) : Bool := decide (least ≤ n) && decide (n ≤ most)
def united (x y : Ed) : Option (List Ed) :=
 if x.s = y.s ∧ (x.k = 3 ∧ y.k = 4 ∨ x.k = 4 ∧ y.k = 3) then some []
 else if x.k ≠ y.k then none
 else if x.k = 1 ∨ x.k = 2 then some [y]
 else if x.k = 7 then (if x.n = y.n then some [y] else none)
 else if x.k = 5 ∨ x.k = 6 then (if inR (y.n + x.n) (- most x.k) (most x.k) = true then some [{ y with n := y.n + x.n }] else none)
 else none
def rank (k : Int) : Int := if k = 1 then 1 else if k = 2 then 2 else if k = 3 ∨ k = 4 then 3 else if k = 5 then 4 else if k = 6 then 5 else if k = 7 then 6 else 7
def numOf (x : Ed) : Int := if x.k = 7 then x.n else 0
def txtOf (x : Ed) : List UInt8 := if x.k = 3 ∨ x.k = 4 then x.s.data.toList else []
def ltB : List UInt8 → List UInt8 → Bool
 | _, [] => false
 | [], _ :: _ => true
 | a :: l, b :: m => if a < b then true else if b < a then false else ltB l m
theorem ltB_asymm : ∀ (a b : List UInt8), ltB a b = true → ltB b a = false
 | [], [], h => by simp [ltB] at h
 | [], _ :: _, _ => rfl
 | _ :: _, [], h => by simp [ltB] at h
 | x :: a, y :: b, h => by
  rw [ltB] at h ⊢
  by_cases h1 : x < y
  · have h2 : ¬ y < x := fun h2 => by
     rw [UInt8.lt_iff_toNat_lt] at h1 h2
     omega
    rw [if_neg h2, if_pos h1]
  · rw [if_neg h1] at h
    by_cases h2 : y < x
    · rw [if_pos h2] at h
      cases h
    · rw [if_neg h2] at h
      rw [if_neg h2, if_neg h1]
      exact ltB_asymm a b h
def bef (x y : Ed) : Bool :=
 if rank x.k = rank y.k then (if numOf x = numOf y then ltB (txtOf x) (txtOf y) else decide (numOf x < numOf y)) else decide (rank x.k < rank y.k)
theorem bef_asymm {x y : Ed} (h : bef x y = true) : bef y x = false := by
 unfold bef at h ⊢
 by_cases h1 : rank x.k = rank y.k
 · rw [if_pos h1] at h
   rw [if_pos h1.symm]
   by_cases h2 : numOf x = numOf y
   · rw [if_pos h2] at h
     rw [if_pos h2.symm]
     exact ltB_asymm _ _ h
   · rw [if_neg h2] at h
     rw [if_neg (fun e => h2 e.symm)]
     simp only [decide_eq_true_eq] at h
     simp only [decide_eq_false_iff_not]
     omega
 · rw [if_neg h1] at h
   rw [if_neg (fun e => h1 e.symm)]
   simp only [decide_eq_true_eq] at h
   simp only [decide_eq_false_iff_not]
   omega
def rule1 : List Ed → Option (List Ed)
 | [] => none
 | x :: l => if isZero x = true then some l else (rule1 l).map (x :: ·)
def rule2 : List Ed → Option (List Ed)
 | [] => none
 | [_] => none
 | x :: y :: l => match united x y with
  | some m => some (m ++ l)
  | none => (rule2 (y :: l)).map (x :: ·)
def rule3 : List Ed → Option (List Ed)
 | [] => none
 | [_] => none
 | x :: y :: l => if bef y x = true then some (y :: x :: l) else (rule3 (y :: l)).map (x :: ·)
def step (l : List Ed) : Option (List Ed) := ((rule1 l).or (rule2 l)).or (rule3 l)
def cnt (x : Ed) : List Ed → Nat
 | [] => 0
 | y :: l => (if bef y x = true then 1 else 0) + cnt x l
def inv : List Ed → Nat
 | [] => 0
 | x :: l => cnt x l + inv l
theorem cnt_le (x : Ed) : ∀ l : List Ed, cnt x l ≤ l.length
 | [] => Nat.le_refl _
 | y :: l => by
  rw [cnt, List.length_cons]
  have := cnt_le x l
  split <;> omega
theorem inv_le : ∀ l : List Ed, inv l ≤ l.length * l.length
 | [] => Nat.le_refl _
 | x :: l => by
  rw [inv, List.length_cons]
  have h1 := cnt_le x l
  have h2 := inv_le l
  have h3 : (l.length + 1) * (l.length + 1) = l.length * l.length + 2 * l.length + 1 := by
   rw [Nat.add_mul, Nat.mul_add]
   omega
  omega
theorem cnt_perm (x : Ed) {l m : List Ed} (h : l.Perm m) : cnt x l = cnt x m := by
 induction h with
 | nil => rfl
 | cons y _ ih => rw [cnt, cnt, ih]
 | swap y z l => rw [cnt, cnt, cnt, cnt]; omega
 | trans _ _ i1 i2 => rw [i1, i2]
theorem rule3_perm : ∀ {l m : List Ed}, rule3 l = some m → m.Perm l ∧ inv m < inv l
 | [], m, h => by simp [rule3] at h
 | [_], m, h => by simp [rule3] at h
 | x :: y :: l, m, h => by
  rw [rule3] at h
  by_cases hb : bef y x = true
  · rw [if_pos hb] at h
    injection h with h
    subst h
    refine ⟨List.Perm.swap x y l, ?_⟩
    rw [inv, inv, inv, inv, cnt, cnt, hb, bef_asymm hb, if_pos rfl, if_neg (by simp)]
    omega
  · rw [if_neg hb] at h
    cases hr : rule3 (y :: l) with
    | none => rw [hr] at h; cases h
    | some r =>
     rw [hr] at h
     injection h with h
     subst h
     obtain ⟨h1, h2⟩ := rule3_perm hr
     refine ⟨h1.cons x, ?_⟩
     show cnt x r + inv r < cnt x (y :: l) + inv (y :: l)
     rw [cnt_perm x h1]
     omega
theorem rule1_len : ∀ {l m : List Ed}, rule1 l = some m → m.length + 1 = l.length ∧ ∀ z, z ∈ m → z ∈ l
 | [], m, h => by cases h
 | x :: l, m, h => by
  rw [rule1] at h
  split at h
  · injection h with h
    subst h
    exact ⟨rfl, fun z hz => List.mem_cons_of_mem _ hz⟩
  · cases hr : rule1 l with
    | none => rw [hr] at h; cases h
    | some r =>
     rw [hr] at h
     injection h with h
     subst h
     obtain ⟨h1, h2⟩ := rule1_len hr
     refine ⟨by rw [List.length_cons, List.length_cons, h1], fun z hz => ?_⟩
     rcases List.mem_cons.1 hz with rfl | hz
     · exact List.mem_cons_self ..
     · exact List.mem_cons_of_mem _ (h2 z hz)
theorem united_len {x y : Ed} {m : List Ed} (h : united x y = some m) : m.length ≤ 1 := by
 unfold united at h
 split at h
 · injection h with h; subst h; exact Nat.zero_le _
 · split at h
   · cases h
   · split at h
     · injection h with h; subst h; exact Nat.le_refl _
     · split at h
       · split at h
         · injection h with h; subst h; exact Nat.le_refl _
         · cases h
       · split at h
         · split at h
           · injection h with h; subst h; exact Nat.le_refl _
           · cases h
         · cases h
theorem rule2_len : ∀ {l m : List Ed}, rule2 l = some m → m.length < l.length
 | [], m, h => by simp [rule2] at h
 | [_], m, h => by simp [rule2] at h
 | x :: y :: l, m, h => by
  rw [rule2] at h
  split at h
  · rename_i u hu
    injection h with h
    subst h
    have := united_len hu
    rw [List.length_append, List.length_cons, List.length_cons]
    omega
  · cases hr : rule2 (y :: l) with
    | none => rw [hr] at h; cases h
    | some r =>
     rw [hr] at h
     injection h with h
     subst h
     have := rule2_len hr
     rw [List.length_cons, List.length_cons]
     omega
def mu (l : List Ed) : Nat := l.length * 40001 + inv l
theorem step_mu {l m : List Ed} (hl : l.length ≤ 200) (h : step l = some m) : mu m < mu l ∧ m.length ≤ l.length := by
 have hq : ∀ m : List Ed, m.length ≤ 200 → inv m ≤ 40000 := fun m hm => Nat.le_trans (inv_le m) (Nat.le_trans (Nat.mul_le_mul hm hm) (by omega))
 have short : m.length < l.length → mu m < mu l ∧ m.length ≤ l.length := fun hs => by
  have := hq m (by omega)
  unfold mu
  omega
 unfold step at h
 cases h1 : rule1 l with
 | some r =>
  rw [h1] at h
  injection h with h
  subst h
  have := (rule1_len h1).1
  exact short (by omega)
 | none =>
  rw [h1] at h
  cases h2 : rule2 l with
  | some r =>
   rw [h2] at h
   injection h with h
   subst h
   exact short (rule2_len h2)
  | none =>
   rw [h2] at h
   have h3 : rule3 l = some m := h
   obtain ⟨p, q⟩ := rule3_perm h3
   have := p.length_eq
   unfold mu
   omega
def tidy : Nat → List Ed → List Ed
 | 0, l => l
 | f + 1, l => match step l with
  | none => l
  | some m => tidy f m
def tidyL (l : List Ed) : List Ed := tidy (mu l + 1) l
theorem tidy_more (f : Nat) : ∀ (g : Nat) (l : List Ed), l.length ≤ 200 → mu l < f → mu l < g → tidy f l = tidy g l := by
 induction f with
 | zero => intro g l _ h _; exact absurd h (Nat.not_lt_zero _)
 | succ f ih =>
  intro g l hl h1 h2
  cases g with
  | zero => exact absurd h2 (Nat.not_lt_zero _)
  | succ g =>
   rw [tidy, tidy]
   cases hs : step l with
   | none => rfl
   | some m =>
    obtain ⟨h3, h4⟩ := step_mu hl hs
    exact ih g m (Nat.le_trans h4 hl) (Nat.lt_of_lt_of_le h3 (Nat.le_of_lt_succ h1)) (Nat.lt_of_lt_of_le h3 (Nat.le_of_lt_succ h2))
theorem tidyL_step {l m : List Ed} (hl : l.length ≤ 200) (h : step l = some m) : tidyL l = tidyL m := by
 obtain ⟨h1, h2⟩ := step_mu hl h
 unfold tidyL
 rw [tidy, h]
 exact tidy_more _ _ m (Nat.le_trans h2 hl) h1 (Nat.lt_succ_self _)
theorem tidyL_none {l : List Ed} (h : step l = none) : tidyL l = l := by
 unfold tidyL
 rw [tidy, h]
theorem step_all {P : Ed → Prop} (hu : ∀ x y m, P x → P y → united x y = some m → ∀ z, z ∈ m → P z) {l m : List Ed} (h : step l = some m) (hP : ∀ x, x ∈ l → P x) : ∀ x, x ∈ m → P x := by
 have r2 : ∀ {l m : List Ed}, rule2 l = some m → (∀ x, x ∈ l → P x) → ∀ x, x ∈ m → P x := fun {l} => by
  induction l with
  | nil => intro m h; simp [rule2] at h
  | cons x l ih =>
   intro m h hP
   cases l with
   | nil => simp [rule2] at h
   | cons y l =>
    rw [rule2] at h
    split at h
    · rename_i u huu
      injection h with h
      subst h
      intro z hz
      rcases List.mem_append.1 hz with hz | hz
      · exact hu x y u (hP x (List.mem_cons_self ..)) (hP y (List.mem_cons_of_mem _ (List.mem_cons_self ..))) huu z hz
      · exact hP z (List.mem_cons_of_mem _ (List.mem_cons_of_mem _ hz))
    · cases hr : rule2 (y :: l) with
      | none => rw [hr] at h; cases h
      | some r =>
       rw [hr] at h
       injection h with h
       subst h
       intro z hz
       rcases List.mem_cons.1 hz with rfl | hz
       · exact hP _ (List.mem_cons_self ..)
       · exact ih hr (fun w hw => hP w (List.mem_cons_of_mem _ hw)) z hz
 unfold step at h
 cases h1 : rule1 l with
 | some r =>
  rw [h1] at h
  injection h with h
  subst h
  exact fun x hx => hP x ((rule1_len h1).2 x hx)
 | none =>
  rw [h1] at h
  cases h2 : rule2 l with
  | some r =>
   rw [h2] at h
   injection h with h
   subst h
   exact r2 h2 hP
  | none =>
   rw [h2] at h
   have h3 : rule3 l = some m := h
   exact fun x hx => hP x ((rule3_perm h3).1.mem_iff.1 hx)
end Tr

/- A text of this claim. -/
namespace Go.Proofs.YtcngjbfbdonpeaaGreatDoor
namespace Gmt
end Gmt
end Go.Proofs.YtcngjbfbdonpeaaGreatDoor

/- A text of this claim. -/
namespace Knuth
theorem up {B u d a b q : Nat} (hd : d < B) (hq : q * (a * B + b) ≤ u * B + d) (ha : 0 < a) : q ≤ u / a := by
 rw [Nat.le_div_iff_mul_le ha]
 have h1 : q * a * B ≤ u * B + d := by
  have : q * (a * B + b) = q * a * B + q * b := by rw [Nat.mul_add, Nat.mul_assoc]
  omega
 have h2 : q * a * B < (u + 1) * B := by rw [Nat.add_mul]; omega
 have := Nat.lt_of_mul_lt_mul_right h2
 omega
theorem first {B u a b : Nat} (hb : b < B) (ha : B ≤ 2 * a) (ha0 : 0 < a) (hu : u < a * B + b) : u / a ≤ B + 1 := by
 have : u / a < B + 2 := by
  rw [Nat.div_lt_iff_lt_mul ha0]
  have : (B + 2) * a = a * B + 2 * a := by rw [Nat.add_mul, Nat.mul_comm B a]
  omega
 omega
theorem digit {n y q : Nat} (h1 : q * y ≤ n) (h2 : n < (q + 1) * y) : n / y = q := by
 have hy : 0 < y := by
  rcases Nat.eq_zero_or_pos y with h | h
  · subst h; simp at h2
  · exact h
 rw [Nat.div_eq_iff hy]
 rw [Nat.add_mul] at h2
 omega
theorem below {B u d y : Nat} (hd : d < B) (hu : u < y) : (u * B + d) / y < B := by
 rw [Nat.div_lt_iff_lt_mul (by omega)]
 have : u * B + B ≤ y * B := by rw [← Nat.succ_mul]; exact Nat.mul_le_mul_right _ hu
 rw [Nat.mul_comm B y]; omega
theorem two {B u d1 d0 y : Nat} (hy : 0 < y) :
 ((u * B + d1) * B + d0) / y = (u * B + d1) / y * B + ((u * B + d1) % y * B + d0) / y ∧
 ((u * B + d1) * B + d0) % y = ((u * B + d1) % y * B + d0) % y := by
 have h := Nat.div_add_mod (u * B + d1) y
 have e : (u * B + d1) * B + d0 = ((u * B + d1) % y * B + d0) + y * ((u * B + d1) / y * B) := by
  have h' : (u * B + d1) * B = (y * ((u * B + d1) / y) + (u * B + d1) % y) * B := by rw [h]
  rw [h', Nat.add_mul, Nat.mul_assoc]; omega
 constructor
 · conv => lhs; rw [e]
   rw [Nat.add_mul_div_left _ _ hy]; omega
 · conv => lhs; rw [e]
   rw [Nat.add_mul_mod_self_left]
theorem shifted {n y s : Nat} : (n * 2 ^ s) / (y * 2 ^ s) = n / y ∧ (n * 2 ^ s) % (y * 2 ^ s) / 2 ^ s = n % y := by
 have hp : 0 < 2 ^ s := Nat.two_pow_pos s
 refine ⟨Nat.mul_div_mul_right _ _ hp, ?_⟩
 rw [Nat.mul_mod_mul_right, Nat.mul_div_cancel _ hp]
theorem digits {B N y s u d1 d0 Y : Nat} (hY : y * 2 ^ s = Y) (h0 : 0 < Y) (hN : N * 2 ^ s = (u * B + d1) * B + d0) :
 ∃ Q1 u2 Q0 r2, Q1 = (u * B + d1) / Y ∧ Q0 = (u2 * B + d0) / Y ∧ Y * Q1 + u2 = u * B + d1 ∧ Y * Q0 + r2 = u2 * B + d0 ∧ u2 < Y ∧ r2 < Y ∧ N / y = Q1 * B + Q0 ∧ N % y = r2 / 2 ^ s := by
 have htwo := two (B := B) (u := u) (d1 := d1) (d0 := d0) (y := Y) h0
 rw [← hN, ← hY] at htwo
 have hsh := shifted (n := N) (y := y) (s := s)
 rw [hsh.1] at htwo
 rw [htwo.2] at hsh
 rw [hY] at htwo hsh
 exact ⟨_, _, _, _, rfl, rfl, Nat.div_add_mod _ _, Nat.div_add_mod _ _, Nat.mod_lt _ h0, Nat.mod_lt _ h0, htwo.1, hsh.2.symm⟩
end Knuth

/- A text of this claim. -/
namespace Sc
end Sc

/- A text of this claim. -/
namespace Tr
def fstIdx (p : Ed → Bool) : List Ed → Nat → Int
 | [], _ => -1
 | x :: l, k => if p x = true then (k : Int) else fstIdx p l (k + 1)
theorem rule1_idx : ∀ (l : List Ed) (k : Nat), (fstIdx isZero l k = -1 ∧ rule1 l = none) ∨ ∃ j, j < l.length ∧ fstIdx isZero l k = ((k + j : Nat) : Int) ∧ rule1 l = some (l.take j ++ l.drop (j + 1))
 | [], k => Or.inl ⟨rfl, rfl⟩
 | x :: l, k => by
  rw [fstIdx, rule1]
  by_cases h : isZero x = true
  · rw [if_pos h, if_pos h]
    exact Or.inr ⟨0, by simp, rfl, rfl⟩
  · rw [if_neg h, if_neg h]
    rcases rule1_idx l (k + 1) with ⟨h1, h2⟩ | ⟨j, h1, h2, h3⟩
    · rw [h1, h2]
      exact Or.inl ⟨rfl, rfl⟩
    · rw [h2, h3]
      refine Or.inr ⟨j + 1, by simp; omega, ?_, rfl⟩
      omega
theorem drop_two {l : List Ed} {i : Nat} {x y : Ed} (hx : l[i]? = some x) (hy : l[i + 1]? = some y) : l.drop i = x :: y :: l.drop (i + 2) ∧ l.drop (i + 1) = y :: l.drop (i + 2) ∧ l.take (i + 1) = l.take i ++ [x] := by
 obtain ⟨h1, e1⟩ := List.getElem?_eq_some_iff.1 hx
 obtain ⟨h2, e2⟩ := List.getElem?_eq_some_iff.1 hy
 have d2 : l.drop (i + 1) = y :: l.drop (i + 2) := by rw [List.drop_eq_getElem_cons h2, e2]
 refine ⟨?_, d2, ?_⟩
 · rw [List.drop_eq_getElem_cons h1, e1, d2]
 · rw [List.take_succ_eq_append_getElem h1, e1]
theorem map_two (a : List Ed) (x : Ed) (o : Option (List Ed)) : (o.map (x :: ·)).map (a ++ ·) = o.map ((a ++ [x]) ++ ·) := by
 cases o with
 | none => rfl
 | some r => simp
theorem rule2_go {l : List Ed} {i : Nat} {x y : Ed} (hx : l[i]? = some x) (hy : l[i + 1]? = some y) (h : rule2 l = (rule2 (l.drop i)).map (l.take i ++ ·)) :
 (∀ m, united x y = some m → rule2 l = some (l.take i ++ (m ++ l.drop (i + 2)))) ∧ (united x y = none → rule2 l = (rule2 (l.drop (i + 1))).map (l.take (i + 1) ++ ·)) := by
 obtain ⟨d1, d2, d3⟩ := drop_two hx hy
 rw [d1, rule2] at h
 refine ⟨fun m hm => ?_, fun hm => ?_⟩
 · rw [h, hm]
   rfl
 · rw [h, hm, d3, d2]
   exact map_two _ _ _
theorem rule3_go {l : List Ed} {i : Nat} {x y : Ed} (hx : l[i]? = some x) (hy : l[i + 1]? = some y) (h : rule3 l = (rule3 (l.drop i)).map (l.take i ++ ·)) :
 (bef y x = true → rule3 l = some (l.take i ++ (y :: x :: l.drop (i + 2)))) ∧ (bef y x = false → rule3 l = (rule3 (l.drop (i + 1))).map (l.take (i + 1) ++ ·)) := by
 obtain ⟨d1, d2, d3⟩ := drop_two hx hy
 rw [d1, rule3] at h
 refine ⟨fun hb => ?_, fun hb => ?_⟩
 · rw [h, if_pos hb]
   rfl
 · rw [h, if_neg (by rw [hb]; simp), d3, d2]
   exact map_two _ _ _
theorem rule2_start (l : List Ed) : rule2 l = (rule2 (l.drop 0)).map (l.take 0 ++ ·) := by
 show rule2 l = (rule2 l).map (fun x => [] ++ x)
 cases rule2 l <;> rfl
theorem rule3_start (l : List Ed) : rule3 l = (rule3 (l.drop 0)).map (l.take 0 ++ ·) := by
 show rule3 l = (rule3 l).map (fun x => [] ++ x)
 cases rule3 l <;> rfl
theorem rule2_end {l : List Ed} {i : Nat} (hi : l.length ≤ i + 1) (h : rule2 l = (rule2 (l.drop i)).map (l.take i ++ ·)) : rule2 l = none := by
 have hl : (l.drop i).length ≤ 1 := by rw [List.length_drop]; omega
 generalize l.drop i = r at h hl
 match r, hl with
 | [], _ => exact h
 | [_], _ => exact h
theorem rule3_end {l : List Ed} {i : Nat} (hi : l.length ≤ i + 1) (h : rule3 l = (rule3 (l.drop i)).map (l.take i ++ ·)) : rule3 l = none := by
 have hl : (l.drop i).length ≤ 1 := by rw [List.length_drop]; omega
 generalize l.drop i = r at h hl
 match r, hl with
 | [], _ => exact h
 | [_], _ => exact h
end Tr
