/- Several texts of this claim in one. -/
/- A text of this claim. -/
namespace Tr
structure Ed where
 k : Int
 n : Int
 f : Int
 t : Int
 s : ByteArray
theorem Ed.ext' {x y : Ed} (h1 : x.k = y.k) (h2 : x.n = y.n) (h3 : x.f = y.f) (h4 : x.t = y.t) (h5 : x.s = y.s) : x = y := by
 cases x; cases y
 simp only at h1 h2 h3 h4 h5
 subst h1 h2 h3 h4 h5
 rfl
def isZero (x : Ed) : Bool := decide (x.n = 0) && (decide (x.k = 5) || decide (x.k = 6) || decide (x.k = 9))
def most (k : Int) : Int := if k = 5 then 86399999999 else 200000
def inR (n least most : Int) : Bool := decide (least ≤ n) && decide (n ≤ most)
def united (x y : Ed) : Option (List Ed) :=
 if x.s = y.s ∧ (x.k = 3 ∧ y.k = 4 ∨ x.k = 4 ∧ y.k = 3) then some []
 else if x.k ≠ y.k then none
 else if x.k = 1 ∨ x.k = 2 then some [y]
 else if x.k = 7 then (if x.n = y.n then some [y] else none)
 else if x.k = 5 ∨ x.k = 6 then (if inR (y.n + x.n) (- most x.k) (most x.k) = true then some [{ y with n := y.n + x.n }] else none)
 else none
def rank (k : Int) : Int := if k = 1 then 1 else if k = 2 then 2 else if k = 3 ∨ k = 4 then 3 else if k = 5 then 4 else if k = 6 then 5 else if k = 7 then 6 else 7
def numOf (x : Ed) : Int := if x.k = 7 then x.n else 0
def txtOf (x : Ed) : List UInt8 := if x.k = 3 ∨ x.k = 4 then x.s.data.toList else []
def ltB : List UInt8 → List UInt8 → Bool
 | _, [] => false
 | [], _ :: _ => true
 | a :: l, b :: m => if a < b then true else if b < a then false else ltB l m
theorem ltB_asymm : ∀ (a b : List UInt8), ltB a b = true → ltB b a = false
 | [], [], h => by simp [ltB] at h
 | [], _ :: _, _ => rfl
 | _ :: _, [], h => by simp [ltB] at h
 | x :: a, y :: b, h => by
  rw [ltB] at h ⊢
  by_cases h1 : x < y
  · have h2 : ¬ y < x := fun h2 => by
     rw [UInt8.lt_iff_toNat_lt] at h1 h2
     omega
    rw [if_neg h2, if_pos h1]
  · rw [if_neg h1] at h
    by_cases h2 : y < x
    · rw [if_pos h2] at h
      cases h
    · rw [if_neg h2] at h
      rw [if_neg h2, if_neg h1]
      exact ltB_asymm a b h
def bef (x y : Ed) : Bool :=
 if rank x.k = rank y.k then (if numOf x = numOf y then ltB (txtOf x) (txtOf y) else decide (numOf x < numOf y)) else decide (rank x.k < rank y.k)
theorem bef_asymm {x y : Ed} (h : bef x y = true) : bef y x = false := by
 unfold bef at h ⊢
 by_cases h1 : rank x.k = rank y.k
 · rw [if_pos h1] at h
   rw [if_pos h1.symm]
   by_cases h2 : numOf x = numOf y
   · rw [if_pos h2] at h
     rw [if_pos h2.symm]
     exact ltB_asymm _ _ h
   · rw [if_neg h2] at h
     rw [if_neg (fun e => h2 e.symm)]
     simp only [decide_eq_true_eq] at h
     simp only [decide_eq_false_iff_not]
     omega
 · rw [if_neg h1] at h
   rw [if_neg (fun e => h1 e.symm)]
   simp only [decide_eq_true_eq] at h
   simp only [decide_eq_false_iff_not]
   omega
def rule1 : List Ed → Option (List Ed)
 | [] => none
 | x :: l => if isZero x = true then some l else (rule1 l).map (x :: ·)
def rule2 : List Ed → Option (List Ed)
 | [] => none
 | [_] => none
 | x :: y :: l => match united x y with
  | some m => some (m ++ l)
  | none => (rule2 (y :: l)).map (x :: ·)
def rule3 : List Ed → Option (List Ed)
 | [] => none
 | [_] => none
 | x :: y :: l => if bef y x = true then some (y :: x :: l) else (rule3 (y :: l)).map (x :: ·)
def step (l : List Ed) : Option (List Ed) := ((rule1 l).or (rule2 l)).or (rule3 l)
def cnt (x : Ed) : List Ed → Nat
 | [] => 0
 | y :: l => (if bef y x = true then 1 else 0) + cnt x l
def inv : List Ed → Nat
 | [] => 0
 | x :: l => cnt x l + inv l
theorem cnt_le (x : Ed) : ∀ l : List Ed, cnt x l ≤ l.length
 | [] => Nat.le_refl _
 | y :: l => by
  rw [cnt, List.length_cons]
  have := cnt_le x l
  split <;> omega
theorem inv_le : ∀ l : List Ed, inv l ≤ l.length * l.length
 | [] => Nat.le_refl _
 | x :: l => by
  rw [inv, List.length_cons]
  have h1 := cnt_le x l
  have h2 := inv_le l
  have h3 : (l.length + 1) * (l.length + 1) = l.length * l.length + 2 * l.length + 1 := by
   rw [Nat.add_mul, Nat.mul_add]
   omega
  omega
theorem cnt_perm (x : Ed) {l m : List Ed} (h : l.Perm m) : cnt x l = cnt x m := by
 induction h with
 | nil => rfl
 | cons y _ ih => rw [cnt, cnt, ih]
 | swap y z l => rw [cnt, cnt, cnt, cnt]; omega
 | trans _ _ i1 i2 => rw [i1, i2]
theorem rule3_perm : ∀ {l m : List Ed}, rule3 l = some m → m.Perm l ∧ inv m < inv l
 | [], m, h => by simp [rule3] at h
 | [_], m, h => by simp [rule3] at h
 | x :: y :: l, m, h => by
  rw [rule3] at h
  by_cases hb : bef y x = true
  · rw [if_pos hb] at h
    injection h with h
    subst h
    refine ⟨List.Perm.swap x y l, ?_⟩
    rw [inv, inv, inv, inv, cnt, cnt, hb, bef_asymm hb, if_pos rfl, if_neg (by simp)]
    omega
  · rw [if_neg hb] at h
    cases hr : rule3 (y :: l) with
    | none => rw [hr] at h; cases h
    | some r =>
     rw [hr] at h
     injection h with h
     subst h
     obtain ⟨h1, h2⟩ := rule3_perm hr
     refine ⟨h1.cons x, ?_⟩
     show cnt x r + inv r < cnt x (y :: l) + inv (y :: l)
     rw [cnt_perm x h1]
     omega
theorem rule1_len : ∀ {l m : List Ed}, rule1 l = some m → m.length + 1 = l.length ∧ ∀ z, z ∈ m → z ∈ l
 | [], m, h => by cases h
 | x :: l, m, h => by
  rw [rule1] at h
  split at h
  · injection h with h
    subst h
    exact ⟨rfl, fun z hz => List.mem_cons_of_mem _ hz⟩
  · cases hr : rule1 l with
    | none => rw [hr] at h; cases h
    | some r =>
     rw [hr] at h
     injection h with h
     subst h
     obtain ⟨h1, h2⟩ := rule1_len hr
     refine ⟨by rw [List.length_cons, List.length_cons, h1], fun z hz => ?_⟩
     rcases List.mem_cons.1 hz with rfl | hz
     · exact List.mem_cons_self ..
     · exact List.mem_cons_of_mem _ (h2 z hz)
theorem united_len {x y : Ed} {m : List Ed} (h : united x y = some m) : m.length ≤ 1 := by
 unfold united at h
 split at h
 · injection h with h; subst h; exact Nat.zero_le _
 · split at h
   · cases h
   · split at h
     · injection h with h; subst h; exact Nat.le_refl _
     · split at h
       · split at h
         · injection h with h; subst h; exact Nat.le_refl _
         · cases h
       · split at h
         · split at h
           · injection h with h; subst h; exact Nat.le_refl _
           · cases h
         · cases h
theorem rule2_len : ∀ {l m : List Ed}, rule2 l = some m → m.length < l.length
 | [], m, h => by simp [rule2] at h
 | [_], m, h => by simp [rule2] at h
 | x :: y :: l, m, h => by
  rw [rule2] at h
  split at h
  · rename_i u hu
    injection h with h
    subst h
    have := united_len hu
    rw [List.length_append, List.length_cons, List.length_cons]
    omega
  · cases hr : rule2 (y :: l) with
    | none => rw [hr] at h; cases h
    | some r =>
     rw [hr] at h
     injection h with h
     subst h
     have := rule2_len hr
     rw [List.length_cons, List.length_cons]
     omega
def mu (l : List Ed) : Nat := l.length * 40001 + inv l
theorem step_mu {l m : List Ed} (hl : l.length ≤ 200) (h : step l = some m) : mu m < mu l ∧ m.length ≤ l.length := by
 have hq : ∀ m : List Ed, m.length ≤ 200 → inv m ≤ 40000 := fun m hm => Nat.le_trans (inv_le m) (Nat.le_trans (Nat.mul_le_mul hm hm) (by omega))
 have short : m.length < l.length → mu m < mu l ∧ m.length ≤ l.length := fun hs => by
  have := hq m (by omega)
  unfold mu
  omega
 unfold step at h
 cases h1 : rule1 l with
 | some r =>
  rw [h1] at h
  injection h with h
  subst h
  have := (rule1_len h1).1
  exact short (by omega)
 | none =>
  rw [h1] at h
  cases h2 : rule2 l with
  | some r =>
   rw [h2] at h
   injection h with h
   subst h
   exact short (rule2_len h2)
  | none =>
   rw [h2] at h
   have h3 : rule3 l = some m := h
   obtain ⟨p, q⟩ := rule3_perm h3
   have := p.length_eq
   unfold mu
   omega
def tidy : Nat → List Ed → List Ed
 | 0, l => l
 | f + 1, l => match step l with
  | none => l
  | some m => tidy f m
def tidyL (l : List Ed) : List Ed := tidy (mu l + 1) l
theorem tidy_more (f : Nat) : ∀ (g : Nat) (l : List Ed), l.length ≤ 200 → mu l < f → mu l < g → tidy f l = tidy g l := by
 induction f with
 | zero => intro g l _ h _; exact absurd h (Nat.not_lt_zero _)
 | succ f ih =>
  intro g l hl h1 h2
  cases g with
  | zero => exact absurd h2 (Nat.not_lt_zero _)
  | succ g =>
   rw [tidy, tidy]
   cases hs : step l with
   | none => rfl
   | some m =>
    obtain ⟨h3, h4⟩ := step_mu hl hs
    exact ih g m (Nat.le_trans h4 hl) (Nat.lt_of_lt_of_le h3 (Nat.le_of_lt_succ h1)) (Nat.lt_of_lt_of_le h3 (Nat.le_of_lt_succ h2))
theorem tidyL_step {l m : List Ed} (hl : l.length ≤ 200) (h : step l = some m) : tidyL l = tidyL m := by
 obtain ⟨h1, h2⟩ := step_mu hl h
 unfold tidyL
 rw [tidy, h]
 exact tidy_more _ _ m (Nat.le_trans h2 hl) h1 (Nat.lt_succ_self _)
theorem tidyL_none {l : List Ed} (h : step l = none) : tidyL l = l := by
 unfold tidyL
 rw [tidy, h]
theorem step_all {P : Ed → Prop} (hu : ∀ x y m, P x → P y → united x y = some m → ∀ z, z ∈ m → P z) {l m : List Ed} (h : step l = some m) (hP : ∀ x, x ∈ l → P x) : ∀ x, x ∈ m → P x := by
 have r2 : ∀ {l m : List Ed}, rule2 l = some m → (∀ x, x ∈ l → P x) → ∀ x, x ∈ m → P x := fun {l} => by
  induction l with
  | nil => intro m h; simp [rule2] at h
  | cons x l ih =>
   intro m h hP
   cases l with
   | nil => simp [rule2] at h
   | cons y l =>
    rw [rule2] at h
    split at h
    · rename_i u huu
      injection h with h
      subst h
      intro z hz
      rcases List.mem_append.1 hz with hz | hz
      · exact hu x y u (hP x (List.mem_cons_self ..)) (hP y (List.mem_cons_of_mem _ (List.mem_cons_self ..))) huu z hz
      · exact hP z (List.mem_cons_of_mem _ (List.mem_cons_of_mem _ hz))
    · cases hr : rule2 (y :: l) with
      | none => rw [hr] at h; cases h
      | some r =>
       rw [hr] at h
       injection h with h
       subst h
       intro z hz
       rcases List.mem_cons.1 hz with rfl | hz
       · exact hP _ (List.mem_cons_self ..)
       · exact ih hr (fun w hw => hP w (List.mem_cons_of_mem _ hw)) z hz
 unfold step at h
 cases h1 : rule1 l with
 | some r =>
  rw [h1] at h
  injection h with h
  subst h
  exact fun x hx => hP x ((rule1_len h1).2 x hx)
 | none =>
  rw [h1] at h
  cases h2 : rule2 l with
  | some r =>
   rw [h2] at h
   injection h with h
   subst h
   exact r2 h2 hP
  | none =>
   rw [h2] at h
   have h3 : rule3 l = some m := h
   exact fun x hx => hP x ((rule3_perm h3).1.mem_iff.1 hx)
end Tr

/- A text of this claim. -/
namespace Go.Proofs.YtgdepcnfjmobjaaGreat
namespace Gmt
end Gmt
end Go.Proofs.YtgdepcnfjmobjaaGreat

/- Scale, as a plain function; the law that rounded quotients are near. -/
namespace Sc
/-- does a quotient with a rest go away from 0? -/
def away (how : Int) (below : Bool) (whole rest den : Nat) : Bool :=
  if how = 1 then below
  else if how = 2 then !below
  else if how = 3 then false
  else if how = 4 then decide (den < 2 * rest) || (decide (2 * rest = den) && !below)
  else decide (den < 2 * rest) || (decide (2 * rest = den) && decide (whole % 2 = 1))
def quo (how : Int) (below : Bool) (whole rest den : Nat) : Nat :=
  if 0 < rest ∧ away how below whole rest den = true then whole + 1 else whole
def sgn (below : Bool) (q : Nat) : Int := if below = true then -(q : Int) else (q : Int)
/-- Scale's results. -/
def sc (a num den how : Int) : Int × Int :=
  if how < 1 ∨ 5 < how then (0, 7)
  else if den ≤ 0 ∨ num < 0 then (0, 1)
  else
    let n := a.natAbs * num.toNat
    if den.toNat ≤ n / 18446744073709551616 then (0, 9)
    else
      let q := quo how (decide (a < 0)) (n / den.toNat) (n % den.toNat) den.toNat
      if 4611686018427387904 < q then (0, 9) else (sgn (decide (a < 0)) q, 0)

theorem away_mul {k : Nat} (hk : 0 < k) (how : Int) (below : Bool) (whole rest den : Nat) :
    away how below whole (k * rest) (k * den) = away how below whole rest den := by
  have h1 : (k * den < 2 * (k * rest)) ↔ den < 2 * rest := by
    rw [show 2 * (k * rest) = k * (2 * rest) by rw [Nat.mul_left_comm]]
    exact ⟨fun h => Nat.lt_of_mul_lt_mul_left h, fun h => Nat.mul_lt_mul_of_pos_left h hk⟩
  have h2 : (2 * (k * rest) = k * den) ↔ 2 * rest = den := by
    rw [show 2 * (k * rest) = k * (2 * rest) by rw [Nat.mul_left_comm]]
    exact ⟨fun h => Nat.eq_of_mul_eq_mul_left hk h, fun h => by rw [h]⟩
  simp only [away, h1, h2]

theorem quo_mul {k : Nat} (hk : 0 < k) (how : Int) (below : Bool) (whole rest den : Nat) :
    quo how below whole (k * rest) (k * den) = quo how below whole rest den := by
  have : 0 < k * rest ↔ 0 < rest := by
    constructor
    · intro h
      rcases Nat.eq_zero_or_pos rest with h0 | h0
      · subst h0; simp at h
      · exact h0
    · exact fun h => Nat.mul_pos hk h
  simp only [quo, away_mul hk, this]

/-- at moderate numbers: the value. -/
theorem sc_small (a num den how : Int) (h1 : 1 ≤ how) (h5 : how ≤ 5) (hd : 1 ≤ den) (hn : 0 ≤ num) (hs : a.natAbs * num.toNat < 4611686018427387904) :
    sc a num den how = (sgn (decide (a < 0)) (quo how (decide (a < 0)) (a.natAbs * num.toNat / den.toNat) (a.natAbs * num.toNat % den.toNat) den.toNat), 0) := by
  unfold sc
  rw [if_neg (by omega), if_neg (by omega)]
  have h0 : a.natAbs * num.toNat / 18446744073709551616 = 0 := Nat.div_eq_of_lt (by omega)
  simp only [h0]
  rw [if_neg (by omega), if_neg]
  have hle : a.natAbs * num.toNat / den.toNat ≤ a.natAbs * num.toNat := Nat.div_le_self _ _
  unfold quo
  split <;> omega

theorem sc_arg (a num den how : Int) (h1 : 1 ≤ how) (h5 : how ≤ 5) (h : den ≤ 0 ∨ num < 0) : sc a num den how = (0, 1) := by
  unfold sc; rw [if_neg (by omega), if_pos h]
/-- where the arguments are right: in terms of the two words of the product -/
theorem sc_high (a how : Int) (num den : Nat) (h1 : 1 ≤ how) (h5 : how ≤ 5) (hd : 1 ≤ den) (h : den ≤ a.natAbs * num / 18446744073709551616) : sc a num den how = (0, 9) := by
  unfold sc; rw [if_neg (by omega), if_neg (by omega)]
  simp only [Int.toNat_natCast]
  rw [if_pos h]
theorem sc_of (a how : Int) (num den : Nat) (h1 : 1 ≤ how) (h5 : how ≤ 5) (hd : 1 ≤ den) (h : a.natAbs * num / 18446744073709551616 < den) :
    sc a num den how = if 4611686018427387904 < quo how (decide (a < 0)) (a.natAbs * num / den) (a.natAbs * num % den) den then (0, 9)
      else (sgn (decide (a < 0)) (quo how (decide (a < 0)) (a.natAbs * num / den) (a.natAbs * num % den) den), 0) := by
  unfold sc; rw [if_neg (by omega), if_neg (by omega)]
  simp only [Int.toNat_natCast]
  rw [if_neg (by omega)]
theorem sc_kind (a num den how : Int) (h : how < 1 ∨ 5 < how) : sc a num den how = (0, 7) := by unfold sc; rw [if_pos h]

/-- THE LAW QuantRoundsAreNear, of the plain function. -/
theorem near (a b k how : Int) (ha : -1000000000 ≤ a) (ha' : a ≤ 1000000000) (hb : 1 ≤ b) (hb' : b ≤ 1000000000) (hk : 1 ≤ k) (hk' : k ≤ 1000) (h1 : 1 ≤ how) (h5 : how ≤ 5) :
    ∃ n : Int, sc a 1 b how = (n, 0) ∧ sc (k * a) 1 (k * b) how = (n, 0) ∧ sc a k (k * b) how = (n, 0) ∧
      -b < a - n * b ∧ a - n * b < b ∧ -1000000000 ≤ n ∧ n ≤ 1000000000 ∧
      (how = 1 → 0 ≤ a - n * b) ∧ (how = 2 → a - n * b ≤ 0) ∧ (how = 3 → a - n * b = 0 ∨ ((0 < a - n * b) ↔ 0 < a)) ∧
      (4 ≤ how → 2 * (a - n * b) ≤ b ∧ -b ≤ 2 * (a - n * b)) := by
  have hK : 0 < k.toNat := by omega
  have hB : 0 < b.toNat := by omega
  have hsz : a.natAbs * k.toNat ≤ 1000000000 * 1000 := Nat.mul_le_mul (by omega) (by omega)
  have e1 : (k * a).natAbs = k.toNat * a.natAbs := by rw [Int.natAbs_mul]; congr 1; omega
  have e2 : (k * b).toNat = k.toNat * b.toNat := Int.toNat_mul (by omega) (by omega)
  have hkb : 1 ≤ k * b := by
    have := Int.mul_pos (show 0 < k by omega) (show 0 < b by omega); omega
  have hneg : decide (k * a < 0) = decide (a < 0) := by
    rcases (show a < 0 ∨ 0 ≤ a by omega) with h | h
    · have : k * a < 0 := Int.mul_neg_of_pos_of_neg (by omega) h
      simp [h, this]
    · have : 0 ≤ k * a := Int.mul_nonneg (by omega) h
      simp only [decide_eq_decide]; omega
  have hdm := Nat.div_add_mod a.natAbs b.toNat
  have hr := Nat.mod_lt a.natAbs hB
  have hq0 : a.natAbs / b.toNat ≤ a.natAbs := Nat.div_le_self _ _
  refine ⟨sgn (decide (a < 0)) (quo how (decide (a < 0)) (a.natAbs / b.toNat) (a.natAbs % b.toNat) b.toNat), ?_, ?_, ?_, ?_⟩
  · rw [sc_small a 1 b how h1 h5 hb (by omega) (by simp; omega)]; simp
  · rw [sc_small (k * a) 1 (k * b) how h1 h5 hkb (by omega) (by rw [e1]; simp; rw [Nat.mul_comm]; omega)]
    rw [e1, e2, hneg]; simp only [Int.toNat_one, Nat.mul_one]
    rw [Nat.mul_div_mul_left _ _ hK, Nat.mul_mod_mul_left, quo_mul hK]
  · rw [sc_small a k (k * b) how h1 h5 hkb (by omega) (by omega)]
    rw [e2, Nat.mul_comm a.natAbs, Nat.mul_div_mul_left _ _ hK, Nat.mul_mod_mul_left, quo_mul hK]
  · generalize hq : a.natAbs / b.toNat = q at *
    generalize hrr : a.natAbs % b.toNat = r at *
    have hbb : (b.toNat : Int) = b := by omega
    have hq' : (b * q + r : Int) = (a.natAbs : Int) := by
      have := congrArg (fun n : Nat => (n : Int)) hdm
      simp only [Int.natCast_add, Int.natCast_mul, hbb] at this; exact this
    have hw : ∀ n : Int, n * b = b * n := fun n => Int.mul_comm _ _
    have hqb : (q : Int) ≤ b * q := by
      have := Int.mul_le_mul_of_nonneg_right (show (1 : Int) ≤ b from hb) (show (0 : Int) ≤ (q : Int) by omega); omega
    have h12 : how = 1 ∨ how = 2 ∨ how = 3 ∨ how = 4 ∨ how = 5 := by omega
    have hst : r = 0 ∨ 0 < r := by omega
    have hneg2 : b * (-(q : Int)) = -(b * q) := by rw [Int.mul_neg]
    have hsucc : b * ((q : Int) + 1) = b * q + b := by rw [Int.mul_add, Int.mul_one]
    have hneg3 : b * (-((q : Int) + 1)) = -(b * q) - b := by rw [Int.mul_neg, hsucc]; omega
    by_cases hn : a < 0
    · have hab : (a.natAbs : Int) = -a := by omega
      simp only [hn, decide_true]
      have key : ∀ m : Nat, (m = q ∨ (m = q + 1 ∧ 0 < r)) → (quo how true q r b.toNat = m) → 
        (-b < a - sgn true m * b ∧ a - sgn true m * b < b ∧ -1000000000 ≤ sgn true m ∧ sgn true m ≤ 1000000000) ∧ ((m = q → a - sgn true m * b = -r) ∧ (m = q + 1 → a - sgn true m * b = b - r)) := by
        intro m hm _
        simp only [sgn, if_true, hw]
        rcases hm with rfl | ⟨rfl, h0⟩
        · rw [hneg2]; omega
        · rw [show ((q + 1 : Nat) : Int) = (q : Int) + 1 by omega, hneg3]; omega
      by_cases hup : 0 < r ∧ away how true q r b.toNat = true
      · have hm : quo how true q r b.toNat = q + 1 := by unfold quo; rw [if_pos hup]
        have ⟨k1, k2, k3⟩ := key (q + 1) (.inr ⟨rfl, hup.1⟩) hm
        rw [hm]; have k3 := k3 rfl
        refine ⟨k1.1, k1.2.1, k1.2.2.1, k1.2.2.2, ?_⟩
        rw [k3]
        obtain ⟨hr0, hup⟩ := hup
        rcases h12 with rfl | rfl | rfl | rfl | rfl <;> simp [away] at hup <;> omega
      · have hm : quo how true q r b.toNat = q := by unfold quo; rw [if_neg hup]
        have ⟨k1, k2, k3⟩ := key q (.inl rfl) hm
        rw [hm]; have k2 := k2 rfl
        refine ⟨k1.1, k1.2.1, k1.2.2.1, k1.2.2.2, ?_⟩
        rw [k2]
        rcases hst with rfl | hst
        · omega
        · have hup : ¬ away how true q r b.toNat = true := fun h => hup ⟨hst, h⟩
          rcases h12 with rfl | rfl | rfl | rfl | rfl <;> simp [away] at hup <;> omega
    · have hab : (a.natAbs : Int) = a := by omega
      simp only [hn, decide_false]
      have key : ∀ m : Nat, (m = q ∨ (m = q + 1 ∧ 0 < r)) → (quo how false q r b.toNat = m) → 
        (-b < a - sgn false m * b ∧ a - sgn false m * b < b ∧ -1000000000 ≤ sgn false m ∧ sgn false m ≤ 1000000000) ∧ ((m = q → a - sgn false m * b = r) ∧ (m = q + 1 → a - sgn false m * b = r - b)) := by
        intro m hm _
        simp only [sgn, Bool.false_eq_true, if_false, hw]
        rcases hm with rfl | ⟨rfl, h0⟩
        · omega
        · rw [show ((q + 1 : Nat) : Int) = (q : Int) + 1 by omega, hsucc]; omega
      by_cases hup : 0 < r ∧ away how false q r b.toNat = true
      · have hm : quo how false q r b.toNat = q + 1 := by unfold quo; rw [if_pos hup]
        have ⟨k1, k2, k3⟩ := key (q + 1) (.inr ⟨rfl, hup.1⟩) hm
        rw [hm]; have k3 := k3 rfl
        refine ⟨k1.1, k1.2.1, k1.2.2.1, k1.2.2.2, ?_⟩
        rw [k3]
        obtain ⟨hr0, hup⟩ := hup
        rcases h12 with rfl | rfl | rfl | rfl | rfl <;> simp [away] at hup <;> omega
      · have hm : quo how false q r b.toNat = q := by unfold quo; rw [if_neg hup]
        have ⟨k1, k2, k3⟩ := key q (.inl rfl) hm
        rw [hm]; have k2 := k2 rfl
        refine ⟨k1.1, k1.2.1, k1.2.2.1, k1.2.2.2, ?_⟩
        rw [k2]
        rcases hst with rfl | hst
        · omega
        · have hup : ¬ away how false q r b.toNat = true := fun h => hup ⟨hst, h⟩
          rcases h12 with rfl | rfl | rfl | rfl | rfl <;> simp [away] at hup <;> omega
end Sc

/- One digit of a long division, in plain numbers. -/
namespace Knuth
/-- one digit: B the base, y = a*B+b the divisor, u < y the head, d < B the next digit. -/
theorem up {B u d a b q : Nat} (hd : d < B) (hq : q * (a * B + b) ≤ u * B + d) (ha : 0 < a) : q ≤ u / a := by
  rw [Nat.le_div_iff_mul_le ha]
  have h1 : q * a * B ≤ u * B + d := by
    have : q * (a * B + b) = q * a * B + q * b := by rw [Nat.mul_add, Nat.mul_assoc]
    omega
  have h2 : q * a * B < (u + 1) * B := by rw [Nat.add_mul]; omega
  have := Nat.lt_of_mul_lt_mul_right h2
  omega

/-- the test is exact -/
theorem test {B u d a b q r : Nat} (h : r + q * a = u) : (u * B + d < q * (a * B + b)) ↔ r * B + d < q * b := by
  subst h
  have e1 : (r + q * a) * B = r * B + q * a * B := Nat.add_mul _ _ _
  have e2 : q * (a * B + b) = q * a * B + q * b := by rw [Nat.mul_add, Nat.mul_assoc]
  omega

theorem first {B u a b : Nat} (hb : b < B) (ha : B ≤ 2 * a) (ha0 : 0 < a) (hu : u < a * B + b) : u / a ≤ B + 1 := by
  have : u / a < B + 2 := by
    rw [Nat.div_lt_iff_lt_mul ha0]
    have : (B + 2) * a = a * B + 2 * a := by rw [Nat.add_mul, Nat.mul_comm B a]
    omega
  omega

/-- where the rest has grown to the base, the digit is not too great -/
theorem small {B u d a b q r : Nat} (hb : b < B) (h : r + q * a = u) (hr : B ≤ r) (hq : q ≤ B) : q * (a * B + b) ≤ u * B + d := by
  have := (test (B := B) (d := d) (b := b) h)
  have h1 : q * b ≤ B * B := Nat.mul_le_mul hq (Nat.le_of_lt hb)
  have h2 : B * B ≤ r * B := Nat.mul_le_mul_right _ hr
  have h3 : ¬ (u * B + d < q * (a * B + b)) := by rw [this]; omega
  omega

theorem digit {n y q : Nat} (h1 : q * y ≤ n) (h2 : n < (q + 1) * y) : n / y = q := by
  have hy : 0 < y := by
    rcases Nat.eq_zero_or_pos y with h | h
    · subst h; simp at h2
    · exact h
  rw [Nat.div_eq_iff hy]
  rw [Nat.add_mul] at h2
  omega

/-- the quotient's digit is below the base -/
theorem below {B u d y : Nat} (hd : d < B) (hu : u < y) : (u * B + d) / y < B := by
  rw [Nat.div_lt_iff_lt_mul (by omega)]
  have : u * B + B ≤ y * B := by rw [← Nat.succ_mul]; exact Nat.mul_le_mul_right _ hu
  rw [Nat.mul_comm B y]; omega

/-- two digits: the quotient and the rest out of the digits. -/
theorem two {B u d1 d0 y : Nat} (hy : 0 < y) :
    ((u * B + d1) * B + d0) / y = (u * B + d1) / y * B + ((u * B + d1) % y * B + d0) / y ∧
    ((u * B + d1) * B + d0) % y = ((u * B + d1) % y * B + d0) % y := by
  have h := Nat.div_add_mod (u * B + d1) y
  have e : (u * B + d1) * B + d0 = ((u * B + d1) % y * B + d0) + y * ((u * B + d1) / y * B) := by
    have h' : (u * B + d1) * B = (y * ((u * B + d1) / y) + (u * B + d1) % y) * B := by rw [h]
    rw [h', Nat.add_mul, Nat.mul_assoc]; omega
  constructor
  · conv => lhs; rw [e]
    rw [Nat.add_mul_div_left _ _ hy]; omega
  · conv => lhs; rw [e]
    rw [Nat.add_mul_mod_self_left]

/-- shifting both by a power -/
theorem shifted {n y s : Nat} : (n * 2 ^ s) / (y * 2 ^ s) = n / y ∧ (n * 2 ^ s) % (y * 2 ^ s) / 2 ^ s = n % y := by
  have hp : 0 < 2 ^ s := Nat.two_pow_pos s
  refine ⟨Nat.mul_div_mul_right _ _ hp, ?_⟩
  rw [Nat.mul_mod_mul_right, Nat.mul_div_cancel _ hp]

/-! ### the base 2^32 -/
/-- q is not below the digit, r is the rest that goes with it. -/
def Dig (u d a b q r : Nat) : Prop := q ≤ 4294967297 ∧ r < 4294967296 ∧ r + q * a = u ∧ (u * 4294967296 + d) / (a * 4294967296 + b) ≤ q
structure Par (u d a b : Nat) : Prop where
  uY : u < a * 4294967296 + b
  dB : d < 4294967296
  a0 : 2147483648 ≤ a
  aB : a < 4294967296
  bB : b < 4294967296
theorem dig_start {u d a b : Nat} (h : Par u d a b) : Dig u d a b (u / a) (u % a) := by
  obtain ⟨hu, hd, ha, ha', hb⟩ := h
  have h1 := first (B := 4294967296) hb (by omega) (by omega) hu
  have h2 := up (B := 4294967296) (u := u) (d := d) (a := a) (b := b) (q := (u * 4294967296 + d) / (a * 4294967296 + b)) hd (Nat.div_mul_le_self _ _) (by omega)
  have h3 := Nat.div_add_mod u a
  have h4 := Nat.mod_lt u (show 0 < a by omega)
  rw [Nat.mul_comm] at h3
  exact ⟨by omega, by omega, by omega, h2⟩
theorem dig_lt {u d a b : Nat} (h : Par u d a b) : (u * 4294967296 + d) / (a * 4294967296 + b) < 4294967296 := below h.dB h.uY
theorem Dig.over {u d a b q r : Nat} (h : Par u d a b) (g : Dig u d a b q r) (ht : 4294967296 ≤ q ∨ r * 4294967296 + d < q * b) : (u * 4294967296 + d) / (a * 4294967296 + b) < q := by
  have h1 := h.a0
  rcases ht with ht | ht
  · exact Nat.lt_of_lt_of_le (dig_lt h) ht
  · rw [Nat.div_lt_iff_lt_mul (by omega)]
    exact (test g.2.2.1).2 ht
theorem Dig.rest {u d a b q r : Nat} (g : Dig u d a b q r) (hq : 0 < q) : (r + a) + (q - 1) * a = u := by
  obtain ⟨g1, g2, g3, g4⟩ := g
  obtain ⟨k, rfl⟩ : ∃ k, q = k + 1 := ⟨q - 1, by omega⟩
  rw [Nat.add_sub_cancel]; rw [Nat.add_mul] at g3; omega
/-- too great: one less -/
theorem Dig.less {u d a b q r : Nat} (h : Par u d a b) (g : Dig u d a b q r) (ht : 4294967296 ≤ q ∨ r * 4294967296 + d < q * b) (hr : r + a < 4294967296) : Dig u d a b (q - 1) (r + a) := by
  have h1 := g.over h ht
  have h2 := g.rest (Nat.zero_lt_of_lt h1)
  have h3 := g.1
  exact ⟨by omega, hr, h2, Nat.le_sub_one_of_lt h1⟩
/-- too great, and behind it the rest has grown to the base: one less is the digit. -/
theorem Dig.last {u d a b q r : Nat} (h : Par u d a b) (g : Dig u d a b q r) (ht : 4294967296 ≤ q ∨ r * 4294967296 + d < q * b) (hr : 4294967296 ≤ r + a) : q - 1 = (u * 4294967296 + d) / (a * 4294967296 + b) := by
  have h1 := g.over h ht
  have h2 := g.rest (Nat.zero_lt_of_lt h1)
  have h3 := g.1
  have h4 := h.a0
  have h7 := small (B := 4294967296) (d := d) h.bB h2 (by omega) (by omega)
  have h8 : q - 1 ≤ (u * 4294967296 + d) / (a * 4294967296 + b) := by rw [Nat.le_div_iff_mul_le (by omega)]; exact h7
  omega
/-- not too great: the digit. -/
theorem Dig.done {u d a b q r : Nat} (h : Par u d a b) (g : Dig u d a b q r) (ht : q * b ≤ r * 4294967296 + d) : q = (u * 4294967296 + d) / (a * 4294967296 + b) := by
  have h4 := h.a0
  have h5 := g.2.2.2
  have h8 : q ≤ (u * 4294967296 + d) / (a * 4294967296 + b) := by
    rw [Nat.le_div_iff_mul_le (by omega)]
    have := (test (B := 4294967296) (d := d) (b := b) g.2.2.1)
    omega
  omega
theorem Dig.pos {u d a b q r : Nat} (h : Par u d a b) (g : Dig u d a b q r) (ht : 4294967296 ≤ q ∨ r * 4294967296 + d < q * b) : 1 ≤ q := by
  exact Nat.zero_lt_of_lt (g.over h ht)
/-- a product of two half words -/
theorem mul_half {q b : Nat} (hq : q < 4294967296) (hb : b < 4294967296) : q * b < 18446744073709551616 := by
  have : q * b ≤ 4294967295 * 4294967295 := Nat.mul_le_mul (by omega) (by omega)
  omega
theorem digits {B N y s u d1 d0 Y : Nat} (hY : y * 2 ^ s = Y) (h0 : 0 < Y) (hN : N * 2 ^ s = (u * B + d1) * B + d0) :
    ∃ Q1 u2 Q0 r2, Q1 = (u * B + d1) / Y ∧ Q0 = (u2 * B + d0) / Y ∧ Y * Q1 + u2 = u * B + d1 ∧ Y * Q0 + r2 = u2 * B + d0 ∧ u2 < Y ∧ r2 < Y ∧ N / y = Q1 * B + Q0 ∧ N % y = r2 / 2 ^ s := by
  have htwo := two (B := B) (u := u) (d1 := d1) (d0 := d0) (y := Y) h0
  rw [← hN, ← hY] at htwo
  have hsh := shifted (n := N) (y := y) (s := s)
  rw [hsh.1] at htwo
  rw [htwo.2] at hsh
  rw [hY] at htwo hsh
  exact ⟨_, _, _, _, rfl, rfl, Nat.div_add_mod _ _, Nat.div_add_mod _ _, Nat.mod_lt _ h0, Nat.mod_lt _ h0, htwo.1, hsh.2.symm⟩
theorem start {u d a b : Nat} (h : Par u d a b) : ∃ qh rh, qh = u / a ∧ rh = u % a ∧ qh ≤ 4294967297 ∧ rh < a ∧ Dig u d a b qh rh := by
  have h1 := dig_start h
  have h2 := h.a0
  exact ⟨_, _, rfl, rfl, h1.1, Nat.mod_lt _ (by omega), h1⟩
end Knuth

/- A text of this claim. -/
namespace Ft
structure Mt where
 shift : Int
 many : Int
 sum : Int
def absI (n : Int) : Int := max n (-n)
def better (m o : Mt) : Bool :=
 if m.sum * o.many = o.sum * m.many then
  if o.many = m.many then
   if absI m.shift = absI o.shift then decide (o.shift < m.shift) else decide (absI m.shift < absI o.shift)
  else decide (o.many < m.many)
 else decide (m.sum * o.many < o.sum * m.many)
def take (least : Int) (best : Option Mt) (m : Mt) : Option Mt :=
 if m.many < least then best
 else match best with
  | none => some m
  | some b => if better m b = true then some m else some b
end Ft

/- A text of this claim. -/
namespace Tr
def fstIdx (p : Ed → Bool) : List Ed → Nat → Int
 | [], _ => -1
 | x :: l, k => if p x = true then (k : Int) else fstIdx p l (k + 1)
theorem rule1_idx : ∀ (l : List Ed) (k : Nat), (fstIdx isZero l k = -1 ∧ rule1 l = none) ∨ ∃ j, j < l.length ∧ fstIdx isZero l k = ((k + j : Nat) : Int) ∧ rule1 l = some (l.take j ++ l.drop (j + 1))
 | [], k => Or.inl ⟨rfl, rfl⟩
 | x :: l, k => by
  rw [fstIdx, rule1]
  by_cases h : isZero x = true
  · rw [if_pos h, if_pos h]
    exact Or.inr ⟨0, by simp, rfl, rfl⟩
  · rw [if_neg h, if_neg h]
    rcases rule1_idx l (k + 1) with ⟨h1, h2⟩ | ⟨j, h1, h2, h3⟩
    · rw [h1, h2]
      exact Or.inl ⟨rfl, rfl⟩
    · rw [h2, h3]
      refine Or.inr ⟨j + 1, by simp; omega, ?_, rfl⟩
      omega
theorem drop_two {l : List Ed} {i : Nat} {x y : Ed} (hx : l[i]? = some x) (hy : l[i + 1]? = some y) : l.drop i = x :: y :: l.drop (i + 2) ∧ l.drop (i + 1) = y :: l.drop (i + 2) ∧ l.take (i + 1) = l.take i ++ [x] := by
 obtain ⟨h1, e1⟩ := List.getElem?_eq_some_iff.1 hx
 obtain ⟨h2, e2⟩ := List.getElem?_eq_some_iff.1 hy
 have d2 : l.drop (i + 1) = y :: l.drop (i + 2) := by rw [List.drop_eq_getElem_cons h2, e2]
 refine ⟨?_, d2, ?_⟩
 · rw [List.drop_eq_getElem_cons h1, e1, d2]
 · rw [List.take_succ_eq_append_getElem h1, e1]
theorem map_two (a : List Ed) (x : Ed) (o : Option (List Ed)) : (o.map (x :: ·)).map (a ++ ·) = o.map ((a ++ [x]) ++ ·) := by
 cases o with
 | none => rfl
 | some r => simp
theorem rule2_go {l : List Ed} {i : Nat} {x y : Ed} (hx : l[i]? = some x) (hy : l[i + 1]? = some y) (h : rule2 l = (rule2 (l.drop i)).map (l.take i ++ ·)) :
 (∀ m, united x y = some m → rule2 l = some (l.take i ++ (m ++ l.drop (i + 2)))) ∧ (united x y = none → rule2 l = (rule2 (l.drop (i + 1))).map (l.take (i + 1) ++ ·)) := by
 obtain ⟨d1, d2, d3⟩ := drop_two hx hy
 rw [d1, rule2] at h
 refine ⟨fun m hm => ?_, fun hm => ?_⟩
 · rw [h, hm]
   rfl
 · rw [h, hm, d3, d2]
   exact map_two _ _ _
theorem rule3_go {l : List Ed} {i : Nat} {x y : Ed} (hx : l[i]? = some x) (hy : l[i + 1]? = some y) (h : rule3 l = (rule3 (l.drop i)).map (l.take i ++ ·)) :
 (bef y x = true → rule3 l = some (l.take i ++ (y :: x :: l.drop (i + 2)))) ∧ (bef y x = false → rule3 l = (rule3 (l.drop (i + 1))).map (l.take (i + 1) ++ ·)) := by
 obtain ⟨d1, d2, d3⟩ := drop_two hx hy
 rw [d1, rule3] at h
 refine ⟨fun hb => ?_, fun hb => ?_⟩
 · rw [h, if_pos hb]
   rfl
 · rw [h, if_neg (by rw [hb]; simp), d3, d2]
   exact map_two _ _ _
theorem rule2_start (l : List Ed) : rule2 l = (rule2 (l.drop 0)).map (l.take 0 ++ ·) := by
 show rule2 l = (rule2 l).map (fun x => [] ++ x)
 cases rule2 l <;> rfl
theorem rule3_start (l : List Ed) : rule3 l = (rule3 (l.drop 0)).map (l.take 0 ++ ·) := by
 show rule3 l = (rule3 l).map (fun x => [] ++ x)
 cases rule3 l <;> rfl
theorem rule2_end {l : List Ed} {i : Nat} (hi : l.length ≤ i + 1) (h : rule2 l = (rule2 (l.drop i)).map (l.take i ++ ·)) : rule2 l = none := by
 have hl : (l.drop i).length ≤ 1 := by rw [List.length_drop]; omega
 generalize l.drop i = r at h hl
 match r, hl with
 | [], _ => exact h
 | [_], _ => exact h
theorem rule3_end {l : List Ed} {i : Nat} (hi : l.length ≤ i + 1) (h : rule3 l = (rule3 (l.drop i)).map (l.take i ++ ·)) : rule3 l = none := by
 have hl : (l.drop i).length ≤ 1 := by rw [List.length_drop]; omega
 generalize l.drop i = r at h hl
 match r, hl with
 | [], _ => exact h
 | [_], _ => exact h
end Tr
