/- Several texts of this claim in one. -/
import Derived.Lib.Bytealg
import Derived.Lib.AtoiTie
import Derived.Lib.ItoaNum
import Derived.Lib.ItoaLen
import Derived.Test.YtaghhndcimjjgaaGreatDoorRs1
import Derived.Lib.SlicesS
import Derived.Lib.TrimByte
/- What the functions of a reader do, in plain words. -/
namespace Rd
def byte (s : ByteArray) (p : Nat) : Nat := if h : p < s.size then s[p].toNat else 0
def isD (c : Nat) : Bool := decide (48 ≤ c) && decide (c ≤ 57)
/-- whether a digit comes next -/
def digAt (s : ByteArray) (p : Nat) (ok : Bool) : Bool := ok && (decide (p < s.size) && isD (byte s p))
theorem byte_lt {s : ByteArray} {p : Nat} (h : p < s.size) : byte s p = s[p].toNat := by unfold byte; rw [dif_pos h]
theorem byte_le (s : ByteArray) (p : Nat) : byte s p < 256 := by
  unfold byte; split
  · exact UInt8.toNat_lt _
  · omega
theorem isD_bounds {c : Nat} (h : isD c = true) : 48 ≤ c ∧ c ≤ 57 := by unfold isD at h; simpa using h
theorem digAt_true {s : ByteArray} {p : Nat} {ok : Bool} (h : digAt s p ok = true) : ok = true ∧ p < s.size ∧ 48 ≤ byte s p ∧ byte s p ≤ 57 := by
  unfold digAt isD at h; simpa using h
/-- does a number of a form stop before a further digit? -/
def stops (least most n next : Int) (m : Nat) : Bool := (decide (0 < m) && decide (n = 0)) || decide (most < next) || (decide (next = 0) && decide (0 < least))
/-- the rounds of 'number': what was read so far, how many digits, and where -/
def numLoop (s : ByteArray) (digits : Nat) (least most : Int) (ok : Bool) : Nat → Int → Nat → Nat → Int × Nat × Nat
  | 0, n, m, p => (n, m, p)
  | f + 1, n, m, p =>
    if m < digits ∧ digAt s p ok = true then
      if stops least most n (10 * n + ((byte s p : Int) - 48)) m = true then (n, m, p)
      else numLoop s digits least most ok f (10 * n + ((byte s p : Int) - 48)) (m + 1) (p + 1)
    else (n, m, p)
def numAt (s : ByteArray) (digits : Nat) (least most : Int) (ok : Bool) (p : Nat) : Int × Nat × Nat := numLoop s digits least most ok digits 0 0 p
def numOk (least : Int) (ok : Bool) (x : Int × Nat × Nat) : Bool := ok && decide (0 < x.2.1) && decide (least ≤ x.1)
theorem numLoop_stop {s : ByteArray} {digits : Nat} {least most : Int} {ok : Bool} {f : Nat} {n : Int} {m p : Nat} (h : ¬ (m < digits ∧ digAt s p ok = true)) :
    numLoop s digits least most ok f n m p = (n, m, p) := by
  cases f <;> simp [numLoop, h]
theorem numLoop_break {s : ByteArray} {digits : Nat} {least most : Int} {ok : Bool} {f : Nat} {n : Int} {m p : Nat} (h : m < digits ∧ digAt s p ok = true)
    (h2 : stops least most n (10 * n + ((byte s p : Int) - 48)) m = true) : numLoop s digits least most ok f n m p = (n, m, p) := by
  cases f <;> simp [numLoop, h, h2]
theorem numLoop_next {s : ByteArray} {digits : Nat} {least most : Int} {ok : Bool} {f : Nat} {n : Int} {m p : Nat} (h : m < digits ∧ digAt s p ok = true)
    (h2 : stops least most n (10 * n + ((byte s p : Int) - 48)) m = false) :
    numLoop s digits least most ok (f + 1) n m p = numLoop s digits least most ok f (10 * n + ((byte s p : Int) - 48)) (m + 1) (p + 1) := by
  simp [numLoop, h, h2]
/-- two digits -/
def pairStep (s : ByteArray) (most unit : Int) (x : Int × Nat × Bool) : Int × Nat × Bool :=
  if digAt s x.2.1 x.2.2 = true ∧ x.1 + unit * ((byte s x.2.1 : Int) - 48) ≤ most then (x.1 + unit * ((byte s x.2.1 : Int) - 48), x.2.1 + 1, true) else (x.1, x.2.1, false)
def pairAt (s : ByteArray) (most : Int) (p : Nat) (ok : Bool) : Int × Nat × Bool := pairStep s most 1 (pairStep s most 10 (0, p, ok))
/-- just these bytes: from the i-th on -/
def exactLoop (s t : ByteArray) : Nat → Nat → Nat → Nat × Bool
  | 0, _, p => (p, true)
  | f + 1, i, p => if i < t.size then (if p < s.size ∧ byte s p = byte t i then exactLoop s t f (i + 1) (p + 1) else (p, false)) else (p, true)
def exactAt (s t : ByteArray) (p : Nat) (ok : Bool) : Nat × Bool := if ok = true then exactLoop s t t.size 0 p else (p, false)
def oneAt (s t : ByteArray) (p : Nat) (ok : Bool) : Int × Nat × Bool :=
  if ok = true ∧ p < s.size then
    let k := Go.Lib.indexByte t.data.toList (byte s p).toUInt8
    if 0 ≤ k then (k, p + 1, true) else (k, p, false)
  else (-1, p, false)
end Rd

/- The forms of texts, in plain words; what the reader's values are at most. -/
namespace Rd
theorem numLoop_pos (s : ByteArray) (digits : Nat) (least most : Int) (ok : Bool) : ∀ (f : Nat) (n : Int) (m p : Nat), p ≤ s.size → (numLoop s digits least most ok f n m p).2.2 ≤ s.size
  | 0, n, m, p, h => h
  | f + 1, n, m, p, h => by
    unfold numLoop
    split
    · split
      · exact h
      · rename_i h1 _
        have := (digAt_true h1.2).2.1
        exact numLoop_pos s digits least most ok f _ _ _ (by omega)
    · exact h
/-- the values that 'number' gives are small -/
theorem numLoop_val (s : ByteArray) (digits : Nat) (least most : Int) (ok : Bool) : ∀ (f : Nat) (n : Int) (m p : Nat), 0 ≤ n → (n ≤ most ∨ n = 0) → 0 ≤ (numLoop s digits least most ok f n m p).1 ∧ ((numLoop s digits least most ok f n m p).1 ≤ most ∨ (numLoop s digits least most ok f n m p).1 = 0)
  | 0, n, m, p, h, h2 => ⟨h, h2⟩
  | f + 1, n, m, p, h, h2 => by
    unfold numLoop
    split
    · rename_i h1
      have hd := digAt_true h1.2
      cases hst : stops least most n (10 * n + ((byte s p : Int) - 48)) m
      · rw [if_neg (by simp)]
        refine numLoop_val s digits least most ok f _ _ _ (by omega) ?_
        unfold stops at hst
        simp only [Bool.or_eq_false_iff, decide_eq_false_iff_not] at hst
        omega
      · rw [if_pos rfl]; exact ⟨h, h2⟩
    · exact ⟨h, h2⟩
theorem pairStep_val {s : ByteArray} {most u n : Int} {q : Nat} {b : Bool} (hu : 0 ≤ u) (h : 0 ≤ n) (hm : n ≤ most) : 0 ≤ (pairStep s most u (n, q, b)).1 ∧ (pairStep s most u (n, q, b)).1 ≤ most := by
  unfold pairStep
  split
  · rename_i h1
    dsimp only at h1
    have hd := digAt_true h1.1
    have : 0 ≤ u * ((byte s q : Int) - 48) := Int.mul_nonneg hu (by omega)
    exact ⟨by show 0 ≤ n + u * ((byte s q : Int) - 48); omega, h1.2⟩
  · exact ⟨h, hm⟩
theorem pairAt_val (s : ByteArray) {most : Int} (p : Nat) (ok : Bool) (hm : 0 ≤ most) : 0 ≤ (pairAt s most p ok).1 ∧ (pairAt s most p ok).1 ≤ most := by
  unfold pairAt
  have h1 := pairStep_val (s := s) (q := p) (b := ok) (u := 10) (n := 0) (by omega) (by omega) hm
  exact pairStep_val (q := (pairStep s most 10 (0, p, ok)).2.1) (b := (pairStep s most 10 (0, p, ok)).2.2) (by omega) h1.1 h1.2

/-! ### forms -/
def colon : ByteArray := ⟨#[58]⟩
def shortF (s : ByteArray) : Int × Nat × Bool :=
  let m := numAt s 2 0 59 true 0
  let c := exactAt s colon m.2.2 (numOk 0 true m)
  let x := pairAt s 59 c.1 c.2
  (60 * m.1 + x.1, x.2.1, x.2.2)
def longF (s : ByteArray) : Int × Nat × Bool :=
  let h := numAt s 3 1 999 true 0
  let c := exactAt s colon h.2.2 (numOk 1 true h)
  let m := pairAt s 59 c.1 c.2
  let d := exactAt s colon m.2.1 m.2.2
  let x := pairAt s 59 d.1 d.2
  (3600 * h.1 + 60 * m.1 + x.1, x.2.1, x.2.2)
/-- the value of the first form that a text has, how far the beginnings of forms go, the error -/
def formsLoop (s : ByteArray) : List (ByteArray → Int × Nat × Bool) → Nat → Int × Nat × Int
  | [], at_ => (0, at_, 6)
  | F :: r, at_ => if ((F s).2.2 && decide ((F s).2.1 = s.size)) = true then ((F s).1, 0, 0) else formsLoop s r (max at_ (F s).2.1)
def readForms (s : ByteArray) (l : List (ByteArray → Int × Nat × Bool)) : Int × Nat × Int := if 1000 < s.size then (0, 0, 3) else formsLoop s l 0
def ranged (x : Int × Nat × Int) (least most : Int) : Int × Nat × Int := if x.2.2 = 0 ∧ (x.1 < least ∨ most < x.1) then (0, 0, 9) else x
end Rd

/- Durations with letters, in plain words. -/
namespace Rd
/-- the last m of the letters h, m, s -/
def lets : Nat → ByteArray
  | 0 => ⟨#[]⟩
  | 1 => ⟨#[115]⟩
  | 2 => ⟨#[109, 115]⟩
  | _ => ⟨#[104, 109, 115]⟩
def unitOf (i : Int) : Int := if i = 0 then 3600 else if i = 1 then 60 else 1
def lettLoop (s : ByteArray) : Nat → Nat → Int → Nat → Bool → Int × Nat × Bool
  | 0, _, sum, p, ok => (sum, p, ok)
  | f + 1, m, sum, p, ok =>
    if m = 0 then (sum, p, ok) else
    let x := numAt s 7 0 9999999 ok p
    let k := oneAt s (lets m) x.2.2 (numOk 0 ok x)
    if k.1 < 0 then (0, k.2.1, k.2.2) else
    let sum' := sum + x.1 * unitOf (k.1 + 3 - m)
    if digAt s k.2.1 k.2.2 = true then lettLoop s f (m - (k.1 + 1).toNat) sum' k.2.1 k.2.2 else (sum', k.2.1, k.2.2)
def letteredF (s : ByteArray) : Int × Nat × Bool := lettLoop s 3 3 0 0 true
theorem lettLoop_end {s : ByteArray} {f : Nat} {sum : Int} {p : Nat} {ok : Bool} : lettLoop s f 0 sum p ok = (sum, p, ok) := by cases f <;> simp [lettLoop]
theorem lettLoop_none {s : ByteArray} {f m : Nat} {sum : Int} {p : Nat} {ok : Bool} {x : Int × Nat × Nat} {k : Int × Nat × Bool} (hm : m ≠ 0) (hx : numAt s 7 0 9999999 ok p = x) (hk : oneAt s (lets m) x.2.2 (numOk 0 ok x) = k) (h : k.1 < 0) :
    lettLoop s (f + 1) m sum p ok = (0, k.2.1, k.2.2) := by simp [lettLoop, hm, hx, hk, h]
theorem lettLoop_last {s : ByteArray} {f m : Nat} {sum : Int} {p : Nat} {ok : Bool} {x : Int × Nat × Nat} {k : Int × Nat × Bool} (hm : m ≠ 0) (hx : numAt s 7 0 9999999 ok p = x) (hk : oneAt s (lets m) x.2.2 (numOk 0 ok x) = k) (h : ¬ k.1 < 0)
    (hd : digAt s k.2.1 k.2.2 = false) : lettLoop s (f + 1) m sum p ok = (sum + x.1 * unitOf (k.1 + 3 - m), k.2.1, k.2.2) := by simp [lettLoop, hm, hx, hk, h, hd]
theorem lettLoop_next {s : ByteArray} {f m : Nat} {sum : Int} {p : Nat} {ok : Bool} {x : Int × Nat × Nat} {k : Int × Nat × Bool} (hm : m ≠ 0) (hx : numAt s 7 0 9999999 ok p = x) (hk : oneAt s (lets m) x.2.2 (numOk 0 ok x) = k) (h : ¬ k.1 < 0)
    (hd : digAt s k.2.1 k.2.2 = true) : lettLoop s (f + 1) m sum p ok = lettLoop s f (m - (k.1 + 1).toNat) (sum + x.1 * unitOf (k.1 + 3 - m)) k.2.1 k.2.2 := by simp [lettLoop, hm, hx, hk, h, hd]
theorem indexByte_lt (l : List UInt8) (c : UInt8) : Go.Lib.indexByte l c < l.length := by
  induction l with
  | nil => simp [Go.Lib.indexByte]
  | cons b l ih =>
    unfold Go.Lib.indexByte
    simp only [List.length_cons]
    split
    · omega
    · split <;> omega
theorem oneAt_lt (s t : ByteArray) (p : Nat) (ok : Bool) : (oneAt s t p ok).1 < t.size ∨ (oneAt s t p ok).1 < 0 := by
  unfold oneAt
  split
  · have := indexByte_lt t.data.toList (byte s p).toUInt8
    have e : (t.data.toList.length : Int) = t.size := rfl
    dsimp only
    split
    · left; show Go.Lib.indexByte _ _ < _; omega
    · right; show Go.Lib.indexByte _ _ < _; omega
  · right; show (-1 : Int) < 0; omega
theorem numAt_val (s : ByteArray) (digits : Nat) (least most : Int) (ok : Bool) (p : Nat) (hm : 0 ≤ most) : 0 ≤ (numAt s digits least most ok p).1 ∧ (numAt s digits least most ok p).1 ≤ most := by
  have := numLoop_val s digits least most ok digits 0 0 p (by omega) (by omega)
  unfold numAt; omega
end Rd

/- Forms of tokens in plain words; the reference's durations are the program's. -/
namespace Rd
/-- a part of a form -/
structure Tok where
  kind : Nat
  text : ByteArray
  low : Int
  high : Int
  digits : Nat
def litT (t : ByteArray) : Tok := ⟨1, t, 0, 0, 0⟩
def numT (low high : Int) (digits : Nat) : Tok := ⟨2, ⟨#[]⟩, low, high, digits⟩
def pairT (high : Int) : Tok := ⟨3, ⟨#[]⟩, 0, high, 0⟩
def partT (digits : Nat) : Tok := ⟨4, ⟨#[]⟩, 0, 0, digits⟩
/-- one to so many digits: value, how many, where -/
def rowLoop (s : ByteArray) (digits : Nat) (ok : Bool) : Nat → Int → Nat → Nat → Int × Nat × Nat
  | 0, n, m, p => (n, m, p)
  | f + 1, n, m, p => if m < digits ∧ digAt s p ok = true then rowLoop s digits ok f (10 * n + ((byte s p : Int) - 48)) (m + 1) (p + 1) else (n, m, p)
def rowAt (s : ByteArray) (digits : Nat) (ok : Bool) (p : Nat) : Int × Nat × Nat := rowLoop s digits ok digits 0 0 p
/-- what run hands back: the place, the value, whether it is complete -/
def runT (s : ByteArray) (t : Tok) (p : Nat) : Nat × Int × Bool :=
  if t.kind = 1 then let c := exactAt s t.text p true; (c.1, 0, c.2)
  else if t.kind = 3 then let x := pairAt s t.high p true; (x.2.1, x.1, x.2.2)
  else if t.kind = 2 then let x := numAt s t.digits t.low t.high true p; (x.2.2, x.1, numOk t.low true x)
  else let x := rowAt s t.digits true p; (x.2.2, x.1 * 10 ^ (t.digits - x.2.1), decide (0 < x.2.1))
def matchT (s : ByteArray) : List Tok → Nat → Nat × List Int × Bool
  | [], p => (p, [], decide (p = s.size))
  | t :: r, p => if (runT s t p).2.2 = true then ((matchT s r (runT s t p).1).1, (if t.kind = 1 then (matchT s r (runT s t p).1).2.1 else (runT s t p).2.1 :: (matchT s r (runT s t p).1).2.1), (matchT s r (runT s t p).1).2.2) else ((runT s t p).1, [], false)
def firstT (s : ByteArray) : List (List Tok) → Nat → Nat → Int × List Int × Nat
  | [], _, far => (-1, [], far)
  | f :: r, i, far => if (matchT s f 0).2.2 = true then ((i : Int), (matchT s f 0).2.1, 0) else firstT s r (i + 1) (max far (matchT s f 0).1)
/-- the first form that a text has -/
theorem firstT_none {s : ByteArray} : ∀ (l : List (List Tok)) (i far : Nat), (∀ f, f ∈ l → (matchT s f 0).2.2 = false) → firstT s l i far = (-1, [], l.foldl (fun a f => max a (matchT s f 0).1) far)
  | [], i, far, _ => rfl
  | f :: r, i, far, h => by
    unfold firstT
    rw [if_neg (by rw [h f (List.mem_cons_self ..)]; simp), firstT_none r (i + 1) _ (fun g hg => h g (List.mem_cons_of_mem _ hg))]
    rfl
theorem firstT_at {s : ByteArray} : ∀ (l : List (List Tok)) (i far k : Nat) (f : List Tok), l[k]? = some f → (matchT s f 0).2.2 = true → (∀ j g, j < k → l[j]? = some g → (matchT s g 0).2.2 = false) → firstT s l i far = (((i + k : Nat) : Int), (matchT s f 0).2.1, 0)
  | [], i, far, k, f, h, _, _ => by simp at h
  | g :: r, i, far, 0, f, h, hf, _ => by
    simp only [List.getElem?_cons_zero, Option.some.injEq] at h
    subst h
    unfold firstT
    rw [if_pos hf]; rfl
  | g :: r, i, far, k + 1, f, h, hf, hl => by
    unfold firstT
    rw [if_neg (by rw [hl 0 g (by omega) rfl]; simp)]
    rw [firstT_at r (i + 1) _ k f (by simpa using h) hf (fun j g' hj hg => hl (j + 1) g' (by omega) (by simpa using hg))]
    rw [show i + 1 + k = i + (k + 1) by omega]
theorem matchT_lit {s t : ByteArray} {r : List Tok} {p : Nat} : matchT s (litT t :: r) p = if (exactAt s t p true).2 = true then matchT s r (exactAt s t p true).1 else ((exactAt s t p true).1, [], false) := by
  rw [matchT]
  simp only [runT, litT, if_pos]
theorem matchT_num {s : ByteArray} {lo hi : Int} {d : Nat} {r : List Tok} {p : Nat} : matchT s (numT lo hi d :: r) p = if numOk lo true (numAt s d lo hi true p) = true then ((matchT s r (numAt s d lo hi true p).2.2).1, (numAt s d lo hi true p).1 :: (matchT s r (numAt s d lo hi true p).2.2).2.1, (matchT s r (numAt s d lo hi true p).2.2).2.2) else ((numAt s d lo hi true p).2.2, [], false) := by
  rw [matchT]
  simp [runT, numT]
theorem matchT_pair {s : ByteArray} {hi : Int} {r : List Tok} {p : Nat} : matchT s (pairT hi :: r) p = if (pairAt s hi p true).2.2 = true then ((matchT s r (pairAt s hi p true).2.1).1, (pairAt s hi p true).1 :: (matchT s r (pairAt s hi p true).2.1).2.1, (matchT s r (pairAt s hi p true).2.1).2.2) else ((pairAt s hi p true).2.1, [], false) := by
  rw [matchT]
  simp [runT, pairT]
theorem exactAt_no {s t : ByteArray} {p : Nat} : exactAt s t p false = (p, false) := rfl
theorem digAt_no {s : ByteArray} {p : Nat} : digAt s p false = false := rfl
theorem pairAt_no {s : ByteArray} {hi : Int} {p : Nat} : pairAt s hi p false = (0, p, false) := by
  unfold pairAt pairStep
  simp [digAt_no]
theorem numOk_no {lo : Int} {x : Int × Nat × Nat} : numOk lo false x = false := rfl
/-- short form -/
def shortT : List Tok := [numT 0 59 2, litT colon, pairT 59]
def longT : List Tok := [numT 1 999 3, litT colon, pairT 59, litT colon, pairT 59]
theorem short_match (s : ByteArray) (o : Int × Nat × Bool) (ho : shortF s = o) : (matchT s shortT 0).1 = o.2.1 ∧ (matchT s shortT 0).2.2 = (o.2.2 && decide (o.2.1 = s.size)) ∧ ((matchT s shortT 0).2.2 = true → ∃ a b, 0 ≤ a ∧ 0 ≤ b ∧ (matchT s shortT 0).2.1 = [a, b] ∧ o.1 = 60 * a + b) := by
  unfold shortT
  simp only [shortF] at ho
  rw [matchT_num]
  obtain ⟨x, hx⟩ : ∃ y, numAt s 2 0 59 true 0 = y := ⟨_, rfl⟩
  rw [hx] at ho ⊢
  obtain ⟨kx, hkx⟩ : ∃ k, numOk 0 true x = k := ⟨_, rfl⟩
  rw [hkx] at ho ⊢
  cases kx with
  | false =>
    simp only [exactAt_no, pairAt_no] at ho
    subst ho
    simp
  | true =>
    simp only [if_true] at ho ⊢
    rw [matchT_lit]
    obtain ⟨y, hy⟩ : ∃ y, exactAt s colon x.2.2 true = y := ⟨_, rfl⟩
    rw [hy] at ho ⊢
    obtain ⟨y1, y2⟩ := y
    cases y2 with
    | false =>
      simp only [pairAt_no] at ho
      subst ho
      simp
    | true =>
      simp only [if_true] at ho ⊢
      rw [matchT_pair]
      obtain ⟨z, hz⟩ : ∃ y, pairAt s 59 y1 true = y := ⟨_, rfl⟩
      rw [hz] at ho ⊢
      obtain ⟨z1, z2, z3⟩ := z
      cases z3 with
      | false =>
        simp only at ho
        subst ho
        simp
      | true =>
        simp only [if_true] at ho ⊢
        subst ho
        refine ⟨by simp [matchT], by simp [matchT], fun _ => ⟨x.1, z1, by have h := numAt_val s 2 0 59 true 0 (by omega); rw [hx] at h; exact h.1, by have h := pairAt_val s (most := 59) y1 true (by omega); rw [hz] at h; exact h.1, rfl, rfl⟩⟩
theorem long_match (s : ByteArray) (o : Int × Nat × Bool) (ho : longF s = o) : (matchT s longT 0).1 = o.2.1 ∧ (matchT s longT 0).2.2 = (o.2.2 && decide (o.2.1 = s.size)) ∧ ((matchT s longT 0).2.2 = true → ∃ a b c, 0 ≤ a ∧ 0 ≤ b ∧ 0 ≤ c ∧ (matchT s longT 0).2.1 = [a, b, c] ∧ o.1 = 3600 * a + 60 * b + c) := by
  unfold longT
  simp only [longF] at ho
  rw [matchT_num]
  obtain ⟨x, hx⟩ : ∃ y, numAt s 3 1 999 true 0 = y := ⟨_, rfl⟩
  rw [hx] at ho ⊢
  obtain ⟨kx, hkx⟩ : ∃ k, numOk 1 true x = k := ⟨_, rfl⟩
  rw [hkx] at ho ⊢
  cases kx with
  | false =>
    simp only [exactAt_no, pairAt_no] at ho
    subst ho
    simp
  | true =>
    simp only [if_true] at ho ⊢
    rw [matchT_lit]
    obtain ⟨y, hy⟩ : ∃ y, exactAt s colon x.2.2 true = y := ⟨_, rfl⟩
    rw [hy] at ho ⊢
    obtain ⟨y1, y2⟩ := y
    cases y2 with
    | false =>
      simp only [exactAt_no, pairAt_no] at ho
      subst ho
      simp
    | true =>
      simp only [if_true] at ho ⊢
      rw [matchT_pair]
      obtain ⟨z, hz⟩ : ∃ y, pairAt s 59 y1 true = y := ⟨_, rfl⟩
      rw [hz] at ho ⊢
      obtain ⟨z1, z2, z3⟩ := z
      cases z3 with
      | false =>
        simp only [exactAt_no, pairAt_no] at ho
        subst ho
        simp
      | true =>
        simp only [if_true] at ho ⊢
        rw [matchT_lit]
        obtain ⟨u, hu⟩ : ∃ y, exactAt s colon z2 true = y := ⟨_, rfl⟩
        rw [hu] at ho ⊢
        obtain ⟨u1, u2⟩ := u
        cases u2 with
        | false =>
          simp only [pairAt_no] at ho
          subst ho
          simp
        | true =>
          simp only [if_true] at ho ⊢
          rw [matchT_pair]
          obtain ⟨v, hv⟩ : ∃ y, pairAt s 59 u1 true = y := ⟨_, rfl⟩
          rw [hv] at ho ⊢
          obtain ⟨v1, v2, v3⟩ := v
          cases v3 with
          | false =>
            simp only at ho
            subst ho
            simp
          | true =>
            simp only [if_true] at ho ⊢
            subst ho
            refine ⟨by simp [matchT], by simp [matchT], fun _ => ⟨x.1, z1, v1, by have h := numAt_val s 3 1 999 true 0 (by omega); rw [hx] at h; exact h.1, by have h := pairAt_val s (most := 59) y1 true (by omega); rw [hz] at h; exact h.1, by have h := pairAt_val s (most := 59) u1 true (by omega); rw [hv] at h; exact h.1, rfl, rfl⟩⟩

/-! ### durations with letters -/
def num7 (s : ByteArray) (p : Nat) : Int × Nat × Nat := numAt s 7 0 9999999 true p
def byteT (c : Nat) : ByteArray := ⟨#[c.toUInt8]⟩
/-- the form of some letters -/
def lform : List Nat → List Tok
  | [] => []
  | c :: r => numT 0 9999999 7 :: litT (byteT c) :: lform r
theorem exact_one (s : ByteArray) (c p : Nat) (hc : c < 256) : exactAt s (byteT c) p true = if p < s.size ∧ byte s p = c then (p + 1, true) else (p, false) := by
  have h1 : (byteT c).size = 1 := rfl
  have h2 : byte (byteT c) 0 = c := by
    unfold byte
    rw [dif_pos (by rw [h1]; omega)]
    show (c.toUInt8).toNat = c
    simp
    omega
  unfold exactAt
  rw [if_pos rfl, h1]
  unfold exactLoop
  rw [h1, if_pos (by omega), h2]
  split
  · rfl
  · rfl
/-- goes one letter along -/
def stepL (s : ByteArray) (p c : Nat) : Bool := numOk 0 true (num7 s p) && (decide ((num7 s p).2.2 < s.size) && decide (byte s (num7 s p).2.2 = c))
theorem match_step {s : ByteArray} {c : Nat} {r : List Nat} {p : Nat} (hc : c < 256) : matchT s (lform (c :: r)) p =
    if stepL s p c = true then ((matchT s (lform r) ((num7 s p).2.2 + 1)).1, (num7 s p).1 :: (matchT s (lform r) ((num7 s p).2.2 + 1)).2.1, (matchT s (lform r) ((num7 s p).2.2 + 1)).2.2) else ((num7 s p).2.2, (if numOk 0 true (num7 s p) = true then [(num7 s p).1] else []), false) := by
  rw [show lform (c :: r) = numT 0 9999999 7 :: litT (byteT c) :: lform r from rfl, matchT_num]
  unfold stepL num7
  obtain ⟨x, hx⟩ : ∃ y, numAt s 7 0 9999999 true p = y := ⟨_, rfl⟩
  rw [hx]
  cases numOk 0 true x with
  | false => simp
  | true =>
    simp only [if_true, Bool.true_and]
    rw [matchT_lit, exact_one s c _ hc]
    by_cases h : x.2.2 < s.size ∧ byte s x.2.2 = c
    · rw [if_pos h]
      simp [h.1, h.2]
    · rw [if_neg h]
      have : (decide (x.2.2 < s.size) && decide (byte s x.2.2 = c)) = false := by
        rw [Bool.eq_false_iff]
        simpa using h
      rw [this]
      simp
/-- a row of letters out of those that are left, in order -/
inductive Sub : List Nat → List Nat → Prop
  | one {c L} : Sub [c] (c :: L)
  | more {c S L} : Sub S L → Sub (c :: S) (c :: L)
  | skip {c S L} : Sub S L → Sub S (c :: L)
theorem Sub.ne {S L : List Nat} (h : Sub S L) : S ≠ [] := by
  induction h with
  | one => simp
  | more _ _ => simp
  | skip _ ih => exact ih
/-- the letters behind one -/
def behind (c : Nat) : List Nat → List Nat
  | [] => []
  | d :: L => if d = c then L else behind c L
theorem Sub.weak {c : Nat} {S : List Nat} : ∀ {L : List Nat}, Sub S (behind c L) → Sub S L
  | [], h => h
  | d :: L, h => by
    unfold behind at h
    split at h
    · exact .skip h
    · exact .skip (Sub.weak h)
theorem Sub.head {c : Nat} {S L : List Nat} (h : Sub (c :: S) L) : c ∈ L ∧ (S = [] ∨ Sub S (behind c L)) := by
  generalize hq : c :: S = q at h
  induction h generalizing c S with
  | one =>
    injection hq with h1 h2
    subst h1 h2
    exact ⟨List.mem_cons_self .., Or.inl rfl⟩
  | more h0 _ =>
    injection hq with h1 h2
    subst h1 h2
    exact ⟨List.mem_cons_self .., Or.inr (by unfold behind; rw [if_pos rfl]; exact h0)⟩
  | skip h0 ih =>
    obtain ⟨h1, h2⟩ := ih hq
    refine ⟨List.mem_cons_of_mem _ h1, h2.imp id fun h3 => ?_⟩
    unfold behind
    split
    · exact h3.weak
    · exact h3
theorem Sub.cons {c : Nat} {S : List Nat} : ∀ {L : List Nat}, c ∈ L → (S = [] ∨ Sub S (behind c L)) → Sub (c :: S) L
  | [], h, _ => by cases h
  | d :: L, h, h2 => by
    unfold behind at h2
    by_cases e : d = c
    · rw [if_pos e] at h2
      subst e
      rcases h2 with rfl | h2
      · exact .one
      · exact .more h2
    · rw [if_neg e] at h2
      rcases List.mem_cons.1 h with h | h
      · exact absurd h.symm e
      · exact .skip (Sub.cons h h2)
theorem numLoop_ge (s : ByteArray) (digits : Nat) (least most : Int) (ok : Bool) : ∀ (f : Nat) (n : Int) (m p : Nat), p ≤ (numLoop s digits least most ok f n m p).2.2
  | 0, n, m, p => Nat.le_refl _
  | f + 1, n, m, p => by
    unfold numLoop
    split
    · split
      · exact Nat.le_refl _
      · exact Nat.le_trans (Nat.le_succ p) (numLoop_ge s digits least most ok f _ _ _)
    · exact Nat.le_refl _
theorem num7_ge (s : ByteArray) (p : Nat) : p ≤ (num7 s p).2.2 := numLoop_ge _ _ _ _ _ _ _ _ _
theorem num7_none {s : ByteArray} {p : Nat} (h : digAt s p true = false) : num7 s p = (0, 0, p) := numLoop_stop (by rw [h]; simp)
def unitL (c : Nat) : Int := if c = 104 then 3600 else if c = 109 then 60 else 1
def valL : List Nat → List Int → Int
  | c :: S, v :: l => v * unitL c + valL S l
  | _, _ => 0
/-- the program's lettered form over a list of letters -/
def lettL (s : ByteArray) : Nat → List Nat → Int → Nat → Int × Nat × Bool
  | 0, _, sum, p => (sum, p, true)
  | f + 1, L, sum, p =>
    if numOk 0 true (num7 s p) = true ∧ (num7 s p).2.2 < s.size ∧ byte s (num7 s p).2.2 ∈ L then
      if digAt s ((num7 s p).2.2 + 1) true = true ∧ behind (byte s (num7 s p).2.2) L ≠ [] then lettL s f (behind (byte s (num7 s p).2.2) L) (sum + (num7 s p).1 * unitL (byte s (num7 s p).2.2)) ((num7 s p).2.2 + 1)
      else (sum + (num7 s p).1 * unitL (byte s (num7 s p).2.2), (num7 s p).2.2 + 1, true)
    else (0, (num7 s p).2.2, false)
/-- the lettered form and the forms of the rows of letters say the same -/
structure LetOk (s : ByteArray) (L : List Nat) (sum : Int) (p : Nat) (o : Int × Nat × Bool) : Prop where
  most : ∀ S, Sub S L → (matchT s (lform S) p).1 ≤ o.2.1
  here : ∃ S, Sub S L ∧ (matchT s (lform S) p).1 = o.2.1
  good : ∀ S, Sub S L → (matchT s (lform S) p).2.2 = true → o.2.2 = true ∧ o.2.1 = s.size ∧ o.1 = sum + valL S (matchT s (lform S) p).2.1
  back : o.2.2 = true → o.2.1 = s.size → ∃ S, Sub S L ∧ (matchT s (lform S) p).2.2 = true
theorem behind_len {c : Nat} : ∀ {L : List Nat}, c ∈ L → (behind c L).length < L.length
  | [], h => by cases h
  | d :: L, h => by
    unfold behind
    split
    · simp
    · rename_i e
      rcases List.mem_cons.1 h with h | h
      · exact absurd h.symm e
      · have := behind_len h
        simp only [List.length_cons]; omega
theorem letOk (s : ByteArray) : ∀ (f : Nat) (L : List Nat) (sum : Int) (p : Nat), L ≠ [] → L.length ≤ f → (∀ c, c ∈ L → c < 256) → LetOk s L sum p (lettL s f L sum p) ∧ p ≤ (lettL s f L sum p).2.1
  | 0, L, sum, p, hL, hf, _ => absurd (List.eq_nil_of_length_eq_zero (Nat.le_zero.1 hf)) hL
  | f + 1, L, sum, p, hL, hf, hb => by
    obtain ⟨d, L0, hd⟩ : ∃ d L0, L = d :: L0 := by
      cases L with
      | nil => exact absurd rfl hL
      | cons d L0 => exact ⟨d, L0, rfl⟩
    have hge := num7_ge s p
    have step : ∀ S, Sub S L → ∃ c S', S = c :: S' ∧ c ∈ L ∧ c < 256 ∧ (S' = [] ∨ Sub S' (behind c L)) := fun S hS => by
      cases S with
      | nil => exact absurd rfl hS.ne
      | cons c S' =>
        obtain ⟨h1, h2⟩ := hS.head
        exact ⟨c, S', rfl, h1, hb c h1, h2⟩
    unfold lettL
    by_cases hgo : numOk 0 true (num7 s p) = true ∧ (num7 s p).2.2 < s.size ∧ byte s (num7 s p).2.2 ∈ L
    · rw [if_pos hgo]
      obtain ⟨h1, h2, h3⟩ := hgo
      obtain ⟨c, hc⟩ : ∃ c, byte s (num7 s p).2.2 = c := ⟨_, rfl⟩
      rw [hc] at h3 ⊢
      have yes : stepL s p c = true := by unfold stepL; rw [h1, hc]; simp [h2]
      have no : ∀ c', c' ≠ c → stepL s p c' = false := fun c' h => by
        unfold stepL
        rw [hc]
        simp only [Bool.and_eq_false_iff, decide_eq_false_iff_not]
        exact Or.inr (Or.inr fun e => h e.symm)
      have hc256 := hb c h3
      have m1 : matchT s (lform [c]) p = ((num7 s p).2.2 + 1, [(num7 s p).1], decide ((num7 s p).2.2 + 1 = s.size)) := by
        rw [match_step hc256, if_pos yes]; rfl
      have far : ∀ c' S', c' < 256 → c' ≠ c → ∃ l, matchT s (lform (c' :: S')) p = ((num7 s p).2.2, l, false) := fun c' S' h256 h => by
        rw [match_step h256, if_neg (by rw [no c' h]; simp)]
        exact ⟨_, rfl⟩
      have near : ∀ S', matchT s (lform (c :: S')) p = ((matchT s (lform S') ((num7 s p).2.2 + 1)).1, (num7 s p).1 :: (matchT s (lform S') ((num7 s p).2.2 + 1)).2.1, (matchT s (lform S') ((num7 s p).2.2 + 1)).2.2) := fun S' => by
        rw [match_step hc256, if_pos yes]
      by_cases hgo2 : digAt s ((num7 s p).2.2 + 1) true = true ∧ behind c L ≠ []
      · rw [if_pos hgo2]
        obtain ⟨hok, hge2⟩ := letOk s f (behind c L) (sum + (num7 s p).1 * unitL c) ((num7 s p).2.2 + 1) hgo2.2 (by have := behind_len h3; omega) (fun x hx => by
          have : ∀ {M : List Nat}, x ∈ behind c M → x ∈ M := by
            intro M
            induction M with
            | nil => exact id
            | cons y M ih =>
              unfold behind
              split
              · exact List.mem_cons_of_mem _
              · exact fun h => List.mem_cons_of_mem _ (ih h)
          exact hb x (this hx))
        have hlt := (digAt_true hgo2.1).2.1
        refine ⟨⟨fun S hS => ?_, ?_, fun S hS hm => ?_, fun g1 g2 => ?_⟩, by omega⟩
        · obtain ⟨c', S', rfl, hc', h256, hs'⟩ := step S hS
          by_cases e : c' = c
          · subst e
            rcases hs' with rfl | hs'
            · rw [m1]; exact hge2
            · rw [near]; exact hok.most _ hs'
          · rw [(far c' S' h256 e).choose_spec]
            show (num7 s p).2.2 ≤ _
            omega
        · obtain ⟨S, hS, he⟩ := hok.here
          exact ⟨c :: S, .cons h3 (Or.inr hS), by rw [near]; exact he⟩
        · obtain ⟨c', S', rfl, hc', h256, hs'⟩ := step S hS
          by_cases e : c' = c
          · subst e
            rcases hs' with rfl | hs'
            · rw [m1] at hm
              simp only [decide_eq_true_eq] at hm
              omega
            · rw [near] at hm ⊢
              obtain ⟨k1, k2, k3⟩ := hok.good _ hs' hm
              refine ⟨k1, k2, ?_⟩
              rw [k3]
              show _ = sum + ((num7 s p).1 * unitL c' + valL S' _)
              omega
          · rw [(far c' S' h256 e).choose_spec] at hm
            cases hm
        · obtain ⟨S, hS, he⟩ := hok.back g1 g2
          exact ⟨c :: S, .cons h3 (Or.inr hS), by rw [near]; exact he⟩
      · rw [if_neg hgo2]
        have rest : ∀ S', Sub S' (behind c L) → ∃ l, matchT s (lform S') ((num7 s p).2.2 + 1) = ((num7 s p).2.2 + 1, l, false) := fun S' hS' => by
          have hnd : digAt s ((num7 s p).2.2 + 1) true = false := by
            cases h : digAt s ((num7 s p).2.2 + 1) true with
            | false => rfl
            | true =>
              exfalso
              refine hgo2 ⟨h, fun e => ?_⟩
              rw [e] at hS'
              cases hS'
          cases S' with
          | nil => exact absurd rfl hS'.ne
          | cons c' S'' =>
            have h0 : c' < 256 := by
              have : c' ∈ behind c L := hS'.head.1
              have h1 : ∀ {M : List Nat}, c' ∈ behind c M → c' ∈ M := by
                intro M
                induction M with
                | nil => exact id
                | cons y M ih =>
                  unfold behind
                  split
                  · exact List.mem_cons_of_mem _
                  · exact fun h => List.mem_cons_of_mem _ (ih h)
              exact hb c' (h1 this)
            have e0 := num7_none hnd
            rw [match_step h0, if_neg (by unfold stepL; rw [e0]; simp [numOk]), e0]
            exact ⟨_, rfl⟩
        refine ⟨⟨fun S hS => ?_, ⟨[c], .cons h3 (Or.inl rfl), by rw [m1]⟩, fun S hS hm => ?_, fun g1 g2 => ⟨[c], .cons h3 (Or.inl rfl), by rw [m1]; simpa using g2⟩⟩, by show p ≤ (num7 s p).2.2 + 1; omega⟩
        · obtain ⟨c', S', rfl, hc', h256, hs'⟩ := step S hS
          by_cases e : c' = c
          · subst e
            rcases hs' with rfl | hs'
            · rw [m1]; exact Nat.le_refl _
            · rw [near, (rest _ hs').choose_spec]; exact Nat.le_refl _
          · rw [(far c' S' h256 e).choose_spec]
            exact Nat.le_succ _
        · obtain ⟨c', S', rfl, hc', h256, hs'⟩ := step S hS
          by_cases e : c' = c
          · subst e
            rcases hs' with rfl | hs'
            · rw [m1] at hm ⊢
              refine ⟨rfl, by simpa using hm, ?_⟩
              show sum + _ = sum + ((num7 s p).1 * unitL c' + 0)
              omega
            · rw [near, (rest _ hs').choose_spec] at hm
              cases hm
          · rw [(far c' S' h256 e).choose_spec] at hm
            cases hm
    · rw [if_neg hgo]
      have all : ∀ S, Sub S L → ∃ l, matchT s (lform S) p = ((num7 s p).2.2, l, false) := fun S hS => by
        obtain ⟨c', S', rfl, hc', h256, hs'⟩ := step S hS
        rw [match_step h256, if_neg]
        exact ⟨_, rfl⟩
        intro h
        unfold stepL at h
        simp only [Bool.and_eq_true, decide_eq_true_eq] at h
        exact hgo ⟨h.1, h.2.1, by rw [h.2.2]; exact hc'⟩
      refine ⟨⟨fun S hS => by rw [(all S hS).choose_spec]; exact Nat.le_refl _, ⟨[d], by rw [hd]; exact .one, by rw [(all [d] (by rw [hd]; exact .one)).choose_spec]⟩, fun S hS hm => ?_, fun g1 _ => by cases g1⟩, hge⟩
      rw [(all S hS).choose_spec] at hm
      cases hm
/-- the letters of the last m units -/
def lst : Nat → List Nat
  | 0 => []
  | 1 => [115]
  | 2 => [109, 115]
  | _ => [104, 109, 115]
theorem idx_none (l : List UInt8) (c : UInt8) (h : c ∉ l) : Go.Lib.indexByte l c = -1 := by
  induction l with
  | nil => rfl
  | cons b l ih =>
    unfold Go.Lib.indexByte
    have h1 : (b == c) = false := by
      rw [beq_eq_false_iff_ne]
      rintro rfl
      exact h (List.mem_cons_self ..)
    rw [h1, ih fun hm => h (List.mem_cons_of_mem _ hm)]
    rfl
theorem oneAt_lets (s : ByteArray) (m q : Nat) (hm : m ≤ 3) (hq : q < s.size) :
    (byte s q ∈ lst m → ∃ k : Int, oneAt s (lets m) q true = (k, q + 1, true) ∧ 0 ≤ k ∧ unitOf (k + 3 - m) = unitL (byte s q) ∧ lst (m - (k + 1).toNat) = behind (byte s q) (lst m) ∧ m - (k + 1).toNat ≤ 3 ∧ m - (k + 1).toNat < m) ∧
    (byte s q ∉ lst m → oneAt s (lets m) q true = (-1, q, false)) := by
  have hb := byte_le s q
  obtain ⟨b, he⟩ : ∃ b, byte s q = b := ⟨_, rfl⟩
  unfold oneAt
  rw [if_pos ⟨rfl, hq⟩, he]
  rw [he] at hb
  by_cases b1 : b = 104
  · subst b1
    have : m = 0 ∨ m = 1 ∨ m = 2 ∨ m = 3 := by omega
    rcases this with rfl | rfl | rfl | rfl
    · exact ⟨fun h => absurd h (by decide), fun _ => by rfl⟩
    · exact ⟨fun h => absurd h (by decide), fun _ => by rfl⟩
    · exact ⟨fun h => absurd h (by decide), fun _ => by rfl⟩
    · exact ⟨fun _ => ⟨0, by rfl, by decide, by decide, by decide, by decide, by decide⟩, fun h => absurd (by decide) h⟩
  by_cases b2 : b = 109
  · subst b2
    have : m = 0 ∨ m = 1 ∨ m = 2 ∨ m = 3 := by omega
    rcases this with rfl | rfl | rfl | rfl
    · exact ⟨fun h => absurd h (by decide), fun _ => by rfl⟩
    · exact ⟨fun h => absurd h (by decide), fun _ => by rfl⟩
    · exact ⟨fun _ => ⟨0, by rfl, by decide, by decide, by decide, by decide, by decide⟩, fun h => absurd (by decide) h⟩
    · exact ⟨fun _ => ⟨1, by rfl, by decide, by decide, by decide, by decide, by decide⟩, fun h => absurd (by decide) h⟩
  by_cases b3 : b = 115
  · subst b3
    have : m = 0 ∨ m = 1 ∨ m = 2 ∨ m = 3 := by omega
    rcases this with rfl | rfl | rfl | rfl
    · exact ⟨fun h => absurd h (by decide), fun _ => by rfl⟩
    · exact ⟨fun _ => ⟨0, by rfl, by decide, by decide, by decide, by decide, by decide⟩, fun h => absurd (by decide) h⟩
    · exact ⟨fun _ => ⟨1, by rfl, by decide, by decide, by decide, by decide, by decide⟩, fun h => absurd (by decide) h⟩
    · exact ⟨fun _ => ⟨2, by rfl, by decide, by decide, by decide, by decide, by decide⟩, fun h => absurd (by decide) h⟩
  have e : (b.toUInt8).toNat = b := by simp; omega
  have hn : b.toUInt8 ∉ ([104, 109, 115] : List UInt8) := fun h => by
    simp only [List.mem_cons, List.not_mem_nil, or_false] at h
    rcases h with h | h | h
    · rw [h] at e; exact b1 e.symm
    · rw [h] at e; exact b2 e.symm
    · rw [h] at e; exact b3 e.symm
  have hi : Go.Lib.indexByte (lets m).data.toList b.toUInt8 = -1 := by
    refine idx_none _ _ fun h => hn ?_
    have : m = 0 ∨ m = 1 ∨ m = 2 ∨ m = 3 := by omega
    rcases this with rfl | rfl | rfl | rfl
    · cases h
    · exact List.mem_cons_of_mem _ (List.mem_cons_of_mem _ h)
    · exact List.mem_cons_of_mem _ h
    · exact h
  refine ⟨fun h => ?_, fun _ => by rw [hi]; rfl⟩
  exfalso
  have : m = 0 ∨ m = 1 ∨ m = 2 ∨ m = 3 := by omega
  rcases this with rfl | rfl | rfl | rfl <;> simp [lst] at h <;> omega
theorem lett_eq (s : ByteArray) : ∀ (f m : Nat) (sum : Int) (p : Nat), 1 ≤ m → m ≤ 3 → m ≤ f → lettLoop s f m sum p true = lettL s f (lst m) sum p
  | 0, m, sum, p, h1, _, hf => by omega
  | f + 1, m, sum, p, h1, h3, hf => by
    have hm0 : m ≠ 0 := by omega
    unfold lettL
    have hx : numAt s 7 0 9999999 true p = num7 s p := rfl
    by_cases hok : numOk 0 true (num7 s p) = true
    · by_cases hlt : (num7 s p).2.2 < s.size
      · obtain ⟨g1, g2⟩ := oneAt_lets s m (num7 s p).2.2 h3 hlt
        by_cases hb : byte s (num7 s p).2.2 ∈ lst m
        · rw [if_pos ⟨hok, hlt, hb⟩]
          obtain ⟨k, e1, e2, e3, e4, e5, e6⟩ := g1 hb
          have hk : oneAt s (lets m) (num7 s p).2.2 (numOk 0 true (num7 s p)) = (k, (num7 s p).2.2 + 1, true) := by rw [hok]; exact e1
          cases hd : digAt s ((num7 s p).2.2 + 1) true with
          | false =>
            rw [if_neg (by simp), lettLoop_last hm0 hx hk (by show ¬ k < 0; omega) hd]
            show (_, _, _) = _
            rw [e3]
          | true =>
            rw [lettLoop_next hm0 hx hk (by show ¬ k < 0; omega) hd]
            show lettLoop s f (m - (k + 1).toNat) _ _ true = _
            rw [e3]
            by_cases hz : behind (byte s (num7 s p).2.2) (lst m) = []
            · rw [if_neg (by rw [hz]; simp)]
              have : m - (k + 1).toNat = 0 := by
                rw [hz] at e4
                have : m - (k + 1).toNat = 0 ∨ m - (k + 1).toNat = 1 ∨ m - (k + 1).toNat = 2 ∨ m - (k + 1).toNat = 3 := by omega
                rcases this with h | h | h | h
                · exact h
                · rw [h] at e4; cases e4
                · rw [h] at e4; cases e4
                · rw [h] at e4; cases e4
              rw [this, lettLoop_end]
            · rw [if_pos ⟨rfl, hz⟩, ← e4]
              refine lett_eq s f _ _ _ ?_ e5 (by omega)
              apply Classical.byContradiction
              intro h
              have h0 : m - (k + 1).toNat = 0 := by omega
              rw [h0] at e4
              exact hz e4.symm
        · rw [if_neg fun h => hb h.2.2]
          have hk : oneAt s (lets m) (num7 s p).2.2 (numOk 0 true (num7 s p)) = (-1, (num7 s p).2.2, false) := by rw [hok]; exact g2 hb
          rw [lettLoop_none hm0 hx hk (by show (-1 : Int) < 0; omega)]
      · rw [if_neg fun h => hlt h.2.1]
        have hk : oneAt s (lets m) (num7 s p).2.2 (numOk 0 true (num7 s p)) = (-1, (num7 s p).2.2, false) := by
          unfold oneAt
          rw [if_neg fun h => hlt h.2]
        rw [lettLoop_none hm0 hx hk (by show (-1 : Int) < 0; omega)]
    · rw [if_neg fun h => hok h.1]
      have hk : oneAt s (lets m) (num7 s p).2.2 (numOk 0 true (num7 s p)) = (-1, (num7 s p).2.2, false) := by
        unfold oneAt
        rw [if_neg fun h => hok h.1]
      rw [lettLoop_none hm0 hx hk (by show (-1 : Int) < 0; omega)]
theorem lettL_nonneg (s : ByteArray) : ∀ (f : Nat) (L : List Nat) (sum : Int) (p : Nat), 0 ≤ sum → 0 ≤ (lettL s f L sum p).1
  | 0, L, sum, p, h => h
  | f + 1, L, sum, p, h => by
    have hv := numAt_val s 7 0 9999999 true p (by omega)
    have hu : ∀ c, 0 ≤ (num7 s p).1 * unitL c := fun c => Int.mul_nonneg hv.1 (by unfold unitL; split <;> (try split) <;> omega)
    unfold lettL
    split
    · have := hu (byte s (num7 s p).2.2)
      split
      · exact lettL_nonneg s f _ _ _ (by omega)
      · show 0 ≤ sum + _
        omega
    · exact Int.le_refl 0
/-- the forms of durations of the reference, and their units -/
def durT : List (List Tok) := [shortT, longT, lform [104], lform [109], lform [104, 109], lform [115], lform [104, 115], lform [109, 115], lform [104, 109, 115]]
def durU : List (List Int) := [[60, 1], [3600, 60, 1], [3600], [60], [3600, 60], [1], [3600, 1], [60, 1], [3600, 60, 1]]
def dotU : List Int → List Int → Int
  | v :: l, u :: r => v * u + dotU l r
  | _, _ => 0
theorem dot_val : ∀ (S : List Nat) (l : List Int), dotU l (S.map unitL) = valL S l
  | [], [] => rfl
  | [], _ :: _ => rfl
  | _ :: _, [] => rfl
  | c :: S, v :: l => by
    show v * unitL c + dotU l (S.map unitL) = v * unitL c + valL S l
    rw [dot_val S l]
theorem match_len {s : ByteArray} : ∀ (S : List Nat) (p : Nat), (∀ c, c ∈ S → c < 256) → (matchT s (lform S) p).2.2 = true → (matchT s (lform S) p).2.1.length = S.length
  | [], p, _, _ => rfl
  | c :: S, p, hc, h => by
    rw [match_step (hc c (List.mem_cons_self ..))] at h ⊢
    split at h
    · rename_i h1
      rw [if_pos h1]
      show (_ :: _).length = _
      rw [List.length_cons, match_len S _ (fun x hx => hc x (List.mem_cons_of_mem _ hx)) h, List.length_cons]
    · cases h
def refDur (s : ByteArray) : Int × Nat × Int :=
  if 1000 < s.size then (0, 0, 3)
  else if (firstT s durT 0 0).1 < 0 then (0, (firstT s durT 0 0).2.2, 6)
  else if 3599999 < dotU (firstT s durT 0 0).2.1 (durU.getD (firstT s durT 0 0).1.toNat []) then (0, 0, 9) else (dotU (firstT s durT 0 0).2.1 (durU.getD (firstT s durT 0 0).1.toNat []), 0, 0)
/-- the first form that is there -/
theorem firstT_some {s : ByteArray} : ∀ (l : List (List Tok)) (i far : Nat), (∃ f, f ∈ l ∧ (matchT s f 0).2.2 = true) → ∃ k f, l[k]? = some f ∧ (matchT s f 0).2.2 = true ∧ (∀ j g, j < k → l[j]? = some g → (matchT s g 0).2.2 = false) ∧ firstT s l i far = (((i + k : Nat) : Int), (matchT s f 0).2.1, 0)
  | [], i, far, h => by obtain ⟨f, h, _⟩ := h; cases h
  | g :: r, i, far, h => by
    cases hg : (matchT s g 0).2.2 with
    | true => exact ⟨0, g, rfl, hg, fun j _ hj => by omega, by unfold firstT; rw [if_pos hg]; rfl⟩
    | false =>
      obtain ⟨f, hf, hm⟩ := h
      have hr : ∃ f, f ∈ r ∧ (matchT s f 0).2.2 = true := by
        rcases List.mem_cons.1 hf with rfl | hf
        · rw [hm] at hg; cases hg
        · exact ⟨f, hf, hm⟩
      obtain ⟨k, f', h1, h2, h3, h4⟩ := firstT_some r (i + 1) (max far (matchT s g 0).1) hr
      refine ⟨k + 1, f', by simpa using h1, h2, fun j g' hj hg' => ?_, ?_⟩
      · cases j with
        | zero =>
          simp only [List.getElem?_cons_zero, Option.some.injEq] at hg'
          subst hg'; exact hg
        | succ j => exact h3 j g' (by omega) (by simpa using hg')
      · unfold firstT
        rw [if_neg (by rw [hg]; simp), h4]
        rw [show i + 1 + k = i + (k + 1) by omega]
theorem seven_sub : Sub [104] [104, 109, 115] ∧ Sub [109] [104, 109, 115] ∧ Sub [104, 109] [104, 109, 115] ∧ Sub [115] [104, 109, 115] ∧ Sub [104, 115] [104, 109, 115] ∧ Sub [109, 115] [104, 109, 115] ∧ Sub [104, 109, 115] [104, 109, 115] :=
  ⟨.one, .skip .one, .more .one, .skip (.skip .one), .more (.skip .one), .skip (.more .one), .more (.more .one)⟩
theorem sub_seven {S : List Nat} (h : Sub S [104, 109, 115]) : S = [104] ∨ S = [109] ∨ S = [104, 109] ∨ S = [115] ∨ S = [104, 115] ∨ S = [109, 115] ∨ S = [104, 109, 115] := by
  have h1 : ∀ {S}, Sub S [115] → S = [115] := by
    intro S h
    cases h with
    | one => rfl
    | more h => cases h
    | skip h => cases h
  have h2 : ∀ {S}, Sub S [109, 115] → S = [109] ∨ S = [109, 115] ∨ S = [115] := by
    intro S h
    cases h with
    | one => exact Or.inl rfl
    | more h => exact Or.inr (Or.inl (by rw [h1 h]))
    | skip h => exact Or.inr (Or.inr (h1 h))
  cases h with
  | one => simp
  | more h => rcases h2 h with rfl | rfl | rfl <;> simp
  | skip h => rcases h2 h with rfl | rfl | rfl <;> simp
theorem lettered_ok (s : ByteArray) : LetOk s [104, 109, 115] 0 0 (letteredF s) := by
  unfold letteredF
  rw [lett_eq s 3 3 0 0 (by omega) (by omega) (by omega)]
  exact (letOk s 3 [104, 109, 115] 0 0 (by simp) (by simp) (by intro c hc; simp at hc; omega)).1
theorem dur_eq (s : ByteArray) : refDur s = ranged (readForms s [shortF, longF, letteredF]) 0 3599999 := by
  unfold refDur readForms
  by_cases hz : 1000 < s.size
  · rw [if_pos hz, if_pos hz]; rfl
  rw [if_neg hz, if_neg hz]
  obtain ⟨a, ha⟩ : ∃ o, shortF s = o := ⟨_, rfl⟩
  obtain ⟨b, hb⟩ : ∃ o, longF s = o := ⟨_, rfl⟩
  have hc0 := lettered_ok s
  have hcn : 0 ≤ (letteredF s).1 := by
    unfold letteredF
    rw [lett_eq s 3 3 0 0 (by omega) (by omega) (by omega)]
    exact lettL_nonneg _ _ _ _ _ (Int.le_refl 0)
  obtain ⟨c, hc⟩ : ∃ o, letteredF s = o := ⟨_, rfl⟩
  rw [hc] at hc0 hcn
  obtain ⟨a1, a2, a3⟩ := short_match s a ha
  obtain ⟨b1, b2, b3⟩ := long_match s b hb
  simp only [formsLoop, ha, hb, hc]
  have fin : ∀ (k : Nat) (f : List Tok) (l : List Int) (v : Int), durT[k]? = some f → 0 ≤ v → firstT s durT 0 0 = (((0 + k : Nat) : Int), l, 0) → dotU l (durU.getD k []) = v →
      (if (firstT s durT 0 0).1 < 0 then (0, (firstT s durT 0 0).2.2, 6) else if 3599999 < dotU (firstT s durT 0 0).2.1 (durU.getD (firstT s durT 0 0).1.toNat []) then (0, 0, 9) else (dotU (firstT s durT 0 0).2.1 (durU.getD (firstT s durT 0 0).1.toNat []), 0, 0)) = ranged (v, 0, 0) 0 3599999 := by
    intro k f l v _ hv he hd
    rw [he]
    simp only [Nat.zero_add]
    rw [if_neg (by omega), Int.toNat_natCast, hd]
    unfold ranged
    by_cases h : 3599999 < v
    · rw [if_pos h, if_pos ⟨rfl, Or.inr h⟩]
    · rw [if_neg h, if_neg (by rintro ⟨_, h1⟩; simp only at h1; omega)]
  by_cases hA : (matchT s shortT 0).2.2 = true
  · rw [if_pos (show (a.2.2 && decide (a.2.1 = s.size)) = true by rw [← a2]; exact hA)]
    obtain ⟨x, y, hx, hy, hl, hv⟩ := a3 hA
    have he := firstT_at (s := s) durT 0 0 0 shortT rfl hA (fun j _ hj => by omega)
    refine fin 0 shortT _ a.1 rfl (by omega) he ?_
    rw [hl]
    show x * 60 + (y * 1 + 0) = _
    omega
  rw [if_neg (show ¬ (a.2.2 && decide (a.2.1 = s.size)) = true by rw [← a2]; exact hA)]
  by_cases hB : (matchT s longT 0).2.2 = true
  · rw [if_pos (show (b.2.2 && decide (b.2.1 = s.size)) = true by rw [← b2]; exact hB)]
    obtain ⟨x, y, z, hx, hy, hz', hl, hv⟩ := b3 hB
    have he := firstT_at (s := s) durT 0 0 1 longT rfl hB (fun j g hj hg => by
      obtain rfl : j = 0 := by omega
      simp only [durT, List.getElem?_cons_zero, Option.some.injEq] at hg
      subst hg
      simpa using hA)
    refine fin 1 longT _ b.1 rfl (by omega) he ?_
    rw [hl]
    show x * 3600 + (y * 60 + (z * 1 + 0)) = _
    omega
  rw [if_neg (show ¬ (b.2.2 && decide (b.2.1 = s.size)) = true by rw [← b2]; exact hB)]
  obtain ⟨s1, s2, s3, s4, s5, s6, s7⟩ := seven_sub
  by_cases hC : (c.2.2 && decide (c.2.1 = s.size)) = true
  · rw [if_pos hC]
    have hC := hC
    simp only [Bool.and_eq_true, decide_eq_true_eq] at hC
    have hex : ∃ f, f ∈ durT ∧ (matchT s f 0).2.2 = true := by
      obtain ⟨S, hS, hm⟩ := hc0.back hC.1 hC.2
      refine ⟨lform S, ?_, hm⟩
      rcases sub_seven hS with rfl | rfl | rfl | rfl | rfl | rfl | rfl <;> simp [durT]
    obtain ⟨k, f, hk, hm, hfirst, he⟩ := firstT_some durT 0 0 hex
    have key : ∀ S, Sub S [104, 109, 115] → f = lform S → durU.getD k [] = S.map unitL → dotU (matchT s f 0).2.1 (durU.getD k []) = c.1 := fun S hS hf hu => by
      subst hf
      rw [hu, dot_val, (hc0.good S hS hm).2.2]
      omega
    refine fin k f _ c.1 hk hcn he ?_
    match k, hk with
    | 0, hk => injection hk with hk; subst hk; exact absurd hm hA
    | 1, hk => injection hk with hk; subst hk; exact absurd hm hB
    | 2, hk => injection hk with hk; exact key [104] s1 hk.symm rfl
    | 3, hk => injection hk with hk; exact key [109] s2 hk.symm rfl
    | 4, hk => injection hk with hk; exact key [104, 109] s3 hk.symm rfl
    | 5, hk => injection hk with hk; exact key [115] s4 hk.symm rfl
    | 6, hk => injection hk with hk; exact key [104, 115] s5 hk.symm rfl
    | 7, hk => injection hk with hk; exact key [109, 115] s6 hk.symm rfl
    | 8, hk => injection hk with hk; exact key [104, 109, 115] s7 hk.symm rfl
    | k + 9, hk => simp [durT] at hk
  · rw [if_neg hC]
    have hno : ∀ f, f ∈ durT → (matchT s f 0).2.2 = false := fun f hf => by
      have bad : ∀ S, Sub S [104, 109, 115] → (matchT s (lform S) 0).2.2 = false := fun S hS => by
        cases h : (matchT s (lform S) 0).2.2 with
        | false => rfl
        | true =>
          obtain ⟨g1, g2, _⟩ := hc0.good S hS h
          exact absurd (by rw [g1]; simpa using g2) hC
      simp only [durT, List.mem_cons, List.not_mem_nil, or_false] at hf
      rcases hf with rfl | rfl | rfl | rfl | rfl | rfl | rfl | rfl | rfl
      · simpa using hA
      · simpa using hB
      · exact bad _ s1
      · exact bad _ s2
      · exact bad _ s3
      · exact bad _ s4
      · exact bad _ s5
      · exact bad _ s6
      · exact bad _ s7
    rw [firstT_none durT 0 0 hno, if_pos (by show (-1 : Int) < 0; omega)]
    have hmax : (durT.foldl (fun a f => max a (matchT s f 0).1) 0) = max (max (max 0 a.2.1) b.2.1) c.2.1 := by
      have m1 := hc0.most _ s1
      have m2 := hc0.most _ s2
      have m3 := hc0.most _ s3
      have m4 := hc0.most _ s4
      have m5 := hc0.most _ s5
      have m6 := hc0.most _ s6
      have m7 := hc0.most _ s7
      have hh : (matchT s (lform [104]) 0).1 = c.2.1 ∨ (matchT s (lform [109]) 0).1 = c.2.1 ∨ (matchT s (lform [104, 109]) 0).1 = c.2.1 ∨ (matchT s (lform [115]) 0).1 = c.2.1 ∨ (matchT s (lform [104, 115]) 0).1 = c.2.1 ∨ (matchT s (lform [109, 115]) 0).1 = c.2.1 ∨ (matchT s (lform [104, 109, 115]) 0).1 = c.2.1 := by
        obtain ⟨S, hS, hm⟩ := hc0.here
        rcases sub_seven hS with rfl | rfl | rfl | rfl | rfl | rfl | rfl <;> simp [hm]
      simp only [durT, List.foldl, a1, b1]
      omega
    show (_, _, _) = _
    rw [hmax]
    rfl
end Rd

/- Rows of digits and what they spell; numbers with two digits (plain). -/
namespace Rd
open Go.Lib (digitVal decFrom decNat atoi atoiAll itoa)

def sB (s : ByteArray) : List UInt8 := s.data.toList
theorem sB_inj {a b : ByteArray} (h : sB a = sB b) : a = b := by
  unfold sB at h
  cases a; cases b
  congr 1
  exact Array.toList_inj.1 h
def bt (l : List UInt8) : ByteArray := ⟨l.toArray⟩
def itoaB (n : Int) : ByteArray := bt (itoa n)
/-- the m bytes from p on are digits and spell n -/
structure DigRow (s : ByteArray) (p m : Nat) (n : Int) : Prop where
  le : p + m ≤ s.size
  dec : ∃ k : Nat, n = (k : Int) ∧ decFrom 0 ((sB s).drop p |>.take m) = some k
theorem DigRow.zero {s : ByteArray} {p : Nat} (h : p ≤ s.size) : DigRow s p 0 0 := ⟨h, 0, rfl, by simp [decFrom]⟩
theorem sB_get {s : ByteArray} {p : Nat} (h : p < s.size) : (sB s)[p]? = some s[p] := by
  unfold sB
  have : p < s.data.size := h
  rw [Array.getElem?_toList, Array.getElem?_eq_getElem this]
  rfl
theorem DigRow.next {s : ByteArray} {p m : Nat} {n : Int} (h : DigRow s p m n) (hd : digAt s (p + m) true = true) : DigRow s p (m + 1) (10 * n + ((byte s (p + m) : Int) - 48)) := by
  obtain ⟨_, hlt, h48, h57⟩ := digAt_true hd
  obtain ⟨k, hk, he⟩ := h.dec
  refine ⟨by omega, k * 10 + (byte s (p + m) - 48), by omega, ?_⟩
  refine Go.Lib.decFrom_take ((sB s).drop p) m 0 k (s[p + m]) _ he ?_ ?_
  · rw [List.getElem?_drop, sB_get hlt]
  · unfold digitVal
    rw [byte_lt hlt] at h48 h57 ⊢
    rw [if_pos ⟨h48, h57⟩]
theorem extract_list (s : ByteArray) (p q : Nat) : sB (s.extract p q) = ((sB s).drop p).take (q - p) := by
  unfold sB
  rw [ByteArray.data_extract, Array.toList_extract]
theorem ext_size {s : ByteArray} {p m : Nat} (h : p + m ≤ s.size) : (s.extract p (p + m)).size = m := by
  rw [ByteArray.size_extract]; omega
theorem ext_byte {s : ByteArray} {p m : Nat} (h : p + m ≤ s.size) (hm : 0 < m) : byte (s.extract p (p + m)) 0 = byte s p := by
  have e := ext_size h
  rw [byte_lt (by omega), byte_lt (by omega), ByteArray.getElem_extract]
  simp
theorem DigRow.lt {s : ByteArray} {p m : Nat} {n : Int} (h : DigRow s p m n) : 0 ≤ n ∧ n < 10 ^ m := by
  obtain ⟨k, hk, he⟩ := h.dec
  have h1 := Go.Lib.decFrom_lt _ 0 k he
  have h2 : (((sB s).drop p).take m).length = m := by
    have : (sB s).length = s.size := rfl
    rw [List.length_take, List.length_drop]
    have := h.le
    omega
  rw [h2] at h1
  subst hk
  refine ⟨by omega, ?_⟩
  have : k < 10 ^ m := by omega
  exact_mod_cast this
/-- what Atoi says of a row of digits -/
theorem DigRow.num {s : ByteArray} {p m : Nat} {n : Int} (h : DigRow s p m n) (h0 : 0 < m) (h18 : m ≤ 18) : atoiAll (sB (s.extract p (p + m))) = .ok n := by
  obtain ⟨k, hk, he⟩ := h.dec
  have h2 : (((sB s).drop p).take m).length = m := by
    have : (sB s).length = s.size := rfl
    rw [List.length_take, List.length_drop]
    have := h.le
    omega
  rw [extract_list, show p + m - p = m by omega, Go.Lib.atoiAll_short _ (by omega)]
  obtain ⟨l, hl⟩ : ∃ l, ((sB s).drop p).take m = l := ⟨_, rfl⟩
  rw [hl] at he h2 ⊢
  cases l with
  | nil => simp at h2; omega
  | cons a t =>
    obtain ⟨d, hd⟩ := Go.Lib.digit_of_decFrom _ 0 k he 0 a rfl
    have ha : 48 ≤ a.toNat ∧ a.toNat ≤ 57 := by
      unfold digitVal at hd
      split at hd
      · assumption
      · cases hd
    have e : Go.Lib.atoi (a :: t) = some n := by
      rw [Go.Lib.atoi, if_neg (by simp; intro e; rw [e] at ha; simp at ha), if_neg (by simp; intro e; rw [e] at ha; simp at ha), decNat, if_neg (by simp), he, hk]
      rfl
    rw [e]
    rfl
theorem DigRow.first {s : ByteArray} {p m : Nat} {n : Int} (h : DigRow s p m n) (hm : m = 1) : n = (byte s p : Int) - 48 ∧ 48 ≤ byte s p ∧ byte s p ≤ 57 := by
  subst hm
  obtain ⟨k, hk, he⟩ := h.dec
  have hl := h.le
  have h1 : ((sB s).drop p).take 1 = [s[p]] := by
    have hg := sB_get (s := s) (p := p) (by omega)
    cases hd : (sB s).drop p with
    | nil =>
      have := congrArg List.length hd
      rw [List.length_drop] at this
      have e : (sB s).length = s.size := rfl
      simp at this
      omega
    | cons a t =>
      have : ((sB s).drop p)[0]? = some a := by rw [hd]; rfl
      rw [List.getElem?_drop, Nat.add_zero, hg] at this
      injection this with this
      rw [this]; rfl
  rw [h1] at he
  simp only [decFrom] at he
  rw [byte_lt (by omega)]
  unfold digitVal at he
  by_cases hc : 48 ≤ (s[p]).toNat ∧ (s[p]).toNat ≤ 57
  · rw [if_pos hc] at he
    simp only [Option.some.injEq] at he
    omega
  · rw [if_neg hc] at he
    cases he

/-! ### two digits -/
def zeroB : ByteArray := ⟨#[48]⟩
def padB (n : Int) : ByteArray := if n < 10 then zeroB ++ itoaB n else itoaB n
theorem itoa_len {n : Int} (h0 : 0 ≤ n) (h1 : n < 100) : (itoaB n).size = if n < 10 then 1 else 2 := by
  have key : ∀ k : Fin 100, (itoa ((k.1 : Nat) : Int)).length = if ((k.1 : Nat) : Int) < 10 then 1 else 2 := by decide +kernel
  have := key ⟨n.toNat, by omega⟩
  rw [show ((n.toNat : Nat) : Int) = n by omega] at this
  exact this
theorem itoaB_size {n : Int} (h0 : -9223372036854775808 ≤ n) (h1 : n ≤ 9223372036854775807) : (itoaB n).size ≤ 21 := Go.Lib.itoa_length_le n h0 h1
theorem padB_size {n : Int} (h0 : 0 ≤ n) (h1 : n < 100) : (padB n).size = 2 := by
  have := itoa_len h0 h1
  unfold padB
  split
  · rename_i h
    rw [if_pos h] at this
    rw [ByteArray.size_append, this]
    rfl
  · rename_i h
    rw [if_neg h] at this
    exact this
theorem nil_app (t : ByteArray) : (⟨#[]⟩ : ByteArray) ++ t = t := by
  apply sB_inj
  simp [sB]
def durText (n : Int) : ByteArray :=
  if n < 3600 then itoaB (n / 60) ++ colon ++ padB (n % 60) else itoaB (n / 3600) ++ colon ++ padB (n / 60 % 60) ++ colon ++ padB (n % 60)
end Rd

/- The rounds of a token's number, in plain words. -/
namespace Rd
/-- are digits the beginning of a number of a token? (a token whose least number is 0 or 1) -/
def begF (digits : Nat) (low high : Int) (size b0 : Nat) (n : Int) : Bool := decide (size ≤ digits) && !(decide (1 < size) && decide (b0 = 48)) && decide (n ≤ high) && decide (low ≤ n)
/-- m digits from p on were taken -/
structure NumSt (s : ByteArray) (digits : Nat) (low high : Int) (p m : Nat) (n : Int) : Prop where
  row : DigRow s p m n
  zero : 0 < m → (n = 0 ↔ byte s p = 48)
  left : numLoop s digits low high true (digits - m) n m (p + m) = numAt s digits low high true p
  le : m ≤ digits
section
variable {s : ByteArray} {digits p m : Nat} {low high n : Int}
theorem NumSt.start (h : p ≤ s.size) : NumSt s digits low high p 0 0 := ⟨.zero h, fun h => by omega, rfl, Nat.zero_le _⟩
theorem NumSt.next (h : NumSt s digits low high p m n) (hd : digAt s (p + m) true = true) (hb : begF digits low high (m + 1) (byte s p) (10 * n + ((byte s (p + m) : Int) - 48)) = true) :
    NumSt s digits low high p (m + 1) (10 * n + ((byte s (p + m) : Int) - 48)) := by
  unfold begF at hb
  simp only [Bool.and_eq_true, decide_eq_true_eq, Bool.not_eq_true', Bool.and_eq_false_iff, decide_eq_false_iff_not] at hb
  obtain ⟨⟨⟨h1, h2⟩, h3⟩, h4⟩ := hb
  have hn := h.row.lt
  obtain ⟨_, _, h48, h57⟩ := digAt_true hd
  refine ⟨h.row.next hd, fun _ => ?_, ?_, h1⟩
  · rcases Nat.eq_zero_or_pos m with rfl | hm
    · have := hn.2
      simp at this
      have : n = 0 := by omega
      subst this
      simp only [Nat.add_zero] at h48 h57 ⊢
      omega
    · have hz := h.zero hm
      rcases h2 with h2 | h2
      · omega
      · have : n ≠ 0 := fun e => h2 (hz.1 e)
        constructor
        · intro e; omega
        · intro e; exact absurd e h2
  · rw [← h.left, show digits - m = (digits - (m + 1)) + 1 by omega, numLoop_next ⟨by omega, hd⟩ ?_]
    · rw [Nat.add_assoc]
    · unfold stops
      simp only [Bool.or_eq_false_iff, Bool.and_eq_false_iff, decide_eq_false_iff_not]
      refine ⟨⟨?_, by omega⟩, by omega⟩
      rcases Nat.eq_zero_or_pos m with hm | hm
      · exact Or.inl (by omega)
      · rcases h2 with h2 | h2
        · omega
        · exact Or.inr fun e => h2 ((h.zero hm).1 e)
theorem NumSt.stop (h : NumSt s digits low high p m n) (hd : digAt s (p + m) true = false) : numAt s digits low high true p = (n, m, p + m) := by
  rw [← h.left]
  exact numLoop_stop (by rw [hd]; simp)
theorem NumSt.halt (h : NumSt s digits low high p m n) (hlow : low = 0 ∨ low = 1) (hd : digAt s (p + m) true = true) (hb : begF digits low high (m + 1) (byte s p) (10 * n + ((byte s (p + m) : Int) - 48)) = false) : numAt s digits low high true p = (n, m, p + m) := by
  rw [← h.left]
  by_cases hm : m < digits
  · refine numLoop_break ⟨hm, hd⟩ ?_
    unfold stops
    unfold begF at hb
    simp only [Bool.and_eq_false_iff, decide_eq_false_iff_not, Bool.not_eq_false', Bool.and_eq_true, decide_eq_true_eq] at hb
    simp only [Bool.or_eq_true, Bool.and_eq_true, decide_eq_true_eq]
    have hn := h.row.lt
    obtain ⟨_, _, h48, h57⟩ := digAt_true hd
    rcases hb with ((hb | hb) | hb) | hb
    · omega
    · exact Or.inl (Or.inl ⟨by omega, (h.zero (by omega)).2 hb.2⟩)
    · exact Or.inl (Or.inr (by omega))
    · exact Or.inr ⟨by omega, by omega⟩
  · exact numLoop_stop (fun e => hm e.1)
end
/-- m digits of a row from p on were taken -/
structure RowSt (s : ByteArray) (digits p m : Nat) (n : Int) : Prop where
  row : DigRow s p m n
  left : rowLoop s digits true (digits - m) n m (p + m) = rowAt s digits true p
  le : m ≤ digits
section
variable {s : ByteArray} {digits p m : Nat} {n : Int}
theorem RowSt.start (h : p ≤ s.size) : RowSt s digits p 0 0 := ⟨.zero h, rfl, Nat.zero_le _⟩
theorem rowLoop_stop {ok : Bool} {f : Nat} (h : ¬ (m < digits ∧ digAt s p ok = true)) : rowLoop s digits ok f n m p = (n, m, p) := by
  cases f <;> simp [rowLoop, h]
theorem RowSt.next (h : RowSt s digits p m n) (hm : m < digits) (hd : digAt s (p + m) true = true) : RowSt s digits p (m + 1) (10 * n + ((byte s (p + m) : Int) - 48)) := by
  refine ⟨h.row.next hd, ?_, hm⟩
  rw [← h.left, show digits - m = (digits - (m + 1)) + 1 by omega]
  conv => rhs; rw [rowLoop]
  rw [if_pos ⟨hm, hd⟩, Nat.add_assoc]
theorem RowSt.stop (h : RowSt s digits p m n) (hd : ¬ (m < digits ∧ digAt s (p + m) true = true)) : rowAt s digits true p = (n, m, p + m) := by
  rw [← h.left]
  exact rowLoop_stop hd
end
/-- what the forms' tokens are like -/
def TokOk (t : Tok) : Prop :=
  (t.kind = 1 ∧ t.text.size ≤ 100) ∨ (t.kind = 2 ∧ (t.low = 0 ∨ t.low = 1) ∧ 0 ≤ t.high ∧ t.high ≤ 9999999999999 ∧ t.digits ≤ 13) ∨ (t.kind = 3 ∧ 0 ≤ t.high ∧ t.high ≤ 99) ∨ (t.kind = 4 ∧ t.digits ≤ 6 )
end Rd

/- Going along a form, step by step (plain). -/
namespace Rd
theorem exactLoop_le (s t : ByteArray) : ∀ (f i p : Nat), p ≤ s.size → (exactLoop s t f i p).1 ≤ s.size
  | 0, _, p, h => h
  | f + 1, i, p, h => by
    unfold exactLoop
    split
    · split
      · rename_i hc
        exact exactLoop_le s t f (i + 1) (p + 1) (by omega)
      · exact h
    · exact h
theorem pairStep_le {s : ByteArray} {most u n : Int} {q : Nat} {b : Bool} (h : q ≤ s.size) : (pairStep s most u (n, q, b)).2.1 ≤ s.size := by
  unfold pairStep
  split
  · rename_i hc
    have : q < s.size := (digAt_true hc.1).2.1
    show q + 1 ≤ s.size
    omega
  · exact h
theorem rowLoop_le (s : ByteArray) (digits : Nat) (ok : Bool) : ∀ (f : Nat) (n : Int) (m p : Nat), p ≤ s.size → (rowLoop s digits ok f n m p).2.2 ≤ s.size
  | 0, n, m, p, h => h
  | f + 1, n, m, p, h => by
    unfold rowLoop
    split
    · rename_i hc
      have := (digAt_true hc.2).2.1
      exact rowLoop_le s digits ok f _ _ _ (by omega)
    · exact h
theorem runT_le {s : ByteArray} {t : Tok} {p : Nat} (h : p ≤ s.size) : (runT s t p).1 ≤ s.size := by
  unfold runT
  split
  · show (exactAt s t.text p true).1 ≤ _
    unfold exactAt
    rw [if_pos rfl]
    exact exactLoop_le s t.text _ _ _ h
  · split
    · show (pairAt s t.high p true).2.1 ≤ _
      unfold pairAt
      exact pairStep_le (n := (pairStep s t.high 10 (0, p, true)).1) (b := (pairStep s t.high 10 (0, p, true)).2.2) (pairStep_le h)
    · split
      · exact numLoop_pos _ _ _ _ _ _ _ _ _ h
      · exact rowLoop_le _ _ _ _ _ _ _ h
def tok0 : Tok := litT ⟨#[]⟩
/-- behind k tokens of a form, at q, with the values L -/
def MatchAt (s : ByteArray) (f : List Tok) (k q : Nat) (L : List Int) : Prop :=
  matchT s f 0 = ((matchT s (f.drop k) q).1, L ++ (matchT s (f.drop k) q).2.1, (matchT s (f.drop k) q).2.2)
theorem MatchAt.start (s : ByteArray) (f : List Tok) : MatchAt s f 0 0 [] := rfl
theorem MatchAt.next {s : ByteArray} {f : List Tok} {k q : Nat} {L : List Int} (h : MatchAt s f k q L) {t : Tok} (ht : f[k]? = some t) (hr : (runT s t q).2.2 = true) :
    MatchAt s f (k + 1) (runT s t q).1 (if t.kind = 1 then L else L ++ [(runT s t q).2.1]) := by
  unfold MatchAt at h ⊢
  have hk : k < f.length := (List.getElem?_eq_some_iff.1 ht).1
  rw [h, List.drop_eq_getElem_cons hk, (List.getElem?_eq_some_iff.1 ht).2, matchT, if_pos hr]
  split <;> simp
theorem MatchAt.fail {s : ByteArray} {f : List Tok} {k q : Nat} {L : List Int} (h : MatchAt s f k q L) {t : Tok} (ht : f[k]? = some t) (hr : (runT s t q).2.2 = false) : matchT s f 0 = ((runT s t q).1, L, false) := by
  unfold MatchAt at h
  have hk : k < f.length := (List.getElem?_eq_some_iff.1 ht).1
  rw [h, List.drop_eq_getElem_cons hk, (List.getElem?_eq_some_iff.1 ht).2, matchT, if_neg (by rw [hr]; simp)]
  simp
theorem MatchAt.done {s : ByteArray} {f : List Tok} {k q : Nat} {L : List Int} (h : MatchAt s f k q L) (hk : k = f.length) : matchT s f 0 = (q, L, decide (q = s.size)) := by
  unfold MatchAt at h
  rw [h, hk, List.drop_length]
  simp [matchT]
theorem matchT_le {s : ByteArray} : ∀ (f : List Tok) (q : Nat), q ≤ s.size → (matchT s f q).1 ≤ s.size
  | [], q, h => h
  | t :: f, q, h => by
    rw [matchT]
    split
    · exact matchT_le f _ (runT_le h)
    · exact runT_le h
/-- behind k forms -/
def FirstAt (s : ByteArray) (l : List (List Tok)) (k far : Nat) : Prop := firstT s l 0 0 = firstT s (l.drop k) k far
theorem FirstAt.start (s : ByteArray) (l : List (List Tok)) : FirstAt s l 0 0 := rfl
theorem FirstAt.next {s : ByteArray} {l : List (List Tok)} {k far : Nat} (h : FirstAt s l k far) {f : List Tok} (hf : l[k]? = some f) (hm : (matchT s f 0).2.2 = false) : FirstAt s l (k + 1) (max far (matchT s f 0).1) := by
  unfold FirstAt at h ⊢
  have hk : k < l.length := (List.getElem?_eq_some_iff.1 hf).1
  rw [h, List.drop_eq_getElem_cons hk, (List.getElem?_eq_some_iff.1 hf).2, firstT, if_neg (by rw [hm]; simp)]
theorem FirstAt.hit {s : ByteArray} {l : List (List Tok)} {k far : Nat} (h : FirstAt s l k far) {f : List Tok} (hf : l[k]? = some f) (hm : (matchT s f 0).2.2 = true) : firstT s l 0 0 = ((k : Int), (matchT s f 0).2.1, 0) := by
  unfold FirstAt at h
  have hk : k < l.length := (List.getElem?_eq_some_iff.1 hf).1
  rw [h, List.drop_eq_getElem_cons hk, (List.getElem?_eq_some_iff.1 hf).2, firstT, if_pos hm]
theorem FirstAt.done {s : ByteArray} {l : List (List Tok)} {k far : Nat} (h : FirstAt s l k far) (hk : k = l.length) : firstT s l 0 0 = (-1, [], far) := by
  unfold FirstAt at h
  rw [h, hk, List.drop_length]
  rfl
end Rd

/- What the values of a form are at most; the letters of a form (plain). -/
namespace Rd
/-- values of tokens that are no fractions -/
theorem runT_val {s : ByteArray} {t : Tok} {p : Nat} {M : Int} (hk : t.kind = 2 ∨ t.kind = 3) (h0 : 0 ≤ t.high) (hM : t.high ≤ M) : 0 ≤ (runT s t p).2.1 ∧ (runT s t p).2.1 ≤ M := by
  unfold runT
  rcases hk with hk | hk
  · rw [if_neg (by omega), if_neg (by omega), if_pos hk]
    have := numAt_val s t.digits t.low t.high true p h0
    exact ⟨this.1, Int.le_trans this.2 hM⟩
  · rw [if_neg (by omega), if_pos hk]
    have := pairAt_val s (most := t.high) p true h0
    exact ⟨this.1, Int.le_trans this.2 hM⟩
def Small (M : Int) (t : Tok) : Prop := t.kind = 1 ∨ ((t.kind = 2 ∨ t.kind = 3) ∧ 0 ≤ t.high ∧ t.high ≤ M)
theorem matchT_vals {s : ByteArray} {M : Int} : ∀ (f : List Tok) (p : Nat), (∀ t, t ∈ f → Small M t) → ∀ v, v ∈ (matchT s f p).2.1 → 0 ≤ v ∧ v ≤ M
  | [], p, _, v, hv => by simp [matchT] at hv
  | t :: f, p, h, v, hv => by
    have ih := matchT_vals (s := s) f (runT s t p).1 (fun t ht => h t (List.mem_cons_of_mem _ ht)) v
    rw [matchT] at hv
    split at hv
    · by_cases hk : t.kind = 1
      · simp only [if_pos hk] at hv
        exact ih hv
      · simp only [if_neg hk] at hv
        rcases List.mem_cons.1 hv with rfl | hv
        · rcases h t (List.mem_cons_self ..) with h1 | ⟨h1, h2, h3⟩
          · exact absurd h1 hk
          · exact runT_val h1 h2 h3
        · exact ih hv
    · simp at hv
def nVals : List Tok → Nat
  | [] => 0
  | t :: f => (if t.kind = 1 then 0 else 1) + nVals f
theorem matchT_len {s : ByteArray} : ∀ (f : List Tok) (p : Nat), (matchT s f p).2.2 = true → (matchT s f p).2.1.length = nVals f
  | [], p, _ => rfl
  | t :: f, p, h => by
    rw [matchT] at h ⊢
    by_cases hr : (runT s t p).2.2 = true
    · rw [if_pos hr] at h ⊢
      have ih := matchT_len (s := s) f (runT s t p).1 h
      unfold nVals
      by_cases hk : t.kind = 1
      · simp only [if_pos hk]
        rw [ih]; omega
      · simp only [if_neg hk, List.length_cons]
        rw [ih]; omega
    · rw [if_neg hr] at h
      cases h
theorem firstT_len {s : ByteArray} (l : List (List Tok)) (h : 0 ≤ (firstT s l 0 0).1) : ∃ (k : Nat) (f : List Tok), l[k]? = some f ∧ (firstT s l 0 0).1 = (k : Int) ∧ (matchT s f 0).2.2 = true ∧ (firstT s l 0 0).2.1 = (matchT s f 0).2.1 := by
  by_cases hex : ∃ f, f ∈ l ∧ (matchT s f 0).2.2 = true
  · obtain ⟨k, f, h1, h2, _, h4⟩ := firstT_some l 0 0 hex
    rw [h4]
    exact ⟨k, f, h1, by simp, h2, rfl⟩
  · rw [firstT_none l 0 0 (fun f hf => by
      cases hm : (matchT s f 0).2.2 with
      | false => rfl
      | true => exact absurd ⟨f, hf, hm⟩ hex)] at h
    exact absurd h (by show ¬ (0 : Int) ≤ -1; omega)
/-! ### the forms of durations -/
theorem dot_step : ∀ (k : Nat) (L us : List Int), k < L.length → k < us.length → dotU (L.take (k + 1)) (us.take (k + 1)) = dotU (L.take k) (us.take k) + L.getD k 0 * us.getD k 0
  | _, [], _, h, _ => by simp at h
  | _, _ :: _, [], _, h => by simp at h
  | 0, v :: L, u :: us, _, _ => by simp [dotU]
  | k + 1, v :: L, u :: us, h1, h2 => by
    have := dot_step k L us (by simpa using h1) (by simpa using h2)
    rw [List.take_succ_cons, List.take_succ_cons, dotU, this, List.take_succ_cons, List.take_succ_cons, dotU]
    simp only [List.getD_cons_succ]
    omega
theorem dot_small {M : Int} : ∀ (k : Nat) (L us : List Int), (∀ v, v ∈ L → 0 ≤ v ∧ v ≤ M) → (∀ u, u ∈ us → 0 ≤ u ∧ u ≤ 3600) → 0 ≤ M → 0 ≤ dotU (L.take k) (us.take k) ∧ dotU (L.take k) (us.take k) ≤ k * (M * 3600)
  | 0, L, us, _, _, _ => by simp [dotU]
  | k + 1, [], us, _, _, hM => by
    rw [List.take_nil, show dotU [] (List.take (k + 1) us) = 0 from rfl]
    exact ⟨Int.le_refl _, Int.mul_nonneg (by omega) (by omega)⟩
  | k + 1, v :: L, [], _, _, hM => by
    rw [List.take_nil, show dotU (List.take (k + 1) (v :: L)) [] = 0 from rfl]
    exact ⟨Int.le_refl _, Int.mul_nonneg (by omega) (by omega)⟩
  | k + 1, v :: L, u :: us, h1, h2, hM => by
    have ih := dot_small k L us (fun v hv => h1 v (List.mem_cons_of_mem _ hv)) (fun u hu => h2 u (List.mem_cons_of_mem _ hu)) hM
    have hv := h1 v (List.mem_cons_self ..)
    have hu := h2 u (List.mem_cons_self ..)
    rw [List.take_succ_cons, List.take_succ_cons, dotU]
    have a1 : 0 ≤ v * u := Int.mul_nonneg hv.1 hu.1
    have a2 : v * u ≤ M * 3600 := Int.le_trans (Int.mul_le_mul_of_nonneg_right hv.2 hu.1) (Int.mul_le_mul_of_nonneg_left hu.2 hM)
    refine ⟨by omega, ?_⟩
    rw [show ((k + 1 : Nat) : Int) * (M * 3600) = (k : Int) * (M * 3600) + M * 3600 by rw [Int.natCast_add, Int.add_mul]; simp]
    omega
def letL (i : Nat) : Nat := [104, 109, 115].getD i 0
def bitOn (k i : Nat) : Bool := k / 2 ^ i % 2 == 1
/-- the letters of form k below i -/
def sel (k : Nat) : Nat → List Nat
  | 0 => []
  | i + 1 => if bitOn k i = true then sel k i ++ [letL i] else sel k i
theorem lform_snoc (c : Nat) : ∀ S : List Nat, lform (S ++ [c]) = lform S ++ [numT 0 9999999 7, litT (byteT c)]
  | [] => rfl
  | d :: S => by
    show _ :: _ :: lform (S ++ [c]) = _ :: _ :: (lform S ++ _)
    rw [lform_snoc c S]
theorem sel_dur {k : Nat} (h1 : 1 ≤ k) (h7 : k ≤ 7) : durT[k + 1]? = some (lform (sel k 3)) ∧ durU[k + 1]? = some ((sel k 3).map unitL) ∧ sel k 3 ≠ [] := by
  rcases (show k = 1 ∨ k = 2 ∨ k = 3 ∨ k = 4 ∨ k = 5 ∨ k = 6 ∨ k = 7 by omega) with rfl | rfl | rfl | rfl | rfl | rfl | rfl
  all_goals exact ⟨rfl, rfl, by decide⟩
theorem sel_len (k : Nat) : ∀ i, (sel k i).length ≤ i
  | 0 => Nat.le_refl _
  | i + 1 => by
    have := sel_len k i
    unfold sel
    split
    · simp; omega
    · omega
theorem lform_len : ∀ S : List Nat, (lform S).length = 2 * S.length
  | [] => rfl
  | c :: S => by
    show (lform S).length + 1 + 1 = _
    rw [lform_len S]
    simp only [List.length_cons]; omega
theorem lform_ok : ∀ S : List Nat, ∀ t, t ∈ lform S → TokOk t ∧ Small 9999999 t
  | [], t, h => by cases h
  | c :: S, t, h => by
    rcases List.mem_cons.1 h with rfl | h
    · exact ⟨Or.inr (Or.inl ⟨rfl, Or.inl rfl, by decide, by decide, by decide⟩), Or.inr ⟨Or.inl rfl, by decide, by decide⟩⟩
    · rcases List.mem_cons.1 h with rfl | h
      · exact ⟨Or.inl ⟨rfl, by show 1 ≤ 100; decide⟩, Or.inl rfl⟩
      · exact lform_ok S t h
theorem num_ok {lo hi : Int} {d : Nat} (h0 : lo = 0 ∨ lo = 1) (h1 : 0 ≤ hi) (h2 : hi ≤ 9999999) (h3 : d ≤ 13) : TokOk (numT lo hi d) ∧ Small 9999999 (numT lo hi d) := ⟨Or.inr (Or.inl ⟨rfl, h0, h1, by show hi ≤ _; omega, h3⟩), Or.inr ⟨Or.inl rfl, h1, h2⟩⟩
theorem pair_ok {hi : Int} (h1 : 0 ≤ hi) (h2 : hi ≤ 99) : TokOk (pairT hi) ∧ Small 9999999 (pairT hi) := ⟨Or.inr (Or.inr (Or.inl ⟨rfl, h1, h2⟩)), Or.inr ⟨Or.inr rfl, h1, by show hi ≤ _; omega⟩⟩
theorem colon_ok : TokOk (litT colon) ∧ Small 9999999 (litT colon) := ⟨Or.inl ⟨rfl, by decide⟩, Or.inl rfl⟩
theorem dur_ok {f : List Tok} (hf : f ∈ durT) : (∀ t, t ∈ f → TokOk t ∧ Small 9999999 t) ∧ f.length ≤ 6 := by
  simp only [durT, List.mem_cons, List.not_mem_nil, or_false] at hf
  rcases hf with rfl | rfl | h
  · refine ⟨fun t ht => ?_, by decide⟩
    simp only [shortT, List.mem_cons, List.not_mem_nil, or_false] at ht
    rcases ht with rfl | rfl | rfl
    · exact num_ok (Or.inl rfl) (by decide) (by decide) (by decide)
    · exact colon_ok
    · exact pair_ok (by decide) (by decide)
  · refine ⟨fun t ht => ?_, by decide⟩
    simp only [longT, List.mem_cons, List.not_mem_nil, or_false] at ht
    rcases ht with rfl | rfl | rfl | rfl | rfl
    · exact num_ok (Or.inr rfl) (by decide) (by decide) (by decide)
    · exact colon_ok
    · exact pair_ok (by decide) (by decide)
    · exact colon_ok
    · exact pair_ok (by decide) (by decide)
  · have : ∃ S : List Nat, f = lform S ∧ S.length ≤ 3 := by
      rcases h with rfl | rfl | rfl | rfl | rfl | rfl | rfl
      · exact ⟨_, rfl, by decide⟩
      · exact ⟨_, rfl, by decide⟩
      · exact ⟨_, rfl, by decide⟩
      · exact ⟨_, rfl, by decide⟩
      · exact ⟨_, rfl, by decide⟩
      · exact ⟨_, rfl, by decide⟩
      · exact ⟨_, rfl, by decide⟩
    obtain ⟨S, rfl, hS⟩ := this
    exact ⟨lform_ok S, by rw [lform_len]; omega⟩
/-- what a duration's values are like -/
theorem dur_vals {s : ByteArray} (h : 0 ≤ (firstT s durT 0 0).1) : ∃ k : Nat, (firstT s durT 0 0).1 = (k : Int) ∧ k < 9 ∧ (firstT s durT 0 0).2.1.length = (durU.getD k []).length ∧ (∀ v, v ∈ (firstT s durT 0 0).2.1 → 0 ≤ v ∧ v ≤ 9999999) := by
  obtain ⟨k, f, h1, h2, h3, h4⟩ := firstT_len durT h
  have hk : k < 9 := (List.getElem?_eq_some_iff.1 h1).1
  refine ⟨k, h2, hk, ?_, ?_⟩
  · rw [h4, matchT_len f 0 h3]
    have : durT[k]? = some f := h1
    rcases (show k = 0 ∨ k = 1 ∨ k = 2 ∨ k = 3 ∨ k = 4 ∨ k = 5 ∨ k = 6 ∨ k = 7 ∨ k = 8 by omega) with rfl | rfl | rfl | rfl | rfl | rfl | rfl | rfl | rfl
    all_goals
      injection h1 with h1
      subst h1
      rfl
  · rw [h4]
    exact matchT_vals f 0 (fun t ht => ((dur_ok (List.mem_of_getElem? h1)).1 t ht).2)
theorem durU_small {k : Nat} (hk : k < 9) : (∀ u, u ∈ durU.getD k [] → 0 ≤ u ∧ u ≤ 3600) ∧ (durU.getD k []).length ≤ 3 ∧ 0 < (durU.getD k []).length := by
  rcases (show k = 0 ∨ k = 1 ∨ k = 2 ∨ k = 3 ∨ k = 4 ∨ k = 5 ∨ k = 6 ∨ k = 7 ∨ k = 8 by omega) with rfl | rfl | rfl | rfl | rfl | rfl | rfl | rfl | rfl
  all_goals exact ⟨by decide, by decide, by decide⟩
end Rd

/- Words at the end of a text; paces of both, in plain words. -/
namespace Rd
theorem exactLoop_iff (s t : ByteArray) : ∀ (f i p : Nat), f = t.size - i → p ≤ s.size →
    ((exactLoop s t f i p).2 = true ↔ (p + (t.size - i) ≤ s.size ∧ ∀ j, j < t.size - i → byte s (p + j) = byte t (i + j))) ∧ ((exactLoop s t f i p).2 = true → (exactLoop s t f i p).1 = p + (t.size - i))
  | 0, i, p, hf, hp => by
    rw [← hf]
    refine ⟨⟨fun _ => ⟨hp, fun j hj => by omega⟩, fun _ => rfl⟩, fun _ => rfl⟩
  | f + 1, i, p, hf, hp => by
    have hi : i < t.size := by omega
    rw [exactLoop, if_pos hi]
    by_cases hc : p < s.size ∧ byte s p = byte t i
    · rw [if_pos hc]
      obtain ⟨h1, h2⟩ := exactLoop_iff s t f (i + 1) (p + 1) (by omega) (by omega)
      refine ⟨⟨fun h => ?_, fun h => ?_⟩, fun h => by rw [h2 h]; omega⟩
      · obtain ⟨g1, g2⟩ := h1.1 h
        refine ⟨by omega, fun j hj => ?_⟩
        cases j with
        | zero => exact hc.2
        | succ j =>
          have := g2 j (by omega)
          rwa [show p + 1 + j = p + (j + 1) by omega, show i + 1 + j = i + (j + 1) by omega] at this
      · obtain ⟨g1, g2⟩ := h
        refine h1.2 ⟨by omega, fun j hj => ?_⟩
        have := g2 (j + 1) (by omega)
        rwa [show p + 1 + j = p + (j + 1) by omega, show i + 1 + j = i + (j + 1) by omega]
    · rw [if_neg hc]
      refine ⟨⟨fun h => (by cases h), fun h => ?_⟩, fun h => (by cases h)⟩
      obtain ⟨g1, g2⟩ := h
      have := g2 0 (by omega)
      exact absurd ⟨by omega, this⟩ hc
theorem exactAt_yes (s t : ByteArray) (p : Nat) : exactAt s t p true = exactLoop s t t.size 0 p := by
  unfold exactAt
  rw [if_pos rfl]
/-- a word is all the rest -/
theorem exact_whole {s w : ByteArray} {p : Nat} (hp : p ≤ s.size) : ((exactAt s w p true).2 && decide ((exactAt s w p true).1 = s.size)) = decide (w = s.extract p s.size) := by
  rw [exactAt_yes]
  obtain ⟨h1, h2⟩ := exactLoop_iff s w w.size 0 p (by omega) hp
  have hsz : (s.extract p s.size).size = s.size - p := by rw [ByteArray.size_extract]; omega
  by_cases h : w = s.extract p s.size
  · rw [decide_eq_true h]
    have hws : w.size = s.size - p := by rw [h, hsz]
    have ok : (exactLoop s w w.size 0 p).2 = true := h1.2 ⟨by omega, fun j hj => by
      have hj' : j < w.size := by omega
      rw [Nat.zero_add, byte_lt (by omega), byte_lt hj']
      have e : ∀ (u : ByteArray) (hu : j < u.size), u = s.extract p s.size → (s[p + j]'(by omega)).toNat = (u[j]'hu).toNat := fun u hu he => by
        subst he
        rw [ByteArray.getElem_extract]
      exact e w hj' h⟩
    rw [ok, h2 ok, Bool.true_and, decide_eq_true_eq]
    omega
  · rw [decide_eq_false h, Bool.and_eq_false_iff]
    by_cases ok : (exactLoop s w w.size 0 p).2 = true
    · right
      rw [decide_eq_false_iff_not]
      intro hpl
      rw [h2 ok] at hpl
      obtain ⟨g1, g2⟩ := h1.1 ok
      apply h
      apply sB_inj
      rw [extract_list]
      apply List.ext_getElem?
      intro j
      by_cases hj : j < w.size
      · have := g2 j (by omega)
        rw [Nat.zero_add, byte_lt (by omega), byte_lt hj] at this
        rw [sB_get hj, List.getElem?_take_of_lt (by omega), List.getElem?_drop, sB_get (by omega)]
        congr 1
        exact (UInt8.toNat_inj.1 this).symm
      · rw [List.getElem?_eq_none (by show w.size ≤ j; omega), List.getElem?_eq_none]
        rw [List.length_take]
        omega
    · left
      simpa using ok
/-- one of these words, up to the end -/
def lastAt (s : ByteArray) (ws : List ByteArray) (p : Nat) (ok : Bool) : Int × Nat × Bool :=
  if ok = true then (Go.Lib.idxOfS ws (s.extract p s.size), ws.foldl (fun a w => max a (exactAt s w p true).1) p, decide (0 ≤ Go.Lib.idxOfS ws (s.extract p s.size))) else (-1, p, false)
def begAt (s : ByteArray) (c p : Nat) (ok : Bool) : Bool := ok && (decide (p < s.size) && decide (byte s p = c))
def kmB : ByteArray := ⟨#[107, 109]⟩
def miB : ByteArray := ⟨#[109, 105]⟩
def hmB : ByteArray := ⟨#[49, 48, 48, 109]⟩
def slashB : ByteArray := ⟨#[47]⟩
def dotB : ByteArray := ⟨#[46]⟩
def kmhB : ByteArray := ⟨#[32, 107, 109, 47, 104]⟩
def timedF (s : ByteArray) : Int × Nat × Bool :=
  let m := numAt s 3 0 999 true 0
  let c := exactAt s colon m.2.2 (numOk 0 true m)
  let x := pairAt s 59 c.1 c.2
  let d := exactAt s slashB x.2.1 x.2.2
  let k := lastAt s [kmB, miB, hmB] d.1 d.2
  (if k.1 = 1 then (Sc.sc (60 * m.1 + x.1) 1000000 1609344 4).1 else if k.1 = 2 then 10 * (60 * m.1 + x.1) else 60 * m.1 + x.1, k.2.1, k.2.2)
def speedF (s : ByteArray) : Int × Nat × Bool :=
  let n := numAt s 3 0 999 true 0
  if begAt s 46 n.2.2 (numOk 0 true n) = true then
    let e := exactAt s dotB n.2.2 (numOk 0 true n)
    let d := rowAt s 1 e.2 e.1
    let f := exactAt s kmhB d.2.2 (e.2 && decide (1 ≤ d.2.1))
    ((Sc.sc 36000 1 (10 * n.1 + d.1) 4).1, f.1, f.2)
  else
    let f := exactAt s kmhB n.2.2 (numOk 0 true n)
    ((Sc.sc 36000 1 (10 * n.1) 4).1, f.1, f.2)
def mT (w : ByteArray) : List Tok := [numT 0 999 3, litT colon, pairT 59, litT slashB, litT w]
def hT : List Tok := [numT 0 999 3, litT kmhB]
def hdT : List Tok := [numT 0 999 3, litT dotB, partT 1, litT kmhB]
def paceT : List (List Tok) := [mT kmB, mT miB, mT hmB, hT, hdT]
def paceVal (n : Int) (L : List Int) : Int :=
  if n = 0 then 60 * L.getD 0 0 + L.getD 1 0
  else if n = 1 then (Sc.sc (60 * L.getD 0 0 + L.getD 1 0) 1000000 1609344 4).1
  else if n = 2 then 10 * (60 * L.getD 0 0 + L.getD 1 0)
  else if 0 < 10 * L.getD 0 0 + (if n = 4 then L.getD 1 0 else 0) then (Sc.sc 36000 1 (10 * L.getD 0 0 + (if n = 4 then L.getD 1 0 else 0)) 4).1 else 0
def refPace (s : ByteArray) : Int × Nat × Int :=
  if 1000 < s.size then (0, 0, 3)
  else if (firstT s paceT 0 0).1 < 0 then (0, (firstT s paceT 0 0).2.2, 6)
  else if 1 ≤ paceVal (firstT s paceT 0 0).1 (firstT s paceT 0 0).2.1 ∧ paceVal (firstT s paceT 0 0).1 (firstT s paceT 0 0).2.1 ≤ 36000 then (paceVal (firstT s paceT 0 0).1 (firstT s paceT 0 0).2.1, 0, 0) else (0, 0, 9)
/-- what stands ahead of the words -/
structure Pre (s : ByteArray) (d : Nat × Bool) (a b : Int) : Prop where
  le : d.1 ≤ s.size
  no : d.2 = false → ∀ w, (matchT s (mT w) 0).1 = d.1 ∧ (matchT s (mT w) 0).2.2 = false
  yes : d.2 = true → ∀ w, matchT s (mT w) 0 = if (exactAt s w d.1 true).2 = true then ((exactAt s w d.1 true).1, [a, b], decide ((exactAt s w d.1 true).1 = s.size)) else ((exactAt s w d.1 true).1, [a, b], false)
theorem exactAt_le {s t : ByteArray} {p : Nat} {ok : Bool} (h : p ≤ s.size) : (exactAt s t p ok).1 ≤ s.size := by
  unfold exactAt
  split
  · exact exactLoop_le s t _ _ _ h
  · exact h
theorem pre_timed (s : ByteArray) : let m := numAt s 3 0 999 true 0; let c := exactAt s colon m.2.2 (numOk 0 true m); let x := pairAt s 59 c.1 c.2; Pre s (exactAt s slashB x.2.1 x.2.2) m.1 x.1 := by
  intro m c x
  have hm : m.2.2 ≤ s.size := numLoop_pos _ _ _ _ _ _ _ _ _ (Nat.zero_le _)
  have hc : c.1 ≤ s.size := exactAt_le hm
  have hx : x.2.1 ≤ s.size := pairStep_le (n := (pairStep s 59 10 (0, c.1, c.2)).1) (b := (pairStep s 59 10 (0, c.1, c.2)).2.2) (pairStep_le hc)
  have key : ∀ w, matchT s (mT w) 0 = if numOk 0 true m = true then ((matchT s [litT colon, pairT 59, litT slashB, litT w] m.2.2).1, m.1 :: (matchT s [litT colon, pairT 59, litT slashB, litT w] m.2.2).2.1, (matchT s [litT colon, pairT 59, litT slashB, litT w] m.2.2).2.2) else (m.2.2, [], false) := fun w => matchT_num
  obtain ⟨k1, hk1⟩ : ∃ k, numOk 0 true m = k := ⟨_, rfl⟩
  cases k1
  case false =>
    have ec : c = (m.2.2, false) := by show exactAt s colon m.2.2 (numOk 0 true m) = _; rw [hk1]; rfl
    have ex : x = (0, m.2.2, false) := by show pairAt s 59 c.1 c.2 = _; rw [ec]; exact pairAt_no
    rw [ex]
    refine ⟨hm, fun _ w => ?_, fun h => by cases h⟩
    rw [key w, hk1]
    exact ⟨rfl, rfl⟩
  case true =>
  have ec : c = exactAt s colon m.2.2 true := by show exactAt s colon m.2.2 (numOk 0 true m) = _; rw [hk1]
  have key2 : ∀ w, matchT s [litT colon, pairT 59, litT slashB, litT w] m.2.2 = if c.2 = true then matchT s [pairT 59, litT slashB, litT w] c.1 else (c.1, [], false) := fun w => by rw [matchT_lit, ← ec]
  obtain ⟨k2, hk2⟩ : ∃ k, c.2 = k := ⟨_, rfl⟩
  cases k2
  case false =>
    have ex : x = (0, c.1, false) := by show pairAt s 59 c.1 c.2 = _; rw [hk2]; exact pairAt_no
    rw [ex]
    refine ⟨hc, fun _ w => ?_, fun h => by cases h⟩
    rw [key w, hk1, key2 w, hk2]
    exact ⟨rfl, rfl⟩
  case true =>
  have ex : x = pairAt s 59 c.1 true := by show pairAt s 59 c.1 c.2 = _; rw [hk2]
  have key3 : ∀ w, matchT s [pairT 59, litT slashB, litT w] c.1 = if x.2.2 = true then ((matchT s [litT slashB, litT w] x.2.1).1, x.1 :: (matchT s [litT slashB, litT w] x.2.1).2.1, (matchT s [litT slashB, litT w] x.2.1).2.2) else (x.2.1, [], false) := fun w => by rw [matchT_pair, ← ex]
  obtain ⟨k3, hk3⟩ : ∃ k, x.2.2 = k := ⟨_, rfl⟩
  cases k3
  case false =>
    rw [hk3]
    refine ⟨hx, fun _ w => ?_, fun h => by cases h⟩
    rw [key w, hk1, key2 w, hk2, key3 w, hk3]
    exact ⟨rfl, rfl⟩
  case true =>
  rw [hk3]
  have key4 : ∀ w, matchT s [litT slashB, litT w] x.2.1 = if (exactAt s slashB x.2.1 true).2 = true then matchT s [litT w] (exactAt s slashB x.2.1 true).1 else ((exactAt s slashB x.2.1 true).1, [], false) := fun w => matchT_lit
  have hd : (exactAt s slashB x.2.1 true).1 ≤ s.size := exactAt_le hx
  obtain ⟨d, hdd⟩ : ∃ d, exactAt s slashB x.2.1 true = d := ⟨_, rfl⟩
  rw [hdd] at hd key4 ⊢
  obtain ⟨d1, d2⟩ := d
  refine ⟨hd, fun h w => ?_, fun h w => ?_⟩
  · have h : d2 = false := h
    subst h
    rw [key w, hk1, key2 w, hk2, key3 w, hk3, key4 w]
    exact ⟨rfl, rfl⟩
  · have h : d2 = true := h
    subst h
    rw [key w, hk1, key2 w, hk2, key3 w, hk3, key4 w]
    simp only [if_true]
    rw [matchT_lit]
    split <;> simp [matchT]
theorem idx_three (a b c r : ByteArray) : Go.Lib.idxOfS [a, b, c] r = if a = r then 0 else if b = r then 1 else if c = r then 2 else -1 := by
  unfold Go.Lib.idxOfS
  simp only [Go.Lib.idxFromS]
  by_cases h1 : a = r
  · simp [h1]
  · by_cases h2 : b = r
    · simp [h1, h2]
    · by_cases h3 : c = r
      · simp [h1, h2, h3]
      · simp [h1, h2, h3]
end Rd

/- What distances are written as, in plain words. -/
namespace Rd
open Go.Lib (decDigits itoa trimRightB)
def dgt (d : Nat) : UInt8 := UInt8.ofNat (48 + d)
/-- a number with k digits -/
def padN : Nat → Nat → List UInt8
  | 0, _ => []
  | k + 1, n => dgt (n / 10 ^ k) :: padN k (n % 10 ^ k)
/-- what stands behind a point: digits, as long as something is left -/
def fracB : Nat → Nat → List UInt8
  | 0, _ => []
  | k + 1, n => if n = 0 then [] else dgt (n / 10 ^ k) :: fracB k (n % 10 ^ k)
theorem fracB_zero (k : Nat) : fracB k 0 = [] := by
  cases k
  · rfl
  · rw [fracB, if_pos rfl]
theorem fracB_ne {k n : Nat} (h : 0 < n) (hk : n < 10 ^ k) : fracB k n ≠ [] := by
  cases k
  · have : n < 1 := hk
    omega
  · rw [fracB, if_neg (by omega)]
    exact List.cons_ne_nil _ _
theorem trim_cons (x c : UInt8) (l : List UInt8) : trimRightB (x :: l) c = if trimRightB l c = [] then (if x = c then [] else [x]) else x :: trimRightB l c := by
  unfold trimRightB
  rw [List.reverse_cons, List.dropWhile_append]
  by_cases h : (List.dropWhile (fun x => x == c) l.reverse).isEmpty = true
  · rw [if_pos h]
    have h2 : List.dropWhile (fun x => x == c) l.reverse = [] := List.isEmpty_iff.1 h
    rw [h2, List.reverse_nil, if_pos rfl, List.dropWhile_cons]
    by_cases e : x = c
    · rw [if_pos (by simpa using e), if_pos e]; rfl
    · rw [if_neg (by simpa using e), if_neg e]; rfl
  · rw [if_neg h, if_neg, List.reverse_append]
    · rfl
    · rw [List.reverse_eq_nil_iff]
      intro e
      rw [e] at h
      exact h rfl
theorem dgt_ne {d : Nat} (h : 0 < d) (h9 : d < 10) : dgt d ≠ 48 := by
  have key : ∀ d : Fin 10, 0 < d.1 → dgt d.1 ≠ 48 := by decide
  exact key ⟨d, h9⟩ h
theorem trim_pad : ∀ (k n : Nat), n < 10 ^ k → trimRightB (padN k n) 48 = fracB k n
  | 0, n, _ => rfl
  | k + 1, n, h => by
    have hp : 0 < 10 ^ k := Nat.pow_pos (by omega)
    have hd : n / 10 ^ k < 10 := (Nat.div_lt_iff_lt_mul hp).2 (by rw [Nat.mul_comm, ← Nat.pow_succ]; exact h)
    have hm : n % 10 ^ k < 10 ^ k := Nat.mod_lt _ hp
    have hdm := Nat.div_add_mod n (10 ^ k)
    rw [padN, fracB, trim_cons, trim_pad k _ hm]
    by_cases h0 : n = 0
    · subst h0
      rw [Nat.zero_mod, Nat.zero_div, fracB_zero, if_pos rfl, if_pos rfl]
      rfl
    · rw [if_neg h0]
      by_cases hr : n % 10 ^ k = 0
      · rw [hr, fracB_zero, if_pos rfl, if_neg (dgt_ne (Nat.pos_of_ne_zero fun e => h0 (by rw [← hdm, hr, e, Nat.mul_zero])) hd)]
      · rw [if_neg (fracB_ne (by omega) hm)]
theorem dig_next (n : Nat) (h : 10 ≤ n) : decDigits n = decDigits (n / 10) ++ [dgt (n % 10)] := by
  rw [decDigits, dif_neg (by omega)]
  rfl
theorem dig_one (n : Nat) (h : n < 10) : decDigits n = [dgt n] := by
  rw [decDigits, dif_pos h]
  rfl
theorem pad_one {n : Nat} (h : n < 10) : (itoa (n : Int)).length = 1 ∧ padN 1 n = itoa (n : Int) := by
  have e : itoa (n : Int) = [dgt n] := by
    unfold itoa
    rw [if_neg (by omega), Int.toNat_natCast, dig_one n h]
  rw [e]
  refine ⟨rfl, ?_⟩
  show [dgt (n / 10 ^ 0)] = _
  rw [Nat.pow_zero, Nat.div_one]
/-- how many noughts stand ahead, and what is written -/
theorem pad_four {n : Nat} (h : n < 10000) : ∃ z : Nat, (itoa (n : Int)).length + z = 4 ∧ z ≤ 3 ∧ padN 4 n = List.replicate z 48 ++ itoa (n : Int) := by
  have e : itoa (n : Int) = decDigits n := by
    unfold itoa
    rw [if_neg (by omega), Int.toNat_natCast]
  have p : padN 4 n = [dgt (n / 1000), dgt (n % 1000 / 100), dgt (n % 1000 % 100 / 10), dgt (n % 1000 % 100 % 10 / 1)] := rfl
  have z0 : dgt 0 = 48 := rfl
  rw [e, p]
  by_cases h1 : n < 10
  · refine ⟨3, ?_, by omega, ?_⟩
    · rw [dig_one n h1]; rfl
    · rw [dig_one n h1, show n / 1000 = 0 by omega, show n % 1000 / 100 = 0 by omega, show n % 1000 % 100 / 10 = 0 by omega, show n % 1000 % 100 % 10 / 1 = n by omega, z0]; rfl
  rw [dig_next n (by omega)]
  by_cases h2 : n < 100
  · refine ⟨2, ?_, by omega, ?_⟩
    · rw [dig_one (n / 10) (by omega)]; rfl
    · rw [dig_one (n / 10) (by omega), show n / 1000 = 0 by omega, show n % 1000 / 100 = 0 by omega, show n % 1000 % 100 / 10 = n / 10 by omega, show n % 1000 % 100 % 10 / 1 = n % 10 by omega, z0]; rfl
  rw [dig_next (n / 10) (by omega)]
  by_cases h3 : n < 1000
  · refine ⟨1, ?_, by omega, ?_⟩
    · rw [dig_one (n / 10 / 10) (by omega)]; rfl
    · rw [dig_one (n / 10 / 10) (by omega), show n / 1000 = 0 by omega, show n % 1000 / 100 = n / 10 / 10 by omega, show n % 1000 % 100 / 10 = n / 10 % 10 by omega, show n % 1000 % 100 % 10 / 1 = n % 10 by omega, z0]; rfl
  rw [dig_next (n / 10 / 10) (by omega)]
  refine ⟨0, ?_, by omega, ?_⟩
  · rw [dig_one (n / 10 / 10 / 10) (by omega)]; rfl
  · rw [dig_one (n / 10 / 10 / 10) (by omega), show n / 1000 = n / 10 / 10 / 10 by omega, show n % 1000 / 100 = n / 10 / 10 % 10 by omega, show n % 1000 % 100 / 10 = n / 10 % 10 by omega, show n % 1000 % 100 % 10 / 1 = n % 10 by omega]; rfl
def ptB : ByteArray := ⟨#[46]⟩
def restB (k : Nat) (left : Int) : ByteArray := if left = 0 then ⟨#[]⟩ else ptB ++ bt (fracB k left.toNat)
def mNm : ByteArray := ⟨#[32, 109]⟩
def kmNm : ByteArray := ⟨#[32, 107, 109]⟩
/-- a distance, written -/
def distText (n : Int) : ByteArray := if 10000 ≤ n then itoaB (n / 10000) ++ restB 4 (n % 10000) ++ kmNm else itoaB (n / 10) ++ restB 1 (n % 10) ++ mNm
end Rd

/- What is written is read as it was: digits and words (plain). -/
namespace Rd
open Go.Lib (decDigits itoa)
/-- what stands from p on begins with l -/
def Beg (s : ByteArray) (p : Nat) (l : List UInt8) : Prop := ∀ (i : Nat) (b : UInt8), l[i]? = some b → p + i < s.size ∧ byte s (p + i) = b.toNat
theorem sB_app (a b : ByteArray) : sB (a ++ b) = sB a ++ sB b := by unfold sB; rw [ByteArray.data_append, Array.toList_append]
theorem beg_of {s : ByteArray} {pre l post : List UInt8} (h : sB s = pre ++ (l ++ post)) {p : Nat} (hp : pre.length = p) : Beg s p l := fun i b hb => by
  subst hp
  have hi : i < l.length := (List.getElem?_eq_some_iff.1 hb).1
  have hsz : s.size = pre.length + (l.length + post.length) := by
    have e : (sB s).length = s.size := rfl
    rw [← e, h, List.length_append, List.length_append]
  have hlt : pre.length + i < s.size := by omega
  refine ⟨hlt, ?_⟩
  have hg := sB_get hlt
  rw [h, List.getElem?_append_right (by omega), show pre.length + i - pre.length = i by omega, List.getElem?_append_left hi, hb] at hg
  rw [byte_lt hlt]
  exact congrArg UInt8.toNat (Option.some.inj hg).symm
theorem Beg.tail {s : ByteArray} {p : Nat} {d : UInt8} {l : List UInt8} (h : Beg s p (d :: l)) : Beg s (p + 1) l := fun i b hb => by
  have := h (i + 1) b hb
  rwa [show p + (i + 1) = p + 1 + i by omega] at this
theorem Beg.head {s : ByteArray} {p : Nat} {d : UInt8} {l : List UInt8} (h : Beg s p (d :: l)) : p < s.size ∧ byte s p = d.toNat := by
  have := h 0 d rfl
  rwa [Nat.add_zero] at this
def AllD (l : List UInt8) : Prop := ∀ b, b ∈ l → 48 ≤ b.toNat ∧ b.toNat ≤ 57
theorem AllD.tail {d : UInt8} {l : List UInt8} (h : AllD (d :: l)) : AllD l := fun b hb => h b (List.mem_cons_of_mem _ hb)
theorem Beg.dig {s : ByteArray} {p : Nat} {d : UInt8} {l : List UInt8} (h : Beg s p (d :: l)) (hd : AllD (d :: l)) : digAt s p true = true := by
  obtain ⟨h1, h2⟩ := h.head
  have h3 := hd d (List.mem_cons_self ..)
  unfold digAt isD
  rw [h2]
  simp
  omega
/-- the number that digits add up to -/
def accD : Int → List UInt8 → Int
  | n, [] => n
  | n, d :: l => accD (10 * n + ((d.toNat : Int) - 48)) l
theorem accD_ge : ∀ (l : List UInt8) (n : Int), AllD l → 0 ≤ n → n ≤ accD n l
  | [], n, _, _ => Int.le_refl _
  | d :: l, n, h, hn => by
    have h1 := h d (List.mem_cons_self ..)
    have h2 := accD_ge l (10 * n + ((d.toNat : Int) - 48)) h.tail (by omega)
    rw [accD]
    omega
theorem accD_app : ∀ (l k : List UInt8) (n : Int), accD n (l ++ k) = accD (accD n l) k
  | [], _, _ => rfl
  | d :: l, k, n => by rw [List.cons_append, accD, accD, accD_app]
theorem numLoop_beg {s : ByteArray} {digits : Nat} {least most : Int} : ∀ (l : List UInt8) (f : Nat) (n : Int) (m p : Nat), AllD l → Beg s p l → 0 ≤ n → m + l.length ≤ digits → l.length ≤ f →
    (m + l.length = digits ∨ digAt s (p + l.length) true = false) → (l = [] ∨ n ≠ 0 ∨ (m = 0 ∧ (l.length ≤ 1 ∨ l.head? ≠ some 48))) → (least ≤ 0 ∨ l = [] ∨ n ≠ 0 ∨ l.head? ≠ some 48) → accD n l ≤ most →
    numLoop s digits least most true f n m p = (accD n l, m + l.length, p + l.length)
  | [], f, n, m, p, _, _, _, _, _, he, _, _, _ => by
    rw [numLoop_stop (fun h => by
      rcases he with he | he
      · have := h.1
        simp at he
        omega
      · simp at he
        rw [he] at h
        cases h.2)]
    rfl
  | d :: l, 0, n, m, p, _, _, _, _, hf, _, _, _, _ => by simp at hf
  | d :: l, f + 1, n, m, p, hD, hB, hn, hm, hf, he, hz, hlo, hmost => by
    obtain ⟨hp, hb⟩ := hB.head
    have hd := hD d (List.mem_cons_self ..)
    have hdig := hB.dig hD
    rw [accD] at hmost ⊢
    simp only [List.length_cons] at hm hf he ⊢
    have hge := accD_ge l (10 * n + ((d.toNat : Int) - 48)) hD.tail (by omega)
    have hd48 : (d :: l).head? ≠ some 48 → d.toNat ≠ 48 := fun h e => h (by
      show some d = some 48
      exact congrArg some (UInt8.toNat_inj.1 e))
    rw [numLoop_next ⟨by omega, hdig⟩ (by
      rw [hb]
      unfold stops
      simp only [Bool.or_eq_false_iff, Bool.and_eq_false_iff, decide_eq_false_iff_not]
      refine ⟨⟨?_, by omega⟩, ?_⟩
      · rcases hz with h | h | h
        · cases h
        · exact Or.inr h
        · exact Or.inl (by omega)
      · rcases hlo with h | h | h | h
        · exact Or.inr (by omega)
        · cases h
        · exact Or.inl (by omega)
        · have := hd48 h
          exact Or.inl (by omega)), hb]
    rw [numLoop_beg l f _ (m + 1) (p + 1) hD.tail hB.tail (by omega) (by omega) (by omega) (by
      rcases he with he | he
      · exact Or.inl (by omega)
      · exact Or.inr (by rw [show p + 1 + l.length = p + (l.length + 1) by omega]; exact he)) (by
      cases l with
      | nil => exact Or.inl rfl
      | cons d2 l2 =>
        refine Or.inr (Or.inl ?_)
        rcases hz with h | h | ⟨_, h | h⟩
        · cases h
        · omega
        · simp at h
        · have := hd48 h
          omega) (by
      rcases hlo with h | h | h | h
      · exact Or.inl h
      · cases h
      · exact Or.inr (Or.inr (Or.inl (by omega)))
      · have := hd48 h
        exact Or.inr (Or.inr (Or.inl (by omega)))) hmost]
    rw [show m + 1 + l.length = m + (l.length + 1) by omega, show p + 1 + l.length = p + (l.length + 1) by omega]
theorem rowLoop_beg {s : ByteArray} {k : Nat} : ∀ (l : List UInt8) (f : Nat) (n : Int) (m p : Nat), AllD l → Beg s p l → m + l.length ≤ k → l.length ≤ f →
    (m + l.length = k ∨ digAt s (p + l.length) true = false) → rowLoop s k true f n m p = (accD n l, m + l.length, p + l.length)
  | [], f, n, m, p, _, _, _, _, he => by
    have hx : ¬ (m < k ∧ digAt s p true = true) := fun h => by
      rcases he with he | he
      · have := h.1
        simp at he
        omega
      · simp at he
        rw [he] at h
        cases h.2
    cases f
    · rfl
    · rw [rowLoop, if_neg hx]
      rfl
  | d :: l, 0, n, m, p, _, _, _, hf, _ => by simp at hf
  | d :: l, f + 1, n, m, p, hD, hB, hm, hf, he => by
    simp only [List.length_cons] at hm hf he ⊢
    rw [rowLoop, if_pos ⟨by omega, hB.dig hD⟩, hB.head.2, rowLoop_beg l f _ (m + 1) (p + 1) hD.tail hB.tail (by omega) (by omega) (by
      rcases he with he | he
      · exact Or.inl (by omega)
      · exact Or.inr (by rw [show p + 1 + l.length = p + (l.length + 1) by omega]; exact he)), accD, show m + 1 + l.length = m + (l.length + 1) by omega, show p + 1 + l.length = p + (l.length + 1) by omega]
theorem rowAt_beg {s : ByteArray} {k p : Nat} {l : List UInt8} (hD : AllD l) (hB : Beg s p l) (hl : l.length ≤ k) (he : l.length = k ∨ digAt s (p + l.length) true = false) : rowAt s k true p = (accD 0 l, l.length, p + l.length) := by
  unfold rowAt
  rw [rowLoop_beg l k 0 0 p hD hB (by omega) hl (by rcases he with he | he; exact Or.inl (by omega); exact Or.inr he), Nat.zero_add]
theorem exactAt_beg {s t : ByteArray} {p : Nat} (h : Beg s p (sB t)) (hp : p + t.size ≤ s.size) : exactAt s t p true = (p + t.size, true) := by
  rw [exactAt_yes]
  obtain ⟨h1, h2⟩ := exactLoop_iff s t t.size 0 p (by omega) (by omega)
  have ok := h1.2 ⟨by omega, fun j hj => by
    have hj : j < t.size := by omega
    rw [Nat.zero_add, (h j _ (sB_get hj)).2, byte_lt hj]⟩
  exact Prod.ext (by rw [h2 ok, Nat.sub_zero]) ok
/-! ### numerals -/
theorem dgt_nat {d : Nat} (h : d < 10) : (dgt d).toNat = 48 + d := by
  unfold dgt
  rw [UInt8.toNat_ofNat']
  omega
theorem dec_all : ∀ k : Nat, AllD (decDigits k) ∧ accD 0 (decDigits k) = k ∧ (10 ≤ k ∨ (decDigits k).length ≤ 1) ∧ ((decDigits k).head? ≠ some 48 ∨ k = 0) ∧ decDigits k ≠ [] := by
  intro k
  induction k using Nat.strongRecOn with
  | _ k ih =>
    by_cases h : k < 10
    · rw [dig_one k h]
      have hd := dgt_nat h
      refine ⟨fun b hb => ?_, ?_, Or.inr (by simp), ?_, by simp⟩
      · simp only [List.mem_cons, List.not_mem_nil, or_false] at hb
        subst hb
        omega
      · rw [accD, accD, hd]
        omega
      · by_cases h0 : k = 0
        · exact Or.inr h0
        · refine Or.inl fun e => ?_
          have e : dgt k = 48 := Option.some.inj e
          have : (dgt k).toNat = 48 := by rw [e]; rfl
          omega
    · rw [dig_next k (by omega)]
      obtain ⟨a, b, c, d, e⟩ := ih (k / 10) (by omega)
      have hd := dgt_nat (show k % 10 < 10 by omega)
      refine ⟨fun x hx => ?_, ?_, Or.inl (by omega), ?_, by simp⟩
      · rcases List.mem_append.1 hx with hx | hx
        · exact a x hx
        · simp only [List.mem_cons, List.not_mem_nil, or_false] at hx
          subst hx
          omega
      · rw [accD_app, b, accD, accD, hd]
        omega
      · left
        rcases d with d | d
        · cases hl : decDigits (k / 10) with
          | nil => exact absurd hl e
          | cons x t =>
            rw [hl] at d
            exact d
        · omega
theorem sB_itoa (k : Nat) : sB (itoaB (k : Int)) = decDigits k := by
  show itoa (k : Int) = _
  unfold itoa
  rw [if_neg (by omega), Int.toNat_natCast]
theorem numAt_beg {s : ByteArray} {digits p k : Nat} {least most : Int} (hB : Beg s p (decDigits k)) (hl : (decDigits k).length ≤ digits) (hk : (k : Int) ≤ most) (h0 : least ≤ 0 ∨ 0 < k)
    (he : (decDigits k).length = digits ∨ digAt s (p + (decDigits k).length) true = false) : numAt s digits least most true p = ((k : Int), (decDigits k).length, p + (decDigits k).length) := by
  obtain ⟨a, b, c, d, e⟩ := dec_all k
  unfold numAt
  rw [numLoop_beg (decDigits k) digits 0 0 p a hB (by omega) (by omega) hl (by rcases he with he | he; exact Or.inl (by omega); exact Or.inr he) (by
    refine Or.inr (Or.inr ⟨rfl, ?_⟩)
    rcases c with c | c
    · rcases d with d | d
      · exact Or.inr d
      · omega
    · exact Or.inl c) (by
    rcases h0 with h | h
    · exact Or.inl h
    · rcases d with d | d
      · exact Or.inr (Or.inr (Or.inr d))
      · omega) (by rw [b]; exact hk), b, Nat.zero_add]
theorem dec_len (k j : Nat) (h : k < 10 ^ (j + 1)) : (decDigits k).length ≤ j + 1 := by
  induction j generalizing k with
  | zero => rw [dig_one k (by simpa using h)]; simp
  | succ j ih =>
    by_cases hk : k < 10
    · rw [dig_one k hk]; simp
    · rw [dig_next k (by omega), List.length_append]
      have := ih (k / 10) (by rw [Nat.pow_succ] at h; omega)
      simp only [List.length_cons, List.length_nil]
      omega
/-- two digits -/
theorem sB_pad {n : Nat} (h : n < 100) : sB (padB (n : Int)) = [dgt (n / 10), dgt (n % 10)] := by
  unfold padB
  by_cases h10 : n < 10
  · rw [if_pos (by omega), sB_app, sB_itoa, dig_one n h10, show n / 10 = 0 by omega, show n % 10 = n by omega]
    rfl
  · rw [if_neg (by omega), sB_itoa, dig_next n (by omega), dig_one (n / 10) (by omega)]
    rfl
theorem pairAt_beg {s : ByteArray} {p n : Nat} {most : Int} (h : n < 100) (hm : (n : Int) ≤ most) (hB : Beg s p [dgt (n / 10), dgt (n % 10)]) : pairAt s most p true = ((n : Int), p + 2, true) := by
  have hD : AllD [dgt (n / 10), dgt (n % 10)] := fun b hb => by
    simp only [List.mem_cons, List.not_mem_nil, or_false] at hb
    have a1 := dgt_nat (show n / 10 < 10 by omega)
    have a2 := dgt_nat (show n % 10 < 10 by omega)
    rcases hb with rfl | rfl <;> omega
  have d1 := hB.dig hD
  have d2 := hB.tail.dig hD.tail
  have b1 := hB.head.2
  have b2 := hB.tail.head.2
  rw [dgt_nat (by omega)] at b1 b2
  unfold pairAt
  have e : pairStep s most 10 (0, p, true) = (10 * ((n / 10 : Nat) : Int), p + 1, true) := by
    unfold pairStep
    rw [if_pos ⟨d1, by show (0 : Int) + 10 * ((byte s p : Int) - 48) ≤ most; omega⟩]
    simp only [b1]
    refine Prod.ext (by show (0 : Int) + 10 * (((48 + n / 10 : Nat) : Int) - 48) = _; omega) rfl
  rw [e]
  unfold pairStep
  rw [if_pos ⟨d2, by show 10 * ((n / 10 : Nat) : Int) + 1 * ((byte s (p + 1) : Int) - 48) ≤ most; omega⟩]
  simp only [b2]
  refine Prod.ext (by show 10 * ((n / 10 : Nat) : Int) + 1 * (((48 + n % 10 : Nat) : Int) - 48) = _; omega) rfl
end Rd

/- The reference's reading of paces is the program's, in plain words. -/
namespace Rd
theorem exactLoop_ge (s t : ByteArray) : ∀ (f i p : Nat), p ≤ (exactLoop s t f i p).1
  | 0, _, p => Nat.le_refl _
  | f + 1, i, p => by
    unfold exactLoop
    split
    · split
      · exact Nat.le_trans (Nat.le_succ p) (exactLoop_ge s t f _ _)
      · exact Nat.le_refl _
    · exact Nat.le_refl _
theorem exactAt_ge (s t : ByteArray) (p : Nat) (ok : Bool) : p ≤ (exactAt s t p ok).1 := by
  unfold exactAt
  split
  · exact exactLoop_ge ..
  · exact Nat.le_refl _
theorem rowLoop_ge (s : ByteArray) (k : Nat) (ok : Bool) : ∀ (f : Nat) (n : Int) (m p : Nat), p ≤ (rowLoop s k ok f n m p).2.2
  | 0, n, m, p => Nat.le_refl _
  | f + 1, n, m, p => by
    unfold rowLoop
    split
    · exact Nat.le_trans (Nat.le_succ p) (rowLoop_ge s k ok f _ _ _)
    · exact Nat.le_refl _
/-- what the forms of one part of the program say together -/
structure Parts (s : ByteArray) (fs : List (List Tok)) (o : Int × Nat × Bool) (i0 : Nat) : Prop where
  yes : (o.2.2 && decide (o.2.1 = s.size)) = true → ∃ (k : Nat) (f : List Tok), fs[k]? = some f ∧ (matchT s f 0).2.2 = true ∧ (∀ j g, j < k → fs[j]? = some g → (matchT s g 0).2.2 = false) ∧ paceVal ((i0 + k : Nat) : Int) (matchT s f 0).2.1 = o.1
  no : (o.2.2 && decide (o.2.1 = s.size)) = false → (∀ f, f ∈ fs → (matchT s f 0).2.2 = false) ∧ ∀ far, fs.foldl (fun a f => max a (matchT s f 0).1) far = max far o.2.1
theorem pv0 (a b : Int) : paceVal ((0 + 0 : Nat) : Int) [a, b] = (if (0 : Int) = 1 then (Sc.sc (60 * a + b) 1000000 1609344 4).1 else if (0 : Int) = 2 then 10 * (60 * a + b) else 60 * a + b) := by
  unfold paceVal
  rw [if_pos (show ((0 + 0 : Nat) : Int) = 0 by omega), if_neg (show ¬ (0 : Int) = 1 by omega), if_neg (show ¬ (0 : Int) = 2 by omega), List.getD_cons_zero, List.getD_cons_succ, List.getD_cons_zero]
theorem pv1 (a b : Int) : paceVal ((0 + 1 : Nat) : Int) [a, b] = (if (1 : Int) = 1 then (Sc.sc (60 * a + b) 1000000 1609344 4).1 else if (1 : Int) = 2 then 10 * (60 * a + b) else 60 * a + b) := by
  unfold paceVal
  rw [if_neg (show ¬ ((0 + 1 : Nat) : Int) = 0 by omega), if_pos (show ((0 + 1 : Nat) : Int) = 1 by omega), if_pos (show (1 : Int) = 1 by omega), List.getD_cons_zero, List.getD_cons_succ, List.getD_cons_zero]
theorem pv2 (a b : Int) : paceVal ((0 + 2 : Nat) : Int) [a, b] = (if (2 : Int) = 1 then (Sc.sc (60 * a + b) 1000000 1609344 4).1 else if (2 : Int) = 2 then 10 * (60 * a + b) else 60 * a + b) := by
  unfold paceVal
  rw [if_neg (show ¬ ((0 + 2 : Nat) : Int) = 0 by omega), if_neg (show ¬ ((0 + 2 : Nat) : Int) = 1 by omega), if_pos (show ((0 + 2 : Nat) : Int) = 2 by omega), if_neg (show ¬ (2 : Int) = 1 by omega), if_pos (show (2 : Int) = 2 by omega), List.getD_cons_zero, List.getD_cons_succ, List.getD_cons_zero]
theorem timed_parts (s : ByteArray) : Parts s [mT kmB, mT miB, mT hmB] (timedF s) 0 := by
  have hp := pre_timed s
  unfold timedF
  simp only at hp ⊢
  obtain ⟨m, hm⟩ : ∃ m, numAt s 3 0 999 true 0 = m := ⟨_, rfl⟩
  rw [hm] at hp ⊢
  obtain ⟨c, hc⟩ : ∃ c, exactAt s colon m.2.2 (numOk 0 true m) = c := ⟨_, rfl⟩
  rw [hc] at hp ⊢
  obtain ⟨x, hx⟩ : ∃ x, pairAt s 59 c.1 c.2 = x := ⟨_, rfl⟩
  rw [hx] at hp ⊢
  obtain ⟨d, hd⟩ : ∃ d, exactAt s slashB x.2.1 x.2.2 = d := ⟨_, rfl⟩
  rw [hd] at hp ⊢
  obtain ⟨d1, d2⟩ := d
  obtain ⟨hle, hno, hyes⟩ := hp
  simp only at hle hno hyes ⊢
  cases d2
  case false =>
    have e : lastAt s [kmB, miB, hmB] d1 false = (-1, d1, false) := rfl
    rw [e]
    refine ⟨fun h => by simp at h, fun _ => ⟨fun f hf => ?_, fun far => ?_⟩⟩
    · simp only [List.mem_cons, List.not_mem_nil, or_false] at hf
      rcases hf with rfl | rfl | rfl
      · exact (hno rfl _).2
      · exact (hno rfl _).2
      · exact (hno rfl _).2
    · simp only [List.foldl, (hno rfl _).1]
      omega
  case true =>
    have hy := hyes rfl
    have p1 : ∀ w, (matchT s (mT w) 0).1 = (exactAt s w d1 true).1 := fun w => by rw [hy w]; split <;> rfl
    have p2 : ∀ w, (matchT s (mT w) 0).2.2 = decide (w = s.extract d1 s.size) := fun w => by
      rw [← exact_whole hle, hy w]
      split
      · rename_i h; rw [h]; simp
      · rename_i h
        have h : (exactAt s w d1 true).2 = false := by simpa using h
        rw [h]; rfl
    have p3 : ∀ w, (matchT s (mT w) 0).2.1 = [m.1, x.1] := fun w => by rw [hy w]; split <;> rfl
    have hr : ∀ w, (exactAt s w d1 true).1 ≤ s.size := fun w => exactAt_le hle
    have hfull : ∀ w, w = s.extract d1 s.size → (exactAt s w d1 true).1 = s.size := fun w h => by
      have := exact_whole (w := w) hle
      rw [decide_eq_true h, Bool.and_eq_true] at this
      simpa using this.2
    have e : lastAt s [kmB, miB, hmB] d1 true = (Go.Lib.idxOfS [kmB, miB, hmB] (s.extract d1 s.size), max (max (max d1 (exactAt s kmB d1 true).1) (exactAt s miB d1 true).1) (exactAt s hmB d1 true).1, decide (0 ≤ Go.Lib.idxOfS [kmB, miB, hmB] (s.extract d1 s.size))) := rfl
    rw [e, idx_three]
    have g1 := exactAt_ge s kmB d1 true
    have r1 := hr kmB
    have r2 := hr miB
    have r3 := hr hmB
    have f1 := hfull kmB
    have f2 := hfull miB
    have f3 := hfull hmB
    have q1 := p2 kmB
    have q2 := p2 miB
    have q3 := p2 hmB
    have v1 := p3 kmB
    have v2 := p3 miB
    have v3 := p3 hmB
    have w1 := p1 kmB
    have w2 := p1 miB
    have w3 := p1 hmB
    generalize s.extract d1 s.size = rest at *
    generalize (exactAt s kmB d1 true).1 = e1 at *
    generalize (exactAt s miB d1 true).1 = e2 at *
    generalize (exactAt s hmB d1 true).1 = e3 at *
    by_cases h1 : kmB = rest
    · rw [if_pos h1]
      refine ⟨fun _ => ⟨0, _, rfl, by rw [q1]; simpa using h1, fun j g hj => by omega, ?_⟩, fun h => ?_⟩
      · rw [v1]
        exact pv0 _ _
      · have := f1 h1
        simp at h
        omega
    · rw [if_neg h1]
      by_cases h2 : miB = rest
      · rw [if_pos h2]
        refine ⟨fun _ => ⟨1, _, rfl, by rw [q2]; simpa using h2, fun j g hj hg => ?_, ?_⟩, fun h => ?_⟩
        · obtain rfl : j = 0 := by omega
          injection hg with hg
          subst hg
          rw [q1]; simpa using h1
        · rw [v2]
          exact pv1 _ _
        · have := f2 h2
          simp at h
          omega
      · rw [if_neg h2]
        by_cases h3 : hmB = rest
        · rw [if_pos h3]
          refine ⟨fun _ => ⟨2, _, rfl, by rw [q3]; simpa using h3, fun j g hj hg => ?_, ?_⟩, fun h => ?_⟩
          · rcases (show j = 0 ∨ j = 1 by omega) with rfl | rfl
            · injection hg with hg
              subst hg
              rw [q1]; simpa using h1
            · injection hg with hg
              subst hg
              rw [q2]; simpa using h2
          · rw [v3]
            exact pv2 _ _
          · have := f3 h3
            simp at h
            omega
        · rw [if_neg h3]
          refine ⟨fun h => by simp at h, fun _ => ⟨fun f hf => ?_, fun far => ?_⟩⟩
          · simp only [List.mem_cons, List.not_mem_nil, or_false] at hf
            rcases hf with rfl | rfl | rfl
            · rw [q1]; simpa using h1
            · rw [q2]; simpa using h2
            · rw [q3]; simpa using h3
          · simp only [List.foldl, w1, w2, w3]
            omega
theorem matchT_part {s : ByteArray} {r : List Tok} {p : Nat} : matchT s (partT 1 :: r) p = if 0 < (rowAt s 1 true p).2.1 then ((matchT s r (rowAt s 1 true p).2.2).1, (rowAt s 1 true p).1 * 10 ^ (1 - (rowAt s 1 true p).2.1) :: (matchT s r (rowAt s 1 true p).2.2).2.1, (matchT s r (rowAt s 1 true p).2.2).2.2) else ((rowAt s 1 true p).2.2, [], false) := by
  rw [matchT]
  by_cases h : 0 < (rowAt s 1 true p).2.1 <;> simp [runT, partT, h]
theorem sc_zero {t : Int} (h : ¬ 0 < t) : (Sc.sc 36000 1 t 4).1 = 0 := by
  unfold Sc.sc
  rw [if_neg (by omega), if_pos (Or.inl (by omega))]
theorem row_one (s : ByteArray) (p : Nat) : (rowAt s 1 true p).2.1 ≤ 1 := by
  unfold rowAt
  by_cases h : digAt s p true = true
  · rw [rowLoop, if_pos ⟨by omega, h⟩]
    exact Nat.le_refl _
  · rw [rowLoop, if_neg (fun x => h x.2)]
    exact Nat.zero_le _
theorem exact_not {s t : ByteArray} {p : Nat} (ht : 0 < t.size) (h : ¬ (p < s.size ∧ byte s p = byte t 0)) : exactAt s t p true = (p, false) := by
  rw [exactAt_yes, show t.size = (t.size - 1) + 1 by omega, exactLoop, if_pos ht, if_neg h]
theorem dot_at (s : ByteArray) (p : Nat) : exactAt s dotB p true = if p < s.size ∧ byte s p = 46 then (p + 1, true) else (p, false) := exact_one s 46 p (by omega)
theorem speed_parts (s : ByteArray) : Parts s [hT, hdT] (speedF s) 3 := by
  unfold speedF
  simp only
  obtain ⟨n, hn⟩ : ∃ n, numAt s 3 0 999 true 0 = n := ⟨_, rfl⟩
  have m1 : matchT s hT 0 = if numOk 0 true n = true then ((matchT s [litT kmhB] n.2.2).1, n.1 :: (matchT s [litT kmhB] n.2.2).2.1, (matchT s [litT kmhB] n.2.2).2.2) else (n.2.2, [], false) := by
    unfold hT; rw [matchT_num, hn]
  have m2 : matchT s hdT 0 = if numOk 0 true n = true then ((matchT s [litT dotB, partT 1, litT kmhB] n.2.2).1, n.1 :: (matchT s [litT dotB, partT 1, litT kmhB] n.2.2).2.1, (matchT s [litT dotB, partT 1, litT kmhB] n.2.2).2.2) else (n.2.2, [], false) := by
    unfold hdT; rw [matchT_num, hn]
  rw [hn]
  have kl : ∀ p, matchT s [litT kmhB] p = if (exactAt s kmhB p true).2 = true then ((exactAt s kmhB p true).1, [], decide ((exactAt s kmhB p true).1 = s.size)) else ((exactAt s kmhB p true).1, [], false) := fun p => by
    rw [matchT_lit]
    split <;> simp [matchT]
  obtain ⟨q, hq⟩ : ∃ q, n.2.2 = q := ⟨_, rfl⟩
  rw [hq] at m1 m2 ⊢
  obtain ⟨ok, hok⟩ : ∃ k, numOk 0 true n = k := ⟨_, rfl⟩
  rw [hok] at m1 m2 ⊢
  cases ok
  case false =>
    have b : begAt s 46 q false = false := rfl
    rw [b, if_neg (by simp)]
    have e : exactAt s kmhB q false = (q, false) := rfl
    rw [e]
    refine ⟨fun h => by simp at h, fun _ => ⟨fun f hf => ?_, fun far => ?_⟩⟩
    · simp only [List.mem_cons, List.not_mem_nil, or_false] at hf
      rcases hf with rfl | rfl
      · rw [m1]; rfl
      · rw [m2]; rfl
    · simp only [List.foldl, m1, m2]
      simp
  case true =>
  simp only [if_true] at m1 m2
  by_cases hb : q < s.size ∧ byte s q = 46
  · have b : begAt s 46 q true = true := by unfold begAt; simp [hb.1, hb.2]
    rw [b, if_pos rfl]
    have e1 : exactAt s dotB q true = (q + 1, true) := by rw [dot_at, if_pos hb]
    have e2 : exactAt s kmhB q true = (q, false) := exact_not (by decide) (fun h => by
      have : byte kmhB 0 = 32 := rfl
      rw [this] at h
      omega)
    rw [e1]
    simp only [Bool.true_and]
    have n1 : matchT s hT 0 = (q, [n.1], false) := by rw [m1, kl, e2]; rfl
    rw [matchT_lit, e1] at m2
    simp only [if_true] at m2
    rw [matchT_part] at m2
    have hr1 := row_one s (q + 1)
    have hrg := rowLoop_ge s 1 true 1 0 0 (q + 1)
    have hrg : q + 1 ≤ (rowAt s 1 true (q + 1)).2.2 := hrg
    obtain ⟨d, hd⟩ : ∃ d, rowAt s 1 true (q + 1) = d := ⟨_, rfl⟩
    rw [hd] at m2 hr1 hrg ⊢
    by_cases hd1 : 0 < d.2.1
    · have hd2 : decide (1 ≤ d.2.1) = true := decide_eq_true (show 1 ≤ d.2.1 from hd1)
      have hd3 : d.2.1 = 1 := by omega
      rw [hd2]
      rw [if_pos hd1, kl, hd3] at m2
      have hge := exactAt_ge s kmhB d.2.2 true
      obtain ⟨f, hf⟩ : ∃ f, exactAt s kmhB d.2.2 true = f := ⟨_, rfl⟩
      rw [hf] at m2 hge ⊢
      obtain ⟨f1, f2⟩ := f
      cases f2
      · refine ⟨fun h => by simp at h, fun _ => ⟨fun g hg => ?_, fun far => ?_⟩⟩
        · simp only [List.mem_cons, List.not_mem_nil, or_false] at hg
          rcases hg with rfl | rfl
          · rw [n1]
          · rw [m2]; rfl
        · simp only [List.foldl, n1, m2]
          simp at hge ⊢
          omega
      · refine ⟨fun h => ⟨1, hdT, rfl, ?_, fun j g hj hg => ?_, ?_⟩, fun h => ⟨fun g hg => ?_, fun far => ?_⟩⟩
        · rw [m2]; simpa using h
        · obtain rfl : j = 0 := by omega
          injection hg with hg
          subst hg
          rw [n1]
        · rw [m2]
          simp only [if_true]
          unfold paceVal
          simp only [List.getD_cons_zero, List.getD_cons_succ]
          rw [if_neg (by omega), if_neg (by omega), if_neg (by omega)]
          have e4 : d.1 * 10 ^ (1 - 1) = d.1 := by simp
          rw [e4, if_pos (show ((3 + 1 : Nat) : Int) = 4 from rfl)]
          split
          · rfl
          · rename_i hz
            exact (sc_zero hz).symm
        · simp only [List.mem_cons, List.not_mem_nil, or_false] at hg
          rcases hg with rfl | rfl
          · rw [n1]
          · rw [m2]; simpa using h
        · simp only [List.foldl, n1, m2]
          simp at hge ⊢
          omega
    · have hd2 : decide (1 ≤ d.2.1) = false := by rw [decide_eq_false_iff_not]; omega
      rw [hd2, if_neg hd1] at *
      have e4 : exactAt s kmhB d.2.2 false = (d.2.2, false) := rfl
      rw [e4]
      refine ⟨fun h => by simp at h, fun _ => ⟨fun g hg => ?_, fun far => ?_⟩⟩
      · simp only [List.mem_cons, List.not_mem_nil, or_false] at hg
        rcases hg with rfl | rfl
        · rw [n1]
        · rw [m2]
      · simp only [List.foldl, n1, m2]
        omega
  · have b : begAt s 46 q true = false := by
      unfold begAt
      rw [Bool.true_and, Bool.and_eq_false_iff, decide_eq_false_iff_not, decide_eq_false_iff_not]
      by_cases h : q < s.size
      · exact Or.inr fun e => hb ⟨h, e⟩
      · exact Or.inl h
    rw [b, if_neg (by simp)]
    have e1 : exactAt s dotB q true = (q, false) := by rw [dot_at, if_neg hb]
    have n2 : matchT s hdT 0 = (q, [n.1], false) := by rw [m2, matchT_lit, e1]; rfl
    rw [kl] at m1
    have hge := exactAt_ge s kmhB q true
    obtain ⟨f, hf⟩ : ∃ f, exactAt s kmhB q true = f := ⟨_, rfl⟩
    rw [hf] at m1 hge ⊢
    obtain ⟨f1, f2⟩ := f
    cases f2
    · refine ⟨fun h => by simp at h, fun _ => ⟨fun g hg => ?_, fun far => ?_⟩⟩
      · simp only [List.mem_cons, List.not_mem_nil, or_false] at hg
        rcases hg with rfl | rfl
        · rw [m1]; rfl
        · rw [n2]
      · simp only [List.foldl, n2, m1]
        simp at hge ⊢
        omega
    · refine ⟨fun h => ⟨0, hT, rfl, ?_, fun j g hj => by omega, ?_⟩, fun h => ⟨fun g hg => ?_, fun far => ?_⟩⟩
      · rw [m1]; simpa using h
      · rw [m1]
        simp only [if_true]
        unfold paceVal
        simp only [List.getD_cons_zero]
        rw [if_neg (by omega), if_neg (by omega), if_neg (by omega), if_neg (show ¬ ((3 + 0 : Nat) : Int) = 4 by omega), Int.add_zero]
        split
        · rfl
        · rename_i hz
          exact (sc_zero hz).symm
      · simp only [List.mem_cons, List.not_mem_nil, or_false] at hg
        rcases hg with rfl | rfl
        · rw [m1]; simpa using h
        · rw [n2]
      · simp only [List.foldl, n2, m1]
        simp at hge ⊢
        omega
theorem ranged_val (v : Int) : ranged (v, 0, 0) 1 36000 = if 1 ≤ v ∧ v ≤ 36000 then (v, 0, 0) else (0, 0, 9) := by
  unfold ranged
  by_cases h : 1 ≤ v ∧ v ≤ 36000
  · rw [if_pos h, if_neg]
    rintro ⟨_, h2⟩
    have h2 : v < 1 ∨ 36000 < v := h2
    omega
  · rw [if_neg h, if_pos ⟨rfl, by show v < 1 ∨ 36000 < v; omega⟩]
theorem pace_eq (s : ByteArray) : refPace s = ranged (readForms s [timedF, speedF]) 1 36000 := by
  unfold refPace readForms
  by_cases hz : 1000 < s.size
  · rw [if_pos hz, if_pos hz]; rfl
  rw [if_neg hz, if_neg hz]
  obtain ⟨ty, tn⟩ := timed_parts s
  obtain ⟨sy, sn⟩ := speed_parts s
  have hP : paceT = [mT kmB, mT miB, mT hmB] ++ [hT, hdT] := rfl
  obtain ⟨o1, ho1⟩ : ∃ o, timedF s = o := ⟨_, rfl⟩
  obtain ⟨o2, ho2⟩ : ∃ o, speedF s = o := ⟨_, rfl⟩
  rw [ho1] at ty tn
  rw [ho2] at sy sn
  have hfl : formsLoop s [timedF, speedF] 0 = if (o1.2.2 && decide (o1.2.1 = s.size)) = true then (o1.1, 0, 0) else if (o2.2.2 && decide (o2.2.1 = s.size)) = true then (o2.1, 0, 0) else (0, max (max 0 o1.2.1) o2.2.1, 6) := by
    unfold formsLoop
    rw [ho1]
    unfold formsLoop
    rw [ho2]
    rfl
  rw [hfl]
  cases h1 : (o1.2.2 && decide (o1.2.1 = s.size))
  case true =>
    obtain ⟨k, f, e1, e2, e3, e4⟩ := ty h1
    have hk : k < 3 := (List.getElem?_eq_some_iff.1 e1).1
    have hf := firstT_at (s := s) paceT 0 0 k f (by rw [hP, List.getElem?_append_left hk]; exact e1) e2 (fun j g hj hg => e3 j g hj (by rw [hP, List.getElem?_append_left (by show j < 3; omega)] at hg; exact hg))
    rw [hf, if_pos rfl, ranged_val, ← e4]
    rw [if_neg (show ¬ ((0 + k : Nat) : Int) < 0 by omega)]
  case false =>
    obtain ⟨n1, n2⟩ := tn h1
    rw [if_neg (show ¬ (false = true) by simp)]
    cases h2 : (o2.2.2 && decide (o2.2.1 = s.size))
    case true =>
      obtain ⟨k, f, e1, e2, e3, e4⟩ := sy h2
      have hk : k < 2 := (List.getElem?_eq_some_iff.1 e1).1
      have hf := firstT_at (s := s) paceT 0 0 (3 + k) f (by rw [hP, List.getElem?_append_right (by show 3 ≤ 3 + k; omega)]; show [hT, hdT][3 + k - 3]? = _; rw [show 3 + k - 3 = k by omega]; exact e1) e2 (fun j g hj hg => by
        by_cases hj3 : j < 3
        · rw [hP, List.getElem?_append_left hj3] at hg
          exact n1 g (List.mem_of_getElem? hg)
        · rw [hP, List.getElem?_append_right (by show 3 ≤ j; omega)] at hg
          exact e3 (j - 3) g (by omega) hg)
      rw [hf, if_pos rfl, ranged_val, ← e4]
      rw [if_neg (show ¬ ((0 + (3 + k) : Nat) : Int) < 0 by omega), show 0 + (3 + k) = 3 + k by omega]
    case false =>
      obtain ⟨n3, n4⟩ := sn h2
      have hf := firstT_none (s := s) paceT 0 0 (fun f hf => by
        rw [hP] at hf
        rcases List.mem_append.1 hf with hf | hf
        · exact n1 f hf
        · exact n3 f hf)
      rw [hf, if_pos (show (-1 : Int) < 0 by omega), if_neg (show ¬ (false = true) by simp), hP, List.foldl_append, n2, n4]
      rfl
end Rd

/- Distances of both, read, in plain words. -/
namespace Sc
/-- fractions that are the same number are rounded the same -/
theorem sc_eq {a num den a' num' den' how : Int} (hh1 : 1 ≤ how) (hh5 : how ≤ 5) (ha : 0 ≤ a) (ha' : 0 ≤ a') (hn : 0 ≤ num) (hn' : 0 ≤ num') (hd : 1 ≤ den) (hd' : 1 ≤ den')
    (hs : a * num < 4611686018427387904) (hs' : a' * num' < 4611686018427387904) (h : a * num * den' = a' * num' * den) : sc a num den how = sc a' num' den' how := by
  obtain ⟨a, rfl⟩ := Int.eq_ofNat_of_zero_le ha
  obtain ⟨a', rfl⟩ := Int.eq_ofNat_of_zero_le ha'
  obtain ⟨num, rfl⟩ := Int.eq_ofNat_of_zero_le hn
  obtain ⟨num', rfl⟩ := Int.eq_ofNat_of_zero_le hn'
  obtain ⟨den, rfl⟩ := Int.eq_ofNat_of_zero_le (show 0 ≤ den by omega)
  obtain ⟨den', rfl⟩ := Int.eq_ofNat_of_zero_le (show 0 ≤ den' by omega)
  have hs1 : a * num < 4611686018427387904 := Int.ofNat_lt.1 (show ((a * num : Nat) : Int) < ((4611686018427387904 : Nat) : Int) by rw [Int.natCast_mul]; exact hs)
  have hs2 : a' * num' < 4611686018427387904 := Int.ofNat_lt.1 (show ((a' * num' : Nat) : Int) < ((4611686018427387904 : Nat) : Int) by rw [Int.natCast_mul]; exact hs')
  have h1 : a * num * den' = a' * num' * den := by exact_mod_cast h
  have k1 : 0 < den := by omega
  have k2 : 0 < den' := by omega
  rw [sc_small _ _ _ _ hh1 hh5 hd (by omega) (by simpa using hs1), sc_small _ _ _ _ hh1 hh5 hd' (by omega) (by simpa using hs2)]
  have n1 : decide ((a : Int) < 0) = false := by simp
  have n2 : decide ((a' : Int) < 0) = false := by simp
  rw [n1, n2]
  simp only [Int.natAbs_natCast, Int.toNat_natCast]
  have e1 : quo how false (a * num / den) (a * num % den) den = quo how false (den' * (a * num) / (den' * den)) (den' * (a * num) % (den' * den)) (den' * den) := by
    rw [Nat.mul_div_mul_left _ _ k2, Nat.mul_mod_mul_left, quo_mul k2]
  have e2 : quo how false (a' * num' / den') (a' * num' % den') den' = quo how false (den * (a' * num') / (den * den')) (den * (a' * num') % (den * den')) (den * den') := by
    rw [Nat.mul_div_mul_left _ _ k1, Nat.mul_mod_mul_left, quo_mul k1]
  rw [e1, e2, show den' * (a * num) = den * (a' * num') by rw [Nat.mul_comm den', h1, Nat.mul_comm], Nat.mul_comm den' den]
end Sc
namespace Rd
def mB : ByteArray := ⟨#[109]⟩
def ydB : ByteArray := ⟨#[121, 100]⟩
def blB : ByteArray := ⟨#[32]⟩
/-- the program's form of a distance: its parts -/
structure DistP where
  n : Int
  many : Nat
  p : Nat
  ok : Bool
/-- the number, with what stands behind a point -/
def distNum (s : ByteArray) : DistP :=
  let m := numAt s 7 0 9999999 true 0
  if begAt s 46 m.2.2 (numOk 0 true m) = true then
    let e := exactAt s dotB m.2.2 (numOk 0 true m)
    let d := rowAt s 6 e.2 e.1
    ⟨m.1 * 10 ^ d.2.1 + d.1, d.2.1, d.2.2, e.2 && decide (1 ≤ d.2.1)⟩
  else ⟨m.1, 0, m.2.2, numOk 0 true m⟩
def distEnd (s : ByteArray) (x : DistP) : Nat × Bool := if begAt s 32 x.p x.ok = true then exactAt s blB x.p x.ok else (x.p, x.ok)
def distNumS (k : Int) : Int := if k = 0 then 10 else if k = 1 then 10000 else if k = 2 then 9144 else 1609344
def distDenS (k : Int) : Int := if k = 0 then 1 else if k = 1 then 1 else if k = 2 then 1000 else 100
def distF (s : ByteArray) : Int × Nat × Bool :=
  let x := distNum s
  let e := distEnd s x
  let k := lastAt s [mB, kmB, ydB, miB] e.1 e.2
  (if k.1 < 0 then 0 else (Sc.sc x.n (distNumS k.1) (10 ^ x.many * distDenS k.1) 4).1, k.2.1, k.2.2)
/-- a form of the reference -/
def distT (b1 b2 : Bool) (w : ByteArray) : List Tok := numT 0 9999999 7 :: ((if b1 = true then [litT dotB, partT 6] else []) ++ ((if b2 = true then [litT blB] else []) ++ [litT w]))
def distForms (w : ByteArray) : List (List Tok) := [distT false false w, distT true false w, distT false true w, distT true true w]
def distAll : List (List Tok) := distForms mB ++ (distForms kmB ++ (distForms ydB ++ distForms miB))
theorem matchT_part6 {s : ByteArray} {r : List Tok} {p : Nat} : matchT s (partT 6 :: r) p = if 0 < (rowAt s 6 true p).2.1 then ((matchT s r (rowAt s 6 true p).2.2).1, (rowAt s 6 true p).1 * 10 ^ (6 - (rowAt s 6 true p).2.1) :: (matchT s r (rowAt s 6 true p).2.2).2.1, (matchT s r (rowAt s 6 true p).2.2).2.2) else ((rowAt s 6 true p).2.2, [], false) := by
  rw [matchT]
  by_cases h : 0 < (rowAt s 6 true p).2.1 <;> simp [runT, partT, h]
theorem blank_at (s : ByteArray) (p : Nat) : exactAt s blB p true = if p < s.size ∧ byte s p = 32 then (p + 1, true) else (p, false) := exact_one s 32 p (by omega)
theorem begAt_iff {s : ByteArray} {c p : Nat} : begAt s c p true = decide (p < s.size ∧ byte s p = c) := by
  unfold begAt
  rw [Bool.true_and]
  by_cases h1 : p < s.size
  · by_cases h2 : byte s p = c
    · simp [h1, h2]
    · simp [h2]
  · simp [h1]
/-- what a form comes to: the words' ends, where the text goes that way -/
structure DistW (s : ByteArray) (b1 b2 : Bool) (e : Nat × Bool) (L : List Int) : Prop where
  le : e.1 ≤ s.size
  off : ∀ c1 c2 w, (c1 ≠ b1 ∨ c2 ≠ b2 ∨ e.2 = false) → 0 < w.size → byte w 0 ≠ 46 → byte w 0 ≠ 32 → (matchT s (distT c1 c2 w) 0).2.2 = false ∧ (matchT s (distT c1 c2 w) 0).1 ≤ e.1
  on_ : e.2 = true → ∀ w, (matchT s (distT b1 b2 w) 0).1 = (exactAt s w e.1 true).1 ∧ (matchT s (distT b1 b2 w) 0).2.2 = ((exactAt s w e.1 true).2 && decide ((exactAt s w e.1 true).1 = s.size)) ∧ (matchT s (distT b1 b2 w) 0).2.1 = L
  dead : e.2 = false → ∃ c1 c2, ∀ w, 0 < w.size → byte w 0 ≠ 46 → byte w 0 ≠ 32 → (matchT s (distT c1 c2 w) 0).1 = e.1
theorem word_off {s w : ByteArray} {p : Nat} (hw : 0 < w.size) (h : ¬ (p < s.size ∧ byte s p = byte w 0)) : matchT s [litT w] p = (p, [], false) := by
  rw [matchT_lit, exact_not hw h]
  rfl
/-- behind the number (and what stands behind a point): blank or not -/
theorem tail_off {s w : ByteArray} {p : Nat} (c b : Bool) (hb : begAt s 32 p true = b) (hc : c ≠ b) (hw : 0 < w.size) (h32 : byte w 0 ≠ 32) : matchT s ((if c = true then [litT blB] else []) ++ [litT w]) p = (p, [], false) := by
  rw [begAt_iff] at hb
  cases b
  · have hb : ¬ (p < s.size ∧ byte s p = 32) := by simpa using hb
    have hc : c = true := by cases c <;> simp_all
    subst hc
    show matchT s (litT blB :: [litT w]) p = _
    rw [matchT_lit, blank_at, if_neg hb]
    rfl
  · have hb : p < s.size ∧ byte s p = 32 := by simpa using hb
    have hc : c = false := by cases c <;> simp_all
    subst hc
    show matchT s [litT w] p = _
    exact word_off hw (fun h => h32 (by rw [← h.2]; exact hb.2))
theorem tail_on {s w : ByteArray} {p : Nat} (b : Bool) (hb : begAt s 32 p true = b) : matchT s ((if b = true then [litT blB] else []) ++ [litT w]) p = matchT s [litT w] (if b = true then p + 1 else p) := by
  rw [begAt_iff] at hb
  cases b
  · rfl
  · have hb : p < s.size ∧ byte s p = 32 := by simpa using hb
    show matchT s (litT blB :: [litT w]) p = _
    rw [matchT_lit, blank_at, if_pos hb]
    rfl
end Rd

/- Distances of both, read: the law in plain words. -/
namespace Rd
theorem dist_num {s w : ByteArray} {c1 c2 : Bool} {m : Int × Nat × Nat} (hm : numAt s 7 0 9999999 true 0 = m) : matchT s (distT c1 c2 w) 0 = if numOk 0 true m = true then ((matchT s ((if c1 = true then [litT dotB, partT 6] else []) ++ ((if c2 = true then [litT blB] else []) ++ [litT w])) m.2.2).1, m.1 :: (matchT s ((if c1 = true then [litT dotB, partT 6] else []) ++ ((if c2 = true then [litT blB] else []) ++ [litT w])) m.2.2).2.1, (matchT s ((if c1 = true then [litT dotB, partT 6] else []) ++ ((if c2 = true then [litT blB] else []) ++ [litT w])) m.2.2).2.2) else (m.2.2, [], false) := by
  unfold distT
  rw [matchT_num, hm]
theorem lit_end {s w : ByteArray} {p : Nat} : (matchT s [litT w] p).1 = (exactAt s w p true).1 ∧ (matchT s [litT w] p).2.2 = ((exactAt s w p true).2 && decide ((exactAt s w p true).1 = s.size)) ∧ (matchT s [litT w] p).2.1 = [] := by
  rw [matchT_lit]
  cases h : (exactAt s w p true).2
  · simp
  · simp [matchT]
theorem dist_w (s : ByteArray) (m : Int × Nat × Nat) (hm : numAt s 7 0 9999999 true 0 = m) :
    DistW s (begAt s 46 m.2.2 (numOk 0 true m)) (begAt s 32 (distNum s).p (distNum s).ok) (distEnd s (distNum s))
      (if begAt s 46 m.2.2 (numOk 0 true m) = true then [m.1, (rowAt s 6 true (m.2.2 + 1)).1 * 10 ^ (6 - (rowAt s 6 true (m.2.2 + 1)).2.1)] else [m.1]) := by
  have hq : m.2.2 ≤ s.size := by rw [← hm]; exact numLoop_pos _ _ _ _ _ _ _ _ _ (Nat.zero_le _)
  have key : ∀ c1 c2 w, matchT s (distT c1 c2 w) 0 = _ := fun c1 c2 w => dist_num (c1 := c1) (c2 := c2) (w := w) hm
  have hdn : distNum s = if begAt s 46 m.2.2 (numOk 0 true m) = true then ⟨m.1 * 10 ^ (rowAt s 6 (exactAt s dotB m.2.2 (numOk 0 true m)).2 (exactAt s dotB m.2.2 (numOk 0 true m)).1).2.1 + (rowAt s 6 (exactAt s dotB m.2.2 (numOk 0 true m)).2 (exactAt s dotB m.2.2 (numOk 0 true m)).1).1, (rowAt s 6 (exactAt s dotB m.2.2 (numOk 0 true m)).2 (exactAt s dotB m.2.2 (numOk 0 true m)).1).2.1, (rowAt s 6 (exactAt s dotB m.2.2 (numOk 0 true m)).2 (exactAt s dotB m.2.2 (numOk 0 true m)).1).2.2, (exactAt s dotB m.2.2 (numOk 0 true m)).2 && decide (1 ≤ (rowAt s 6 (exactAt s dotB m.2.2 (numOk 0 true m)).2 (exactAt s dotB m.2.2 (numOk 0 true m)).1).2.1)⟩ else ⟨m.1, 0, m.2.2, numOk 0 true m⟩ := by
    unfold distNum
    rw [hm]
  obtain ⟨q, hqe⟩ : ∃ q, m.2.2 = q := ⟨_, rfl⟩
  obtain ⟨ok, hok⟩ : ∃ ok, numOk 0 true m = ok := ⟨_, rfl⟩
  rw [hqe] at hq hdn ⊢
  rw [hok] at hdn ⊢
  simp only [hqe, hok] at key
  cases ok
  case false =>
    have hb : begAt s 46 q false = false := rfl
    rw [hb, if_neg (by simp)] at hdn ⊢
    rw [hdn]
    have he : distEnd s ⟨m.1, 0, q, false⟩ = (q, false) := rfl
    rw [he]
    have hk : ∀ c1 c2 w, matchT s (distT c1 c2 w) 0 = (q, [], false) := fun c1 c2 w => by rw [key]; rfl
    exact ⟨hq, fun c1 c2 w _ _ _ _ => by rw [hk]; exact ⟨rfl, Nat.le_refl _⟩, fun h => (by cases h), fun _ => ⟨false, false, fun w _ _ _ => by rw [hk]⟩⟩
  case true =>
  simp only [if_true] at key
  by_cases hdot : q < s.size ∧ byte s q = 46
  · have hb : begAt s 46 q true = true := by rw [begAt_iff]; simpa using hdot
    have hex : exactAt s dotB q true = (q + 1, true) := by rw [dot_at, if_pos hdot]
    rw [hb, if_pos rfl, hex] at hdn
    rw [hb, if_pos rfl]
    simp only [Bool.true_and] at hdn
    have hge : q + 1 ≤ (rowAt s 6 true (q + 1)).2.2 := rowLoop_ge s 6 true 6 0 0 (q + 1)
    have hle : (rowAt s 6 true (q + 1)).2.2 ≤ s.size := rowLoop_le s 6 true 6 0 0 (q + 1) (by omega)
    obtain ⟨d, hd⟩ : ∃ d, rowAt s 6 true (q + 1) = d := ⟨_, rfl⟩
    rw [hd] at hdn hge hle ⊢
    -- without a point
    have noP : ∀ c2 w, 0 < w.size → byte w 0 ≠ 46 → matchT s ((if c2 = true then [litT blB] else []) ++ [litT w]) q = (q, [], false) := fun c2 w hw h46 => by
      cases c2
      · exact word_off hw (fun h => h46 (by rw [← h.2]; exact hdot.2))
      · show matchT s (litT blB :: [litT w]) q = _
        have hne : ¬ (q < s.size ∧ byte s q = 32) := fun h => by have := h.2; omega
        rw [matchT_lit, blank_at, if_neg hne]
        rfl
    have keyF : ∀ c2 w, 0 < w.size → byte w 0 ≠ 46 → matchT s (distT false c2 w) 0 = (q, [m.1], false) := fun c2 w hw h46 => by
      rw [key]
      show (_, _, _) = _
      have := noP c2 w hw h46
      simp only [Bool.false_eq_true, if_false, List.nil_append]
      rw [this]
    have keyT : ∀ c2 w, matchT s (distT true c2 w) 0 = if 0 < d.2.1 then ((matchT s ((if c2 = true then [litT blB] else []) ++ [litT w]) d.2.2).1, m.1 :: (d.1 * 10 ^ (6 - d.2.1)) :: (matchT s ((if c2 = true then [litT blB] else []) ++ [litT w]) d.2.2).2.1, (matchT s ((if c2 = true then [litT blB] else []) ++ [litT w]) d.2.2).2.2) else (d.2.2, [m.1], false) := fun c2 w => by
      rw [key]
      have e : matchT s ((if true = true then [litT dotB, partT 6] else []) ++ ((if c2 = true then [litT blB] else []) ++ [litT w])) q = matchT s (partT 6 :: ((if c2 = true then [litT blB] else []) ++ [litT w])) (q + 1) := by
        show matchT s (litT dotB :: (partT 6 :: ((if c2 = true then [litT blB] else []) ++ [litT w]))) q = _
        rw [matchT_lit, hex]
        rfl
      rw [e, matchT_part6, hd]
      split <;> rfl
    by_cases hmany : 0 < d.2.1
    · rw [decide_eq_true (show 1 ≤ d.2.1 from hmany)] at hdn
      rw [hdn]
      obtain ⟨b2, hb2⟩ : ∃ b, begAt s 32 d.2.2 true = b := ⟨_, rfl⟩
      show DistW s true (begAt s 32 d.2.2 true) (distEnd s ⟨_, d.2.1, d.2.2, true⟩) _
      have he : distEnd s ⟨m.1 * 10 ^ d.2.1 + d.1, d.2.1, d.2.2, true⟩ = (if b2 = true then d.2.2 + 1 else d.2.2, true) := by
        unfold distEnd
        simp only
        rw [hb2]
        cases b2
        · rfl
        · rw [begAt_iff] at hb2
          have hb2 : d.2.2 < s.size ∧ byte s d.2.2 = 32 := by simpa using hb2
          rw [if_pos rfl, if_pos rfl, blank_at, if_pos hb2]
      rw [he, hb2]
      have h32 : b2 = true → d.2.2 < s.size := fun h => by
        subst h
        rw [begAt_iff] at hb2
        exact (show d.2.2 < s.size ∧ byte s d.2.2 = 32 by simpa using hb2).1
      have hle2 : (if b2 = true then d.2.2 + 1 else d.2.2) ≤ s.size := by
        cases b2
        · exact hle
        · exact h32 rfl
      refine ⟨hle2, fun c1 c2 w hc hw h46 hw32 => ?_, fun _ w => ?_, fun h => (by cases h)⟩
      · have hp : d.2.2 ≤ (if b2 = true then d.2.2 + 1 else d.2.2) := by split <;> omega
        cases c1
        · rw [keyF c2 w hw h46]
          exact ⟨rfl, by show q ≤ _; omega⟩
        · have hc2 : c2 ≠ b2 := by
            rcases hc with h | h | h
            · exact absurd rfl h
            · exact h
            · cases h
          rw [keyT, if_pos hmany, tail_off c2 b2 hb2 hc2 hw hw32]
          exact ⟨rfl, hp⟩
      · rw [keyT, if_pos hmany, tail_on b2 hb2]
        obtain ⟨l1, l2, l3⟩ := lit_end (s := s) (w := w) (p := if b2 = true then d.2.2 + 1 else d.2.2)
        exact ⟨l1, l2, by simp only [l3]⟩
    · rw [decide_eq_false (show ¬ 1 ≤ d.2.1 from hmany)] at hdn
      rw [hdn]
      have hb2 : begAt s 32 d.2.2 false = false := rfl
      show DistW s true (begAt s 32 d.2.2 false) (distEnd s ⟨_, d.2.1, d.2.2, false⟩) _
      have he : distEnd s ⟨m.1 * 10 ^ d.2.1 + d.1, d.2.1, d.2.2, false⟩ = (d.2.2, false) := rfl
      rw [he, hb2]
      have kT : ∀ c2 w, matchT s (distT true c2 w) 0 = (d.2.2, [m.1], false) := fun c2 w => by rw [keyT, if_neg hmany]
      refine ⟨hle, fun c1 c2 w _ hw h46 _ => ?_, fun h => (by cases h), fun _ => ⟨true, false, fun w _ _ _ => by rw [kT]⟩⟩
      cases c1
      · rw [keyF c2 w hw h46]
        exact ⟨rfl, by show q ≤ d.2.2; omega⟩
      · rw [kT]
        exact ⟨rfl, Nat.le_refl _⟩
  · have hb : begAt s 46 q true = false := by rw [begAt_iff]; simpa using hdot
    rw [hb, if_neg (by simp)] at hdn
    rw [hb, if_neg (by simp), hdn]
    have keyT : ∀ c2 w, matchT s (distT true c2 w) 0 = (q, [m.1], false) := fun c2 w => by
      rw [key]
      have e : matchT s ((if true = true then [litT dotB, partT 6] else []) ++ ((if c2 = true then [litT blB] else []) ++ [litT w])) q = (q, [], false) := by
        show matchT s (litT dotB :: (partT 6 :: ((if c2 = true then [litT blB] else []) ++ [litT w]))) q = _
        rw [matchT_lit, dot_at, if_neg hdot]
        rfl
      rw [e]
    have keyF : ∀ c2 w, matchT s (distT false c2 w) 0 = ((matchT s ((if c2 = true then [litT blB] else []) ++ [litT w]) q).1, m.1 :: (matchT s ((if c2 = true then [litT blB] else []) ++ [litT w]) q).2.1, (matchT s ((if c2 = true then [litT blB] else []) ++ [litT w]) q).2.2) := fun c2 w => key false c2 w
    obtain ⟨b2, hb2⟩ : ∃ b, begAt s 32 q true = b := ⟨_, rfl⟩
    show DistW s false (begAt s 32 q true) (distEnd s ⟨m.1, 0, q, true⟩) _
    have he : distEnd s ⟨m.1, 0, q, true⟩ = (if b2 = true then q + 1 else q, true) := by
      unfold distEnd
      simp only
      rw [hb2]
      cases b2
      · rfl
      · rw [begAt_iff] at hb2
        have hb2 : q < s.size ∧ byte s q = 32 := by simpa using hb2
        rw [if_pos rfl, if_pos rfl, blank_at, if_pos hb2]
    rw [he, hb2]
    have h32 : b2 = true → q < s.size := fun h => by
      subst h
      rw [begAt_iff] at hb2
      exact (show q < s.size ∧ byte s q = 32 by simpa using hb2).1
    have hp : q ≤ (if b2 = true then q + 1 else q) := by split <;> omega
    have hle2 : (if b2 = true then q + 1 else q) ≤ s.size := by
      cases b2
      · exact hq
      · exact h32 rfl
    refine ⟨hle2, fun c1 c2 w hc hw h46 hw32 => ?_, fun _ w => ?_, fun h => (by cases h)⟩
    · cases c1
      · have hc2 : c2 ≠ b2 := by
          rcases hc with h | h | h
          · exact absurd rfl h
          · exact h
          · cases h
        rw [keyF, tail_off c2 b2 hb2 hc2 hw hw32]
        exact ⟨rfl, hp⟩
      · rw [keyT]
        exact ⟨rfl, hp⟩
    · rw [keyF, tail_on b2 hb2]
      obtain ⟨l1, l2, l3⟩ := lit_end (s := s) (w := w) (p := if b2 = true then q + 1 else q)
      exact ⟨l1, l2, by simp only [l3]⟩
end Rd

/- Distances of both are the same number: the law in plain words. -/
namespace Sc
theorem sc_val (a num den how : Int) (h1 : 1 ≤ how) (h5 : how ≤ 5) (hd : 1 ≤ den) (hn : 0 ≤ num) (hs : a.natAbs * num.toNat < den.toNat * 4611686018427387904) :
    sc a num den how = (sgn (decide (a < 0)) (quo how (decide (a < 0)) (a.natAbs * num.toNat / den.toNat) (a.natAbs * num.toNat % den.toNat) den.toNat), 0) := by
  unfold sc
  rw [if_neg (by omega), if_neg (by omega)]
  have hdp : 0 < den.toNat := by omega
  generalize hn0 : a.natAbs * num.toNat = n at *
  have e1 : ¬ den.toNat ≤ n / 18446744073709551616 := by omega
  have e2 : n / den.toNat < 4611686018427387904 := (Nat.div_lt_iff_lt_mul hdp).2 (by rw [Nat.mul_comm]; exact hs)
  simp only
  rw [if_neg e1, if_neg]
  unfold quo
  split <;> omega
theorem sc_same {a num den a' num' den' how : Int} (hh1 : 1 ≤ how) (hh5 : how ≤ 5) (ha : 0 ≤ a) (ha' : 0 ≤ a') (hn : 0 ≤ num) (hn' : 0 ≤ num') (hd : 1 ≤ den) (hd' : 1 ≤ den')
    (hs : a * num < den * 4611686018427387904) (hs' : a' * num' < den' * 4611686018427387904) (h : a * num * den' = a' * num' * den) : sc a num den how = sc a' num' den' how ∧ (sc a num den how).2 = 0 ∧ 0 ≤ (sc a num den how).1 := by
  obtain ⟨a, rfl⟩ := Int.eq_ofNat_of_zero_le ha
  obtain ⟨a', rfl⟩ := Int.eq_ofNat_of_zero_le ha'
  obtain ⟨num, rfl⟩ := Int.eq_ofNat_of_zero_le hn
  obtain ⟨num', rfl⟩ := Int.eq_ofNat_of_zero_le hn'
  obtain ⟨den, rfl⟩ := Int.eq_ofNat_of_zero_le (show 0 ≤ den by omega)
  obtain ⟨den', rfl⟩ := Int.eq_ofNat_of_zero_le (show 0 ≤ den' by omega)
  have hs1 : a * num < den * 4611686018427387904 := Int.ofNat_lt.1 (show ((a * num : Nat) : Int) < ((den * 4611686018427387904 : Nat) : Int) by rw [Int.natCast_mul, Int.natCast_mul]; exact hs)
  have hs2 : a' * num' < den' * 4611686018427387904 := Int.ofNat_lt.1 (show ((a' * num' : Nat) : Int) < ((den' * 4611686018427387904 : Nat) : Int) by rw [Int.natCast_mul, Int.natCast_mul]; exact hs')
  have h1 : a * num * den' = a' * num' * den := by exact_mod_cast h
  have k1 : 0 < den := by omega
  have k2 : 0 < den' := by omega
  rw [sc_val _ _ _ _ hh1 hh5 hd (by omega) (by simpa using hs1), sc_val _ _ _ _ hh1 hh5 hd' (by omega) (by simpa using hs2)]
  have n1 : decide ((a : Int) < 0) = false := by simp
  have n2 : decide ((a' : Int) < 0) = false := by simp
  rw [n1, n2]
  simp only [Int.natAbs_natCast, Int.toNat_natCast]
  have e1 : quo how false (a * num / den) (a * num % den) den = quo how false (den' * (a * num) / (den' * den)) (den' * (a * num) % (den' * den)) (den' * den) := by
    rw [Nat.mul_div_mul_left _ _ k2, Nat.mul_mod_mul_left, quo_mul k2]
  have e2 : quo how false (a' * num' / den') (a' * num' % den') den' = quo how false (den * (a' * num') / (den * den')) (den * (a' * num') % (den * den')) (den * den') := by
    rw [Nat.mul_div_mul_left _ _ k1, Nat.mul_mod_mul_left, quo_mul k1]
  refine ⟨by rw [e1, e2, show den' * (a * num) = den * (a' * num') by rw [Nat.mul_comm den', h1, Nat.mul_comm], Nat.mul_comm den' den], by trivial, ?_⟩
  show 0 ≤ sgn false _
  unfold sgn
  rw [if_neg (by simp)]
  omega
end Sc
namespace Rd
def distScale (i : Int) : Int := if i = 0 then 10000 else if i = 1 then 10000000 else if i = 2 then 9144 else 16093440
def refDistVal (n : Int) (L : List Int) : Int × Int := Sc.sc (L.getD 0 0 * 1000000 + (if L.length = 2 then L.getD 1 0 else 0)) (distScale (n / 4)) 1000000000 4
def refDist (s : ByteArray) : Int × Nat × Int :=
  if 1000 < s.size then (0, 0, 3)
  else if (firstT s distAll 0 0).1 < 0 then (0, (firstT s distAll 0 0).2.2, 6)
  else if (refDistVal (firstT s distAll 0 0).1 (firstT s distAll 0 0).2.1).2 = 0 ∧ (refDistVal (firstT s distAll 0 0).1 (firstT s distAll 0 0).2.1).1 ≤ 1000000000 then ((refDistVal (firstT s distAll 0 0).1 (firstT s distAll 0 0).2.1).1, 0, 0) else (0, 0, 9)
theorem fold_max {α : Type} (g : α → Nat) : ∀ (l : List α) (P far : Nat), (∀ f, f ∈ l → g f ≤ P) → (far = P ∨ (far ≤ P ∧ ∃ f, f ∈ l ∧ g f = P)) → l.foldl (fun a f => max a (g f)) far = P
  | [], P, far, _, h => by
    rcases h with h | ⟨_, f, hf, _⟩
    · exact h
    · cases hf
  | f :: l, P, far, hle, h => by
    have h1 := hle f (List.mem_cons_self ..)
    rw [List.foldl_cons]
    refine fold_max g l P _ (fun x hx => hle x (List.mem_cons_of_mem _ hx)) ?_
    rcases h with h | ⟨h2, x, hx, he⟩
    · exact Or.inl (by omega)
    · rcases List.mem_cons.1 hx with rfl | hx
      · exact Or.inl (by omega)
      · exact Or.inr ⟨by omega, x, hx, he⟩
/-- the number of a form's two marks -/
def bits2 (b1 b2 : Bool) : Nat := (if b1 = true then 1 else 0) + (if b2 = true then 2 else 0)
theorem all_at (b1 b2 : Bool) {i : Nat} (hi : i < 4) : distAll[4 * i + bits2 b1 b2]? = some (distT b1 b2 ([mB, kmB, ydB, miB].getD i mB)) := by
  rcases (show i = 0 ∨ i = 1 ∨ i = 2 ∨ i = 3 by omega) with rfl | rfl | rfl | rfl <;> cases b1 <;> cases b2 <;> rfl
theorem all_mem {f : List Tok} (hf : f ∈ distAll) : ∃ (c1 c2 : Bool) (i : Nat), i < 4 ∧ f = distT c1 c2 ([mB, kmB, ydB, miB].getD i mB) := by
  simp only [distAll, distForms, List.mem_append, List.mem_cons, List.not_mem_nil, or_false] at hf
  rcases hf with (rfl | rfl | rfl | rfl) | (rfl | rfl | rfl | rfl) | (rfl | rfl | rfl | rfl) | (rfl | rfl | rfl | rfl)
  · exact ⟨false, false, 0, by omega, rfl⟩
  · exact ⟨true, false, 0, by omega, rfl⟩
  · exact ⟨false, true, 0, by omega, rfl⟩
  · exact ⟨true, true, 0, by omega, rfl⟩
  · exact ⟨false, false, 1, by omega, rfl⟩
  · exact ⟨true, false, 1, by omega, rfl⟩
  · exact ⟨false, true, 1, by omega, rfl⟩
  · exact ⟨true, true, 1, by omega, rfl⟩
  · exact ⟨false, false, 2, by omega, rfl⟩
  · exact ⟨true, false, 2, by omega, rfl⟩
  · exact ⟨false, true, 2, by omega, rfl⟩
  · exact ⟨true, true, 2, by omega, rfl⟩
  · exact ⟨false, false, 3, by omega, rfl⟩
  · exact ⟨true, false, 3, by omega, rfl⟩
  · exact ⟨false, true, 3, by omega, rfl⟩
  · exact ⟨true, true, 3, by omega, rfl⟩
theorem all_get {j : Nat} {f : List Tok} (h : distAll[j]? = some f) : ∃ (c1 c2 : Bool) (i : Nat), i < 4 ∧ j = 4 * i + bits2 c1 c2 ∧ f = distT c1 c2 ([mB, kmB, ydB, miB].getD i mB) := by
  have hj : j < 16 := (List.getElem?_eq_some_iff.1 h).1
  have key : ∀ j < 16, ∃ (c1 c2 : Bool) (i : Nat), i < 4 ∧ j = 4 * i + bits2 c1 c2 := fun j hj => by
    refine ⟨decide (j % 2 = 1), decide (j / 2 % 2 = 1), j / 4, by omega, ?_⟩
    unfold bits2
    simp only [decide_eq_true_eq]
    split <;> split <;> omega
  obtain ⟨c1, c2, i, hi, e⟩ := key j hj
  refine ⟨c1, c2, i, hi, e, ?_⟩
  rw [e, all_at c1 c2 hi] at h
  exact (Option.some.inj h).symm
theorem bits2_lt (b1 b2 : Bool) : bits2 b1 b2 < 4 := by cases b1 <;> cases b2 <;> decide
theorem word_ok {i : Nat} (hi : i < 4) : 0 < ([mB, kmB, ydB, miB].getD i mB).size ∧ byte ([mB, kmB, ydB, miB].getD i mB) 0 ≠ 46 ∧ byte ([mB, kmB, ydB, miB].getD i mB) 0 ≠ 32 := by
  rcases (show i = 0 ∨ i = 1 ∨ i = 2 ∨ i = 3 by omega) with rfl | rfl | rfl | rfl <;> decide
theorem word_inj {i j : Nat} (hi : i < 4) (hj : j < 4) (h : [mB, kmB, ydB, miB].getD i mB = [mB, kmB, ydB, miB].getD j mB) : i = j := by
  rcases (show i = 0 ∨ i = 1 ∨ i = 2 ∨ i = 3 by omega) with rfl | rfl | rfl | rfl <;> rcases (show j = 0 ∨ j = 1 ∨ j = 2 ∨ j = 3 by omega) with rfl | rfl | rfl | rfl <;> first | rfl | (exfalso; revert h; decide)
theorem idx_four (a b c d r : ByteArray) : Go.Lib.idxOfS [a, b, c, d] r = if a = r then 0 else if b = r then 1 else if c = r then 2 else if d = r then 3 else -1 := by
  unfold Go.Lib.idxOfS
  simp only [Go.Lib.idxFromS]
  by_cases h1 : a = r
  · simp [h1]
  · by_cases h2 : b = r
    · simp [h1, h2]
    · by_cases h3 : c = r
      · simp [h1, h2, h3]
      · by_cases h4 : d = r
        · simp [h1, h2, h3, h4]
        · simp [h1, h2, h3, h4]
theorem all_in (c1 c2 : Bool) {i : Nat} (hi : i < 4) : distT c1 c2 ([mB, kmB, ydB, miB].getD i mB) ∈ distAll := List.mem_of_getElem? (all_at c1 c2 hi)
/-- the furthest of four words -/
def far4 (s : ByteArray) (p : Nat) : Nat := max (max (max (exactAt s mB p true).1 (exactAt s kmB p true).1) (exactAt s ydB p true).1) (exactAt s miB p true).1
theorem last_four (s : ByteArray) (p : Nat) : lastAt s [mB, kmB, ydB, miB] p true = (Go.Lib.idxOfS [mB, kmB, ydB, miB] (s.extract p s.size), far4 s p, decide (0 ≤ Go.Lib.idxOfS [mB, kmB, ydB, miB] (s.extract p s.size))) := by
  have e : lastAt s [mB, kmB, ydB, miB] p true = (Go.Lib.idxOfS [mB, kmB, ydB, miB] (s.extract p s.size), max (max (max (max p (exactAt s mB p true).1) (exactAt s kmB p true).1) (exactAt s ydB p true).1) (exactAt s miB p true).1, decide (0 ≤ Go.Lib.idxOfS [mB, kmB, ydB, miB] (s.extract p s.size))) := rfl
  have g := exactAt_ge s mB p true
  rw [e, Nat.max_eq_right g]
  rfl
theorem far4_le (s : ByteArray) (p : Nat) {i : Nat} (hi : i < 4) : (exactAt s ([mB, kmB, ydB, miB].getD i mB) p true).1 ≤ far4 s p := by
  unfold far4
  rcases (show i = 0 ∨ i = 1 ∨ i = 2 ∨ i = 3 by omega) with rfl | rfl | rfl | rfl
  · show (exactAt s mB p true).1 ≤ _; omega
  · show (exactAt s kmB p true).1 ≤ _; omega
  · show (exactAt s ydB p true).1 ≤ _; omega
  · show (exactAt s miB p true).1 ≤ _; omega
theorem far4_at (s : ByteArray) (p : Nat) : ∃ i, i < 4 ∧ (exactAt s ([mB, kmB, ydB, miB].getD i mB) p true).1 = far4 s p := by
  have h : far4 s p = (exactAt s mB p true).1 ∨ far4 s p = (exactAt s kmB p true).1 ∨ far4 s p = (exactAt s ydB p true).1 ∨ far4 s p = (exactAt s miB p true).1 := by unfold far4; omega
  rcases h with h | h | h | h
  · exact ⟨0, by omega, h.symm⟩
  · exact ⟨1, by omega, h.symm⟩
  · exact ⟨2, by omega, h.symm⟩
  · exact ⟨3, by omega, h.symm⟩
/-- which form a text has, or how far forms go -/
theorem dist_first {s : ByteArray} {b1 b2 : Bool} {e : Nat × Bool} {L : List Int} (h : DistW s b1 b2 e L) :
    (∀ i : Nat, i < 4 → e.2 = true → [mB, kmB, ydB, miB].getD i mB = s.extract e.1 s.size → firstT s distAll 0 0 = (((4 * i + bits2 b1 b2 : Nat) : Int), L, 0)) ∧
    ((∀ i, i < 4 → ¬ (e.2 = true ∧ [mB, kmB, ydB, miB].getD i mB = s.extract e.1 s.size)) → firstT s distAll 0 0 = (-1, [], (lastAt s [mB, kmB, ydB, miB] e.1 e.2).2.1)) := by
  have no : ∀ c1 c2 i, i < 4 → ¬ ((c1 = b1 ∧ c2 = b2 ∧ e.2 = true) ∧ [mB, kmB, ydB, miB].getD i mB = s.extract e.1 s.size) → (matchT s (distT c1 c2 ([mB, kmB, ydB, miB].getD i mB)) 0).2.2 = false := fun c1 c2 i hi hn => by
    obtain ⟨w1, w2, w3⟩ := word_ok hi
    by_cases hc : c1 = b1 ∧ c2 = b2 ∧ e.2 = true
    · obtain ⟨rfl, rfl, he⟩ := hc
      rw [(h.on_ he _).2.1, exact_whole h.le]
      exact decide_eq_false (fun hx => hn ⟨⟨rfl, rfl, he⟩, hx⟩)
    · refine (h.off c1 c2 _ ?_ w1 w2 w3).1
      by_cases x1 : c1 = b1
      · by_cases x2 : c2 = b2
        · right; right
          cases hx : e.2 with
          | false => rfl
          | true => exact absurd ⟨x1, x2, hx⟩ hc
        · exact Or.inr (Or.inl x2)
      · exact Or.inl x1
  refine ⟨fun i hi he hw => ?_, fun hno => ?_⟩
  · have hat := all_at b1 b2 hi
    have hok : (matchT s (distT b1 b2 ([mB, kmB, ydB, miB].getD i mB)) 0).2.2 = true := by
      rw [(h.on_ he _).2.1, exact_whole h.le]
      exact decide_eq_true hw
    have := firstT_at (s := s) distAll 0 0 (4 * i + bits2 b1 b2) _ hat hok (fun j g hj hg => by
      obtain ⟨c1, c2, k, hk, hjk, rfl⟩ := all_get hg
      refine no c1 c2 k hk (fun ⟨⟨x1, x2, _⟩, x3⟩ => ?_)
      have hik : k = i := word_inj hk hi (x3.trans hw.symm)
      rw [x1, x2, hik] at hjk
      omega)
    rw [this, (h.on_ he _).2.2, Nat.zero_add]
  · have hf := firstT_none (s := s) distAll 0 0 (fun f hf => by
      obtain ⟨c1, c2, k, hk, rfl⟩ := all_mem hf
      exact no c1 c2 k hk (fun ⟨⟨_, _, x⟩, y⟩ => hno k hk ⟨x, y⟩))
    rw [hf]
    obtain ⟨P, hP⟩ : ∃ P, (lastAt s [mB, kmB, ydB, miB] e.1 e.2).2.1 = P := ⟨_, rfl⟩
    rw [hP]
    cases he : e.2 with
    | false =>
      rw [he] at hP
      have hP : e.1 = P := hP
      obtain ⟨d1, d2, hd⟩ := h.dead he
      have hmax := fold_max (fun f => (matchT s f 0).1) distAll P 0 (fun f hf => by
        obtain ⟨c1, c2, k, hk, rfl⟩ := all_mem hf
        obtain ⟨w1, w2, w3⟩ := word_ok hk
        rw [← hP]
        exact (h.off c1 c2 _ (Or.inr (Or.inr he)) w1 w2 w3).2) (Or.inr ⟨Nat.zero_le _, _, all_in d1 d2 (show 0 < 4 by omega), by
          obtain ⟨w1, w2, w3⟩ := word_ok (show 0 < 4 by omega)
          rw [← hP]
          exact hd _ w1 w2 w3⟩)
      rw [hmax]
    | true =>
      rw [he, last_four] at hP
      have hP : far4 s e.1 = P := hP
      have hge := fun w => exactAt_ge s w e.1 true
      have h1 : e.1 ≤ P := by
        have a := far4_le s e.1 (show 0 < 4 by omega)
        have b := hge ([mB, kmB, ydB, miB].getD 0 mB)
        omega
      obtain ⟨k0, hk0, hat0⟩ := far4_at s e.1
      have hmax := fold_max (fun f => (matchT s f 0).1) distAll P 0 (fun f hf => by
        obtain ⟨c1, c2, k, hk, rfl⟩ := all_mem hf
        obtain ⟨w1, w2, w3⟩ := word_ok hk
        by_cases hc : c1 = b1 ∧ c2 = b2
        · obtain ⟨rfl, rfl⟩ := hc
          show (matchT s _ 0).1 ≤ P
          rw [(h.on_ he _).1, ← hP]
          exact far4_le s e.1 hk
        · have hc : c1 ≠ b1 ∨ c2 ≠ b2 ∨ e.2 = false := by
            by_cases x1 : c1 = b1
            · exact Or.inr (Or.inl fun x2 => hc ⟨x1, x2⟩)
            · exact Or.inl x1
          exact Nat.le_trans (h.off c1 c2 _ hc w1 w2 w3).2 h1) (Or.inr ⟨Nat.zero_le _, _, all_in b1 b2 hk0, by
          show (matchT s _ 0).1 = P
          rw [(h.on_ he _).1, hat0]
          exact hP⟩)
      rw [hmax]
end Rd

/- What is written of a duration, a pace or a distance is read as it was (plain). -/
namespace Rd
open Go.Lib (decDigits itoa)
theorem numLoop_far (s : ByteArray) (digits : Nat) (least most : Int) (ok : Bool) : ∀ (f : Nat) (n : Int) (m p : Nat), (numLoop s digits least most ok f n m p).2.2 ≤ p + f
  | 0, n, m, p => Nat.le_refl _
  | f + 1, n, m, p => by
    unfold numLoop
    split
    · split
      · show p ≤ _; omega
      · have := numLoop_far s digits least most ok f (10 * n + ((byte s p : Int) - 48)) (m + 1) (p + 1)
        omega
    · show p ≤ _; omega
theorem exactLoop_far (s t : ByteArray) : ∀ (f i p : Nat), (exactLoop s t f i p).1 ≤ p + f
  | 0, _, p => Nat.le_refl _
  | f + 1, i, p => by
    unfold exactLoop
    split
    · split
      · have := exactLoop_far s t f (i + 1) (p + 1); omega
      · show p ≤ _; omega
    · show p ≤ _; omega
theorem exactAt_far (s t : ByteArray) (p : Nat) (ok : Bool) : (exactAt s t p ok).1 ≤ p + t.size := by
  unfold exactAt
  split
  · exact exactLoop_far s t _ _ _
  · show p ≤ _; omega
theorem pairAt_far (s : ByteArray) (most : Int) (p : Nat) (ok : Bool) : (pairAt s most p ok).2.1 ≤ p + 2 := by
  have st : ∀ (u n : Int) (q : Nat) (b : Bool), (pairStep s most u (n, q, b)).2.1 ≤ q + 1 := fun u n q b => by
    unfold pairStep
    split
    · exact Nat.le_refl _
    · show q ≤ q + 1; omega
  have h1 := st 10 0 p ok
  have h2 := st 1 (pairStep s most 10 (0, p, ok)).1 (pairStep s most 10 (0, p, ok)).2.1 (pairStep s most 10 (0, p, ok)).2.2
  exact Nat.le_trans h2 (Nat.succ_le_succ h1)
theorem byte_after {s : ByteArray} {pre post : List UInt8} {c : UInt8} (h : sB s = pre ++ (c :: post)) {p : Nat} (hp : pre.length = p) : p < s.size ∧ byte s p = c.toNat := (beg_of (l := c :: post) (post := []) (by rw [List.append_nil]; exact h) hp).head
theorem no_dig {s : ByteArray} {p c : Nat} (h : p < s.size ∧ byte s p = c) (hc : c < 48 ∨ 57 < c) : digAt s p true = false := by
  unfold digAt isD
  rw [h.2]
  simp
  omega
theorem no_end {s : ByteArray} {p : Nat} (h : s.size ≤ p) : digAt s p true = false := by
  unfold digAt
  simp
  omega
theorem numOk_yes {least : Int} {k l p : Nat} (h : 0 < l) (h2 : least ≤ (k : Int)) : numOk least true ((k : Int), l, p) = true := by
  unfold numOk
  simp
  omega
theorem dec_pos (k : Nat) : 0 < (decDigits k).length := List.length_pos_iff.2 (dec_all k).2.2.2.2
theorem size_sB (s : ByteArray) : s.size = (sB s).length := rfl
/-- durations -/
theorem dur_back (n : Int) (h0 : 0 ≤ n) (h1 : n ≤ 3599999) : ranged (readForms (durText n) [shortF, longF, letteredF]) 0 3599999 = (n, 0, 0) := by
  have ok : ∀ F : ByteArray → Int × Nat × Bool, ∀ r, F (durText n) = (n, (durText n).size, true) → formsLoop (durText n) (F :: r) 0 = (n, 0, 0) := fun F r h => by
    unfold formsLoop
    rw [h]
    simp
  have rg : ∀ x, x = (n, 0, 0) → ranged x 0 3599999 = (n, 0, 0) := fun x hx => by
    subst hx
    unfold ranged
    rw [if_neg]
    rintro ⟨_, h2⟩
    have h2 : n < 0 ∨ 3599999 < n := h2
    omega
  obtain ⟨k, rfl⟩ := Int.eq_ofNat_of_zero_le h0
  by_cases hs : (k : Int) < 3600
  · have hT : durText (k : Int) = itoaB ((k / 60 : Nat) : Int) ++ colon ++ padB ((k % 60 : Nat) : Int) := by
      unfold durText
      rw [if_pos hs, show ((k : Int) / 60) = ((k / 60 : Nat) : Int) by omega, show ((k : Int) % 60) = ((k % 60 : Nat) : Int) by omega]
    have hL : sB (durText (k : Int)) = decDigits (k / 60) ++ (58 :: [dgt (k % 60 / 10), dgt (k % 60 % 10)]) := by
      rw [hT, sB_app, sB_app, sB_itoa, sB_pad (by omega), List.append_assoc]
      rfl
    obtain ⟨s, hse⟩ : ∃ s, durText (k : Int) = s := ⟨_, rfl⟩
    rw [hse] at hL ok ⊢
    have hlen : s.size = (decDigits (k / 60)).length + 3 := by rw [size_sB, hL, List.length_append]; rfl
    have hd2 := dec_len (k / 60) 1 (by omega)
    have hp := dec_pos (k / 60)
    obtain ⟨q, hq⟩ : ∃ q, (decDigits (k / 60)).length = q := ⟨_, rfl⟩
    have b0 : Beg s 0 (decDigits (k / 60)) := beg_of (pre := []) (l := decDigits (k / 60)) hL rfl
    have b1 : Beg s q (sB colon) := beg_of (pre := decDigits (k / 60)) (l := [58]) (post := [dgt (k % 60 / 10), dgt (k % 60 % 10)]) hL hq
    have b2 : Beg s (q + 1) [dgt (k % 60 / 10), dgt (k % 60 % 10)] := beg_of (pre := decDigits (k / 60) ++ [58]) (post := []) (by rw [hL, List.append_assoc]; rfl) (by rw [List.length_append, hq]; rfl)
    have e0 : numAt s 2 0 59 true 0 = (((k / 60 : Nat) : Int), q, q) := by
      rw [numAt_beg b0 hd2 (by omega) (Or.inl (Int.le_refl _)) (Or.inr (by rw [Nat.zero_add, hq]; exact no_dig (byte_after hL hq) (by decide))), hq, Nat.zero_add]
    have e1 : exactAt s colon q true = (q + 1, true) := exactAt_beg b1 (by show q + 1 ≤ _; omega)
    have e2 : pairAt s 59 (q + 1) true = (((k % 60 : Nat) : Int), q + 3, true) := pairAt_beg (by omega) (by omega) b2
    have hF : shortF s = ((k : Int), s.size, true) := by
      unfold shortF
      simp only [e0]
      rw [numOk_yes (by omega) (by omega), e1, e2]
      refine Prod.ext (by show 60 * ((k / 60 : Nat) : Int) + ((k % 60 : Nat) : Int) = k; omega) (Prod.ext (by show q + 3 = s.size; omega) rfl)
    refine rg _ ?_
    unfold readForms
    rw [if_neg (by omega)]
    exact ok shortF _ hF
  · have hT : durText (k : Int) = itoaB ((k / 3600 : Nat) : Int) ++ colon ++ padB ((k / 60 % 60 : Nat) : Int) ++ colon ++ padB ((k % 60 : Nat) : Int) := by
      unfold durText
      rw [if_neg hs, show ((k : Int) / 3600) = ((k / 3600 : Nat) : Int) by omega, show ((k : Int) / 60 % 60) = ((k / 60 % 60 : Nat) : Int) by omega, show ((k : Int) % 60) = ((k % 60 : Nat) : Int) by omega]
    obtain ⟨D, hD⟩ : ∃ D, decDigits (k / 3600) = D := ⟨_, rfl⟩
    have hL : sB (durText (k : Int)) = D ++ (58 :: dgt (k / 60 % 60 / 10) :: dgt (k / 60 % 60 % 10) :: 58 :: [dgt (k % 60 / 10), dgt (k % 60 % 10)]) := by
      rw [hT, sB_app, sB_app, sB_app, sB_app, sB_itoa, sB_pad (by omega), sB_pad (by omega), hD, List.append_assoc, List.append_assoc, List.append_assoc]
      rfl
    obtain ⟨s, hse⟩ : ∃ s, durText (k : Int) = s := ⟨_, rfl⟩
    rw [hse] at hL ok ⊢
    have hd2 := dec_len (k / 3600) 2 (by omega)
    have hp := dec_pos (k / 3600)
    rw [hD] at hd2 hp
    have hlen : s.size = D.length + 6 := by rw [size_sB, hL, List.length_append]; rfl
    obtain ⟨q, hq⟩ : ∃ q, D.length = q := ⟨_, rfl⟩
    have b0 : Beg s 0 (decDigits (k / 3600)) := beg_of (pre := []) (l := decDigits (k / 3600)) (by rw [hD]; exact hL) rfl
    have b1 : Beg s q (sB colon) := beg_of (pre := D) (l := [58]) (post := _) hL hq
    have b2 : Beg s (q + 1) [dgt (k / 60 % 60 / 10), dgt (k / 60 % 60 % 10)] := beg_of (pre := D ++ [58]) (post := 58 :: [dgt (k % 60 / 10), dgt (k % 60 % 10)]) (by rw [hL, List.append_assoc]; rfl) (by rw [List.length_append, hq]; rfl)
    have b3 : Beg s (q + 3) (sB colon) := beg_of (pre := D ++ [58, dgt (k / 60 % 60 / 10), dgt (k / 60 % 60 % 10)]) (l := [58]) (post := [dgt (k % 60 / 10), dgt (k % 60 % 10)]) (by rw [hL, List.append_assoc]; rfl) (by rw [List.length_append, hq]; rfl)
    have b4 : Beg s (q + 4) [dgt (k % 60 / 10), dgt (k % 60 % 10)] := beg_of (pre := D ++ [58, dgt (k / 60 % 60 / 10), dgt (k / 60 % 60 % 10), 58]) (post := []) (by rw [hL, List.append_assoc]; rfl) (by rw [List.length_append, hq]; rfl)
    have e0 : numAt s 3 1 999 true 0 = (((k / 3600 : Nat) : Int), q, q) := by
      rw [numAt_beg b0 (by rw [hD]; exact hd2) (by omega) (Or.inr (by omega)) (Or.inr (by rw [Nat.zero_add, hD, hq]; exact no_dig (byte_after hL hq) (by decide))), hD, hq, Nat.zero_add]
    have e1 : exactAt s colon q true = (q + 1, true) := exactAt_beg b1 (by show q + 1 ≤ _; omega)
    have e2 : pairAt s 59 (q + 1) true = (((k / 60 % 60 : Nat) : Int), q + 3, true) := pairAt_beg (by omega) (by omega) b2
    have e3 : exactAt s colon (q + 3) true = (q + 4, true) := exactAt_beg b3 (by show q + 4 ≤ _; omega)
    have e4 : pairAt s 59 (q + 4) true = (((k % 60 : Nat) : Int), q + 6, true) := pairAt_beg (by omega) (by omega) b4
    have hF : longF s = ((k : Int), s.size, true) := by
      unfold longF
      simp only [e0]
      rw [numOk_yes (by omega) (by omega), e1, e2]
      simp only
      rw [e3, e4]
      refine Prod.ext (by show 3600 * ((k / 3600 : Nat) : Int) + 60 * ((k / 60 % 60 : Nat) : Int) + ((k % 60 : Nat) : Int) = k; omega) (Prod.ext (by show q + 6 = s.size; omega) rfl)
    have hS : (shortF s).2.1 < s.size := by
      have f1 := numLoop_far s 2 0 59 true 2 0 0 0
      have f2 := exactAt_far s colon (numAt s 2 0 59 true 0).2.2 (numOk 0 true (numAt s 2 0 59 true 0))
      have f3 := pairAt_far s 59 (exactAt s colon (numAt s 2 0 59 true 0).2.2 (numOk 0 true (numAt s 2 0 59 true 0))).1 (exactAt s colon (numAt s 2 0 59 true 0).2.2 (numOk 0 true (numAt s 2 0 59 true 0))).2
      have f1 : (numAt s 2 0 59 true 0).2.2 ≤ 0 + 2 := f1
      have f2 : _ ≤ _ + 1 := f2
      show (pairAt s 59 (exactAt s colon (numAt s 2 0 59 true 0).2.2 (numOk 0 true (numAt s 2 0 59 true 0))).1 (exactAt s colon (numAt s 2 0 59 true 0).2.2 (numOk 0 true (numAt s 2 0 59 true 0))).2).2.1 < s.size
      omega
    refine rg _ ?_
    unfold readForms
    rw [if_neg (by omega)]
    unfold formsLoop
    have hw : ((shortF s).2.2 && decide ((shortF s).2.1 = s.size)) = false := by
      rw [decide_eq_false (by omega), Bool.and_false]
    rw [hw, if_neg (by simp)]
    unfold formsLoop
    rw [hF]
    simp
end Rd
