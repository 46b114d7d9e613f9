/- Several texts of this claim in one. -/
import Derived.Lib.Bytealg
import Derived.Lib.AtoiTie
import Derived.Lib.ItoaNum
import Derived.Lib.ItoaLen
import Derived.Test.YtcdilamkkodjjaaGreatDoorDt1
import Derived.Lib.SlicesS
import Derived.Test.YtcdilamkkodjjaaGreatDoorProg
import Derived.WalkKit
import Derived.WalkSpells
import Derived.WalkLawsBesides
import Derived.Lib.Hide
import Derived.Test.YtcdilamkkodjjaaGreatDoorShelf
import Derived.RegionTactic
import Derived.ChangeAlike
import Derived.Deep.QuietTactic
import Derived.BigQuiet
/- What the functions of a reader do, in plain words. -/
namespace Rd
def byte (s : ByteArray) (p : Nat) : Nat := if h : p < s.size then s[p].toNat else 0
def isD (c : Nat) : Bool := decide (48 ≤ c) && decide (c ≤ 57)
/-- whether a digit comes next -/
def digAt (s : ByteArray) (p : Nat) (ok : Bool) : Bool := ok && (decide (p < s.size) && isD (byte s p))
theorem byte_lt {s : ByteArray} {p : Nat} (h : p < s.size) : byte s p = s[p].toNat := by unfold byte; rw [dif_pos h]
theorem byte_le (s : ByteArray) (p : Nat) : byte s p < 256 := by
  unfold byte; split
  · exact UInt8.toNat_lt _
  · omega
theorem isD_bounds {c : Nat} (h : isD c = true) : 48 ≤ c ∧ c ≤ 57 := by unfold isD at h; simpa using h
theorem digAt_true {s : ByteArray} {p : Nat} {ok : Bool} (h : digAt s p ok = true) : ok = true ∧ p < s.size ∧ 48 ≤ byte s p ∧ byte s p ≤ 57 := by
  unfold digAt isD at h; simpa using h
/-- does a number of a form stop before a further digit? -/
def stops (least most n next : Int) (m : Nat) : Bool := (decide (0 < m) && decide (n = 0)) || decide (most < next) || (decide (next = 0) && decide (0 < least))
/-- the rounds of 'number': what was read so far, how many digits, and where -/
def numLoop (s : ByteArray) (digits : Nat) (least most : Int) (ok : Bool) : Nat → Int → Nat → Nat → Int × Nat × Nat
  | 0, n, m, p => (n, m, p)
  | f + 1, n, m, p =>
    if m < digits ∧ digAt s p ok = true then
      if stops least most n (10 * n + ((byte s p : Int) - 48)) m = true then (n, m, p)
      else numLoop s digits least most ok f (10 * n + ((byte s p : Int) - 48)) (m + 1) (p + 1)
    else (n, m, p)
def numAt (s : ByteArray) (digits : Nat) (least most : Int) (ok : Bool) (p : Nat) : Int × Nat × Nat := numLoop s digits least most ok digits 0 0 p
def numOk (least : Int) (ok : Bool) (x : Int × Nat × Nat) : Bool := ok && decide (0 < x.2.1) && decide (least ≤ x.1)
theorem numLoop_stop {s : ByteArray} {digits : Nat} {least most : Int} {ok : Bool} {f : Nat} {n : Int} {m p : Nat} (h : ¬ (m < digits ∧ digAt s p ok = true)) :
    numLoop s digits least most ok f n m p = (n, m, p) := by
  cases f <;> simp [numLoop, h]
theorem numLoop_break {s : ByteArray} {digits : Nat} {least most : Int} {ok : Bool} {f : Nat} {n : Int} {m p : Nat} (h : m < digits ∧ digAt s p ok = true)
    (h2 : stops least most n (10 * n + ((byte s p : Int) - 48)) m = true) : numLoop s digits least most ok f n m p = (n, m, p) := by
  cases f <;> simp [numLoop, h, h2]
theorem numLoop_next {s : ByteArray} {digits : Nat} {least most : Int} {ok : Bool} {f : Nat} {n : Int} {m p : Nat} (h : m < digits ∧ digAt s p ok = true)
    (h2 : stops least most n (10 * n + ((byte s p : Int) - 48)) m = false) :
    numLoop s digits least most ok (f + 1) n m p = numLoop s digits least most ok f (10 * n + ((byte s p : Int) - 48)) (m + 1) (p + 1) := by
  simp [numLoop, h, h2]
/-- two digits -/
def pairStep (s : ByteArray) (most unit : Int) (x : Int × Nat × Bool) : Int × Nat × Bool :=
  if digAt s x.2.1 x.2.2 = true ∧ x.1 + unit * ((byte s x.2.1 : Int) - 48) ≤ most then (x.1 + unit * ((byte s x.2.1 : Int) - 48), x.2.1 + 1, true) else (x.1, x.2.1, false)
def pairAt (s : ByteArray) (most : Int) (p : Nat) (ok : Bool) : Int × Nat × Bool := pairStep s most 1 (pairStep s most 10 (0, p, ok))
/-- just these bytes: from the i-th on -/
def exactLoop (s t : ByteArray) : Nat → Nat → Nat → Nat × Bool
  | 0, _, p => (p, true)
  | f + 1, i, p => if i < t.size then (if p < s.size ∧ byte s p = byte t i then exactLoop s t f (i + 1) (p + 1) else (p, false)) else (p, true)
def exactAt (s t : ByteArray) (p : Nat) (ok : Bool) : Nat × Bool := if ok = true then exactLoop s t t.size 0 p else (p, false)
def oneAt (s t : ByteArray) (p : Nat) (ok : Bool) : Int × Nat × Bool :=
  if ok = true ∧ p < s.size then
    let k := Go.Lib.indexByte t.data.toList (byte s p).toUInt8
    if 0 ≤ k then (k, p + 1, true) else (k, p, false)
  else (-1, p, false)
end Rd

/- The forms of texts, in plain words; what the reader's values are at most. -/
namespace Rd
theorem numLoop_pos (s : ByteArray) (digits : Nat) (least most : Int) (ok : Bool) : ∀ (f : Nat) (n : Int) (m p : Nat), p ≤ s.size → (numLoop s digits least most ok f n m p).2.2 ≤ s.size
  | 0, n, m, p, h => h
  | f + 1, n, m, p, h => by
    unfold numLoop
    split
    · split
      · exact h
      · rename_i h1 _
        have := (digAt_true h1.2).2.1
        exact numLoop_pos s digits least most ok f _ _ _ (by omega)
    · exact h
/-- the values that 'number' gives are small -/
theorem numLoop_val (s : ByteArray) (digits : Nat) (least most : Int) (ok : Bool) : ∀ (f : Nat) (n : Int) (m p : Nat), 0 ≤ n → (n ≤ most ∨ n = 0) → 0 ≤ (numLoop s digits least most ok f n m p).1 ∧ ((numLoop s digits least most ok f n m p).1 ≤ most ∨ (numLoop s digits least most ok f n m p).1 = 0)
  | 0, n, m, p, h, h2 => ⟨h, h2⟩
  | f + 1, n, m, p, h, h2 => by
    unfold numLoop
    split
    · rename_i h1
      have hd := digAt_true h1.2
      cases hst : stops least most n (10 * n + ((byte s p : Int) - 48)) m
      · rw [if_neg (by simp)]
        refine numLoop_val s digits least most ok f _ _ _ (by omega) ?_
        unfold stops at hst
        simp only [Bool.or_eq_false_iff, decide_eq_false_iff_not] at hst
        omega
      · rw [if_pos rfl]; exact ⟨h, h2⟩
    · exact ⟨h, h2⟩
theorem pairStep_val {s : ByteArray} {most u n : Int} {q : Nat} {b : Bool} (hu : 0 ≤ u) (h : 0 ≤ n) (hm : n ≤ most) : 0 ≤ (pairStep s most u (n, q, b)).1 ∧ (pairStep s most u (n, q, b)).1 ≤ most := by
  unfold pairStep
  split
  · rename_i h1
    dsimp only at h1
    have hd := digAt_true h1.1
    have : 0 ≤ u * ((byte s q : Int) - 48) := Int.mul_nonneg hu (by omega)
    exact ⟨by show 0 ≤ n + u * ((byte s q : Int) - 48); omega, h1.2⟩
  · exact ⟨h, hm⟩
theorem pairAt_val (s : ByteArray) {most : Int} (p : Nat) (ok : Bool) (hm : 0 ≤ most) : 0 ≤ (pairAt s most p ok).1 ∧ (pairAt s most p ok).1 ≤ most := by
  unfold pairAt
  have h1 := pairStep_val (s := s) (q := p) (b := ok) (u := 10) (n := 0) (by omega) (by omega) hm
  exact pairStep_val (q := (pairStep s most 10 (0, p, ok)).2.1) (b := (pairStep s most 10 (0, p, ok)).2.2) (by omega) h1.1 h1.2

/-! ### forms -/
def colon : ByteArray := ⟨#[58]⟩
def shortF (s : ByteArray) : Int × Nat × Bool :=
  let m := numAt s 2 0 59 true 0
  let c := exactAt s colon m.2.2 (numOk 0 true m)
  let x := pairAt s 59 c.1 c.2
  (60 * m.1 + x.1, x.2.1, x.2.2)
def longF (s : ByteArray) : Int × Nat × Bool :=
  let h := numAt s 3 1 999 true 0
  let c := exactAt s colon h.2.2 (numOk 1 true h)
  let m := pairAt s 59 c.1 c.2
  let d := exactAt s colon m.2.1 m.2.2
  let x := pairAt s 59 d.1 d.2
  (3600 * h.1 + 60 * m.1 + x.1, x.2.1, x.2.2)
/-- the value of the first form that a text has, how far the beginnings of forms go, the error -/
def formsLoop (s : ByteArray) : List (ByteArray → Int × Nat × Bool) → Nat → Int × Nat × Int
  | [], at_ => (0, at_, 6)
  | F :: r, at_ => if ((F s).2.2 && decide ((F s).2.1 = s.size)) = true then ((F s).1, 0, 0) else formsLoop s r (max at_ (F s).2.1)
def readForms (s : ByteArray) (l : List (ByteArray → Int × Nat × Bool)) : Int × Nat × Int := if 1000 < s.size then (0, 0, 3) else formsLoop s l 0
def ranged (x : Int × Nat × Int) (least most : Int) : Int × Nat × Int := if x.2.2 = 0 ∧ (x.1 < least ∨ most < x.1) then (0, 0, 9) else x
end Rd

/- Durations with letters, in plain words. -/
namespace Rd
/-- the last m of the letters h, m, s -/
def lets : Nat → ByteArray
  | 0 => ⟨#[]⟩
  | 1 => ⟨#[115]⟩
  | 2 => ⟨#[109, 115]⟩
  | _ => ⟨#[104, 109, 115]⟩
def unitOf (i : Int) : Int := if i = 0 then 3600 else if i = 1 then 60 else 1
def lettLoop (s : ByteArray) : Nat → Nat → Int → Nat → Bool → Int × Nat × Bool
  | 0, _, sum, p, ok => (sum, p, ok)
  | f + 1, m, sum, p, ok =>
    if m = 0 then (sum, p, ok) else
    let x := numAt s 7 0 9999999 ok p
    let k := oneAt s (lets m) x.2.2 (numOk 0 ok x)
    if k.1 < 0 then (0, k.2.1, k.2.2) else
    let sum' := sum + x.1 * unitOf (k.1 + 3 - m)
    if digAt s k.2.1 k.2.2 = true then lettLoop s f (m - (k.1 + 1).toNat) sum' k.2.1 k.2.2 else (sum', k.2.1, k.2.2)
def letteredF (s : ByteArray) : Int × Nat × Bool := lettLoop s 3 3 0 0 true
theorem lettLoop_end {s : ByteArray} {f : Nat} {sum : Int} {p : Nat} {ok : Bool} : lettLoop s f 0 sum p ok = (sum, p, ok) := by cases f <;> simp [lettLoop]
theorem lettLoop_none {s : ByteArray} {f m : Nat} {sum : Int} {p : Nat} {ok : Bool} {x : Int × Nat × Nat} {k : Int × Nat × Bool} (hm : m ≠ 0) (hx : numAt s 7 0 9999999 ok p = x) (hk : oneAt s (lets m) x.2.2 (numOk 0 ok x) = k) (h : k.1 < 0) :
    lettLoop s (f + 1) m sum p ok = (0, k.2.1, k.2.2) := by simp [lettLoop, hm, hx, hk, h]
theorem lettLoop_last {s : ByteArray} {f m : Nat} {sum : Int} {p : Nat} {ok : Bool} {x : Int × Nat × Nat} {k : Int × Nat × Bool} (hm : m ≠ 0) (hx : numAt s 7 0 9999999 ok p = x) (hk : oneAt s (lets m) x.2.2 (numOk 0 ok x) = k) (h : ¬ k.1 < 0)
    (hd : digAt s k.2.1 k.2.2 = false) : lettLoop s (f + 1) m sum p ok = (sum + x.1 * unitOf (k.1 + 3 - m), k.2.1, k.2.2) := by simp [lettLoop, hm, hx, hk, h, hd]
theorem lettLoop_next {s : ByteArray} {f m : Nat} {sum : Int} {p : Nat} {ok : Bool} {x : Int × Nat × Nat} {k : Int × Nat × Bool} (hm : m ≠ 0) (hx : numAt s 7 0 9999999 ok p = x) (hk : oneAt s (lets m) x.2.2 (numOk 0 ok x) = k) (h : ¬ k.1 < 0)
    (hd : digAt s k.2.1 k.2.2 = true) : lettLoop s (f + 1) m sum p ok = lettLoop s f (m - (k.1 + 1).toNat) (sum + x.1 * unitOf (k.1 + 3 - m)) k.2.1 k.2.2 := by simp [lettLoop, hm, hx, hk, h, hd]
theorem indexByte_lt (l : List UInt8) (c : UInt8) : Go.Lib.indexByte l c < l.length := by
  induction l with
  | nil => simp [Go.Lib.indexByte]
  | cons b l ih =>
    unfold Go.Lib.indexByte
    simp only [List.length_cons]
    split
    · omega
    · split <;> omega
theorem oneAt_lt (s t : ByteArray) (p : Nat) (ok : Bool) : (oneAt s t p ok).1 < t.size ∨ (oneAt s t p ok).1 < 0 := by
  unfold oneAt
  split
  · have := indexByte_lt t.data.toList (byte s p).toUInt8
    have e : (t.data.toList.length : Int) = t.size := rfl
    dsimp only
    split
    · left; show Go.Lib.indexByte _ _ < _; omega
    · right; show Go.Lib.indexByte _ _ < _; omega
  · right; show (-1 : Int) < 0; omega
theorem numAt_val (s : ByteArray) (digits : Nat) (least most : Int) (ok : Bool) (p : Nat) (hm : 0 ≤ most) : 0 ≤ (numAt s digits least most ok p).1 ∧ (numAt s digits least most ok p).1 ≤ most := by
  have := numLoop_val s digits least most ok digits 0 0 p (by omega) (by omega)
  unfold numAt; omega
end Rd

/- Forms of tokens in plain words; the reference's durations are the program's. -/
namespace Rd
/-- a part of a form -/
structure Tok where
  kind : Nat
  text : ByteArray
  low : Int
  high : Int
  digits : Nat
def litT (t : ByteArray) : Tok := ⟨1, t, 0, 0, 0⟩
def numT (low high : Int) (digits : Nat) : Tok := ⟨2, ⟨#[]⟩, low, high, digits⟩
def pairT (high : Int) : Tok := ⟨3, ⟨#[]⟩, 0, high, 0⟩
def partT (digits : Nat) : Tok := ⟨4, ⟨#[]⟩, 0, 0, digits⟩
/-- one to so many digits: value, how many, where -/
def rowLoop (s : ByteArray) (digits : Nat) (ok : Bool) : Nat → Int → Nat → Nat → Int × Nat × Nat
  | 0, n, m, p => (n, m, p)
  | f + 1, n, m, p => if m < digits ∧ digAt s p ok = true then rowLoop s digits ok f (10 * n + ((byte s p : Int) - 48)) (m + 1) (p + 1) else (n, m, p)
def rowAt (s : ByteArray) (digits : Nat) (ok : Bool) (p : Nat) : Int × Nat × Nat := rowLoop s digits ok digits 0 0 p
/-- what run hands back: the place, the value, whether it is complete -/
def runT (s : ByteArray) (t : Tok) (p : Nat) : Nat × Int × Bool :=
  if t.kind = 1 then let c := exactAt s t.text p true; (c.1, 0, c.2)
  else if t.kind = 3 then let x := pairAt s t.high p true; (x.2.1, x.1, x.2.2)
  else if t.kind = 2 then let x := numAt s t.digits t.low t.high true p; (x.2.2, x.1, numOk t.low true x)
  else let x := rowAt s t.digits true p; (x.2.2, x.1 * 10 ^ (t.digits - x.2.1), decide (0 < x.2.1))
def matchT (s : ByteArray) : List Tok → Nat → Nat × List Int × Bool
  | [], p => (p, [], decide (p = s.size))
  | t :: r, p => if (runT s t p).2.2 = true then ((matchT s r (runT s t p).1).1, (if t.kind = 1 then (matchT s r (runT s t p).1).2.1 else (runT s t p).2.1 :: (matchT s r (runT s t p).1).2.1), (matchT s r (runT s t p).1).2.2) else ((runT s t p).1, [], false)
def firstT (s : ByteArray) : List (List Tok) → Nat → Nat → Int × List Int × Nat
  | [], _, far => (-1, [], far)
  | f :: r, i, far => if (matchT s f 0).2.2 = true then ((i : Int), (matchT s f 0).2.1, 0) else firstT s r (i + 1) (max far (matchT s f 0).1)
/-- the first form that a text has -/
theorem firstT_none {s : ByteArray} : ∀ (l : List (List Tok)) (i far : Nat), (∀ f, f ∈ l → (matchT s f 0).2.2 = false) → firstT s l i far = (-1, [], l.foldl (fun a f => max a (matchT s f 0).1) far)
  | [], i, far, _ => rfl
  | f :: r, i, far, h => by
    unfold firstT
    rw [if_neg (by rw [h f (List.mem_cons_self ..)]; simp), firstT_none r (i + 1) _ (fun g hg => h g (List.mem_cons_of_mem _ hg))]
    rfl
theorem firstT_at {s : ByteArray} : ∀ (l : List (List Tok)) (i far k : Nat) (f : List Tok), l[k]? = some f → (matchT s f 0).2.2 = true → (∀ j g, j < k → l[j]? = some g → (matchT s g 0).2.2 = false) → firstT s l i far = (((i + k : Nat) : Int), (matchT s f 0).2.1, 0)
  | [], i, far, k, f, h, _, _ => by simp at h
  | g :: r, i, far, 0, f, h, hf, _ => by
    simp only [List.getElem?_cons_zero, Option.some.injEq] at h
    subst h
    unfold firstT
    rw [if_pos hf]; rfl
  | g :: r, i, far, k + 1, f, h, hf, hl => by
    unfold firstT
    rw [if_neg (by rw [hl 0 g (by omega) rfl]; simp)]
    rw [firstT_at r (i + 1) _ k f (by simpa using h) hf (fun j g' hj hg => hl (j + 1) g' (by omega) (by simpa using hg))]
    rw [show i + 1 + k = i + (k + 1) by omega]
theorem matchT_lit {s t : ByteArray} {r : List Tok} {p : Nat} : matchT s (litT t :: r) p = if (exactAt s t p true).2 = true then matchT s r (exactAt s t p true).1 else ((exactAt s t p true).1, [], false) := by
  rw [matchT]
  simp only [runT, litT, if_pos]
theorem matchT_num {s : ByteArray} {lo hi : Int} {d : Nat} {r : List Tok} {p : Nat} : matchT s (numT lo hi d :: r) p = if numOk lo true (numAt s d lo hi true p) = true then ((matchT s r (numAt s d lo hi true p).2.2).1, (numAt s d lo hi true p).1 :: (matchT s r (numAt s d lo hi true p).2.2).2.1, (matchT s r (numAt s d lo hi true p).2.2).2.2) else ((numAt s d lo hi true p).2.2, [], false) := by
  rw [matchT]
  simp [runT, numT]
theorem matchT_pair {s : ByteArray} {hi : Int} {r : List Tok} {p : Nat} : matchT s (pairT hi :: r) p = if (pairAt s hi p true).2.2 = true then ((matchT s r (pairAt s hi p true).2.1).1, (pairAt s hi p true).1 :: (matchT s r (pairAt s hi p true).2.1).2.1, (matchT s r (pairAt s hi p true).2.1).2.2) else ((pairAt s hi p true).2.1, [], false) := by
  rw [matchT]
  simp [runT, pairT]
theorem exactAt_no {s t : ByteArray} {p : Nat} : exactAt s t p false = (p, false) := rfl
theorem digAt_no {s : ByteArray} {p : Nat} : digAt s p false = false := rfl
theorem pairAt_no {s : ByteArray} {hi : Int} {p : Nat} : pairAt s hi p false = (0, p, false) := by
  unfold pairAt pairStep
  simp [digAt_no]
theorem numOk_no {lo : Int} {x : Int × Nat × Nat} : numOk lo false x = false := rfl
/-- short form -/
def shortT : List Tok := [numT 0 59 2, litT colon, pairT 59]
def longT : List Tok := [numT 1 999 3, litT colon, pairT 59, litT colon, pairT 59]
theorem short_match (s : ByteArray) (o : Int × Nat × Bool) (ho : shortF s = o) : (matchT s shortT 0).1 = o.2.1 ∧ (matchT s shortT 0).2.2 = (o.2.2 && decide (o.2.1 = s.size)) ∧ ((matchT s shortT 0).2.2 = true → ∃ a b, 0 ≤ a ∧ 0 ≤ b ∧ (matchT s shortT 0).2.1 = [a, b] ∧ o.1 = 60 * a + b) := by
  unfold shortT
  simp only [shortF] at ho
  rw [matchT_num]
  obtain ⟨x, hx⟩ : ∃ y, numAt s 2 0 59 true 0 = y := ⟨_, rfl⟩
  rw [hx] at ho ⊢
  obtain ⟨kx, hkx⟩ : ∃ k, numOk 0 true x = k := ⟨_, rfl⟩
  rw [hkx] at ho ⊢
  cases kx with
  | false =>
    simp only [exactAt_no, pairAt_no] at ho
    subst ho
    simp
  | true =>
    simp only [if_true] at ho ⊢
    rw [matchT_lit]
    obtain ⟨y, hy⟩ : ∃ y, exactAt s colon x.2.2 true = y := ⟨_, rfl⟩
    rw [hy] at ho ⊢
    obtain ⟨y1, y2⟩ := y
    cases y2 with
    | false =>
      simp only [pairAt_no] at ho
      subst ho
      simp
    | true =>
      simp only [if_true] at ho ⊢
      rw [matchT_pair]
      obtain ⟨z, hz⟩ : ∃ y, pairAt s 59 y1 true = y := ⟨_, rfl⟩
      rw [hz] at ho ⊢
      obtain ⟨z1, z2, z3⟩ := z
      cases z3 with
      | false =>
        simp only at ho
        subst ho
        simp
      | true =>
        simp only [if_true] at ho ⊢
        subst ho
        refine ⟨by simp [matchT], by simp [matchT], fun _ => ⟨x.1, z1, by have h := numAt_val s 2 0 59 true 0 (by omega); rw [hx] at h; exact h.1, by have h := pairAt_val s (most := 59) y1 true (by omega); rw [hz] at h; exact h.1, rfl, rfl⟩⟩
theorem long_match (s : ByteArray) (o : Int × Nat × Bool) (ho : longF s = o) : (matchT s longT 0).1 = o.2.1 ∧ (matchT s longT 0).2.2 = (o.2.2 && decide (o.2.1 = s.size)) ∧ ((matchT s longT 0).2.2 = true → ∃ a b c, 0 ≤ a ∧ 0 ≤ b ∧ 0 ≤ c ∧ (matchT s longT 0).2.1 = [a, b, c] ∧ o.1 = 3600 * a + 60 * b + c) := by
  unfold longT
  simp only [longF] at ho
  rw [matchT_num]
  obtain ⟨x, hx⟩ : ∃ y, numAt s 3 1 999 true 0 = y := ⟨_, rfl⟩
  rw [hx] at ho ⊢
  obtain ⟨kx, hkx⟩ : ∃ k, numOk 1 true x = k := ⟨_, rfl⟩
  rw [hkx] at ho ⊢
  cases kx with
  | false =>
    simp only [exactAt_no, pairAt_no] at ho
    subst ho
    simp
  | true =>
    simp only [if_true] at ho ⊢
    rw [matchT_lit]
    obtain ⟨y, hy⟩ : ∃ y, exactAt s colon x.2.2 true = y := ⟨_, rfl⟩
    rw [hy] at ho ⊢
    obtain ⟨y1, y2⟩ := y
    cases y2 with
    | false =>
      simp only [exactAt_no, pairAt_no] at ho
      subst ho
      simp
    | true =>
      simp only [if_true] at ho ⊢
      rw [matchT_pair]
      obtain ⟨z, hz⟩ : ∃ y, pairAt s 59 y1 true = y := ⟨_, rfl⟩
      rw [hz] at ho ⊢
      obtain ⟨z1, z2, z3⟩ := z
      cases z3 with
      | false =>
        simp only [exactAt_no, pairAt_no] at ho
        subst ho
        simp
      | true =>
        simp only [if_true] at ho ⊢
        rw [matchT_lit]
        obtain ⟨u, hu⟩ : ∃ y, exactAt s colon z2 true = y := ⟨_, rfl⟩
        rw [hu] at ho ⊢
        obtain ⟨u1, u2⟩ := u
        cases u2 with
        | false =>
          simp only [pairAt_no] at ho
          subst ho
          simp
        | true =>
          simp only [if_true] at ho ⊢
          rw [matchT_pair]
          obtain ⟨v, hv⟩ : ∃ y, pairAt s 59 u1 true = y := ⟨_, rfl⟩
          rw [hv] at ho ⊢
          obtain ⟨v1, v2, v3⟩ := v
          cases v3 with
          | false =>
            simp only at ho
            subst ho
            simp
          | true =>
            simp only [if_true] at ho ⊢
            subst ho
            refine ⟨by simp [matchT], by simp [matchT], fun _ => ⟨x.1, z1, v1, by have h := numAt_val s 3 1 999 true 0 (by omega); rw [hx] at h; exact h.1, by have h := pairAt_val s (most := 59) y1 true (by omega); rw [hz] at h; exact h.1, by have h := pairAt_val s (most := 59) u1 true (by omega); rw [hv] at h; exact h.1, rfl, rfl⟩⟩

/-! ### durations with letters -/
def num7 (s : ByteArray) (p : Nat) : Int × Nat × Nat := numAt s 7 0 9999999 true p
def byteT (c : Nat) : ByteArray := ⟨#[c.toUInt8]⟩
/-- the form of some letters -/
def lform : List Nat → List Tok
  | [] => []
  | c :: r => numT 0 9999999 7 :: litT (byteT c) :: lform r
theorem exact_one (s : ByteArray) (c p : Nat) (hc : c < 256) : exactAt s (byteT c) p true = if p < s.size ∧ byte s p = c then (p + 1, true) else (p, false) := by
  have h1 : (byteT c).size = 1 := rfl
  have h2 : byte (byteT c) 0 = c := by
    unfold byte
    rw [dif_pos (by rw [h1]; omega)]
    show (c.toUInt8).toNat = c
    simp
    omega
  unfold exactAt
  rw [if_pos rfl, h1]
  unfold exactLoop
  rw [h1, if_pos (by omega), h2]
  split
  · rfl
  · rfl
/-- goes one letter along -/
def stepL (s : ByteArray) (p c : Nat) : Bool := numOk 0 true (num7 s p) && (decide ((num7 s p).2.2 < s.size) && decide (byte s (num7 s p).2.2 = c))
theorem match_step {s : ByteArray} {c : Nat} {r : List Nat} {p : Nat} (hc : c < 256) : matchT s (lform (c :: r)) p =
    if stepL s p c = true then ((matchT s (lform r) ((num7 s p).2.2 + 1)).1, (num7 s p).1 :: (matchT s (lform r) ((num7 s p).2.2 + 1)).2.1, (matchT s (lform r) ((num7 s p).2.2 + 1)).2.2) else ((num7 s p).2.2, (if numOk 0 true (num7 s p) = true then [(num7 s p).1] else []), false) := by
  rw [show lform (c :: r) = numT 0 9999999 7 :: litT (byteT c) :: lform r from rfl, matchT_num]
  unfold stepL num7
  obtain ⟨x, hx⟩ : ∃ y, numAt s 7 0 9999999 true p = y := ⟨_, rfl⟩
  rw [hx]
  cases numOk 0 true x with
  | false => simp
  | true =>
    simp only [if_true, Bool.true_and]
    rw [matchT_lit, exact_one s c _ hc]
    by_cases h : x.2.2 < s.size ∧ byte s x.2.2 = c
    · rw [if_pos h]
      simp [h.1, h.2]
    · rw [if_neg h]
      have : (decide (x.2.2 < s.size) && decide (byte s x.2.2 = c)) = false := by
        rw [Bool.eq_false_iff]
        simpa using h
      rw [this]
      simp
/-- a row of letters out of those that are left, in order -/
inductive Sub : List Nat → List Nat → Prop
  | one {c L} : Sub [c] (c :: L)
  | more {c S L} : Sub S L → Sub (c :: S) (c :: L)
  | skip {c S L} : Sub S L → Sub S (c :: L)
theorem Sub.ne {S L : List Nat} (h : Sub S L) : S ≠ [] := by
  induction h with
  | one => simp
  | more _ _ => simp
  | skip _ ih => exact ih
/-- the letters behind one -/
def behind (c : Nat) : List Nat → List Nat
  | [] => []
  | d :: L => if d = c then L else behind c L
theorem Sub.weak {c : Nat} {S : List Nat} : ∀ {L : List Nat}, Sub S (behind c L) → Sub S L
  | [], h => h
  | d :: L, h => by
    unfold behind at h
    split at h
    · exact .skip h
    · exact .skip (Sub.weak h)
theorem Sub.head {c : Nat} {S L : List Nat} (h : Sub (c :: S) L) : c ∈ L ∧ (S = [] ∨ Sub S (behind c L)) := by
  generalize hq : c :: S = q at h
  induction h generalizing c S with
  | one =>
    injection hq with h1 h2
    subst h1 h2
    exact ⟨List.mem_cons_self .., Or.inl rfl⟩
  | more h0 _ =>
    injection hq with h1 h2
    subst h1 h2
    exact ⟨List.mem_cons_self .., Or.inr (by unfold behind; rw [if_pos rfl]; exact h0)⟩
  | skip h0 ih =>
    obtain ⟨h1, h2⟩ := ih hq
    refine ⟨List.mem_cons_of_mem _ h1, h2.imp id fun h3 => ?_⟩
    unfold behind
    split
    · exact h3.weak
    · exact h3
theorem Sub.cons {c : Nat} {S : List Nat} : ∀ {L : List Nat}, c ∈ L → (S = [] ∨ Sub S (behind c L)) → Sub (c :: S) L
  | [], h, _ => by cases h
  | d :: L, h, h2 => by
    unfold behind at h2
    by_cases e : d = c
    · rw [if_pos e] at h2
      subst e
      rcases h2 with rfl | h2
      · exact .one
      · exact .more h2
    · rw [if_neg e] at h2
      rcases List.mem_cons.1 h with h | h
      · exact absurd h.symm e
      · exact .skip (Sub.cons h h2)
theorem numLoop_ge (s : ByteArray) (digits : Nat) (least most : Int) (ok : Bool) : ∀ (f : Nat) (n : Int) (m p : Nat), p ≤ (numLoop s digits least most ok f n m p).2.2
  | 0, n, m, p => Nat.le_refl _
  | f + 1, n, m, p => by
    unfold numLoop
    split
    · split
      · exact Nat.le_refl _
      · exact Nat.le_trans (Nat.le_succ p) (numLoop_ge s digits least most ok f _ _ _)
    · exact Nat.le_refl _
theorem num7_ge (s : ByteArray) (p : Nat) : p ≤ (num7 s p).2.2 := numLoop_ge _ _ _ _ _ _ _ _ _
theorem num7_none {s : ByteArray} {p : Nat} (h : digAt s p true = false) : num7 s p = (0, 0, p) := numLoop_stop (by rw [h]; simp)
def unitL (c : Nat) : Int := if c = 104 then 3600 else if c = 109 then 60 else 1
def valL : List Nat → List Int → Int
  | c :: S, v :: l => v * unitL c + valL S l
  | _, _ => 0
/-- the program's lettered form over a list of letters -/
def lettL (s : ByteArray) : Nat → List Nat → Int → Nat → Int × Nat × Bool
  | 0, _, sum, p => (sum, p, true)
  | f + 1, L, sum, p =>
    if numOk 0 true (num7 s p) = true ∧ (num7 s p).2.2 < s.size ∧ byte s (num7 s p).2.2 ∈ L then
      if digAt s ((num7 s p).2.2 + 1) true = true ∧ behind (byte s (num7 s p).2.2) L ≠ [] then lettL s f (behind (byte s (num7 s p).2.2) L) (sum + (num7 s p).1 * unitL (byte s (num7 s p).2.2)) ((num7 s p).2.2 + 1)
      else (sum + (num7 s p).1 * unitL (byte s (num7 s p).2.2), (num7 s p).2.2 + 1, true)
    else (0, (num7 s p).2.2, false)
/-- the lettered form and the forms of the rows of letters say the same -/
structure LetOk (s : ByteArray) (L : List Nat) (sum : Int) (p : Nat) (o : Int × Nat × Bool) : Prop where
  most : ∀ S, Sub S L → (matchT s (lform S) p).1 ≤ o.2.1
  here : ∃ S, Sub S L ∧ (matchT s (lform S) p).1 = o.2.1
  good : ∀ S, Sub S L → (matchT s (lform S) p).2.2 = true → o.2.2 = true ∧ o.2.1 = s.size ∧ o.1 = sum + valL S (matchT s (lform S) p).2.1
  back : o.2.2 = true → o.2.1 = s.size → ∃ S, Sub S L ∧ (matchT s (lform S) p).2.2 = true
theorem behind_len {c : Nat} : ∀ {L : List Nat}, c ∈ L → (behind c L).length < L.length
  | [], h => by cases h
  | d :: L, h => by
    unfold behind
    split
    · simp
    · rename_i e
      rcases List.mem_cons.1 h with h | h
      · exact absurd h.symm e
      · have := behind_len h
        simp only [List.length_cons]; omega
theorem letOk (s : ByteArray) : ∀ (f : Nat) (L : List Nat) (sum : Int) (p : Nat), L ≠ [] → L.length ≤ f → (∀ c, c ∈ L → c < 256) → LetOk s L sum p (lettL s f L sum p) ∧ p ≤ (lettL s f L sum p).2.1
  | 0, L, sum, p, hL, hf, _ => absurd (List.eq_nil_of_length_eq_zero (Nat.le_zero.1 hf)) hL
  | f + 1, L, sum, p, hL, hf, hb => by
    obtain ⟨d, L0, hd⟩ : ∃ d L0, L = d :: L0 := by
      cases L with
      | nil => exact absurd rfl hL
      | cons d L0 => exact ⟨d, L0, rfl⟩
    have hge := num7_ge s p
    have step : ∀ S, Sub S L → ∃ c S', S = c :: S' ∧ c ∈ L ∧ c < 256 ∧ (S' = [] ∨ Sub S' (behind c L)) := fun S hS => by
      cases S with
      | nil => exact absurd rfl hS.ne
      | cons c S' =>
        obtain ⟨h1, h2⟩ := hS.head
        exact ⟨c, S', rfl, h1, hb c h1, h2⟩
    unfold lettL
    by_cases hgo : numOk 0 true (num7 s p) = true ∧ (num7 s p).2.2 < s.size ∧ byte s (num7 s p).2.2 ∈ L
    · rw [if_pos hgo]
      obtain ⟨h1, h2, h3⟩ := hgo
      obtain ⟨c, hc⟩ : ∃ c, byte s (num7 s p).2.2 = c := ⟨_, rfl⟩
      rw [hc] at h3 ⊢
      have yes : stepL s p c = true := by unfold stepL; rw [h1, hc]; simp [h2]
      have no : ∀ c', c' ≠ c → stepL s p c' = false := fun c' h => by
        unfold stepL
        rw [hc]
        simp only [Bool.and_eq_false_iff, decide_eq_false_iff_not]
        exact Or.inr (Or.inr fun e => h e.symm)
      have hc256 := hb c h3
      have m1 : matchT s (lform [c]) p = ((num7 s p).2.2 + 1, [(num7 s p).1], decide ((num7 s p).2.2 + 1 = s.size)) := by
        rw [match_step hc256, if_pos yes]; rfl
      have far : ∀ c' S', c' < 256 → c' ≠ c → ∃ l, matchT s (lform (c' :: S')) p = ((num7 s p).2.2, l, false) := fun c' S' h256 h => by
        rw [match_step h256, if_neg (by rw [no c' h]; simp)]
        exact ⟨_, rfl⟩
      have near : ∀ S', matchT s (lform (c :: S')) p = ((matchT s (lform S') ((num7 s p).2.2 + 1)).1, (num7 s p).1 :: (matchT s (lform S') ((num7 s p).2.2 + 1)).2.1, (matchT s (lform S') ((num7 s p).2.2 + 1)).2.2) := fun S' => by
        rw [match_step hc256, if_pos yes]
      by_cases hgo2 : digAt s ((num7 s p).2.2 + 1) true = true ∧ behind c L ≠ []
      · rw [if_pos hgo2]
        obtain ⟨hok, hge2⟩ := letOk s f (behind c L) (sum + (num7 s p).1 * unitL c) ((num7 s p).2.2 + 1) hgo2.2 (by have := behind_len h3; omega) (fun x hx => by
          have : ∀ {M : List Nat}, x ∈ behind c M → x ∈ M := by
            intro M
            induction M with
            | nil => exact id
            | cons y M ih =>
              unfold behind
              split
              · exact List.mem_cons_of_mem _
              · exact fun h => List.mem_cons_of_mem _ (ih h)
          exact hb x (this hx))
        have hlt := (digAt_true hgo2.1).2.1
        refine ⟨⟨fun S hS => ?_, ?_, fun S hS hm => ?_, fun g1 g2 => ?_⟩, by omega⟩
        · obtain ⟨c', S', rfl, hc', h256, hs'⟩ := step S hS
          by_cases e : c' = c
          · subst e
            rcases hs' with rfl | hs'
            · rw [m1]; exact hge2
            · rw [near]; exact hok.most _ hs'
          · rw [(far c' S' h256 e).choose_spec]
            show (num7 s p).2.2 ≤ _
            omega
        · obtain ⟨S, hS, he⟩ := hok.here
          exact ⟨c :: S, .cons h3 (Or.inr hS), by rw [near]; exact he⟩
        · obtain ⟨c', S', rfl, hc', h256, hs'⟩ := step S hS
          by_cases e : c' = c
          · subst e
            rcases hs' with rfl | hs'
            · rw [m1] at hm
              simp only [decide_eq_true_eq] at hm
              omega
            · rw [near] at hm ⊢
              obtain ⟨k1, k2, k3⟩ := hok.good _ hs' hm
              refine ⟨k1, k2, ?_⟩
              rw [k3]
              show _ = sum + ((num7 s p).1 * unitL c' + valL S' _)
              omega
          · rw [(far c' S' h256 e).choose_spec] at hm
            cases hm
        · obtain ⟨S, hS, he⟩ := hok.back g1 g2
          exact ⟨c :: S, .cons h3 (Or.inr hS), by rw [near]; exact he⟩
      · rw [if_neg hgo2]
        have rest : ∀ S', Sub S' (behind c L) → ∃ l, matchT s (lform S') ((num7 s p).2.2 + 1) = ((num7 s p).2.2 + 1, l, false) := fun S' hS' => by
          have hnd : digAt s ((num7 s p).2.2 + 1) true = false := by
            cases h : digAt s ((num7 s p).2.2 + 1) true with
            | false => rfl
            | true =>
              exfalso
              refine hgo2 ⟨h, fun e => ?_⟩
              rw [e] at hS'
              cases hS'
          cases S' with
          | nil => exact absurd rfl hS'.ne
          | cons c' S'' =>
            have h0 : c' < 256 := by
              have : c' ∈ behind c L := hS'.head.1
              have h1 : ∀ {M : List Nat}, c' ∈ behind c M → c' ∈ M := by
                intro M
                induction M with
                | nil => exact id
                | cons y M ih =>
                  unfold behind
                  split
                  · exact List.mem_cons_of_mem _
                  · exact fun h => List.mem_cons_of_mem _ (ih h)
              exact hb c' (h1 this)
            have e0 := num7_none hnd
            rw [match_step h0, if_neg (by unfold stepL; rw [e0]; simp [numOk]), e0]
            exact ⟨_, rfl⟩
        refine ⟨⟨fun S hS => ?_, ⟨[c], .cons h3 (Or.inl rfl), by rw [m1]⟩, fun S hS hm => ?_, fun g1 g2 => ⟨[c], .cons h3 (Or.inl rfl), by rw [m1]; simpa using g2⟩⟩, by show p ≤ (num7 s p).2.2 + 1; omega⟩
        · obtain ⟨c', S', rfl, hc', h256, hs'⟩ := step S hS
          by_cases e : c' = c
          · subst e
            rcases hs' with rfl | hs'
            · rw [m1]; exact Nat.le_refl _
            · rw [near, (rest _ hs').choose_spec]; exact Nat.le_refl _
          · rw [(far c' S' h256 e).choose_spec]
            exact Nat.le_succ _
        · obtain ⟨c', S', rfl, hc', h256, hs'⟩ := step S hS
          by_cases e : c' = c
          · subst e
            rcases hs' with rfl | hs'
            · rw [m1] at hm ⊢
              refine ⟨rfl, by simpa using hm, ?_⟩
              show sum + _ = sum + ((num7 s p).1 * unitL c' + 0)
              omega
            · rw [near, (rest _ hs').choose_spec] at hm
              cases hm
          · rw [(far c' S' h256 e).choose_spec] at hm
            cases hm
    · rw [if_neg hgo]
      have all : ∀ S, Sub S L → ∃ l, matchT s (lform S) p = ((num7 s p).2.2, l, false) := fun S hS => by
        obtain ⟨c', S', rfl, hc', h256, hs'⟩ := step S hS
        rw [match_step h256, if_neg]
        exact ⟨_, rfl⟩
        intro h
        unfold stepL at h
        simp only [Bool.and_eq_true, decide_eq_true_eq] at h
        exact hgo ⟨h.1, h.2.1, by rw [h.2.2]; exact hc'⟩
      refine ⟨⟨fun S hS => by rw [(all S hS).choose_spec]; exact Nat.le_refl _, ⟨[d], by rw [hd]; exact .one, by rw [(all [d] (by rw [hd]; exact .one)).choose_spec]⟩, fun S hS hm => ?_, fun g1 _ => by cases g1⟩, hge⟩
      rw [(all S hS).choose_spec] at hm
      cases hm
/-- the letters of the last m units -/
def lst : Nat → List Nat
  | 0 => []
  | 1 => [115]
  | 2 => [109, 115]
  | _ => [104, 109, 115]
theorem idx_none (l : List UInt8) (c : UInt8) (h : c ∉ l) : Go.Lib.indexByte l c = -1 := by
  induction l with
  | nil => rfl
  | cons b l ih =>
    unfold Go.Lib.indexByte
    have h1 : (b == c) = false := by
      rw [beq_eq_false_iff_ne]
      rintro rfl
      exact h (List.mem_cons_self ..)
    rw [h1, ih fun hm => h (List.mem_cons_of_mem _ hm)]
    rfl
theorem oneAt_lets (s : ByteArray) (m q : Nat) (hm : m ≤ 3) (hq : q < s.size) :
    (byte s q ∈ lst m → ∃ k : Int, oneAt s (lets m) q true = (k, q + 1, true) ∧ 0 ≤ k ∧ unitOf (k + 3 - m) = unitL (byte s q) ∧ lst (m - (k + 1).toNat) = behind (byte s q) (lst m) ∧ m - (k + 1).toNat ≤ 3 ∧ m - (k + 1).toNat < m) ∧
    (byte s q ∉ lst m → oneAt s (lets m) q true = (-1, q, false)) := by
  have hb := byte_le s q
  obtain ⟨b, he⟩ : ∃ b, byte s q = b := ⟨_, rfl⟩
  unfold oneAt
  rw [if_pos ⟨rfl, hq⟩, he]
  rw [he] at hb
  by_cases b1 : b = 104
  · subst b1
    have : m = 0 ∨ m = 1 ∨ m = 2 ∨ m = 3 := by omega
    rcases this with rfl | rfl | rfl | rfl
    · exact ⟨fun h => absurd h (by decide), fun _ => by rfl⟩
    · exact ⟨fun h => absurd h (by decide), fun _ => by rfl⟩
    · exact ⟨fun h => absurd h (by decide), fun _ => by rfl⟩
    · exact ⟨fun _ => ⟨0, by rfl, by decide, by decide, by decide, by decide, by decide⟩, fun h => absurd (by decide) h⟩
  by_cases b2 : b = 109
  · subst b2
    have : m = 0 ∨ m = 1 ∨ m = 2 ∨ m = 3 := by omega
    rcases this with rfl | rfl | rfl | rfl
    · exact ⟨fun h => absurd h (by decide), fun _ => by rfl⟩
    · exact ⟨fun h => absurd h (by decide), fun _ => by rfl⟩
    · exact ⟨fun _ => ⟨0, by rfl, by decide, by decide, by decide, by decide, by decide⟩, fun h => absurd (by decide) h⟩
    · exact ⟨fun _ => ⟨1, by rfl, by decide, by decide, by decide, by decide, by decide⟩, fun h => absurd (by decide) h⟩
  by_cases b3 : b = 115
  · subst b3
    have : m = 0 ∨ m = 1 ∨ m = 2 ∨ m = 3 := by omega
    rcases this with rfl | rfl | rfl | rfl
    · exact ⟨fun h => absurd h (by decide), fun _ => by rfl⟩
    · exact ⟨fun _ => ⟨0, by rfl, by decide, by decide, by decide, by decide, by decide⟩, fun h => absurd (by decide) h⟩
    · exact ⟨fun _ => ⟨1, by rfl, by decide, by decide, by decide, by decide, by decide⟩, fun h => absurd (by decide) h⟩
    · exact ⟨fun _ => ⟨2, by rfl, by decide, by decide, by decide, by decide, by decide⟩, fun h => absurd (by decide) h⟩
  have e : (b.toUInt8).toNat = b := by simp; omega
  have hn : b.toUInt8 ∉ ([104, 109, 115] : List UInt8) := fun h => by
    simp only [List.mem_cons, List.not_mem_nil, or_false] at h
    rcases h with h | h | h
    · rw [h] at e; exact b1 e.symm
    · rw [h] at e; exact b2 e.symm
    · rw [h] at e; exact b3 e.symm
  have hi : Go.Lib.indexByte (lets m).data.toList b.toUInt8 = -1 := by
    refine idx_none _ _ fun h => hn ?_
    have : m = 0 ∨ m = 1 ∨ m = 2 ∨ m = 3 := by omega
    rcases this with rfl | rfl | rfl | rfl
    · cases h
    · exact List.mem_cons_of_mem _ (List.mem_cons_of_mem _ h)
    · exact List.mem_cons_of_mem _ h
    · exact h
  refine ⟨fun h => ?_, fun _ => by rw [hi]; rfl⟩
  exfalso
  have : m = 0 ∨ m = 1 ∨ m = 2 ∨ m = 3 := by omega
  rcases this with rfl | rfl | rfl | rfl <;> simp [lst] at h <;> omega
theorem lett_eq (s : ByteArray) : ∀ (f m : Nat) (sum : Int) (p : Nat), 1 ≤ m → m ≤ 3 → m ≤ f → lettLoop s f m sum p true = lettL s f (lst m) sum p
  | 0, m, sum, p, h1, _, hf => by omega
  | f + 1, m, sum, p, h1, h3, hf => by
    have hm0 : m ≠ 0 := by omega
    unfold lettL
    have hx : numAt s 7 0 9999999 true p = num7 s p := rfl
    by_cases hok : numOk 0 true (num7 s p) = true
    · by_cases hlt : (num7 s p).2.2 < s.size
      · obtain ⟨g1, g2⟩ := oneAt_lets s m (num7 s p).2.2 h3 hlt
        by_cases hb : byte s (num7 s p).2.2 ∈ lst m
        · rw [if_pos ⟨hok, hlt, hb⟩]
          obtain ⟨k, e1, e2, e3, e4, e5, e6⟩ := g1 hb
          have hk : oneAt s (lets m) (num7 s p).2.2 (numOk 0 true (num7 s p)) = (k, (num7 s p).2.2 + 1, true) := by rw [hok]; exact e1
          cases hd : digAt s ((num7 s p).2.2 + 1) true with
          | false =>
            rw [if_neg (by simp), lettLoop_last hm0 hx hk (by show ¬ k < 0; omega) hd]
            show (_, _, _) = _
            rw [e3]
          | true =>
            rw [lettLoop_next hm0 hx hk (by show ¬ k < 0; omega) hd]
            show lettLoop s f (m - (k + 1).toNat) _ _ true = _
            rw [e3]
            by_cases hz : behind (byte s (num7 s p).2.2) (lst m) = []
            · rw [if_neg (by rw [hz]; simp)]
              have : m - (k + 1).toNat = 0 := by
                rw [hz] at e4
                have : m - (k + 1).toNat = 0 ∨ m - (k + 1).toNat = 1 ∨ m - (k + 1).toNat = 2 ∨ m - (k + 1).toNat = 3 := by omega
                rcases this with h | h | h | h
                · exact h
                · rw [h] at e4; cases e4
                · rw [h] at e4; cases e4
                · rw [h] at e4; cases e4
              rw [this, lettLoop_end]
            · rw [if_pos ⟨rfl, hz⟩, ← e4]
              refine lett_eq s f _ _ _ ?_ e5 (by omega)
              apply Classical.byContradiction
              intro h
              have h0 : m - (k + 1).toNat = 0 := by omega
              rw [h0] at e4
              exact hz e4.symm
        · rw [if_neg fun h => hb h.2.2]
          have hk : oneAt s (lets m) (num7 s p).2.2 (numOk 0 true (num7 s p)) = (-1, (num7 s p).2.2, false) := by rw [hok]; exact g2 hb
          rw [lettLoop_none hm0 hx hk (by show (-1 : Int) < 0; omega)]
      · rw [if_neg fun h => hlt h.2.1]
        have hk : oneAt s (lets m) (num7 s p).2.2 (numOk 0 true (num7 s p)) = (-1, (num7 s p).2.2, false) := by
          unfold oneAt
          rw [if_neg fun h => hlt h.2]
        rw [lettLoop_none hm0 hx hk (by show (-1 : Int) < 0; omega)]
    · rw [if_neg fun h => hok h.1]
      have hk : oneAt s (lets m) (num7 s p).2.2 (numOk 0 true (num7 s p)) = (-1, (num7 s p).2.2, false) := by
        unfold oneAt
        rw [if_neg fun h => hok h.1]
      rw [lettLoop_none hm0 hx hk (by show (-1 : Int) < 0; omega)]
theorem lettL_nonneg (s : ByteArray) : ∀ (f : Nat) (L : List Nat) (sum : Int) (p : Nat), 0 ≤ sum → 0 ≤ (lettL s f L sum p).1
  | 0, L, sum, p, h => h
  | f + 1, L, sum, p, h => by
    have hv := numAt_val s 7 0 9999999 true p (by omega)
    have hu : ∀ c, 0 ≤ (num7 s p).1 * unitL c := fun c => Int.mul_nonneg hv.1 (by unfold unitL; split <;> (try split) <;> omega)
    unfold lettL
    split
    · have := hu (byte s (num7 s p).2.2)
      split
      · exact lettL_nonneg s f _ _ _ (by omega)
      · show 0 ≤ sum + _
        omega
    · exact Int.le_refl 0
/-- the forms of durations of the reference, and their units -/
def durT : List (List Tok) := [shortT, longT, lform [104], lform [109], lform [104, 109], lform [115], lform [104, 115], lform [109, 115], lform [104, 109, 115]]
def durU : List (List Int) := [[60, 1], [3600, 60, 1], [3600], [60], [3600, 60], [1], [3600, 1], [60, 1], [3600, 60, 1]]
def dotU : List Int → List Int → Int
  | v :: l, u :: r => v * u + dotU l r
  | _, _ => 0
theorem dot_val : ∀ (S : List Nat) (l : List Int), dotU l (S.map unitL) = valL S l
  | [], [] => rfl
  | [], _ :: _ => rfl
  | _ :: _, [] => rfl
  | c :: S, v :: l => by
    show v * unitL c + dotU l (S.map unitL) = v * unitL c + valL S l
    rw [dot_val S l]
theorem match_len {s : ByteArray} : ∀ (S : List Nat) (p : Nat), (∀ c, c ∈ S → c < 256) → (matchT s (lform S) p).2.2 = true → (matchT s (lform S) p).2.1.length = S.length
  | [], p, _, _ => rfl
  | c :: S, p, hc, h => by
    rw [match_step (hc c (List.mem_cons_self ..))] at h ⊢
    split at h
    · rename_i h1
      rw [if_pos h1]
      show (_ :: _).length = _
      rw [List.length_cons, match_len S _ (fun x hx => hc x (List.mem_cons_of_mem _ hx)) h, List.length_cons]
    · cases h
def refDur (s : ByteArray) : Int × Nat × Int :=
  if 1000 < s.size then (0, 0, 3)
  else if (firstT s durT 0 0).1 < 0 then (0, (firstT s durT 0 0).2.2, 6)
  else if 3599999 < dotU (firstT s durT 0 0).2.1 (durU.getD (firstT s durT 0 0).1.toNat []) then (0, 0, 9) else (dotU (firstT s durT 0 0).2.1 (durU.getD (firstT s durT 0 0).1.toNat []), 0, 0)
/-- the first form that is there -/
theorem firstT_some {s : ByteArray} : ∀ (l : List (List Tok)) (i far : Nat), (∃ f, f ∈ l ∧ (matchT s f 0).2.2 = true) → ∃ k f, l[k]? = some f ∧ (matchT s f 0).2.2 = true ∧ (∀ j g, j < k → l[j]? = some g → (matchT s g 0).2.2 = false) ∧ firstT s l i far = (((i + k : Nat) : Int), (matchT s f 0).2.1, 0)
  | [], i, far, h => by obtain ⟨f, h, _⟩ := h; cases h
  | g :: r, i, far, h => by
    cases hg : (matchT s g 0).2.2 with
    | true => exact ⟨0, g, rfl, hg, fun j _ hj => by omega, by unfold firstT; rw [if_pos hg]; rfl⟩
    | false =>
      obtain ⟨f, hf, hm⟩ := h
      have hr : ∃ f, f ∈ r ∧ (matchT s f 0).2.2 = true := by
        rcases List.mem_cons.1 hf with rfl | hf
        · rw [hm] at hg; cases hg
        · exact ⟨f, hf, hm⟩
      obtain ⟨k, f', h1, h2, h3, h4⟩ := firstT_some r (i + 1) (max far (matchT s g 0).1) hr
      refine ⟨k + 1, f', by simpa using h1, h2, fun j g' hj hg' => ?_, ?_⟩
      · cases j with
        | zero =>
          simp only [List.getElem?_cons_zero, Option.some.injEq] at hg'
          subst hg'; exact hg
        | succ j => exact h3 j g' (by omega) (by simpa using hg')
      · unfold firstT
        rw [if_neg (by rw [hg]; simp), h4]
        rw [show i + 1 + k = i + (k + 1) by omega]
theorem seven_sub : Sub [104] [104, 109, 115] ∧ Sub [109] [104, 109, 115] ∧ Sub [104, 109] [104, 109, 115] ∧ Sub [115] [104, 109, 115] ∧ Sub [104, 115] [104, 109, 115] ∧ Sub [109, 115] [104, 109, 115] ∧ Sub [104, 109, 115] [104, 109, 115] :=
  ⟨.one, .skip .one, .more .one, .skip (.skip .one), .more (.skip .one), .skip (.more .one), .more (.more .one)⟩
theorem sub_seven {S : List Nat} (h : Sub S [104, 109, 115]) : S = [104] ∨ S = [109] ∨ S = [104, 109] ∨ S = [115] ∨ S = [104, 115] ∨ S = [109, 115] ∨ S = [104, 109, 115] := by
  have h1 : ∀ {S}, Sub S [115] → S = [115] := by
    intro S h
    cases h with
    | one => rfl
    | more h => cases h
    | skip h => cases h
  have h2 : ∀ {S}, Sub S [109, 115] → S = [109] ∨ S = [109, 115] ∨ S = [115] := by
    intro S h
    cases h with
    | one => exact Or.inl rfl
    | more h => exact Or.inr (Or.inl (by rw [h1 h]))
    | skip h => exact Or.inr (Or.inr (h1 h))
  cases h with
  | one => simp
  | more h => rcases h2 h with rfl | rfl | rfl <;> simp
  | skip h => rcases h2 h with rfl | rfl | rfl <;> simp
theorem lettered_ok (s : ByteArray) : LetOk s [104, 109, 115] 0 0 (letteredF s) := by
  unfold letteredF
  rw [lett_eq s 3 3 0 0 (by omega) (by omega) (by omega)]
  exact (letOk s 3 [104, 109, 115] 0 0 (by simp) (by simp) (by intro c hc; simp at hc; omega)).1
theorem dur_eq (s : ByteArray) : refDur s = ranged (readForms s [shortF, longF, letteredF]) 0 3599999 := by
  unfold refDur readForms
  by_cases hz : 1000 < s.size
  · rw [if_pos hz, if_pos hz]; rfl
  rw [if_neg hz, if_neg hz]
  obtain ⟨a, ha⟩ : ∃ o, shortF s = o := ⟨_, rfl⟩
  obtain ⟨b, hb⟩ : ∃ o, longF s = o := ⟨_, rfl⟩
  have hc0 := lettered_ok s
  have hcn : 0 ≤ (letteredF s).1 := by
    unfold letteredF
    rw [lett_eq s 3 3 0 0 (by omega) (by omega) (by omega)]
    exact lettL_nonneg _ _ _ _ _ (Int.le_refl 0)
  obtain ⟨c, hc⟩ : ∃ o, letteredF s = o := ⟨_, rfl⟩
  rw [hc] at hc0 hcn
  obtain ⟨a1, a2, a3⟩ := short_match s a ha
  obtain ⟨b1, b2, b3⟩ := long_match s b hb
  simp only [formsLoop, ha, hb, hc]
  have fin : ∀ (k : Nat) (f : List Tok) (l : List Int) (v : Int), durT[k]? = some f → 0 ≤ v → firstT s durT 0 0 = (((0 + k : Nat) : Int), l, 0) → dotU l (durU.getD k []) = v →
      (if (firstT s durT 0 0).1 < 0 then (0, (firstT s durT 0 0).2.2, 6) else if 3599999 < dotU (firstT s durT 0 0).2.1 (durU.getD (firstT s durT 0 0).1.toNat []) then (0, 0, 9) else (dotU (firstT s durT 0 0).2.1 (durU.getD (firstT s durT 0 0).1.toNat []), 0, 0)) = ranged (v, 0, 0) 0 3599999 := by
    intro k f l v _ hv he hd
    rw [he]
    simp only [Nat.zero_add]
    rw [if_neg (by omega), Int.toNat_natCast, hd]
    unfold ranged
    by_cases h : 3599999 < v
    · rw [if_pos h, if_pos ⟨rfl, Or.inr h⟩]
    · rw [if_neg h, if_neg (by rintro ⟨_, h1⟩; simp only at h1; omega)]
  by_cases hA : (matchT s shortT 0).2.2 = true
  · rw [if_pos (show (a.2.2 && decide (a.2.1 = s.size)) = true by rw [← a2]; exact hA)]
    obtain ⟨x, y, hx, hy, hl, hv⟩ := a3 hA
    have he := firstT_at (s := s) durT 0 0 0 shortT rfl hA (fun j _ hj => by omega)
    refine fin 0 shortT _ a.1 rfl (by omega) he ?_
    rw [hl]
    show x * 60 + (y * 1 + 0) = _
    omega
  rw [if_neg (show ¬ (a.2.2 && decide (a.2.1 = s.size)) = true by rw [← a2]; exact hA)]
  by_cases hB : (matchT s longT 0).2.2 = true
  · rw [if_pos (show (b.2.2 && decide (b.2.1 = s.size)) = true by rw [← b2]; exact hB)]
    obtain ⟨x, y, z, hx, hy, hz', hl, hv⟩ := b3 hB
    have he := firstT_at (s := s) durT 0 0 1 longT rfl hB (fun j g hj hg => by
      obtain rfl : j = 0 := by omega
      simp only [durT, List.getElem?_cons_zero, Option.some.injEq] at hg
      subst hg
      simpa using hA)
    refine fin 1 longT _ b.1 rfl (by omega) he ?_
    rw [hl]
    show x * 3600 + (y * 60 + (z * 1 + 0)) = _
    omega
  rw [if_neg (show ¬ (b.2.2 && decide (b.2.1 = s.size)) = true by rw [← b2]; exact hB)]
  obtain ⟨s1, s2, s3, s4, s5, s6, s7⟩ := seven_sub
  by_cases hC : (c.2.2 && decide (c.2.1 = s.size)) = true
  · rw [if_pos hC]
    have hC := hC
    simp only [Bool.and_eq_true, decide_eq_true_eq] at hC
    have hex : ∃ f, f ∈ durT ∧ (matchT s f 0).2.2 = true := by
      obtain ⟨S, hS, hm⟩ := hc0.back hC.1 hC.2
      refine ⟨lform S, ?_, hm⟩
      rcases sub_seven hS with rfl | rfl | rfl | rfl | rfl | rfl | rfl <;> simp [durT]
    obtain ⟨k, f, hk, hm, hfirst, he⟩ := firstT_some durT 0 0 hex
    have key : ∀ S, Sub S [104, 109, 115] → f = lform S → durU.getD k [] = S.map unitL → dotU (matchT s f 0).2.1 (durU.getD k []) = c.1 := fun S hS hf hu => by
      subst hf
      rw [hu, dot_val, (hc0.good S hS hm).2.2]
      omega
    refine fin k f _ c.1 hk hcn he ?_
    match k, hk with
    | 0, hk => injection hk with hk; subst hk; exact absurd hm hA
    | 1, hk => injection hk with hk; subst hk; exact absurd hm hB
    | 2, hk => injection hk with hk; exact key [104] s1 hk.symm rfl
    | 3, hk => injection hk with hk; exact key [109] s2 hk.symm rfl
    | 4, hk => injection hk with hk; exact key [104, 109] s3 hk.symm rfl
    | 5, hk => injection hk with hk; exact key [115] s4 hk.symm rfl
    | 6, hk => injection hk with hk; exact key [104, 115] s5 hk.symm rfl
    | 7, hk => injection hk with hk; exact key [109, 115] s6 hk.symm rfl
    | 8, hk => injection hk with hk; exact key [104, 109, 115] s7 hk.symm rfl
    | k + 9, hk => simp [durT] at hk
  · rw [if_neg hC]
    have hno : ∀ f, f ∈ durT → (matchT s f 0).2.2 = false := fun f hf => by
      have bad : ∀ S, Sub S [104, 109, 115] → (matchT s (lform S) 0).2.2 = false := fun S hS => by
        cases h : (matchT s (lform S) 0).2.2 with
        | false => rfl
        | true =>
          obtain ⟨g1, g2, _⟩ := hc0.good S hS h
          exact absurd (by rw [g1]; simpa using g2) hC
      simp only [durT, List.mem_cons, List.not_mem_nil, or_false] at hf
      rcases hf with rfl | rfl | rfl | rfl | rfl | rfl | rfl | rfl | rfl
      · simpa using hA
      · simpa using hB
      · exact bad _ s1
      · exact bad _ s2
      · exact bad _ s3
      · exact bad _ s4
      · exact bad _ s5
      · exact bad _ s6
      · exact bad _ s7
    rw [firstT_none durT 0 0 hno, if_pos (by show (-1 : Int) < 0; omega)]
    have hmax : (durT.foldl (fun a f => max a (matchT s f 0).1) 0) = max (max (max 0 a.2.1) b.2.1) c.2.1 := by
      have m1 := hc0.most _ s1
      have m2 := hc0.most _ s2
      have m3 := hc0.most _ s3
      have m4 := hc0.most _ s4
      have m5 := hc0.most _ s5
      have m6 := hc0.most _ s6
      have m7 := hc0.most _ s7
      have hh : (matchT s (lform [104]) 0).1 = c.2.1 ∨ (matchT s (lform [109]) 0).1 = c.2.1 ∨ (matchT s (lform [104, 109]) 0).1 = c.2.1 ∨ (matchT s (lform [115]) 0).1 = c.2.1 ∨ (matchT s (lform [104, 115]) 0).1 = c.2.1 ∨ (matchT s (lform [109, 115]) 0).1 = c.2.1 ∨ (matchT s (lform [104, 109, 115]) 0).1 = c.2.1 := by
        obtain ⟨S, hS, hm⟩ := hc0.here
        rcases sub_seven hS with rfl | rfl | rfl | rfl | rfl | rfl | rfl <;> simp [hm]
      simp only [durT, List.foldl, a1, b1]
      omega
    show (_, _, _) = _
    rw [hmax]
    rfl
end Rd

/- Rows of digits and what they spell; numbers with two digits (plain). -/
namespace Rd
open Go.Lib (digitVal decFrom decNat atoi atoiAll itoa)

def sB (s : ByteArray) : List UInt8 := s.data.toList
theorem sB_inj {a b : ByteArray} (h : sB a = sB b) : a = b := by
  unfold sB at h
  cases a; cases b
  congr 1
  exact Array.toList_inj.1 h
def bt (l : List UInt8) : ByteArray := ⟨l.toArray⟩
def itoaB (n : Int) : ByteArray := bt (itoa n)
/-- the m bytes from p on are digits and spell n -/
structure DigRow (s : ByteArray) (p m : Nat) (n : Int) : Prop where
  le : p + m ≤ s.size
  dec : ∃ k : Nat, n = (k : Int) ∧ decFrom 0 ((sB s).drop p |>.take m) = some k
theorem DigRow.zero {s : ByteArray} {p : Nat} (h : p ≤ s.size) : DigRow s p 0 0 := ⟨h, 0, rfl, by simp [decFrom]⟩
theorem sB_get {s : ByteArray} {p : Nat} (h : p < s.size) : (sB s)[p]? = some s[p] := by
  unfold sB
  have : p < s.data.size := h
  rw [Array.getElem?_toList, Array.getElem?_eq_getElem this]
  rfl
theorem DigRow.next {s : ByteArray} {p m : Nat} {n : Int} (h : DigRow s p m n) (hd : digAt s (p + m) true = true) : DigRow s p (m + 1) (10 * n + ((byte s (p + m) : Int) - 48)) := by
  obtain ⟨_, hlt, h48, h57⟩ := digAt_true hd
  obtain ⟨k, hk, he⟩ := h.dec
  refine ⟨by omega, k * 10 + (byte s (p + m) - 48), by omega, ?_⟩
  refine Go.Lib.decFrom_take ((sB s).drop p) m 0 k (s[p + m]) _ he ?_ ?_
  · rw [List.getElem?_drop, sB_get hlt]
  · unfold digitVal
    rw [byte_lt hlt] at h48 h57 ⊢
    rw [if_pos ⟨h48, h57⟩]
theorem extract_list (s : ByteArray) (p q : Nat) : sB (s.extract p q) = ((sB s).drop p).take (q - p) := by
  unfold sB
  rw [ByteArray.data_extract, Array.toList_extract]
theorem ext_size {s : ByteArray} {p m : Nat} (h : p + m ≤ s.size) : (s.extract p (p + m)).size = m := by
  rw [ByteArray.size_extract]; omega
theorem ext_byte {s : ByteArray} {p m : Nat} (h : p + m ≤ s.size) (hm : 0 < m) : byte (s.extract p (p + m)) 0 = byte s p := by
  have e := ext_size h
  rw [byte_lt (by omega), byte_lt (by omega), ByteArray.getElem_extract]
  simp
theorem DigRow.lt {s : ByteArray} {p m : Nat} {n : Int} (h : DigRow s p m n) : 0 ≤ n ∧ n < 10 ^ m := by
  obtain ⟨k, hk, he⟩ := h.dec
  have h1 := Go.Lib.decFrom_lt _ 0 k he
  have h2 : (((sB s).drop p).take m).length = m := by
    have : (sB s).length = s.size := rfl
    rw [List.length_take, List.length_drop]
    have := h.le
    omega
  rw [h2] at h1
  subst hk
  refine ⟨by omega, ?_⟩
  have : k < 10 ^ m := by omega
  exact_mod_cast this
/-- what Atoi says of a row of digits -/
theorem DigRow.num {s : ByteArray} {p m : Nat} {n : Int} (h : DigRow s p m n) (h0 : 0 < m) (h18 : m ≤ 18) : atoiAll (sB (s.extract p (p + m))) = .ok n := by
  obtain ⟨k, hk, he⟩ := h.dec
  have h2 : (((sB s).drop p).take m).length = m := by
    have : (sB s).length = s.size := rfl
    rw [List.length_take, List.length_drop]
    have := h.le
    omega
  rw [extract_list, show p + m - p = m by omega, Go.Lib.atoiAll_short _ (by omega)]
  obtain ⟨l, hl⟩ : ∃ l, ((sB s).drop p).take m = l := ⟨_, rfl⟩
  rw [hl] at he h2 ⊢
  cases l with
  | nil => simp at h2; omega
  | cons a t =>
    obtain ⟨d, hd⟩ := Go.Lib.digit_of_decFrom _ 0 k he 0 a rfl
    have ha : 48 ≤ a.toNat ∧ a.toNat ≤ 57 := by
      unfold digitVal at hd
      split at hd
      · assumption
      · cases hd
    have e : Go.Lib.atoi (a :: t) = some n := by
      rw [Go.Lib.atoi, if_neg (by simp; intro e; rw [e] at ha; simp at ha), if_neg (by simp; intro e; rw [e] at ha; simp at ha), decNat, if_neg (by simp), he, hk]
      rfl
    rw [e]
    rfl
theorem DigRow.first {s : ByteArray} {p m : Nat} {n : Int} (h : DigRow s p m n) (hm : m = 1) : n = (byte s p : Int) - 48 ∧ 48 ≤ byte s p ∧ byte s p ≤ 57 := by
  subst hm
  obtain ⟨k, hk, he⟩ := h.dec
  have hl := h.le
  have h1 : ((sB s).drop p).take 1 = [s[p]] := by
    have hg := sB_get (s := s) (p := p) (by omega)
    cases hd : (sB s).drop p with
    | nil =>
      have := congrArg List.length hd
      rw [List.length_drop] at this
      have e : (sB s).length = s.size := rfl
      simp at this
      omega
    | cons a t =>
      have : ((sB s).drop p)[0]? = some a := by rw [hd]; rfl
      rw [List.getElem?_drop, Nat.add_zero, hg] at this
      injection this with this
      rw [this]; rfl
  rw [h1] at he
  simp only [decFrom] at he
  rw [byte_lt (by omega)]
  unfold digitVal at he
  by_cases hc : 48 ≤ (s[p]).toNat ∧ (s[p]).toNat ≤ 57
  · rw [if_pos hc] at he
    simp only [Option.some.injEq] at he
    omega
  · rw [if_neg hc] at he
    cases he

/-! ### two digits -/
def zeroB : ByteArray := ⟨#[48]⟩
def padB (n : Int) : ByteArray := if n < 10 then zeroB ++ itoaB n else itoaB n
theorem itoa_len {n : Int} (h0 : 0 ≤ n) (h1 : n < 100) : (itoaB n).size = if n < 10 then 1 else 2 := by
  have key : ∀ k : Fin 100, (itoa ((k.1 : Nat) : Int)).length = if ((k.1 : Nat) : Int) < 10 then 1 else 2 := by decide +kernel
  have := key ⟨n.toNat, by omega⟩
  rw [show ((n.toNat : Nat) : Int) = n by omega] at this
  exact this
theorem itoaB_size {n : Int} (h0 : -9223372036854775808 ≤ n) (h1 : n ≤ 9223372036854775807) : (itoaB n).size ≤ 21 := Go.Lib.itoa_length_le n h0 h1
theorem padB_size {n : Int} (h0 : 0 ≤ n) (h1 : n < 100) : (padB n).size = 2 := by
  have := itoa_len h0 h1
  unfold padB
  split
  · rename_i h
    rw [if_pos h] at this
    rw [ByteArray.size_append, this]
    rfl
  · rename_i h
    rw [if_neg h] at this
    exact this
theorem nil_app (t : ByteArray) : (⟨#[]⟩ : ByteArray) ++ t = t := by
  apply sB_inj
  simp [sB]
def durText (n : Int) : ByteArray :=
  if n < 3600 then itoaB (n / 60) ++ colon ++ padB (n % 60) else itoaB (n / 3600) ++ colon ++ padB (n / 60 % 60) ++ colon ++ padB (n % 60)
end Rd

/- The rounds of a token's number, in plain words. -/
namespace Rd
/-- are digits the beginning of a number of a token? (a token whose least number is 0 or 1) -/
def begF (digits : Nat) (low high : Int) (size b0 : Nat) (n : Int) : Bool := decide (size ≤ digits) && !(decide (1 < size) && decide (b0 = 48)) && decide (n ≤ high) && decide (low ≤ n)
/-- m digits from p on were taken -/
structure NumSt (s : ByteArray) (digits : Nat) (low high : Int) (p m : Nat) (n : Int) : Prop where
  row : DigRow s p m n
  zero : 0 < m → (n = 0 ↔ byte s p = 48)
  left : numLoop s digits low high true (digits - m) n m (p + m) = numAt s digits low high true p
  le : m ≤ digits
section
variable {s : ByteArray} {digits p m : Nat} {low high n : Int}
theorem NumSt.start (h : p ≤ s.size) : NumSt s digits low high p 0 0 := ⟨.zero h, fun h => by omega, rfl, Nat.zero_le _⟩
theorem NumSt.next (h : NumSt s digits low high p m n) (hd : digAt s (p + m) true = true) (hb : begF digits low high (m + 1) (byte s p) (10 * n + ((byte s (p + m) : Int) - 48)) = true) :
    NumSt s digits low high p (m + 1) (10 * n + ((byte s (p + m) : Int) - 48)) := by
  unfold begF at hb
  simp only [Bool.and_eq_true, decide_eq_true_eq, Bool.not_eq_true', Bool.and_eq_false_iff, decide_eq_false_iff_not] at hb
  obtain ⟨⟨⟨h1, h2⟩, h3⟩, h4⟩ := hb
  have hn := h.row.lt
  obtain ⟨_, _, h48, h57⟩ := digAt_true hd
  refine ⟨h.row.next hd, fun _ => ?_, ?_, h1⟩
  · rcases Nat.eq_zero_or_pos m with rfl | hm
    · have := hn.2
      simp at this
      have : n = 0 := by omega
      subst this
      simp only [Nat.add_zero] at h48 h57 ⊢
      omega
    · have hz := h.zero hm
      rcases h2 with h2 | h2
      · omega
      · have : n ≠ 0 := fun e => h2 (hz.1 e)
        constructor
        · intro e; omega
        · intro e; exact absurd e h2
  · rw [← h.left, show digits - m = (digits - (m + 1)) + 1 by omega, numLoop_next ⟨by omega, hd⟩ ?_]
    · rw [Nat.add_assoc]
    · unfold stops
      simp only [Bool.or_eq_false_iff, Bool.and_eq_false_iff, decide_eq_false_iff_not]
      refine ⟨⟨?_, by omega⟩, by omega⟩
      rcases Nat.eq_zero_or_pos m with hm | hm
      · exact Or.inl (by omega)
      · rcases h2 with h2 | h2
        · omega
        · exact Or.inr fun e => h2 ((h.zero hm).1 e)
theorem NumSt.stop (h : NumSt s digits low high p m n) (hd : digAt s (p + m) true = false) : numAt s digits low high true p = (n, m, p + m) := by
  rw [← h.left]
  exact numLoop_stop (by rw [hd]; simp)
theorem NumSt.halt (h : NumSt s digits low high p m n) (hlow : low = 0 ∨ low = 1) (hd : digAt s (p + m) true = true) (hb : begF digits low high (m + 1) (byte s p) (10 * n + ((byte s (p + m) : Int) - 48)) = false) : numAt s digits low high true p = (n, m, p + m) := by
  rw [← h.left]
  by_cases hm : m < digits
  · refine numLoop_break ⟨hm, hd⟩ ?_
    unfold stops
    unfold begF at hb
    simp only [Bool.and_eq_false_iff, decide_eq_false_iff_not, Bool.not_eq_false', Bool.and_eq_true, decide_eq_true_eq] at hb
    simp only [Bool.or_eq_true, Bool.and_eq_true, decide_eq_true_eq]
    have hn := h.row.lt
    obtain ⟨_, _, h48, h57⟩ := digAt_true hd
    rcases hb with ((hb | hb) | hb) | hb
    · omega
    · exact Or.inl (Or.inl ⟨by omega, (h.zero (by omega)).2 hb.2⟩)
    · exact Or.inl (Or.inr (by omega))
    · exact Or.inr ⟨by omega, by omega⟩
  · exact numLoop_stop (fun e => hm e.1)
end
/-- m digits of a row from p on were taken -/
structure RowSt (s : ByteArray) (digits p m : Nat) (n : Int) : Prop where
  row : DigRow s p m n
  left : rowLoop s digits true (digits - m) n m (p + m) = rowAt s digits true p
  le : m ≤ digits
section
variable {s : ByteArray} {digits p m : Nat} {n : Int}
theorem RowSt.start (h : p ≤ s.size) : RowSt s digits p 0 0 := ⟨.zero h, rfl, Nat.zero_le _⟩
theorem rowLoop_stop {ok : Bool} {f : Nat} (h : ¬ (m < digits ∧ digAt s p ok = true)) : rowLoop s digits ok f n m p = (n, m, p) := by
  cases f <;> simp [rowLoop, h]
theorem RowSt.next (h : RowSt s digits p m n) (hm : m < digits) (hd : digAt s (p + m) true = true) : RowSt s digits p (m + 1) (10 * n + ((byte s (p + m) : Int) - 48)) := by
  refine ⟨h.row.next hd, ?_, hm⟩
  rw [← h.left, show digits - m = (digits - (m + 1)) + 1 by omega]
  conv => rhs; rw [rowLoop]
  rw [if_pos ⟨hm, hd⟩, Nat.add_assoc]
theorem RowSt.stop (h : RowSt s digits p m n) (hd : ¬ (m < digits ∧ digAt s (p + m) true = true)) : rowAt s digits true p = (n, m, p + m) := by
  rw [← h.left]
  exact rowLoop_stop hd
end
/-- what the forms' tokens are like -/
def TokOk (t : Tok) : Prop :=
  (t.kind = 1 ∧ t.text.size ≤ 100) ∨ (t.kind = 2 ∧ (t.low = 0 ∨ t.low = 1) ∧ 0 ≤ t.high ∧ t.high ≤ 9999999999999 ∧ t.digits ≤ 13) ∨ (t.kind = 3 ∧ 0 ≤ t.high ∧ t.high ≤ 99) ∨ (t.kind = 4 ∧ t.digits ≤ 6 )
end Rd

/- Going along a form, step by step (plain). -/
namespace Rd
theorem exactLoop_le (s t : ByteArray) : ∀ (f i p : Nat), p ≤ s.size → (exactLoop s t f i p).1 ≤ s.size
  | 0, _, p, h => h
  | f + 1, i, p, h => by
    unfold exactLoop
    split
    · split
      · rename_i hc
        exact exactLoop_le s t f (i + 1) (p + 1) (by omega)
      · exact h
    · exact h
theorem pairStep_le {s : ByteArray} {most u n : Int} {q : Nat} {b : Bool} (h : q ≤ s.size) : (pairStep s most u (n, q, b)).2.1 ≤ s.size := by
  unfold pairStep
  split
  · rename_i hc
    have : q < s.size := (digAt_true hc.1).2.1
    show q + 1 ≤ s.size
    omega
  · exact h
theorem rowLoop_le (s : ByteArray) (digits : Nat) (ok : Bool) : ∀ (f : Nat) (n : Int) (m p : Nat), p ≤ s.size → (rowLoop s digits ok f n m p).2.2 ≤ s.size
  | 0, n, m, p, h => h
  | f + 1, n, m, p, h => by
    unfold rowLoop
    split
    · rename_i hc
      have := (digAt_true hc.2).2.1
      exact rowLoop_le s digits ok f _ _ _ (by omega)
    · exact h
theorem runT_le {s : ByteArray} {t : Tok} {p : Nat} (h : p ≤ s.size) : (runT s t p).1 ≤ s.size := by
  unfold runT
  split
  · show (exactAt s t.text p true).1 ≤ _
    unfold exactAt
    rw [if_pos rfl]
    exact exactLoop_le s t.text _ _ _ h
  · split
    · show (pairAt s t.high p true).2.1 ≤ _
      unfold pairAt
      exact pairStep_le (n := (pairStep s t.high 10 (0, p, true)).1) (b := (pairStep s t.high 10 (0, p, true)).2.2) (pairStep_le h)
    · split
      · exact numLoop_pos _ _ _ _ _ _ _ _ _ h
      · exact rowLoop_le _ _ _ _ _ _ _ h
def tok0 : Tok := litT ⟨#[]⟩
/-- behind k tokens of a form, at q, with the values L -/
def MatchAt (s : ByteArray) (f : List Tok) (k q : Nat) (L : List Int) : Prop :=
  matchT s f 0 = ((matchT s (f.drop k) q).1, L ++ (matchT s (f.drop k) q).2.1, (matchT s (f.drop k) q).2.2)
theorem MatchAt.start (s : ByteArray) (f : List Tok) : MatchAt s f 0 0 [] := rfl
theorem MatchAt.next {s : ByteArray} {f : List Tok} {k q : Nat} {L : List Int} (h : MatchAt s f k q L) {t : Tok} (ht : f[k]? = some t) (hr : (runT s t q).2.2 = true) :
    MatchAt s f (k + 1) (runT s t q).1 (if t.kind = 1 then L else L ++ [(runT s t q).2.1]) := by
  unfold MatchAt at h ⊢
  have hk : k < f.length := (List.getElem?_eq_some_iff.1 ht).1
  rw [h, List.drop_eq_getElem_cons hk, (List.getElem?_eq_some_iff.1 ht).2, matchT, if_pos hr]
  split <;> simp
theorem MatchAt.fail {s : ByteArray} {f : List Tok} {k q : Nat} {L : List Int} (h : MatchAt s f k q L) {t : Tok} (ht : f[k]? = some t) (hr : (runT s t q).2.2 = false) : matchT s f 0 = ((runT s t q).1, L, false) := by
  unfold MatchAt at h
  have hk : k < f.length := (List.getElem?_eq_some_iff.1 ht).1
  rw [h, List.drop_eq_getElem_cons hk, (List.getElem?_eq_some_iff.1 ht).2, matchT, if_neg (by rw [hr]; simp)]
  simp
theorem MatchAt.done {s : ByteArray} {f : List Tok} {k q : Nat} {L : List Int} (h : MatchAt s f k q L) (hk : k = f.length) : matchT s f 0 = (q, L, decide (q = s.size)) := by
  unfold MatchAt at h
  rw [h, hk, List.drop_length]
  simp [matchT]
theorem matchT_le {s : ByteArray} : ∀ (f : List Tok) (q : Nat), q ≤ s.size → (matchT s f q).1 ≤ s.size
  | [], q, h => h
  | t :: f, q, h => by
    rw [matchT]
    split
    · exact matchT_le f _ (runT_le h)
    · exact runT_le h
/-- behind k forms -/
def FirstAt (s : ByteArray) (l : List (List Tok)) (k far : Nat) : Prop := firstT s l 0 0 = firstT s (l.drop k) k far
theorem FirstAt.start (s : ByteArray) (l : List (List Tok)) : FirstAt s l 0 0 := rfl
theorem FirstAt.next {s : ByteArray} {l : List (List Tok)} {k far : Nat} (h : FirstAt s l k far) {f : List Tok} (hf : l[k]? = some f) (hm : (matchT s f 0).2.2 = false) : FirstAt s l (k + 1) (max far (matchT s f 0).1) := by
  unfold FirstAt at h ⊢
  have hk : k < l.length := (List.getElem?_eq_some_iff.1 hf).1
  rw [h, List.drop_eq_getElem_cons hk, (List.getElem?_eq_some_iff.1 hf).2, firstT, if_neg (by rw [hm]; simp)]
theorem FirstAt.hit {s : ByteArray} {l : List (List Tok)} {k far : Nat} (h : FirstAt s l k far) {f : List Tok} (hf : l[k]? = some f) (hm : (matchT s f 0).2.2 = true) : firstT s l 0 0 = ((k : Int), (matchT s f 0).2.1, 0) := by
  unfold FirstAt at h
  have hk : k < l.length := (List.getElem?_eq_some_iff.1 hf).1
  rw [h, List.drop_eq_getElem_cons hk, (List.getElem?_eq_some_iff.1 hf).2, firstT, if_pos hm]
theorem FirstAt.done {s : ByteArray} {l : List (List Tok)} {k far : Nat} (h : FirstAt s l k far) (hk : k = l.length) : firstT s l 0 0 = (-1, [], far) := by
  unfold FirstAt at h
  rw [h, hk, List.drop_length]
  rfl
end Rd

/- What the values of a form are at most; the letters of a form (plain). -/
namespace Rd
/-- values of tokens that are no fractions -/
theorem runT_val {s : ByteArray} {t : Tok} {p : Nat} {M : Int} (hk : t.kind = 2 ∨ t.kind = 3) (h0 : 0 ≤ t.high) (hM : t.high ≤ M) : 0 ≤ (runT s t p).2.1 ∧ (runT s t p).2.1 ≤ M := by
  unfold runT
  rcases hk with hk | hk
  · rw [if_neg (by omega), if_neg (by omega), if_pos hk]
    have := numAt_val s t.digits t.low t.high true p h0
    exact ⟨this.1, Int.le_trans this.2 hM⟩
  · rw [if_neg (by omega), if_pos hk]
    have := pairAt_val s (most := t.high) p true h0
    exact ⟨this.1, Int.le_trans this.2 hM⟩
def Small (M : Int) (t : Tok) : Prop := t.kind = 1 ∨ ((t.kind = 2 ∨ t.kind = 3) ∧ 0 ≤ t.high ∧ t.high ≤ M)
theorem matchT_vals {s : ByteArray} {M : Int} : ∀ (f : List Tok) (p : Nat), (∀ t, t ∈ f → Small M t) → ∀ v, v ∈ (matchT s f p).2.1 → 0 ≤ v ∧ v ≤ M
  | [], p, _, v, hv => by simp [matchT] at hv
  | t :: f, p, h, v, hv => by
    have ih := matchT_vals (s := s) f (runT s t p).1 (fun t ht => h t (List.mem_cons_of_mem _ ht)) v
    rw [matchT] at hv
    split at hv
    · by_cases hk : t.kind = 1
      · simp only [if_pos hk] at hv
        exact ih hv
      · simp only [if_neg hk] at hv
        rcases List.mem_cons.1 hv with rfl | hv
        · rcases h t (List.mem_cons_self ..) with h1 | ⟨h1, h2, h3⟩
          · exact absurd h1 hk
          · exact runT_val h1 h2 h3
        · exact ih hv
    · simp at hv
def nVals : List Tok → Nat
  | [] => 0
  | t :: f => (if t.kind = 1 then 0 else 1) + nVals f
theorem matchT_len {s : ByteArray} : ∀ (f : List Tok) (p : Nat), (matchT s f p).2.2 = true → (matchT s f p).2.1.length = nVals f
  | [], p, _ => rfl
  | t :: f, p, h => by
    rw [matchT] at h ⊢
    by_cases hr : (runT s t p).2.2 = true
    · rw [if_pos hr] at h ⊢
      have ih := matchT_len (s := s) f (runT s t p).1 h
      unfold nVals
      by_cases hk : t.kind = 1
      · simp only [if_pos hk]
        rw [ih]; omega
      · simp only [if_neg hk, List.length_cons]
        rw [ih]; omega
    · rw [if_neg hr] at h
      cases h
theorem firstT_len {s : ByteArray} (l : List (List Tok)) (h : 0 ≤ (firstT s l 0 0).1) : ∃ (k : Nat) (f : List Tok), l[k]? = some f ∧ (firstT s l 0 0).1 = (k : Int) ∧ (matchT s f 0).2.2 = true ∧ (firstT s l 0 0).2.1 = (matchT s f 0).2.1 := by
  by_cases hex : ∃ f, f ∈ l ∧ (matchT s f 0).2.2 = true
  · obtain ⟨k, f, h1, h2, _, h4⟩ := firstT_some l 0 0 hex
    rw [h4]
    exact ⟨k, f, h1, by simp, h2, rfl⟩
  · rw [firstT_none l 0 0 (fun f hf => by
      cases hm : (matchT s f 0).2.2 with
      | false => rfl
      | true => exact absurd ⟨f, hf, hm⟩ hex)] at h
    exact absurd h (by show ¬ (0 : Int) ≤ -1; omega)
/-! ### the forms of durations -/
theorem dot_step : ∀ (k : Nat) (L us : List Int), k < L.length → k < us.length → dotU (L.take (k + 1)) (us.take (k + 1)) = dotU (L.take k) (us.take k) + L.getD k 0 * us.getD k 0
  | _, [], _, h, _ => by simp at h
  | _, _ :: _, [], _, h => by simp at h
  | 0, v :: L, u :: us, _, _ => by simp [dotU]
  | k + 1, v :: L, u :: us, h1, h2 => by
    have := dot_step k L us (by simpa using h1) (by simpa using h2)
    rw [List.take_succ_cons, List.take_succ_cons, dotU, this, List.take_succ_cons, List.take_succ_cons, dotU]
    simp only [List.getD_cons_succ]
    omega
theorem dot_small {M : Int} : ∀ (k : Nat) (L us : List Int), (∀ v, v ∈ L → 0 ≤ v ∧ v ≤ M) → (∀ u, u ∈ us → 0 ≤ u ∧ u ≤ 3600) → 0 ≤ M → 0 ≤ dotU (L.take k) (us.take k) ∧ dotU (L.take k) (us.take k) ≤ k * (M * 3600)
  | 0, L, us, _, _, _ => by simp [dotU]
  | k + 1, [], us, _, _, hM => by
    rw [List.take_nil, show dotU [] (List.take (k + 1) us) = 0 from rfl]
    exact ⟨Int.le_refl _, Int.mul_nonneg (by omega) (by omega)⟩
  | k + 1, v :: L, [], _, _, hM => by
    rw [List.take_nil, show dotU (List.take (k + 1) (v :: L)) [] = 0 from rfl]
    exact ⟨Int.le_refl _, Int.mul_nonneg (by omega) (by omega)⟩
  | k + 1, v :: L, u :: us, h1, h2, hM => by
    have ih := dot_small k L us (fun v hv => h1 v (List.mem_cons_of_mem _ hv)) (fun u hu => h2 u (List.mem_cons_of_mem _ hu)) hM
    have hv := h1 v (List.mem_cons_self ..)
    have hu := h2 u (List.mem_cons_self ..)
    rw [List.take_succ_cons, List.take_succ_cons, dotU]
    have a1 : 0 ≤ v * u := Int.mul_nonneg hv.1 hu.1
    have a2 : v * u ≤ M * 3600 := Int.le_trans (Int.mul_le_mul_of_nonneg_right hv.2 hu.1) (Int.mul_le_mul_of_nonneg_left hu.2 hM)
    refine ⟨by omega, ?_⟩
    rw [show ((k + 1 : Nat) : Int) * (M * 3600) = (k : Int) * (M * 3600) + M * 3600 by rw [Int.natCast_add, Int.add_mul]; simp]
    omega
def letL (i : Nat) : Nat := [104, 109, 115].getD i 0
def bitOn (k i : Nat) : Bool := k / 2 ^ i % 2 == 1
/-- the letters of form k below i -/
def sel (k : Nat) : Nat → List Nat
  | 0 => []
  | i + 1 => if bitOn k i = true then sel k i ++ [letL i] else sel k i
theorem lform_snoc (c : Nat) : ∀ S : List Nat, lform (S ++ [c]) = lform S ++ [numT 0 9999999 7, litT (byteT c)]
  | [] => rfl
  | d :: S => by
    show _ :: _ :: lform (S ++ [c]) = _ :: _ :: (lform S ++ _)
    rw [lform_snoc c S]
theorem sel_dur {k : Nat} (h1 : 1 ≤ k) (h7 : k ≤ 7) : durT[k + 1]? = some (lform (sel k 3)) ∧ durU[k + 1]? = some ((sel k 3).map unitL) ∧ sel k 3 ≠ [] := by
  rcases (show k = 1 ∨ k = 2 ∨ k = 3 ∨ k = 4 ∨ k = 5 ∨ k = 6 ∨ k = 7 by omega) with rfl | rfl | rfl | rfl | rfl | rfl | rfl
  all_goals exact ⟨rfl, rfl, by decide⟩
theorem sel_len (k : Nat) : ∀ i, (sel k i).length ≤ i
  | 0 => Nat.le_refl _
  | i + 1 => by
    have := sel_len k i
    unfold sel
    split
    · simp; omega
    · omega
theorem lform_len : ∀ S : List Nat, (lform S).length = 2 * S.length
  | [] => rfl
  | c :: S => by
    show (lform S).length + 1 + 1 = _
    rw [lform_len S]
    simp only [List.length_cons]; omega
theorem lform_ok : ∀ S : List Nat, ∀ t, t ∈ lform S → TokOk t ∧ Small 9999999 t
  | [], t, h => by cases h
  | c :: S, t, h => by
    rcases List.mem_cons.1 h with rfl | h
    · exact ⟨Or.inr (Or.inl ⟨rfl, Or.inl rfl, by decide, by decide, by decide⟩), Or.inr ⟨Or.inl rfl, by decide, by decide⟩⟩
    · rcases List.mem_cons.1 h with rfl | h
      · exact ⟨Or.inl ⟨rfl, by show 1 ≤ 100; decide⟩, Or.inl rfl⟩
      · exact lform_ok S t h
theorem num_ok {lo hi : Int} {d : Nat} (h0 : lo = 0 ∨ lo = 1) (h1 : 0 ≤ hi) (h2 : hi ≤ 9999999) (h3 : d ≤ 13) : TokOk (numT lo hi d) ∧ Small 9999999 (numT lo hi d) := ⟨Or.inr (Or.inl ⟨rfl, h0, h1, by show hi ≤ _; omega, h3⟩), Or.inr ⟨Or.inl rfl, h1, h2⟩⟩
theorem pair_ok {hi : Int} (h1 : 0 ≤ hi) (h2 : hi ≤ 99) : TokOk (pairT hi) ∧ Small 9999999 (pairT hi) := ⟨Or.inr (Or.inr (Or.inl ⟨rfl, h1, h2⟩)), Or.inr ⟨Or.inr rfl, h1, by show hi ≤ _; omega⟩⟩
theorem colon_ok : TokOk (litT colon) ∧ Small 9999999 (litT colon) := ⟨Or.inl ⟨rfl, by decide⟩, Or.inl rfl⟩
theorem dur_ok {f : List Tok} (hf : f ∈ durT) : (∀ t, t ∈ f → TokOk t ∧ Small 9999999 t) ∧ f.length ≤ 6 := by
  simp only [durT, List.mem_cons, List.not_mem_nil, or_false] at hf
  rcases hf with rfl | rfl | h
  · refine ⟨fun t ht => ?_, by decide⟩
    simp only [shortT, List.mem_cons, List.not_mem_nil, or_false] at ht
    rcases ht with rfl | rfl | rfl
    · exact num_ok (Or.inl rfl) (by decide) (by decide) (by decide)
    · exact colon_ok
    · exact pair_ok (by decide) (by decide)
  · refine ⟨fun t ht => ?_, by decide⟩
    simp only [longT, List.mem_cons, List.not_mem_nil, or_false] at ht
    rcases ht with rfl | rfl | rfl | rfl | rfl
    · exact num_ok (Or.inr rfl) (by decide) (by decide) (by decide)
    · exact colon_ok
    · exact pair_ok (by decide) (by decide)
    · exact colon_ok
    · exact pair_ok (by decide) (by decide)
  · have : ∃ S : List Nat, f = lform S ∧ S.length ≤ 3 := by
      rcases h with rfl | rfl | rfl | rfl | rfl | rfl | rfl
      · exact ⟨_, rfl, by decide⟩
      · exact ⟨_, rfl, by decide⟩
      · exact ⟨_, rfl, by decide⟩
      · exact ⟨_, rfl, by decide⟩
      · exact ⟨_, rfl, by decide⟩
      · exact ⟨_, rfl, by decide⟩
      · exact ⟨_, rfl, by decide⟩
    obtain ⟨S, rfl, hS⟩ := this
    exact ⟨lform_ok S, by rw [lform_len]; omega⟩
/-- what a duration's values are like -/
theorem dur_vals {s : ByteArray} (h : 0 ≤ (firstT s durT 0 0).1) : ∃ k : Nat, (firstT s durT 0 0).1 = (k : Int) ∧ k < 9 ∧ (firstT s durT 0 0).2.1.length = (durU.getD k []).length ∧ (∀ v, v ∈ (firstT s durT 0 0).2.1 → 0 ≤ v ∧ v ≤ 9999999) := by
  obtain ⟨k, f, h1, h2, h3, h4⟩ := firstT_len durT h
  have hk : k < 9 := (List.getElem?_eq_some_iff.1 h1).1
  refine ⟨k, h2, hk, ?_, ?_⟩
  · rw [h4, matchT_len f 0 h3]
    have : durT[k]? = some f := h1
    rcases (show k = 0 ∨ k = 1 ∨ k = 2 ∨ k = 3 ∨ k = 4 ∨ k = 5 ∨ k = 6 ∨ k = 7 ∨ k = 8 by omega) with rfl | rfl | rfl | rfl | rfl | rfl | rfl | rfl | rfl
    all_goals
      injection h1 with h1
      subst h1
      rfl
  · rw [h4]
    exact matchT_vals f 0 (fun t ht => ((dur_ok (List.mem_of_getElem? h1)).1 t ht).2)
theorem durU_small {k : Nat} (hk : k < 9) : (∀ u, u ∈ durU.getD k [] → 0 ≤ u ∧ u ≤ 3600) ∧ (durU.getD k []).length ≤ 3 ∧ 0 < (durU.getD k []).length := by
  rcases (show k = 0 ∨ k = 1 ∨ k = 2 ∨ k = 3 ∨ k = 4 ∨ k = 5 ∨ k = 6 ∨ k = 7 ∨ k = 8 by omega) with rfl | rfl | rfl | rfl | rfl | rfl | rfl | rfl | rfl
  all_goals exact ⟨by decide, by decide, by decide⟩
end Rd

/- Words at the end of a text; paces of both, in plain words. -/
namespace Rd
theorem exactLoop_iff (s t : ByteArray) : ∀ (f i p : Nat), f = t.size - i → p ≤ s.size →
    ((exactLoop s t f i p).2 = true ↔ (p + (t.size - i) ≤ s.size ∧ ∀ j, j < t.size - i → byte s (p + j) = byte t (i + j))) ∧ ((exactLoop s t f i p).2 = true → (exactLoop s t f i p).1 = p + (t.size - i))
  | 0, i, p, hf, hp => by
    rw [← hf]
    refine ⟨⟨fun _ => ⟨hp, fun j hj => by omega⟩, fun _ => rfl⟩, fun _ => rfl⟩
  | f + 1, i, p, hf, hp => by
    have hi : i < t.size := by omega
    rw [exactLoop, if_pos hi]
    by_cases hc : p < s.size ∧ byte s p = byte t i
    · rw [if_pos hc]
      obtain ⟨h1, h2⟩ := exactLoop_iff s t f (i + 1) (p + 1) (by omega) (by omega)
      refine ⟨⟨fun h => ?_, fun h => ?_⟩, fun h => by rw [h2 h]; omega⟩
      · obtain ⟨g1, g2⟩ := h1.1 h
        refine ⟨by omega, fun j hj => ?_⟩
        cases j with
        | zero => exact hc.2
        | succ j =>
          have := g2 j (by omega)
          rwa [show p + 1 + j = p + (j + 1) by omega, show i + 1 + j = i + (j + 1) by omega] at this
      · obtain ⟨g1, g2⟩ := h
        refine h1.2 ⟨by omega, fun j hj => ?_⟩
        have := g2 (j + 1) (by omega)
        rwa [show p + 1 + j = p + (j + 1) by omega, show i + 1 + j = i + (j + 1) by omega]
    · rw [if_neg hc]
      refine ⟨⟨fun h => (by cases h), fun h => ?_⟩, fun h => (by cases h)⟩
      obtain ⟨g1, g2⟩ := h
      have := g2 0 (by omega)
      exact absurd ⟨by omega, this⟩ hc
theorem exactAt_yes (s t : ByteArray) (p : Nat) : exactAt s t p true = exactLoop s t t.size 0 p := by
  unfold exactAt
  rw [if_pos rfl]
/-- a word is all the rest -/
theorem exact_whole {s w : ByteArray} {p : Nat} (hp : p ≤ s.size) : ((exactAt s w p true).2 && decide ((exactAt s w p true).1 = s.size)) = decide (w = s.extract p s.size) := by
  rw [exactAt_yes]
  obtain ⟨h1, h2⟩ := exactLoop_iff s w w.size 0 p (by omega) hp
  have hsz : (s.extract p s.size).size = s.size - p := by rw [ByteArray.size_extract]; omega
  by_cases h : w = s.extract p s.size
  · rw [decide_eq_true h]
    have hws : w.size = s.size - p := by rw [h, hsz]
    have ok : (exactLoop s w w.size 0 p).2 = true := h1.2 ⟨by omega, fun j hj => by
      have hj' : j < w.size := by omega
      rw [Nat.zero_add, byte_lt (by omega), byte_lt hj']
      have e : ∀ (u : ByteArray) (hu : j < u.size), u = s.extract p s.size → (s[p + j]'(by omega)).toNat = (u[j]'hu).toNat := fun u hu he => by
        subst he
        rw [ByteArray.getElem_extract]
      exact e w hj' h⟩
    rw [ok, h2 ok, Bool.true_and, decide_eq_true_eq]
    omega
  · rw [decide_eq_false h, Bool.and_eq_false_iff]
    by_cases ok : (exactLoop s w w.size 0 p).2 = true
    · right
      rw [decide_eq_false_iff_not]
      intro hpl
      rw [h2 ok] at hpl
      obtain ⟨g1, g2⟩ := h1.1 ok
      apply h
      apply sB_inj
      rw [extract_list]
      apply List.ext_getElem?
      intro j
      by_cases hj : j < w.size
      · have := g2 j (by omega)
        rw [Nat.zero_add, byte_lt (by omega), byte_lt hj] at this
        rw [sB_get hj, List.getElem?_take_of_lt (by omega), List.getElem?_drop, sB_get (by omega)]
        congr 1
        exact (UInt8.toNat_inj.1 this).symm
      · rw [List.getElem?_eq_none (by show w.size ≤ j; omega), List.getElem?_eq_none]
        rw [List.length_take]
        omega
    · left
      simpa using ok
/-- one of these words, up to the end -/
def lastAt (s : ByteArray) (ws : List ByteArray) (p : Nat) (ok : Bool) : Int × Nat × Bool :=
  if ok = true then (Go.Lib.idxOfS ws (s.extract p s.size), ws.foldl (fun a w => max a (exactAt s w p true).1) p, decide (0 ≤ Go.Lib.idxOfS ws (s.extract p s.size))) else (-1, p, false)
def begAt (s : ByteArray) (c p : Nat) (ok : Bool) : Bool := ok && (decide (p < s.size) && decide (byte s p = c))
def kmB : ByteArray := ⟨#[107, 109]⟩
def miB : ByteArray := ⟨#[109, 105]⟩
def hmB : ByteArray := ⟨#[49, 48, 48, 109]⟩
def slashB : ByteArray := ⟨#[47]⟩
def dotB : ByteArray := ⟨#[46]⟩
def kmhB : ByteArray := ⟨#[32, 107, 109, 47, 104]⟩
def timedF (s : ByteArray) : Int × Nat × Bool :=
  let m := numAt s 3 0 999 true 0
  let c := exactAt s colon m.2.2 (numOk 0 true m)
  let x := pairAt s 59 c.1 c.2
  let d := exactAt s slashB x.2.1 x.2.2
  let k := lastAt s [kmB, miB, hmB] d.1 d.2
  (if k.1 = 1 then (Sc.sc (60 * m.1 + x.1) 1000000 1609344 4).1 else if k.1 = 2 then 10 * (60 * m.1 + x.1) else 60 * m.1 + x.1, k.2.1, k.2.2)
def speedF (s : ByteArray) : Int × Nat × Bool :=
  let n := numAt s 3 0 999 true 0
  if begAt s 46 n.2.2 (numOk 0 true n) = true then
    let e := exactAt s dotB n.2.2 (numOk 0 true n)
    let d := rowAt s 1 e.2 e.1
    let f := exactAt s kmhB d.2.2 (e.2 && decide (1 ≤ d.2.1))
    ((Sc.sc 36000 1 (10 * n.1 + d.1) 4).1, f.1, f.2)
  else
    let f := exactAt s kmhB n.2.2 (numOk 0 true n)
    ((Sc.sc 36000 1 (10 * n.1) 4).1, f.1, f.2)
def mT (w : ByteArray) : List Tok := [numT 0 999 3, litT colon, pairT 59, litT slashB, litT w]
def hT : List Tok := [numT 0 999 3, litT kmhB]
def hdT : List Tok := [numT 0 999 3, litT dotB, partT 1, litT kmhB]
def paceT : List (List Tok) := [mT kmB, mT miB, mT hmB, hT, hdT]
def paceVal (n : Int) (L : List Int) : Int :=
  if n = 0 then 60 * L.getD 0 0 + L.getD 1 0
  else if n = 1 then (Sc.sc (60 * L.getD 0 0 + L.getD 1 0) 1000000 1609344 4).1
  else if n = 2 then 10 * (60 * L.getD 0 0 + L.getD 1 0)
  else if 0 < 10 * L.getD 0 0 + (if n = 4 then L.getD 1 0 else 0) then (Sc.sc 36000 1 (10 * L.getD 0 0 + (if n = 4 then L.getD 1 0 else 0)) 4).1 else 0
def refPace (s : ByteArray) : Int × Nat × Int :=
  if 1000 < s.size then (0, 0, 3)
  else if (firstT s paceT 0 0).1 < 0 then (0, (firstT s paceT 0 0).2.2, 6)
  else if 1 ≤ paceVal (firstT s paceT 0 0).1 (firstT s paceT 0 0).2.1 ∧ paceVal (firstT s paceT 0 0).1 (firstT s paceT 0 0).2.1 ≤ 36000 then (paceVal (firstT s paceT 0 0).1 (firstT s paceT 0 0).2.1, 0, 0) else (0, 0, 9)
/-- what stands ahead of the words -/
structure Pre (s : ByteArray) (d : Nat × Bool) (a b : Int) : Prop where
  le : d.1 ≤ s.size
  no : d.2 = false → ∀ w, (matchT s (mT w) 0).1 = d.1 ∧ (matchT s (mT w) 0).2.2 = false
  yes : d.2 = true → ∀ w, matchT s (mT w) 0 = if (exactAt s w d.1 true).2 = true then ((exactAt s w d.1 true).1, [a, b], decide ((exactAt s w d.1 true).1 = s.size)) else ((exactAt s w d.1 true).1, [a, b], false)
theorem exactAt_le {s t : ByteArray} {p : Nat} {ok : Bool} (h : p ≤ s.size) : (exactAt s t p ok).1 ≤ s.size := by
  unfold exactAt
  split
  · exact exactLoop_le s t _ _ _ h
  · exact h
theorem pre_timed (s : ByteArray) : let m := numAt s 3 0 999 true 0; let c := exactAt s colon m.2.2 (numOk 0 true m); let x := pairAt s 59 c.1 c.2; Pre s (exactAt s slashB x.2.1 x.2.2) m.1 x.1 := by
  intro m c x
  have hm : m.2.2 ≤ s.size := numLoop_pos _ _ _ _ _ _ _ _ _ (Nat.zero_le _)
  have hc : c.1 ≤ s.size := exactAt_le hm
  have hx : x.2.1 ≤ s.size := pairStep_le (n := (pairStep s 59 10 (0, c.1, c.2)).1) (b := (pairStep s 59 10 (0, c.1, c.2)).2.2) (pairStep_le hc)
  have key : ∀ w, matchT s (mT w) 0 = if numOk 0 true m = true then ((matchT s [litT colon, pairT 59, litT slashB, litT w] m.2.2).1, m.1 :: (matchT s [litT colon, pairT 59, litT slashB, litT w] m.2.2).2.1, (matchT s [litT colon, pairT 59, litT slashB, litT w] m.2.2).2.2) else (m.2.2, [], false) := fun w => matchT_num
  obtain ⟨k1, hk1⟩ : ∃ k, numOk 0 true m = k := ⟨_, rfl⟩
  cases k1
  case false =>
    have ec : c = (m.2.2, false) := by show exactAt s colon m.2.2 (numOk 0 true m) = _; rw [hk1]; rfl
    have ex : x = (0, m.2.2, false) := by show pairAt s 59 c.1 c.2 = _; rw [ec]; exact pairAt_no
    rw [ex]
    refine ⟨hm, fun _ w => ?_, fun h => by cases h⟩
    rw [key w, hk1]
    exact ⟨rfl, rfl⟩
  case true =>
  have ec : c = exactAt s colon m.2.2 true := by show exactAt s colon m.2.2 (numOk 0 true m) = _; rw [hk1]
  have key2 : ∀ w, matchT s [litT colon, pairT 59, litT slashB, litT w] m.2.2 = if c.2 = true then matchT s [pairT 59, litT slashB, litT w] c.1 else (c.1, [], false) := fun w => by rw [matchT_lit, ← ec]
  obtain ⟨k2, hk2⟩ : ∃ k, c.2 = k := ⟨_, rfl⟩
  cases k2
  case false =>
    have ex : x = (0, c.1, false) := by show pairAt s 59 c.1 c.2 = _; rw [hk2]; exact pairAt_no
    rw [ex]
    refine ⟨hc, fun _ w => ?_, fun h => by cases h⟩
    rw [key w, hk1, key2 w, hk2]
    exact ⟨rfl, rfl⟩
  case true =>
  have ex : x = pairAt s 59 c.1 true := by show pairAt s 59 c.1 c.2 = _; rw [hk2]
  have key3 : ∀ w, matchT s [pairT 59, litT slashB, litT w] c.1 = if x.2.2 = true then ((matchT s [litT slashB, litT w] x.2.1).1, x.1 :: (matchT s [litT slashB, litT w] x.2.1).2.1, (matchT s [litT slashB, litT w] x.2.1).2.2) else (x.2.1, [], false) := fun w => by rw [matchT_pair, ← ex]
  obtain ⟨k3, hk3⟩ : ∃ k, x.2.2 = k := ⟨_, rfl⟩
  cases k3
  case false =>
    rw [hk3]
    refine ⟨hx, fun _ w => ?_, fun h => by cases h⟩
    rw [key w, hk1, key2 w, hk2, key3 w, hk3]
    exact ⟨rfl, rfl⟩
  case true =>
  rw [hk3]
  have key4 : ∀ w, matchT s [litT slashB, litT w] x.2.1 = if (exactAt s slashB x.2.1 true).2 = true then matchT s [litT w] (exactAt s slashB x.2.1 true).1 else ((exactAt s slashB x.2.1 true).1, [], false) := fun w => matchT_lit
  have hd : (exactAt s slashB x.2.1 true).1 ≤ s.size := exactAt_le hx
  obtain ⟨d, hdd⟩ : ∃ d, exactAt s slashB x.2.1 true = d := ⟨_, rfl⟩
  rw [hdd] at hd key4 ⊢
  obtain ⟨d1, d2⟩ := d
  refine ⟨hd, fun h w => ?_, fun h w => ?_⟩
  · have h : d2 = false := h
    subst h
    rw [key w, hk1, key2 w, hk2, key3 w, hk3, key4 w]
    exact ⟨rfl, rfl⟩
  · have h : d2 = true := h
    subst h
    rw [key w, hk1, key2 w, hk2, key3 w, hk3, key4 w]
    simp only [if_true]
    rw [matchT_lit]
    split <;> simp [matchT]
theorem idx_three (a b c r : ByteArray) : Go.Lib.idxOfS [a, b, c] r = if a = r then 0 else if b = r then 1 else if c = r then 2 else -1 := by
  unfold Go.Lib.idxOfS
  simp only [Go.Lib.idxFromS]
  by_cases h1 : a = r
  · simp [h1]
  · by_cases h2 : b = r
    · simp [h1, h2]
    · by_cases h3 : c = r
      · simp [h1, h2, h3]
      · simp [h1, h2, h3]
end Rd

/- The reference's reading of paces is the program's, in plain words. -/
namespace Rd
theorem exactLoop_ge (s t : ByteArray) : ∀ (f i p : Nat), p ≤ (exactLoop s t f i p).1
  | 0, _, p => Nat.le_refl _
  | f + 1, i, p => by
    unfold exactLoop
    split
    · split
      · exact Nat.le_trans (Nat.le_succ p) (exactLoop_ge s t f _ _)
      · exact Nat.le_refl _
    · exact Nat.le_refl _
theorem exactAt_ge (s t : ByteArray) (p : Nat) (ok : Bool) : p ≤ (exactAt s t p ok).1 := by
  unfold exactAt
  split
  · exact exactLoop_ge ..
  · exact Nat.le_refl _
theorem rowLoop_ge (s : ByteArray) (k : Nat) (ok : Bool) : ∀ (f : Nat) (n : Int) (m p : Nat), p ≤ (rowLoop s k ok f n m p).2.2
  | 0, n, m, p => Nat.le_refl _
  | f + 1, n, m, p => by
    unfold rowLoop
    split
    · exact Nat.le_trans (Nat.le_succ p) (rowLoop_ge s k ok f _ _ _)
    · exact Nat.le_refl _
/-- what the forms of one part of the program say together -/
structure Parts (s : ByteArray) (fs : List (List Tok)) (o : Int × Nat × Bool) (i0 : Nat) : Prop where
  yes : (o.2.2 && decide (o.2.1 = s.size)) = true → ∃ (k : Nat) (f : List Tok), fs[k]? = some f ∧ (matchT s f 0).2.2 = true ∧ (∀ j g, j < k → fs[j]? = some g → (matchT s g 0).2.2 = false) ∧ paceVal ((i0 + k : Nat) : Int) (matchT s f 0).2.1 = o.1
  no : (o.2.2 && decide (o.2.1 = s.size)) = false → (∀ f, f ∈ fs → (matchT s f 0).2.2 = false) ∧ ∀ far, fs.foldl (fun a f => max a (matchT s f 0).1) far = max far o.2.1
theorem pv0 (a b : Int) : paceVal ((0 + 0 : Nat) : Int) [a, b] = (if (0 : Int) = 1 then (Sc.sc (60 * a + b) 1000000 1609344 4).1 else if (0 : Int) = 2 then 10 * (60 * a + b) else 60 * a + b) := by
  unfold paceVal
  rw [if_pos (show ((0 + 0 : Nat) : Int) = 0 by omega), if_neg (show ¬ (0 : Int) = 1 by omega), if_neg (show ¬ (0 : Int) = 2 by omega), List.getD_cons_zero, List.getD_cons_succ, List.getD_cons_zero]
theorem pv1 (a b : Int) : paceVal ((0 + 1 : Nat) : Int) [a, b] = (if (1 : Int) = 1 then (Sc.sc (60 * a + b) 1000000 1609344 4).1 else if (1 : Int) = 2 then 10 * (60 * a + b) else 60 * a + b) := by
  unfold paceVal
  rw [if_neg (show ¬ ((0 + 1 : Nat) : Int) = 0 by omega), if_pos (show ((0 + 1 : Nat) : Int) = 1 by omega), if_pos (show (1 : Int) = 1 by omega), List.getD_cons_zero, List.getD_cons_succ, List.getD_cons_zero]
theorem pv2 (a b : Int) : paceVal ((0 + 2 : Nat) : Int) [a, b] = (if (2 : Int) = 1 then (Sc.sc (60 * a + b) 1000000 1609344 4).1 else if (2 : Int) = 2 then 10 * (60 * a + b) else 60 * a + b) := by
  unfold paceVal
  rw [if_neg (show ¬ ((0 + 2 : Nat) : Int) = 0 by omega), if_neg (show ¬ ((0 + 2 : Nat) : Int) = 1 by omega), if_pos (show ((0 + 2 : Nat) : Int) = 2 by omega), if_neg (show ¬ (2 : Int) = 1 by omega), if_pos (show (2 : Int) = 2 by omega), List.getD_cons_zero, List.getD_cons_succ, List.getD_cons_zero]
theorem timed_parts (s : ByteArray) : Parts s [mT kmB, mT miB, mT hmB] (timedF s) 0 := by
  have hp := pre_timed s
  unfold timedF
  simp only at hp ⊢
  obtain ⟨m, hm⟩ : ∃ m, numAt s 3 0 999 true 0 = m := ⟨_, rfl⟩
  rw [hm] at hp ⊢
  obtain ⟨c, hc⟩ : ∃ c, exactAt s colon m.2.2 (numOk 0 true m) = c := ⟨_, rfl⟩
  rw [hc] at hp ⊢
  obtain ⟨x, hx⟩ : ∃ x, pairAt s 59 c.1 c.2 = x := ⟨_, rfl⟩
  rw [hx] at hp ⊢
  obtain ⟨d, hd⟩ : ∃ d, exactAt s slashB x.2.1 x.2.2 = d := ⟨_, rfl⟩
  rw [hd] at hp ⊢
  obtain ⟨d1, d2⟩ := d
  obtain ⟨hle, hno, hyes⟩ := hp
  simp only at hle hno hyes ⊢
  cases d2
  case false =>
    have e : lastAt s [kmB, miB, hmB] d1 false = (-1, d1, false) := rfl
    rw [e]
    refine ⟨fun h => by simp at h, fun _ => ⟨fun f hf => ?_, fun far => ?_⟩⟩
    · simp only [List.mem_cons, List.not_mem_nil, or_false] at hf
      rcases hf with rfl | rfl | rfl
      · exact (hno rfl _).2
      · exact (hno rfl _).2
      · exact (hno rfl _).2
    · simp only [List.foldl, (hno rfl _).1]
      omega
  case true =>
    have hy := hyes rfl
    have p1 : ∀ w, (matchT s (mT w) 0).1 = (exactAt s w d1 true).1 := fun w => by rw [hy w]; split <;> rfl
    have p2 : ∀ w, (matchT s (mT w) 0).2.2 = decide (w = s.extract d1 s.size) := fun w => by
      rw [← exact_whole hle, hy w]
      split
      · rename_i h; rw [h]; simp
      · rename_i h
        have h : (exactAt s w d1 true).2 = false := by simpa using h
        rw [h]; rfl
    have p3 : ∀ w, (matchT s (mT w) 0).2.1 = [m.1, x.1] := fun w => by rw [hy w]; split <;> rfl
    have hr : ∀ w, (exactAt s w d1 true).1 ≤ s.size := fun w => exactAt_le hle
    have hfull : ∀ w, w = s.extract d1 s.size → (exactAt s w d1 true).1 = s.size := fun w h => by
      have := exact_whole (w := w) hle
      rw [decide_eq_true h, Bool.and_eq_true] at this
      simpa using this.2
    have e : lastAt s [kmB, miB, hmB] d1 true = (Go.Lib.idxOfS [kmB, miB, hmB] (s.extract d1 s.size), max (max (max d1 (exactAt s kmB d1 true).1) (exactAt s miB d1 true).1) (exactAt s hmB d1 true).1, decide (0 ≤ Go.Lib.idxOfS [kmB, miB, hmB] (s.extract d1 s.size))) := rfl
    rw [e, idx_three]
    have g1 := exactAt_ge s kmB d1 true
    have r1 := hr kmB
    have r2 := hr miB
    have r3 := hr hmB
    have f1 := hfull kmB
    have f2 := hfull miB
    have f3 := hfull hmB
    have q1 := p2 kmB
    have q2 := p2 miB
    have q3 := p2 hmB
    have v1 := p3 kmB
    have v2 := p3 miB
    have v3 := p3 hmB
    have w1 := p1 kmB
    have w2 := p1 miB
    have w3 := p1 hmB
    generalize s.extract d1 s.size = rest at *
    generalize (exactAt s kmB d1 true).1 = e1 at *
    generalize (exactAt s miB d1 true).1 = e2 at *
    generalize (exactAt s hmB d1 true).1 = e3 at *
    by_cases h1 : kmB = rest
    · rw [if_pos h1]
      refine ⟨fun _ => ⟨0, _, rfl, by rw [q1]; simpa using h1, fun j g hj => by omega, ?_⟩, fun h => ?_⟩
      · rw [v1]
        exact pv0 _ _
      · have := f1 h1
        simp at h
        omega
    · rw [if_neg h1]
      by_cases h2 : miB = rest
      · rw [if_pos h2]
        refine ⟨fun _ => ⟨1, _, rfl, by rw [q2]; simpa using h2, fun j g hj hg => ?_, ?_⟩, fun h => ?_⟩
        · obtain rfl : j = 0 := by omega
          injection hg with hg
          subst hg
          rw [q1]; simpa using h1
        · rw [v2]
          exact pv1 _ _
        · have := f2 h2
          simp at h
          omega
      · rw [if_neg h2]
        by_cases h3 : hmB = rest
        · rw [if_pos h3]
          refine ⟨fun _ => ⟨2, _, rfl, by rw [q3]; simpa using h3, fun j g hj hg => ?_, ?_⟩, fun h => ?_⟩
          · rcases (show j = 0 ∨ j = 1 by omega) with rfl | rfl
            · injection hg with hg
              subst hg
              rw [q1]; simpa using h1
            · injection hg with hg
              subst hg
              rw [q2]; simpa using h2
          · rw [v3]
            exact pv2 _ _
          · have := f3 h3
            simp at h
            omega
        · rw [if_neg h3]
          refine ⟨fun h => by simp at h, fun _ => ⟨fun f hf => ?_, fun far => ?_⟩⟩
          · simp only [List.mem_cons, List.not_mem_nil, or_false] at hf
            rcases hf with rfl | rfl | rfl
            · rw [q1]; simpa using h1
            · rw [q2]; simpa using h2
            · rw [q3]; simpa using h3
          · simp only [List.foldl, w1, w2, w3]
            omega
theorem matchT_part {s : ByteArray} {r : List Tok} {p : Nat} : matchT s (partT 1 :: r) p = if 0 < (rowAt s 1 true p).2.1 then ((matchT s r (rowAt s 1 true p).2.2).1, (rowAt s 1 true p).1 * 10 ^ (1 - (rowAt s 1 true p).2.1) :: (matchT s r (rowAt s 1 true p).2.2).2.1, (matchT s r (rowAt s 1 true p).2.2).2.2) else ((rowAt s 1 true p).2.2, [], false) := by
  rw [matchT]
  by_cases h : 0 < (rowAt s 1 true p).2.1 <;> simp [runT, partT, h]
theorem sc_zero {t : Int} (h : ¬ 0 < t) : (Sc.sc 36000 1 t 4).1 = 0 := by
  unfold Sc.sc
  rw [if_neg (by omega), if_pos (Or.inl (by omega))]
theorem row_one (s : ByteArray) (p : Nat) : (rowAt s 1 true p).2.1 ≤ 1 := by
  unfold rowAt
  by_cases h : digAt s p true = true
  · rw [rowLoop, if_pos ⟨by omega, h⟩]
    exact Nat.le_refl _
  · rw [rowLoop, if_neg (fun x => h x.2)]
    exact Nat.zero_le _
theorem exact_not {s t : ByteArray} {p : Nat} (ht : 0 < t.size) (h : ¬ (p < s.size ∧ byte s p = byte t 0)) : exactAt s t p true = (p, false) := by
  rw [exactAt_yes, show t.size = (t.size - 1) + 1 by omega, exactLoop, if_pos ht, if_neg h]
theorem dot_at (s : ByteArray) (p : Nat) : exactAt s dotB p true = if p < s.size ∧ byte s p = 46 then (p + 1, true) else (p, false) := exact_one s 46 p (by omega)
theorem speed_parts (s : ByteArray) : Parts s [hT, hdT] (speedF s) 3 := by
  unfold speedF
  simp only
  obtain ⟨n, hn⟩ : ∃ n, numAt s 3 0 999 true 0 = n := ⟨_, rfl⟩
  have m1 : matchT s hT 0 = if numOk 0 true n = true then ((matchT s [litT kmhB] n.2.2).1, n.1 :: (matchT s [litT kmhB] n.2.2).2.1, (matchT s [litT kmhB] n.2.2).2.2) else (n.2.2, [], false) := by
    unfold hT; rw [matchT_num, hn]
  have m2 : matchT s hdT 0 = if numOk 0 true n = true then ((matchT s [litT dotB, partT 1, litT kmhB] n.2.2).1, n.1 :: (matchT s [litT dotB, partT 1, litT kmhB] n.2.2).2.1, (matchT s [litT dotB, partT 1, litT kmhB] n.2.2).2.2) else (n.2.2, [], false) := by
    unfold hdT; rw [matchT_num, hn]
  rw [hn]
  have kl : ∀ p, matchT s [litT kmhB] p = if (exactAt s kmhB p true).2 = true then ((exactAt s kmhB p true).1, [], decide ((exactAt s kmhB p true).1 = s.size)) else ((exactAt s kmhB p true).1, [], false) := fun p => by
    rw [matchT_lit]
    split <;> simp [matchT]
  obtain ⟨q, hq⟩ : ∃ q, n.2.2 = q := ⟨_, rfl⟩
  rw [hq] at m1 m2 ⊢
  obtain ⟨ok, hok⟩ : ∃ k, numOk 0 true n = k := ⟨_, rfl⟩
  rw [hok] at m1 m2 ⊢
  cases ok
  case false =>
    have b : begAt s 46 q false = false := rfl
    rw [b, if_neg (by simp)]
    have e : exactAt s kmhB q false = (q, false) := rfl
    rw [e]
    refine ⟨fun h => by simp at h, fun _ => ⟨fun f hf => ?_, fun far => ?_⟩⟩
    · simp only [List.mem_cons, List.not_mem_nil, or_false] at hf
      rcases hf with rfl | rfl
      · rw [m1]; rfl
      · rw [m2]; rfl
    · simp only [List.foldl, m1, m2]
      simp
  case true =>
  simp only [if_true] at m1 m2
  by_cases hb : q < s.size ∧ byte s q = 46
  · have b : begAt s 46 q true = true := by unfold begAt; simp [hb.1, hb.2]
    rw [b, if_pos rfl]
    have e1 : exactAt s dotB q true = (q + 1, true) := by rw [dot_at, if_pos hb]
    have e2 : exactAt s kmhB q true = (q, false) := exact_not (by decide) (fun h => by
      have : byte kmhB 0 = 32 := rfl
      rw [this] at h
      omega)
    rw [e1]
    simp only [Bool.true_and]
    have n1 : matchT s hT 0 = (q, [n.1], false) := by rw [m1, kl, e2]; rfl
    rw [matchT_lit, e1] at m2
    simp only [if_true] at m2
    rw [matchT_part] at m2
    have hr1 := row_one s (q + 1)
    have hrg := rowLoop_ge s 1 true 1 0 0 (q + 1)
    have hrg : q + 1 ≤ (rowAt s 1 true (q + 1)).2.2 := hrg
    obtain ⟨d, hd⟩ : ∃ d, rowAt s 1 true (q + 1) = d := ⟨_, rfl⟩
    rw [hd] at m2 hr1 hrg ⊢
    by_cases hd1 : 0 < d.2.1
    · have hd2 : decide (1 ≤ d.2.1) = true := decide_eq_true (show 1 ≤ d.2.1 from hd1)
      have hd3 : d.2.1 = 1 := by omega
      rw [hd2]
      rw [if_pos hd1, kl, hd3] at m2
      have hge := exactAt_ge s kmhB d.2.2 true
      obtain ⟨f, hf⟩ : ∃ f, exactAt s kmhB d.2.2 true = f := ⟨_, rfl⟩
      rw [hf] at m2 hge ⊢
      obtain ⟨f1, f2⟩ := f
      cases f2
      · refine ⟨fun h => by simp at h, fun _ => ⟨fun g hg => ?_, fun far => ?_⟩⟩
        · simp only [List.mem_cons, List.not_mem_nil, or_false] at hg
          rcases hg with rfl | rfl
          · rw [n1]
          · rw [m2]; rfl
        · simp only [List.foldl, n1, m2]
          simp at hge ⊢
          omega
      · refine ⟨fun h => ⟨1, hdT, rfl, ?_, fun j g hj hg => ?_, ?_⟩, fun h => ⟨fun g hg => ?_, fun far => ?_⟩⟩
        · rw [m2]; simpa using h
        · obtain rfl : j = 0 := by omega
          injection hg with hg
          subst hg
          rw [n1]
        · rw [m2]
          simp only [if_true]
          unfold paceVal
          simp only [List.getD_cons_zero, List.getD_cons_succ]
          rw [if_neg (by omega), if_neg (by omega), if_neg (by omega)]
          have e4 : d.1 * 10 ^ (1 - 1) = d.1 := by simp
          rw [e4, if_pos (show ((3 + 1 : Nat) : Int) = 4 from rfl)]
          split
          · rfl
          · rename_i hz
            exact (sc_zero hz).symm
        · simp only [List.mem_cons, List.not_mem_nil, or_false] at hg
          rcases hg with rfl | rfl
          · rw [n1]
          · rw [m2]; simpa using h
        · simp only [List.foldl, n1, m2]
          simp at hge ⊢
          omega
    · have hd2 : decide (1 ≤ d.2.1) = false := by rw [decide_eq_false_iff_not]; omega
      rw [hd2, if_neg hd1] at *
      have e4 : exactAt s kmhB d.2.2 false = (d.2.2, false) := rfl
      rw [e4]
      refine ⟨fun h => by simp at h, fun _ => ⟨fun g hg => ?_, fun far => ?_⟩⟩
      · simp only [List.mem_cons, List.not_mem_nil, or_false] at hg
        rcases hg with rfl | rfl
        · rw [n1]
        · rw [m2]
      · simp only [List.foldl, n1, m2]
        omega
  · have b : begAt s 46 q true = false := by
      unfold begAt
      rw [Bool.true_and, Bool.and_eq_false_iff, decide_eq_false_iff_not, decide_eq_false_iff_not]
      by_cases h : q < s.size
      · exact Or.inr fun e => hb ⟨h, e⟩
      · exact Or.inl h
    rw [b, if_neg (by simp)]
    have e1 : exactAt s dotB q true = (q, false) := by rw [dot_at, if_neg hb]
    have n2 : matchT s hdT 0 = (q, [n.1], false) := by rw [m2, matchT_lit, e1]; rfl
    rw [kl] at m1
    have hge := exactAt_ge s kmhB q true
    obtain ⟨f, hf⟩ : ∃ f, exactAt s kmhB q true = f := ⟨_, rfl⟩
    rw [hf] at m1 hge ⊢
    obtain ⟨f1, f2⟩ := f
    cases f2
    · refine ⟨fun h => by simp at h, fun _ => ⟨fun g hg => ?_, fun far => ?_⟩⟩
      · simp only [List.mem_cons, List.not_mem_nil, or_false] at hg
        rcases hg with rfl | rfl
        · rw [m1]; rfl
        · rw [n2]
      · simp only [List.foldl, n2, m1]
        simp at hge ⊢
        omega
    · refine ⟨fun h => ⟨0, hT, rfl, ?_, fun j g hj => by omega, ?_⟩, fun h => ⟨fun g hg => ?_, fun far => ?_⟩⟩
      · rw [m1]; simpa using h
      · rw [m1]
        simp only [if_true]
        unfold paceVal
        simp only [List.getD_cons_zero]
        rw [if_neg (by omega), if_neg (by omega), if_neg (by omega), if_neg (show ¬ ((3 + 0 : Nat) : Int) = 4 by omega), Int.add_zero]
        split
        · rfl
        · rename_i hz
          exact (sc_zero hz).symm
      · simp only [List.mem_cons, List.not_mem_nil, or_false] at hg
        rcases hg with rfl | rfl
        · rw [m1]; simpa using h
        · rw [n2]
      · simp only [List.foldl, n2, m1]
        simp at hge ⊢
        omega
theorem ranged_val (v : Int) : ranged (v, 0, 0) 1 36000 = if 1 ≤ v ∧ v ≤ 36000 then (v, 0, 0) else (0, 0, 9) := by
  unfold ranged
  by_cases h : 1 ≤ v ∧ v ≤ 36000
  · rw [if_pos h, if_neg]
    rintro ⟨_, h2⟩
    have h2 : v < 1 ∨ 36000 < v := h2
    omega
  · rw [if_neg h, if_pos ⟨rfl, by show v < 1 ∨ 36000 < v; omega⟩]
theorem pace_eq (s : ByteArray) : refPace s = ranged (readForms s [timedF, speedF]) 1 36000 := by
  unfold refPace readForms
  by_cases hz : 1000 < s.size
  · rw [if_pos hz, if_pos hz]; rfl
  rw [if_neg hz, if_neg hz]
  obtain ⟨ty, tn⟩ := timed_parts s
  obtain ⟨sy, sn⟩ := speed_parts s
  have hP : paceT = [mT kmB, mT miB, mT hmB] ++ [hT, hdT] := rfl
  obtain ⟨o1, ho1⟩ : ∃ o, timedF s = o := ⟨_, rfl⟩
  obtain ⟨o2, ho2⟩ : ∃ o, speedF s = o := ⟨_, rfl⟩
  rw [ho1] at ty tn
  rw [ho2] at sy sn
  have hfl : formsLoop s [timedF, speedF] 0 = if (o1.2.2 && decide (o1.2.1 = s.size)) = true then (o1.1, 0, 0) else if (o2.2.2 && decide (o2.2.1 = s.size)) = true then (o2.1, 0, 0) else (0, max (max 0 o1.2.1) o2.2.1, 6) := by
    unfold formsLoop
    rw [ho1]
    unfold formsLoop
    rw [ho2]
    rfl
  rw [hfl]
  cases h1 : (o1.2.2 && decide (o1.2.1 = s.size))
  case true =>
    obtain ⟨k, f, e1, e2, e3, e4⟩ := ty h1
    have hk : k < 3 := (List.getElem?_eq_some_iff.1 e1).1
    have hf := firstT_at (s := s) paceT 0 0 k f (by rw [hP, List.getElem?_append_left hk]; exact e1) e2 (fun j g hj hg => e3 j g hj (by rw [hP, List.getElem?_append_left (by show j < 3; omega)] at hg; exact hg))
    rw [hf, if_pos rfl, ranged_val, ← e4]
    rw [if_neg (show ¬ ((0 + k : Nat) : Int) < 0 by omega)]
  case false =>
    obtain ⟨n1, n2⟩ := tn h1
    rw [if_neg (show ¬ (false = true) by simp)]
    cases h2 : (o2.2.2 && decide (o2.2.1 = s.size))
    case true =>
      obtain ⟨k, f, e1, e2, e3, e4⟩ := sy h2
      have hk : k < 2 := (List.getElem?_eq_some_iff.1 e1).1
      have hf := firstT_at (s := s) paceT 0 0 (3 + k) f (by rw [hP, List.getElem?_append_right (by show 3 ≤ 3 + k; omega)]; show [hT, hdT][3 + k - 3]? = _; rw [show 3 + k - 3 = k by omega]; exact e1) e2 (fun j g hj hg => by
        by_cases hj3 : j < 3
        · rw [hP, List.getElem?_append_left hj3] at hg
          exact n1 g (List.mem_of_getElem? hg)
        · rw [hP, List.getElem?_append_right (by show 3 ≤ j; omega)] at hg
          exact e3 (j - 3) g (by omega) hg)
      rw [hf, if_pos rfl, ranged_val, ← e4]
      rw [if_neg (show ¬ ((0 + (3 + k) : Nat) : Int) < 0 by omega), show 0 + (3 + k) = 3 + k by omega]
    case false =>
      obtain ⟨n3, n4⟩ := sn h2
      have hf := firstT_none (s := s) paceT 0 0 (fun f hf => by
        rw [hP] at hf
        rcases List.mem_append.1 hf with hf | hf
        · exact n1 f hf
        · exact n3 f hf)
      rw [hf, if_pos (show (-1 : Int) < 0 by omega), if_neg (show ¬ (false = true) by simp), hP, List.foldl_append, n2, n4]
      rfl
end Rd

/- Contracts of small functions of rounding: outside, size, more, ways and its functions, IndexFunc over the ways, Compare. -/
namespace Go.Proofs.YtcdilamkkodjjaaGreatDoor
open Go.RowKit

theorem ret_int {k : IntKind} {a b : Int} (h : a = b) : Ending.returned (.int k a) = .returned (.int k b) := by rw [h]
theorem ret_bool {a b : Bool} (h : a = b) : Ending.returned (.bool a) = .returned (.bool b) := by rw [h]

theorem outside_any (n lo hi : Int) (w : World) :
    Calls Tryz.prog 24 #[.int .i64 n, .int .i64 lo, .int .i64 hi] w fun e w' => e = .returned (.bool (decide (n < lo) || decide (hi < n))) ∧ w = w' := by
  by_cases h1 : n < lo
  · go_enter Tryz.func24, Tryz.ntmps24
    go_wp2
    go_ret
    exact ⟨by simp [h1], rfl⟩
  · have h2 : decide (n < lo) = false := by simpa using h1
    go_enter Tryz.func24, Tryz.ntmps24
    go_wp2
    go_ret
    exact ⟨by simp, rfl⟩

theorem size_any (a : Int) (w : World) (h1 : -9223372036854775808 ≤ a) (h2 : a ≤ 9223372036854775807) :
    Calls Tryz.prog 72 #[.int .i64 a] w fun e w' => e = .returned (.int .u64 a.natAbs) ∧ w = w' := by
  go_enter Tryz.func72, Tryz.ntmps72
  go_wp2
  all_goals go_ret
  all_goals refine ⟨ret_int ?_, rfl⟩
  · simp only [IntKind.wrap_u64]; omega
  · show a = _; omega

def cmpF (a b : Int) : Int := if a < b then -1 else if b < a then 1 else 0

theorem compare_any (a b : Int) (w : World) :
    Calls Tryz.prog 70 #[.int .u64 a, .int .u64 b] w fun e w' => e = .returned (.int .i64 (cmpF a b)) ∧ w = w' := by
  go_enter Tryz.func70, Tryz.ntmps70
  go_wp2
  all_goals go_ret
  all_goals refine ⟨ret_int ?_, rfl⟩
  all_goals (unfold cmpF; split <;> (try split) <;> first | rfl | (exfalso; omega))

/-! ### the functions of the table -/
theorem way1 (b : Bool) (q h : Int) (w : World) : Calls Tryz.prog 109 #[.bool b, .int .u64 q, .int .i64 h] w fun e w' => e = .returned (.bool b) ∧ w = w' := by
  go_enter Tryz.func109, Tryz.ntmps109
  go_wp2
  go_ret
  exact ⟨rfl, rfl⟩
theorem way2 (b : Bool) (q h : Int) (w : World) : Calls Tryz.prog 110 #[.bool b, .int .u64 q, .int .i64 h] w fun e w' => e = .returned (.bool (!b)) ∧ w = w' := by
  go_enter Tryz.func110, Tryz.ntmps110
  go_wp2
  go_ret
  exact ⟨rfl, rfl⟩
theorem way3 (b : Bool) (q h : Int) (w : World) : Calls Tryz.prog 111 #[.bool b, .int .u64 q, .int .i64 h] w fun e w' => e = .returned (.bool false) ∧ w = w' := by
  go_enter Tryz.func111, Tryz.ntmps111
  go_wp2
  go_ret
  exact ⟨rfl, rfl⟩
theorem way4 (b : Bool) (q h : Int) (w : World) : Calls Tryz.prog 112 #[.bool b, .int .u64 q, .int .i64 h] w fun e w' => e = .returned (.bool (decide (0 < h) || (h == 0 && !b))) ∧ w = w' := by
  by_cases h1 : 0 < h
  · go_enter Tryz.func112, Tryz.ntmps112
    go_wp2
    go_ret
    exact ⟨by simp [h1], rfl⟩
  · have h2 : decide (0 < h) = false := by simpa using h1
    cases h3 : (h == 0)
    all_goals
      go_enter Tryz.func112, Tryz.ntmps112
      go_wp2
      go_ret
      exact ⟨by simp, rfl⟩
theorem way5 (b : Bool) (q h : Int) (w : World) (hq : 0 ≤ q) : Calls Tryz.prog 113 #[.bool b, .int .u64 q, .int .i64 h] w fun e w' => e = .returned (.bool (decide (0 < h) || (h == 0 && (q % 2 == 1)))) ∧ w = w' := by
  by_cases h1 : 0 < h
  · go_enter Tryz.func113, Tryz.ntmps113
    go_wp2
    go_ret
    exact ⟨by simp [h1], rfl⟩
  · have h2 : decide (0 < h) = false := by simpa using h1
    cases h3 : (h == 0)
    all_goals
      go_enter Tryz.func113, Tryz.ntmps113
      go_wp2
      go_ret
      exact ⟨by simp, rfl⟩

def fnv (k : Nat) : Value := .func (.func k) #[] #[]
/-- the row of the table in memory -/
def wayRow : Array Value := #[.int .i64 1, fnv 109, .int .i64 2, fnv 110, .int .i64 3, fnv 111, .int .i64 4, fnv 112, .int .i64 5, fnv 113]
theorem ways_any (w : World) : Calls Tryz.prog 65 #[] w fun e w' => e = .returned (.slice (some ⟨w.heap.size, 0, none⟩) 5 5) ∧ w' = w.alloc (.cells wayRow 92) := by
  go_enter Tryz.func65, Tryz.ntmps65
  go_wp2
  go_ret
  exact ⟨rfl, rfl⟩

/-- the closure that looks for a way -/
theorem has_any (k h : Int) (f : Value) (a : Addr) (w : World) (ha : w.cell? a = some (.int .i64 h)) (hb : a.block < w.heap.size) :
    Calls Tryz.prog 67 #[.agg #[.int .i64 k, f], .pointer (some a)] w fun e w' => e = .returned (.bool (k == h)) ∧ Below w.heap.size w w' := by
  go_enter Tryz.func67, Tryz.ntmps67
  go_wp2
  go_ret
  exact ⟨rfl, (Below.refl _ _).alloc (Nat.le_refl _) _⟩
/-- what 'more' returns -/
def moreF (q r d : Int) (m : Bool) (how : Int) : Bool :=
  if r = 0 then false else if how = 1 then m else if how = 2 then !m else if how = 3 then false else if r ≠ d - r then decide (d - r < r) else if how = 4 then !m else q % 2 == 1
set_option maxRecDepth 4000 in
theorem more_any (q r d : Int) (m : Bool) (how : Int) (w : World) (hq : 0 ≤ q) (hr : 0 ≤ r) (hd : r ≤ d) (hD : d ≤ 18446744073709551615) :
    Calls Tryz.prog 73 #[.int .u64 q, .int .u64 r, .int .u64 d, .bool m, .int .i64 how] w fun e w' => e = .returned (.bool (moreF q r d m how)) ∧ w = w' := by
  have hwr : IntKind.u64.wrap (d - r) = d - r := by rw [IntKind.wrap_u64]; omega
  unfold moreF
  by_cases h0 : r = 0
  · subst h0
    rw [if_pos rfl]
    clear hwr
    go_enter Tryz.func73, Tryz.ntmps73
    go_wp2
    go_ret
    exact ⟨rfl, rfl⟩
  · have b0 : (r == 0) = false := by simpa using h0
    rw [if_neg h0]
    by_cases h1 : how = 1
    · subst h1
      rw [if_pos rfl]
      go_enter Tryz.func73, Tryz.ntmps73
      go_wp2
      go_ret
      exact ⟨rfl, rfl⟩
    by_cases h2 : how = 2
    · subst h2
      rw [if_neg h1, if_pos rfl]
      go_enter Tryz.func73, Tryz.ntmps73
      go_wp2
      go_ret
      exact ⟨rfl, rfl⟩
    by_cases h3 : how = 3
    · subst h3
      rw [if_neg h1, if_neg h2, if_pos rfl]
      go_enter Tryz.func73, Tryz.ntmps73
      go_wp2
      go_ret
      exact ⟨rfl, rfl⟩
    have b1 : (how == 1) = false := by simpa using h1
    have b2 : (how == 2) = false := by simpa using h2
    have b3 : (how == 3) = false := by simpa using h3
    rw [if_neg h1, if_neg h2, if_neg h3]
    by_cases h4 : r = d - r
    · have b4 : (r != d - r) = false := by rw [bne_eq_false_iff_eq]; exact h4
      rw [if_neg (by simpa using h4)]
      clear h4 h1 h2 h3 h0
      by_cases h5 : how = 4
      · subst h5
        rw [if_pos rfl]
        go_enter Tryz.func73, Tryz.ntmps73
        go_wp2
        go_ret
        exact ⟨rfl, rfl⟩
      · have b5 : (how == 4) = false := by simpa using h5
        rw [if_neg h5]
        clear h5
        go_enter Tryz.func73, Tryz.ntmps73
        go_wp2
        go_ret
        exact ⟨rfl, rfl⟩
    · have b4 : (r != d - r) = true := by rw [bne_iff_ne]; exact h4
      rw [if_pos (by simpa using h4)]
      clear h4 h1 h2 h3 h0
      go_enter Tryz.func73, Tryz.ntmps73
      go_wp2
      go_ret
      exact ⟨rfl, rfl⟩
end Go.Proofs.YtcdilamkkodjjaaGreatDoor

/- math/bits.Div64: the contract, for all arguments whose quotient fits. -/
namespace Go.Proofs.YtcdilamkkodjjaaGreatDoor
open Go.RowKit

/-- the high part is 0 -/
theorem div64_low (lo y : Int) (w : World) (h0 : 0 ≤ lo) (hy : 1 ≤ y) (hL : lo ≤ 18446744073709551615) :
    Calls Tryz.prog 69 #[.int .u64 0, .int .u64 lo, .int .u64 y] w fun e w' => e = .returned (.tuple #[.int .u64 (lo / y), .int .u64 (lo % y)]) ∧ ∃ n, w' = w.drewN n := by
  have b1 : (y == 0) = false := by rw [beq_eq_false_iff_ne]; omega
  have b2 : decide (y ≤ 0) = false := by simp; omega
  go_enter Tryz.func69, Tryz.ntmps69
  go_wp2
  go_quiet (fail)
  go_wp2
  go_ret2
  exact ⟨rfl, _, rfl⟩

set_option maxHeartbeats 4000000 in
set_option maxRecDepth 100000 in
theorem div64_high (hi lo y : Int) (s Y a b u l d1 d0 u2 qh rh qh2 rh2 qq rr Q1 Q0 : Nat) (w : World) (h1 : 1 ≤ hi) (hy : hi < y) (hY : y ≤ 18446744073709551615)
    (hs : Hid (64 - (Lib.bitLen y.toNat : Int) = (s : Int))) (hs63 : s ≤ 63)
    (e1 : IntKind.u64.wrap (y * 2 ^ s) = Y) (e2 : (Y : Int) / 4294967296 = a) (e3 : bits BinOp.and IntKind.u64 Y 4294967295 = b)
    (e4 : bits BinOp.or IntKind.u64 (IntKind.u64.wrap (hi * 2 ^ s)) (lo / 2 ^ (64 - s)) = u) (e5 : IntKind.u64.wrap (lo * 2 ^ s) = l) (e6 : (l : Int) / 4294967296 = d1) (e7 : bits BinOp.and IntKind.u64 l 4294967295 = d0)
    (e8 : (u : Int) / a = qh) (e9 : IntKind.u64.wrap (u - IntKind.u64.wrap (qh * a)) = rh) (hst : Hid (Knuth.Dig u d1 a b qh rh))
    (e10 : IntKind.u64.wrap (IntKind.u64.wrap (IntKind.u64.wrap ((u : Int) * 4294967296) + d1) - IntKind.u64.wrap ((Q1 : Int) * Y)) = u2)
    (e11 : (u2 : Int) / a = qh2) (e12 : IntKind.u64.wrap (u2 - IntKind.u64.wrap (qh2 * a)) = rh2) (hst2 : Hid (Knuth.Dig u2 d0 a b qh2 rh2))
    (e13 : IntKind.u64.wrap (IntKind.u64.wrap ((Q1 : Int) * 4294967296) + Q0) = qq) (e14 : IntKind.u64.wrap (IntKind.u64.wrap (IntKind.u64.wrap ((u2 : Int) * 4294967296) + d0) - IntKind.u64.wrap ((Q0 : Int) * Y)) / 2 ^ s = rr)
    (hP : Hid (Knuth.Par u d1 a b)) (hP2 : Hid (Knuth.Par u2 d0 a b))
    (hQ1 : Hid (Q1 = (u * 4294967296 + d1) / (a * 4294967296 + b))) (hQ0 : Hid (Q0 = (u2 * 4294967296 + d0) / (a * 4294967296 + b)))
    (ha : (2147483648 : Int) ≤ a) (ha' : (a : Int) < 4294967296) (hb' : Hid (b < 4294967296)) (_hb2 : (b : Int) < 4294967296) (_hu' : (u : Int) ≤ 18446744073709551615) (hd1' : (d1 : Int) < 4294967296) (hd0' : (d0 : Int) < 4294967296) (hqh : (qh : Int) ≤ 4294967297) (_hrh : (rh : Int) < 4294967296)
    (_hu2 : (u2 : Int) ≤ 18446744073709551615) (hqh2 : (qh2 : Int) ≤ 4294967297) (_hrh2 : (rh2 : Int) < 4294967296) :
    Calls Tryz.prog 69 #[.int .u64 hi, .int .u64 lo, .int .u64 y] w fun e w' => e = .returned (.tuple #[.int .u64 qq, .int .u64 rr]) ∧ w' = w := by
  have b1 : (y == 0) = false := by rw [beq_eq_false_iff_ne]; omega
  have b2 : decide (y ≤ hi) = false := by simp; omega
  have b3 : (hi == 0) = false := by rw [beq_eq_false_iff_ne]; omega
  go_enter Tryz.func69, Tryz.ntmps69
  go_wp2_with fail
  refine (Go.Proofs.Tryz.bits_LeadingZeros64 _ _ (by omega) (by omega)).mono ?_
  rintro e w' ⟨rfl, rfl⟩
  rw [hs.out]
  go_wp2_with fail
  clear e1 e2 e3 e4 e5 e6 e7 e8 e9 b1 b2 b3
  go_loop [15, 16] (fun q r => ∃ qn rn : Nat, q = .int .u64 qn ∧ r = .int .u64 rn ∧ Knuth.Dig u d1 a b qn rn) (fun q _ => (intOf q).toNat)
  case atStart => exact ⟨_, _, rfl, rfl, hst.out⟩
  case round =>
    obtain ⟨q, r, rfl, rfl, hD'⟩ := hrel
    have hD := Lib.hid hD'
    have hq1 : (q : Int) ≤ 4294967297 := by have := hD'.1; omega
    have hr1 : (r : Int) < 4294967296 := by have := hD'.2.1; omega
    clear hD'
    by_cases hq : 4294967296 ≤ q
    · have c1 : decide ((4294967296 : Int) ≤ (q : Int)) = true := by rw [decide_eq_true_eq]; omega
      have hpos := hD.out.pos hP.out (.inl hq)
      have hqi : (1 : Int) ≤ q := by omega
      by_cases hr : r + a < 4294967296
      · have c3 : decide ((4294967296 : Int) ≤ (r : Int) + (a : Int)) = false := by rw [decide_eq_false_iff_not]; omega
        have hN := Lib.hid (hD.out.less hP.out (.inl hq) hr)
        have Hp := Lib.hid hpos; clear hpos
        clear hq hr
        go_wp2
        go_round
        case rel => exact ⟨q - 1, r + a, by rw [Int.ofNat_sub Hp.out]; rfl, by go_num, hN.out⟩
        case measure => simp [intOf]; omega
      · have c3 : decide ((4294967296 : Int) ≤ (r : Int) + (a : Int)) = true := by rw [decide_eq_true_eq]; omega
        have hN := hD.out.last hP.out (.inl hq) (by omega)
        have e15 : (q : Int) - 1 = (Q1 : Nat) := by rw [hQ1.out, ← hN]; omega
        clear hN
        clear hq hr
        clear hpos
        go_wp2_with fail
        go_loop [18, 16] (fun q r => ∃ qn rn : Nat, q = .int .u64 qn ∧ r = .int .u64 rn ∧ Knuth.Dig u2 d0 a b qn rn) (fun q _ => (intOf q).toNat)
        case atStart => exact ⟨_, _, rfl, rfl, hst2.out⟩
        case round =>
          obtain ⟨q, r, rfl, rfl, hD'⟩ := hrel
          have hD := Lib.hid hD'
          have hq1 : (q : Int) ≤ 4294967297 := by have := hD'.1; omega
          have hr1 : (r : Int) < 4294967296 := by have := hD'.2.1; omega
          clear hD'
          by_cases hq : 4294967296 ≤ q
          · have c1 : decide ((4294967296 : Int) ≤ (q : Int)) = true := by rw [decide_eq_true_eq]; omega
            have hpos := hD.out.pos hP2.out (.inl hq)
            have hqi : (1 : Int) ≤ q := by omega
            by_cases hr : r + a < 4294967296
            · have c3 : decide ((4294967296 : Int) ≤ (r : Int) + (a : Int)) = false := by rw [decide_eq_false_iff_not]; omega
              have hN := Lib.hid (hD.out.less hP2.out (.inl hq) hr)
              have Hp := Lib.hid hpos; clear hpos
              clear hq hr
              go_wp2
              go_round
              case rel => exact ⟨q - 1, r + a, by rw [Int.ofNat_sub Hp.out]; rfl, by go_num, hN.out⟩
              case measure => simp [intOf]; omega
            · have c3 : decide ((4294967296 : Int) ≤ (r : Int) + (a : Int)) = true := by rw [decide_eq_true_eq]; omega
              have hN := hD.out.last hP2.out (.inl hq) (by omega)
              have e15 : (q : Int) - 1 = (Q0 : Nat) := by rw [hQ0.out, ← hN]; omega
              clear hN
              clear hq hr
              clear hpos
              go_wp2
              go_ret2
              exact ⟨rfl, rfl⟩
          · have c1 : decide ((4294967296 : Int) ≤ (q : Int)) = false := by rw [decide_eq_false_iff_not]; omega
            have hq' : q < 4294967296 := by omega
            clear hq
            obtain ⟨m, hm0⟩ : ∃ m : Nat, m = q * b := ⟨_, rfl⟩
            have hm : IntKind.u64.wrap ((q : Int) * b) = m := by
              rw [IntKind.wrap_u64]; have := Knuth.mul_half hq' hb'.out
              rw [← Int.natCast_mul, ← hm0]; omega
            have Hm := Lib.hid hm0
            clear hm0 hq'
            by_cases ht : 4294967296 * r + d0 < m
            · have c2 : decide (4294967296 * (r : Int) + (d0 : Int) < (m : Int)) = true := by rw [decide_eq_true_eq]; omega
              have hpos := hD.out.pos hP2.out (.inr (by rw [← Hm.out]; omega))
              have hqi : (1 : Int) ≤ q := by omega
              by_cases hr : r + a < 4294967296
              · have c3 : decide ((4294967296 : Int) ≤ (r : Int) + (a : Int)) = false := by rw [decide_eq_false_iff_not]; omega
                have hN := Lib.hid (hD.out.less hP2.out (.inr (by rw [← Hm.out]; omega)) hr)
                have Hp := Lib.hid hpos; clear hpos
                clear ht hr
                go_wp2
                go_round
                case rel => exact ⟨q - 1, r + a, by rw [Int.ofNat_sub Hp.out]; rfl, by go_num, hN.out⟩
                case measure => simp [intOf]; omega
              · have c3 : decide ((4294967296 : Int) ≤ (r : Int) + (a : Int)) = true := by rw [decide_eq_true_eq]; omega
                have hN := hD.out.last hP2.out (.inr (by rw [← Hm.out]; omega)) (by omega)
                have e15 : (q : Int) - 1 = (Q0 : Nat) := by rw [hQ0.out, ← hN]; omega
                clear hN
                clear ht hr
                clear hpos
                go_wp2
                go_ret2
                exact ⟨rfl, rfl⟩
            · have c2 : decide (4294967296 * (r : Int) + (d0 : Int) < (m : Int)) = false := by rw [decide_eq_false_iff_not]; omega
              have hN := hD.out.done hP2.out (by rw [← Hm.out]; omega)
              rw [← hQ0.out] at hN
              subst hN
              clear ht
              go_wp2
              go_ret2
              exact ⟨rfl, rfl⟩
    · have c1 : decide ((4294967296 : Int) ≤ (q : Int)) = false := by rw [decide_eq_false_iff_not]; omega
      have hq' : q < 4294967296 := by omega
      clear hq
      obtain ⟨m, hm0⟩ : ∃ m : Nat, m = q * b := ⟨_, rfl⟩
      have hm : IntKind.u64.wrap ((q : Int) * b) = m := by
        rw [IntKind.wrap_u64]; have := Knuth.mul_half hq' hb'.out
        rw [← Int.natCast_mul, ← hm0]; omega
      have Hm := Lib.hid hm0
      clear hm0 hq'
      by_cases ht : 4294967296 * r + d1 < m
      · have c2 : decide (4294967296 * (r : Int) + (d1 : Int) < (m : Int)) = true := by rw [decide_eq_true_eq]; omega
        have hpos := hD.out.pos hP.out (.inr (by rw [← Hm.out]; omega))
        have hqi : (1 : Int) ≤ q := by omega
        by_cases hr : r + a < 4294967296
        · have c3 : decide ((4294967296 : Int) ≤ (r : Int) + (a : Int)) = false := by rw [decide_eq_false_iff_not]; omega
          have hN := Lib.hid (hD.out.less hP.out (.inr (by rw [← Hm.out]; omega)) hr)
          have Hp := Lib.hid hpos; clear hpos
          clear ht hr
          go_wp2
          go_round
          case rel => exact ⟨q - 1, r + a, by rw [Int.ofNat_sub Hp.out]; rfl, by go_num, hN.out⟩
          case measure => simp [intOf]; omega
        · have c3 : decide ((4294967296 : Int) ≤ (r : Int) + (a : Int)) = true := by rw [decide_eq_true_eq]; omega
          have hN := hD.out.last hP.out (.inr (by rw [← Hm.out]; omega)) (by omega)
          have e15 : (q : Int) - 1 = (Q1 : Nat) := by rw [hQ1.out, ← hN]; omega
          clear hN
          clear ht hr
          clear hpos
          go_wp2_with fail
          go_loop [18, 16] (fun q r => ∃ qn rn : Nat, q = .int .u64 qn ∧ r = .int .u64 rn ∧ Knuth.Dig u2 d0 a b qn rn) (fun q _ => (intOf q).toNat)
          case atStart => exact ⟨_, _, rfl, rfl, hst2.out⟩
          case round =>
            obtain ⟨q, r, rfl, rfl, hD'⟩ := hrel
            have hD := Lib.hid hD'
            have hq1 : (q : Int) ≤ 4294967297 := by have := hD'.1; omega
            have hr1 : (r : Int) < 4294967296 := by have := hD'.2.1; omega
            clear hD'
            by_cases hq : 4294967296 ≤ q
            · have c1 : decide ((4294967296 : Int) ≤ (q : Int)) = true := by rw [decide_eq_true_eq]; omega
              have hpos := hD.out.pos hP2.out (.inl hq)
              have hqi : (1 : Int) ≤ q := by omega
              by_cases hr : r + a < 4294967296
              · have c3 : decide ((4294967296 : Int) ≤ (r : Int) + (a : Int)) = false := by rw [decide_eq_false_iff_not]; omega
                have hN := Lib.hid (hD.out.less hP2.out (.inl hq) hr)
                have Hp := Lib.hid hpos; clear hpos
                clear hq hr
                go_wp2
                go_round
                case rel => exact ⟨q - 1, r + a, by rw [Int.ofNat_sub Hp.out]; rfl, by go_num, hN.out⟩
                case measure => simp [intOf]; omega
              · have c3 : decide ((4294967296 : Int) ≤ (r : Int) + (a : Int)) = true := by rw [decide_eq_true_eq]; omega
                have hN := hD.out.last hP2.out (.inl hq) (by omega)
                have e15 : (q : Int) - 1 = (Q0 : Nat) := by rw [hQ0.out, ← hN]; omega
                clear hN
                clear hq hr
                clear hpos
                go_wp2
                go_ret2
                exact ⟨rfl, rfl⟩
            · have c1 : decide ((4294967296 : Int) ≤ (q : Int)) = false := by rw [decide_eq_false_iff_not]; omega
              have hq' : q < 4294967296 := by omega
              clear hq
              obtain ⟨m, hm0⟩ : ∃ m : Nat, m = q * b := ⟨_, rfl⟩
              have hm : IntKind.u64.wrap ((q : Int) * b) = m := by
                rw [IntKind.wrap_u64]; have := Knuth.mul_half hq' hb'.out
                rw [← Int.natCast_mul, ← hm0]; omega
              have Hm := Lib.hid hm0
              clear hm0 hq'
              by_cases ht : 4294967296 * r + d0 < m
              · have c2 : decide (4294967296 * (r : Int) + (d0 : Int) < (m : Int)) = true := by rw [decide_eq_true_eq]; omega
                have hpos := hD.out.pos hP2.out (.inr (by rw [← Hm.out]; omega))
                have hqi : (1 : Int) ≤ q := by omega
                by_cases hr : r + a < 4294967296
                · have c3 : decide ((4294967296 : Int) ≤ (r : Int) + (a : Int)) = false := by rw [decide_eq_false_iff_not]; omega
                  have hN := Lib.hid (hD.out.less hP2.out (.inr (by rw [← Hm.out]; omega)) hr)
                  have Hp := Lib.hid hpos; clear hpos
                  clear ht hr
                  go_wp2
                  go_round
                  case rel => exact ⟨q - 1, r + a, by rw [Int.ofNat_sub Hp.out]; rfl, by go_num, hN.out⟩
                  case measure => simp [intOf]; omega
                · have c3 : decide ((4294967296 : Int) ≤ (r : Int) + (a : Int)) = true := by rw [decide_eq_true_eq]; omega
                  have hN := hD.out.last hP2.out (.inr (by rw [← Hm.out]; omega)) (by omega)
                  have e15 : (q : Int) - 1 = (Q0 : Nat) := by rw [hQ0.out, ← hN]; omega
                  clear hN
                  clear ht hr
                  clear hpos
                  go_wp2
                  go_ret2
                  exact ⟨rfl, rfl⟩
              · have c2 : decide (4294967296 * (r : Int) + (d0 : Int) < (m : Int)) = false := by rw [decide_eq_false_iff_not]; omega
                have hN := hD.out.done hP2.out (by rw [← Hm.out]; omega)
                rw [← hQ0.out] at hN
                subst hN
                clear ht
                go_wp2
                go_ret2
                exact ⟨rfl, rfl⟩
      · have c2 : decide (4294967296 * (r : Int) + (d1 : Int) < (m : Int)) = false := by rw [decide_eq_false_iff_not]; omega
        have hN := hD.out.done hP.out (by rw [← Hm.out]; omega)
        rw [← hQ1.out] at hN
        subst hN
        clear ht
        go_wp2_with fail
        go_loop [18, 16] (fun q r => ∃ qn rn : Nat, q = .int .u64 qn ∧ r = .int .u64 rn ∧ Knuth.Dig u2 d0 a b qn rn) (fun q _ => (intOf q).toNat)
        case atStart => exact ⟨_, _, rfl, rfl, hst2.out⟩
        case round =>
          obtain ⟨q, r, rfl, rfl, hD'⟩ := hrel
          have hD := Lib.hid hD'
          have hq1 : (q : Int) ≤ 4294967297 := by have := hD'.1; omega
          have hr1 : (r : Int) < 4294967296 := by have := hD'.2.1; omega
          clear hD'
          by_cases hq : 4294967296 ≤ q
          · have c1 : decide ((4294967296 : Int) ≤ (q : Int)) = true := by rw [decide_eq_true_eq]; omega
            have hpos := hD.out.pos hP2.out (.inl hq)
            have hqi : (1 : Int) ≤ q := by omega
            by_cases hr : r + a < 4294967296
            · have c3 : decide ((4294967296 : Int) ≤ (r : Int) + (a : Int)) = false := by rw [decide_eq_false_iff_not]; omega
              have hN := Lib.hid (hD.out.less hP2.out (.inl hq) hr)
              have Hp := Lib.hid hpos; clear hpos
              clear hq hr
              go_wp2
              go_round
              case rel => exact ⟨q - 1, r + a, by rw [Int.ofNat_sub Hp.out]; rfl, by go_num, hN.out⟩
              case measure => simp [intOf]; omega
            · have c3 : decide ((4294967296 : Int) ≤ (r : Int) + (a : Int)) = true := by rw [decide_eq_true_eq]; omega
              have hN := hD.out.last hP2.out (.inl hq) (by omega)
              have e15 : (q : Int) - 1 = (Q0 : Nat) := by rw [hQ0.out, ← hN]; omega
              clear hN
              clear hq hr
              clear hpos
              go_wp2
              go_ret2
              exact ⟨rfl, rfl⟩
          · have c1 : decide ((4294967296 : Int) ≤ (q : Int)) = false := by rw [decide_eq_false_iff_not]; omega
            have hq' : q < 4294967296 := by omega
            clear hq
            obtain ⟨m, hm0⟩ : ∃ m : Nat, m = q * b := ⟨_, rfl⟩
            have hm : IntKind.u64.wrap ((q : Int) * b) = m := by
              rw [IntKind.wrap_u64]; have := Knuth.mul_half hq' hb'.out
              rw [← Int.natCast_mul, ← hm0]; omega
            have Hm := Lib.hid hm0
            clear hm0 hq'
            by_cases ht : 4294967296 * r + d0 < m
            · have c2 : decide (4294967296 * (r : Int) + (d0 : Int) < (m : Int)) = true := by rw [decide_eq_true_eq]; omega
              have hpos := hD.out.pos hP2.out (.inr (by rw [← Hm.out]; omega))
              have hqi : (1 : Int) ≤ q := by omega
              by_cases hr : r + a < 4294967296
              · have c3 : decide ((4294967296 : Int) ≤ (r : Int) + (a : Int)) = false := by rw [decide_eq_false_iff_not]; omega
                have hN := Lib.hid (hD.out.less hP2.out (.inr (by rw [← Hm.out]; omega)) hr)
                have Hp := Lib.hid hpos; clear hpos
                clear ht hr
                go_wp2
                go_round
                case rel => exact ⟨q - 1, r + a, by rw [Int.ofNat_sub Hp.out]; rfl, by go_num, hN.out⟩
                case measure => simp [intOf]; omega
              · have c3 : decide ((4294967296 : Int) ≤ (r : Int) + (a : Int)) = true := by rw [decide_eq_true_eq]; omega
                have hN := hD.out.last hP2.out (.inr (by rw [← Hm.out]; omega)) (by omega)
                have e15 : (q : Int) - 1 = (Q0 : Nat) := by rw [hQ0.out, ← hN]; omega
                clear hN
                clear ht hr
                clear hpos
                go_wp2
                go_ret2
                exact ⟨rfl, rfl⟩
            · have c2 : decide (4294967296 * (r : Int) + (d0 : Int) < (m : Int)) = false := by rw [decide_eq_false_iff_not]; omega
              have hN := hD.out.done hP2.out (by rw [← Hm.out]; omega)
              rw [← hQ0.out] at hN
              subst hN
              clear ht
              go_wp2
              go_ret2
              exact ⟨rfl, rfl⟩
end Go.Proofs.YtcdilamkkodjjaaGreatDoor

/- math/bits.Div64: the contract, for all arguments whose quotient fits: the exact quotient and the rest. -/
namespace Go.Proofs.YtcdilamkkodjjaaGreatDoor
open Go.RowKit

theorem bitLen_spec : ∀ (n x : Nat), x ≤ n → x ≠ 0 → x < 2 ^ 64 → 1 ≤ Lib.bitLen x ∧ 2 ^ (Lib.bitLen x - 1) ≤ x ∧ x < 2 ^ Lib.bitLen x
  | 0, x, h, h0, _ => absurd (Nat.le_zero.1 h) h0
  | n + 1, x, h, h0, hx => by
    rw [Lib.bitLen_half x h0 hx]
    by_cases h1 : x / 2 = 0
    · have : x = 1 := by omega
      subst this
      decide
    · have ⟨i1, i2, i3⟩ := bitLen_spec n (x / 2) (by omega) h1 (by omega)
      refine ⟨by omega, ?_, ?_⟩
      · obtain ⟨k, hk⟩ : ∃ k, Lib.bitLen (x / 2) = k + 1 := ⟨Lib.bitLen (x / 2) - 1, by omega⟩
        rw [hk] at i2 ⊢
        rw [show 1 + (k + 1) - 1 = k + 1 by omega, Nat.pow_succ]
        rw [Nat.add_sub_cancel] at i2
        omega
      · rw [Nat.add_comm, Nat.pow_succ]; omega
theorem bitLen_le {x : Nat} (h0 : x ≠ 0) (hx : x < 2 ^ 64) : Lib.bitLen x ≤ 64 := by
  have ⟨_, h2, _⟩ := bitLen_spec x x (Nat.le_refl _) h0 hx
  rcases Nat.lt_or_ge 64 (Lib.bitLen x) with h | h
  · have : 2 ^ 64 ≤ 2 ^ (Lib.bitLen x - 1) := Nat.pow_le_pow_right (by omega) (by omega)
    omega
  · exact h

theorem wrap_nat {n : Nat} (h : n < 18446744073709551616) : IntKind.u64.wrap (n : Int) = n := by rw [IntKind.wrap_u64]; omega

theorem cast_pow2 (s : Nat) : ((2 ^ s : Nat) : Int) = (2 : Int) ^ s := by rw [Int.natCast_pow]; rfl

/-- the rest of a digit's step, as the walk reckons it -/
theorem step_rest {u d q Y r : Nat} (h : Y * q + r = u * 4294967296 + d) (hr : r < 18446744073709551616) :
    IntKind.u64.wrap (IntKind.u64.wrap (IntKind.u64.wrap ((u : Int) * 4294967296) + d) - IntKind.u64.wrap ((q : Int) * Y)) = r := by
  have h' : (q : Int) * Y + r = u * 4294967296 + d := by
    have := congrArg (fun n : Nat => (n : Int)) h
    simp only [Int.natCast_add, Int.natCast_mul] at this
    rw [Int.mul_comm]; exact this
  generalize (q : Int) * Y = C at *
  simp only [IntKind.wrap_u64]; omega

theorem rest_wrap {u a : Nat} (hu : u < 18446744073709551616) : IntKind.u64.wrap (u - IntKind.u64.wrap (((u / a : Nat) : Int) * a)) = (u % a : Nat) := by
  have h := Nat.div_add_mod u a
  rw [← Int.natCast_mul]
  have hm : u / a * a ≤ u := Nat.div_mul_le_self u a
  rw [wrap_nat (show u / a * a < _ by omega), IntKind.wrap_u64]
  rw [Nat.mul_comm] at h
  omega

theorem div64_nat (hi lo y : Nat) (w : World) (h1 : 1 ≤ hi) (hy : hi < y) (hL : lo < 18446744073709551616) (hY : y < 18446744073709551616) :
    Calls Tryz.prog 69 #[.int .u64 hi, .int .u64 lo, .int .u64 y] w fun e w' =>
      e = .returned (.tuple #[.int .u64 ((hi * 18446744073709551616 + lo) / y : Nat), .int .u64 ((hi * 18446744073709551616 + lo) % y : Nat)]) ∧ w' = w := by
  obtain ⟨hB1, hB2, hB3⟩ := bitLen_spec y y (Nat.le_refl _) (by omega) hY
  have hB4 := bitLen_le (x := y) (by omega) hY
  obtain ⟨s, hs⟩ : ∃ s, s = 64 - Lib.bitLen y := ⟨_, rfl⟩
  have hP : 0 < 2 ^ s := Nat.two_pow_pos s
  have hPP : 2 ^ (64 - s) * 2 ^ s = 18446744073709551616 := by rw [← Nat.pow_add, show 64 - s + s = 64 by omega]
  -- the divisor
  have hY1 : 9223372036854775808 ≤ y * 2 ^ s := by
    have : 2 ^ (Lib.bitLen y - 1) * 2 ^ s ≤ y * 2 ^ s := Nat.mul_le_mul_right _ hB2
    rw [← Nat.pow_add, show Lib.bitLen y - 1 + s = 63 by omega] at this
    omega
  have hY2 : y * 2 ^ s < 18446744073709551616 := by
    have : y * 2 ^ s < 2 ^ Lib.bitLen y * 2 ^ s := Nat.mul_lt_mul_of_pos_right hB3 hP
    rw [← Nat.pow_add, show Lib.bitLen y + s = 64 by omega] at this
    omega
  generalize hYe : y * 2 ^ s = Y at *
  have hhi : hi * 2 ^ s < 18446744073709551616 := by
    have : hi * 2 ^ s ≤ y * 2 ^ s := Nat.mul_le_mul_right _ (Nat.le_of_lt hy)
    omega
  have hlo : lo / 2 ^ (64 - s) < 2 ^ s := by
    rw [Nat.div_lt_iff_lt_mul (Nat.two_pow_pos _), Nat.mul_comm, hPP]; exact hL
  -- the dividend
  have hsplit : lo * 2 ^ s = lo / 2 ^ (64 - s) * 18446744073709551616 + lo * 2 ^ s % 18446744073709551616 := by
    have h := Nat.div_add_mod (lo * 2 ^ s) 18446744073709551616
    have e : lo * 2 ^ s / 18446744073709551616 = lo / 2 ^ (64 - s) := by
      rw [← hPP, Nat.mul_div_mul_right _ _ hP]
    rw [e] at h
    omega
  generalize hl : lo * 2 ^ s % 18446744073709551616 = l at *
  have hl2 : l < 18446744073709551616 := by rw [← hl]; exact Nat.mod_lt _ (by omega)
  obtain ⟨u, hu⟩ : ∃ u, u = hi * 2 ^ s + lo / 2 ^ (64 - s) := ⟨_, rfl⟩
  have hN : (hi * 18446744073709551616 + lo) * 2 ^ s = (u * 4294967296 + l / 4294967296) * 4294967296 + l % 4294967296 := by
    rw [Nat.add_mul, hsplit, hu]
    have : hi * 18446744073709551616 * 2 ^ s = hi * 2 ^ s * 18446744073709551616 := by rw [Nat.mul_right_comm]
    omega
  have huY : u < Y := by
    have h2 : (hi * 18446744073709551616 + lo) * 2 ^ s < Y * 18446744073709551616 := by
      have h3 : hi * 18446744073709551616 + lo < y * 18446744073709551616 := by omega
      have h4 := Nat.mul_lt_mul_of_pos_right h3 hP
      rw [Nat.mul_right_comm y, hYe] at h4
      exact h4
    omega
  have hl3 : l / 4294967296 < 4294967296 := by omega
  generalize hd1 : l / 4294967296 = d1 at *
  generalize hd0 : l % 4294967296 = d0 at *
  have hd0' : d0 < 4294967296 := by omega
  generalize ha : Y / 4294967296 = a at *
  generalize hb : Y % 4294967296 = b at *
  have hb' : b < 4294967296 := by omega
  have hYab : a * 4294967296 + b = Y := by omega
  have ha1 : 2147483648 ≤ a := by omega
  have ha2 : a < 4294967296 := by omega
  have hPar : Knuth.Par u d1 a b := ⟨by omega, hl3, ha1, ha2, hb'⟩
  obtain ⟨Q1, u2, Q0, r2, hQ1, hQ0, c1, c2, hu2, hr2, hq, hr⟩ := Knuth.digits hYe (by omega) hN
  rw [hq, hr]
  have hlt := Knuth.dig_lt hPar
  rw [hYab, ← hQ1] at hlt
  have hPar2 : Knuth.Par u2 d0 a b := ⟨by omega, hd0', ha1, ha2, hb'⟩
  have hlt2 := Knuth.dig_lt hPar2
  rw [hYab, ← hQ0] at hlt2
  obtain ⟨qh, rh, g1, g2, f1, m1, hD⟩ := Knuth.start hPar
  obtain ⟨qh2, rh2, g3, g4, f2, m2, hD2⟩ := Knuth.start hPar2
  have w1 := rest_wrap (u := u) (a := a) (by omega)
  have w2 := rest_wrap (u := u2) (a := a) (by omega)
  have v1 := (Int.natCast_ediv u a).symm
  have v2 := (Int.natCast_ediv u2 a).symm
  rw [← g1] at v1 w1
  rw [← g2] at w1
  rw [← g3] at v2 w2
  rw [← g4] at w2
  have s1 := step_rest c1 (by omega)
  have s2 := step_rest c2 (by omega)
  refine div64_high hi lo y s Y a b u l d1 d0 u2 qh rh qh2 rh2 _ _ Q1 Q0 w
    (by omega) (by omega) (by omega) (Lib.hid (by rw [Int.toNat_natCast]; omega)) (by omega)
    ?e1 (by omega) ?e3 ?e4 ?e5 (by omega) ?e7 v1 w1 (Lib.hid hD)
    s1 v2 w2 (Lib.hid hD2) ?e13 ?e14 (Lib.hid hPar) (Lib.hid hPar2) (Lib.hid (by rw [hYab]; exact hQ1)) (Lib.hid (by rw [hYab]; exact hQ0))
    (by omega) (by omega) (Lib.hid hb') (by omega) (by omega) (by omega) (by omega) (by omega) (by omega) (by omega) (by omega) (by omega)
  case e1 => rw [← cast_pow2, ← Int.natCast_mul, hYe]; exact wrap_nat hY2
  case e3 => rw [show (4294967295 : Int) = ((4294967295 : Nat) : Int) from rfl, bits_and_u64_nat _ _ hY2 (by omega), show (4294967295 : Nat) = 2 ^ 32 - 1 from rfl, Nat.and_two_pow_sub_one_eq_mod]; omega
  case e4 =>
    rw [← cast_pow2, ← cast_pow2, ← Int.natCast_mul, wrap_nat hhi, ← Int.natCast_ediv, bits_or_u64_nat _ _ hhi (by omega), hu, Nat.mul_comm hi, Nat.two_pow_add_eq_or_of_lt hlo]
  case e5 => rw [← cast_pow2, ← Int.natCast_mul, IntKind.wrap_u64]; omega
  case e7 => rw [show (4294967295 : Int) = ((4294967295 : Nat) : Int) from rfl, bits_and_u64_nat _ _ hl2 (by omega), show (4294967295 : Nat) = 2 ^ 32 - 1 from rfl, Nat.and_two_pow_sub_one_eq_mod]; omega
  case e13 => rw [IntKind.wrap_u64, IntKind.wrap_u64]; omega
  case e14 => rw [s2, ← cast_pow2, ← Int.natCast_ediv]
end Go.Proofs.YtcdilamkkodjjaaGreatDoor

/- Scale: of the program and of the reference: both return 'Sc.sc'. -/
namespace Go.Proofs.YtcdilamkkodjjaaGreatDoor
open Go.RowKit

theorem div64_any (hi lo y : Nat) (w : World) (hy : hi < y) (hL : lo < 18446744073709551616) (hY : y < 18446744073709551616) :
    Calls Tryz.prog 69 #[.int .u64 hi, .int .u64 lo, .int .u64 y] w fun e w' =>
      e = .returned (.tuple #[.int .u64 ((hi * 18446744073709551616 + lo) / y : Nat), .int .u64 ((hi * 18446744073709551616 + lo) % y : Nat)]) ∧ ∃ n, w' = w.drewN n := by
  by_cases h : hi = 0
  · subst h
    refine (div64_low lo y w (by omega) (by omega) (by omega)).mono ?_
    rintro e w' ⟨rfl, h⟩
    refine ⟨?_, h⟩
    simp only [Nat.zero_mul, Nat.zero_add, Int.natCast_ediv, Int.natCast_emod]
  · refine (div64_nat hi lo y w (by omega) hy hL hY).mono ?_
    rintro e w' ⟨rfl, rfl⟩
    exact ⟨rfl, 0, rfl⟩

/-- where a way of rounding stands in the table -/
def wayAt (how : Int) : Int := if 1 ≤ how ∧ how ≤ 5 then how - 1 else -1
def HasRow (w : World) (R : Nat) : Prop := ∀ j, j < 10 → w.cell? ⟨R, j, none⟩ = some (wayRow.getD j undef)
theorem HasRow.at {w w' : World} {R B : Nat} (h : HasRow w R) (hb : Below B w w') (hR : R < B) : HasRow w' R := fun j hj => (hb.cell (p := ⟨R, j, none⟩) hR).trans (h j hj)

set_option maxHeartbeats 400000 in
theorem index_any (R H : Nat) (how : Int) (w : World) (hr : HasRow w R) (hh : w.cell? ⟨H, 0, none⟩ = some (.int .i64 how)) (hR : R < w.heap.size) (hH : H < w.heap.size) :
    Calls Tryz.prog 66 #[.slice (some ⟨R, 0, none⟩) 5 5, .func (.func 67) #[] #[.pointer (some ⟨H, 0, none⟩)]] w fun e w' => e = .returned (.int .i64 (wayAt how)) ∧ Below w.heap.size w w' := by
  go_enter Tryz.func66, Tryz.ntmps66
  go_wp2_with fail
  go_loopw [8] (fun i wr => ∃ k : Nat, k ≤ 5 ∧ i = .int .i64 k ∧ (∀ j : Nat, j < k → (j : Int) + 1 ≠ how) ∧ Below w.heap.size w wr) (fun i _ => 5 - (intOf i).toNat)
  case atStart => exact ⟨0, by omega, rfl, fun j hj => by omega, Below.refl _ _⟩
  case round =>
    obtain ⟨k, hk, rfl, hno, hb⟩ := hrel
    have Hno := Lib.hid hno
    clear hno
    by_cases h5 : k = 5
    · subst h5
      go_wp2
      go_ret
      refine ⟨ret_int ?_, hb⟩
      unfold wayAt; rw [if_neg]
      intro ⟨h1, h2⟩
      exact Hno.out (how - 1).toNat (by omega) (by omega)
    · have hr' := hr.at hb hR
      have hh' := (hb.cell (p := ⟨H, 0, none⟩) hH).trans hh
      have hsz := hb.size
      have c0 := hr' (k * 2) (by omega)
      have c1 := hr' (k * 2 + 1) (by omega)
      clear hr' hr
      obtain ⟨f, e0, e1⟩ : ∃ f, wayRow.getD (k * 2) undef = .int .i64 ((k : Int) + 1) ∧ wayRow.getD (k * 2 + 1) undef = fnv f := by
        rcases (show k = 0 ∨ k = 1 ∨ k = 2 ∨ k = 3 ∨ k = 4 by omega) with rfl | rfl | rfl | rfl | rfl
        all_goals exact ⟨_, rfl, rfl⟩
      rw [e0] at c0; rw [e1] at c1
      unfold fnv at c1
      clear e0 e1
      go_wp2_with fail
      refine (has_any _ how _ _ wr hh' (by exact Nat.lt_of_lt_of_le hH hsz)).mono ?_
      rintro e w1 ⟨rfl, hb1⟩
      have hb2 := hb.trans (hb1.mono hsz)
      by_cases hd : (k : Int) + 1 = how
      · have hd' : ((k : Int) + 1 == how) = true := by simpa using hd
        have Hd := Lib.hid hd
        clear hd
        go_wp2
        go_ret
        refine ⟨ret_int ?_, hb2⟩
        have := Hd.out
        unfold wayAt; rw [if_pos (by omega)]; show (k : Int) = _; omega
      · have hd' : ((k : Int) + 1 == how) = false := by simpa using hd
        have Hd := Lib.hid hd
        clear hd
        go_wp2
        go_roundw
        case rel =>
          refine ⟨k + 1, by omega, by go_num, fun j hj => ?_, hb2⟩
          rcases Nat.lt_or_ge j k with h | h
          · exact Hno.out j h
          · rw [show j = k by omega]; exact Hd.out
        case measure => simp [intOf]; omega

/-- what the functions of the table return -/
def wayF (how : Int) (b : Bool) (q h : Int) : Bool :=
  if how = 1 then b else if how = 2 then !b else if how = 3 then false else if how = 4 then decide (0 < h) || (h == 0 && !b) else decide (0 < h) || (h == 0 && (q % 2 == 1))
theorem wayF_away (how : Int) (b : Bool) (q r d : Nat) : wayF how b q (cmpF r ((d : Int) - r)) = Sc.away how b q r d := by
  have e1 : (0 < cmpF (r : Int) ((d : Int) - r)) ↔ d < 2 * r := by unfold cmpF; split <;> (try split) <;> omega
  have e2 : (cmpF (r : Int) ((d : Int) - r) = 0) ↔ 2 * r = d := by unfold cmpF; split <;> (try split) <;> omega
  have e3 : ((q : Int) % 2 = 1) ↔ q % 2 = 1 := by omega
  have e4 : (cmpF (r : Int) ((d : Int) - r) == 0) = decide (2 * r = d) := by rw [Bool.eq_iff_iff, beq_iff_eq, decide_eq_true_eq]; exact e2
  have e5 : ((q : Int) % 2 == 1) = decide (q % 2 = 1) := by rw [Bool.eq_iff_iff, beq_iff_eq, decide_eq_true_eq]; exact e3
  unfold wayF Sc.away
  rw [decide_eq_decide.2 e1, e4, e5]
theorem way_any (k : Nat) (hk : k < 5) : ∃ f, wayRow.getD (k * 2) undef = .int .i64 ((k : Int) + 1) ∧ wayRow.getD (k * 2 + 1) undef = fnv f ∧ (∀ args w, Sem.run Tryz.prog (callFunc f args) w = .ok (.enter f args) w) ∧
    ∀ (b : Bool) (q h : Int) (w : World), 0 ≤ q → Calls Tryz.prog f #[.bool b, .int .u64 q, .int .i64 h] w fun e w' => e = .returned (.bool (wayF ((k : Int) + 1) b q h)) ∧ w = w' := by
  rcases (show k = 0 ∨ k = 1 ∨ k = 2 ∨ k = 3 ∨ k = 4 by omega) with rfl | rfl | rfl | rfl | rfl
  · exact ⟨_, rfl, rfl, fun _ _ => by kernel_rfl, fun b q h w _ => way1 b q h w⟩
  · exact ⟨_, rfl, rfl, fun _ _ => by kernel_rfl, fun b q h w _ => way2 b q h w⟩
  · exact ⟨_, rfl, rfl, fun _ _ => by kernel_rfl, fun b q h w _ => way3 b q h w⟩
  · exact ⟨_, rfl, rfl, fun _ _ => by kernel_rfl, fun b q h w _ => way4 b q h w⟩
  · exact ⟨_, rfl, rfl, fun _ _ => by kernel_rfl, fun b q h w hq => way5 b q h w hq⟩
theorem quiet_eq {P : Program} {f : FuncId} {args : Array Value} {w : World} {n : Nat} {v : Value}
    (h : Calls P f args (w.drewN n) fun e w' => e = .returned v ∧ w.drewN n = w') : Calls P f args (w.drewN n) fun e w'' => e = .returned v ∧ ∃ m, w'' = w.drewN m :=
  h.mono fun _ _ ⟨he, hm⟩ => ⟨he, n, hm.symm⟩
theorem below_drewN {B : Nat} {a w : World} (h : Below B a w) (n : Nat) : Below B a (w.drewN n) := h.trans ⟨rfl, rfl, rfl, Nat.le_refl _, fun _ _ => rfl⟩
end Go.Proofs.YtcdilamkkodjjaaGreatDoor

/- Scale of the program returns 'Sc.sc'. -/
namespace Go.Proofs.YtcdilamkkodjjaaGreatDoor
open Go.RowKit Go.BigFrame

def scRet (p : Int × Int) : Ending := .returned (.tuple #[.int .i64 p.1, .int .i64 p.2])
theorem hasRow_new (w : World) (o : Obj) : HasRow ((w.alloc o).alloc (.cells wayRow 92)) (w.heap.size + 1) := by
  intro j hj
  rw [World.cell?_alloc_at _ _ _ _ (by simp)]
  rcases (show j = 0 ∨ j = 1 ∨ j = 2 ∨ j = 3 ∨ j = 4 ∨ j = 5 ∨ j = 6 ∨ j = 7 ∨ j = 8 ∨ j = 9 by omega) with rfl | rfl | rfl | rfl | rfl | rfl | rfl | rfl | rfl | rfl <;> rfl
theorem how_new (w : World) (how : Int) (o : Obj) : ((w.alloc (.cells #[.int .i64 how] 3)).alloc o).cell? ⟨w.heap.size, 0, none⟩ = some (.int .i64 how) := by
  rw [World.cell?_alloc_past _ _ _ (by simp), World.cell?_alloc_at _ _ _ _ rfl]; rfl
theorem below_two (w : World) (o o' : Obj) : Below w.heap.size w ((w.alloc o).alloc o') := ((Below.refl _ _).alloc (Nat.le_refl _) o).alloc (by simp) o'

set_option maxHeartbeats 400000 in
theorem scale_kind (a num den how : Int) (w : World) (h : how < 1 ∨ 5 < how) :
    Calls Tryz.prog 27 #[.int .i64 a, .int .i64 num, .int .i64 den, .int .i64 how] w fun e w' => e = scRet (0, 7) ∧ Below w.heap.size w w' := by
  have hw : wayAt how = -1 := by unfold wayAt; rw [if_neg (by omega)]
  have hmf : ∀ (fn : Fn) (first cap : Array Value) (w : World), (Instr.makeFunc fn first cap).run Tryz.prog w = .ok (.func fn first cap) w := fun _ _ _ _ => rfl
  go_enter Tryz.func27, Tryz.ntmps27
  go_wp2_with fail
  refine (ways_any _).mono ?_
  rintro e w1 ⟨rfl, rfl⟩
  go_wp2_with fail
  refine (index_any _ _ how _ (hasRow_new w _) (how_new w how _) (by simp) (by simp; omega)).mono ?_
  rintro e w1 ⟨rfl, hb⟩
  rw [hw]
  have hb' := (below_two w _ _).trans (hb.mono (by simp; omega))
  clear hb
  go_wp2
  go_ret2
  exact ⟨rfl, hb'⟩
set_option maxHeartbeats 400000 in
theorem scale_arg (a num den how : Int) (w : World) (h1 : 1 ≤ how) (h5 : how ≤ 5) (h : den ≤ 0 ∨ num < 0) :
    Calls Tryz.prog 27 #[.int .i64 a, .int .i64 num, .int .i64 den, .int .i64 how] w fun e w' => e = scRet (0, 1) ∧ Below w.heap.size w w' := by
  have hw : wayAt how = how - 1 := by unfold wayAt; rw [if_pos ⟨h1, h5⟩]
  have hmf : ∀ (fn : Fn) (first cap : Array Value) (w : World), (Instr.makeFunc fn first cap).run Tryz.prog w = .ok (.func fn first cap) w := fun _ _ _ _ => rfl
  have hk : decide (how - 1 < 0) = false := by rw [decide_eq_false_iff_not]; omega
  by_cases hd : den ≤ 0
  all_goals
    go_enter Tryz.func27, Tryz.ntmps27
    go_wp2_with fail
    refine (ways_any _).mono ?_
    rintro e w1 ⟨rfl, rfl⟩
    go_wp2_with fail
    refine (index_any _ _ how _ (hasRow_new w _) (how_new w how _) (by simp) (by simp; omega)).mono ?_
    rintro e w1 ⟨rfl, hb⟩
    rw [hw]
    have hb' := (below_two w _ _).trans (hb.mono (by simp; omega))
    clear hb hw
  · go_wp2
    go_ret2
    exact ⟨rfl, hb'⟩
  · have hd2 : decide (den ≤ 0) = false := by rw [decide_eq_false_iff_not]; omega
    have hn2 : decide (num < 0) = true := by rw [decide_eq_true_eq]; omega
    clear h hd
    go_wp2
    go_ret2
    exact ⟨rfl, hb'⟩

/-- the number without its sign, as the program makes it -/
theorem neg_wrap {a : Int} (h : a < 0) (h1 : -9223372036854775808 ≤ a) : IntKind.u64.wrap (-IntKind.u64.wrap a) = (a.natAbs : Int) := by
  simp only [IntKind.wrap_u64]; omega

theorem fin_ok {a num den how v : Int} {S : Bool} {q r d Q : Nat}
    (h : Sc.sc a num den how = if 4611686018427387904 < Sc.quo how S q r d then (0, 9) else (Sc.sgn S (Sc.quo how S q r d), 0))
    (hQ : Sc.quo how S q r d = Q) (hl : (Q : Int) ≤ 4611686018427387904) (hv : v = Sc.sgn S Q) :
    Ending.returned (.tuple #[.int .i64 v, .int .i64 0]) = scRet (Sc.sc a num den how) := by
  rw [h, hQ, if_neg (by omega), hv]; rfl
theorem fin_big {a num den how : Int} {S : Bool} {q r d Q : Nat}
    (h : Sc.sc a num den how = if 4611686018427387904 < Sc.quo how S q r d then (0, 9) else (Sc.sgn S (Sc.quo how S q r d), 0))
    (hQ : Sc.quo how S q r d = Q) (hl : 4611686018427387904 < (Q : Int)) :
    Ending.returned (.tuple #[.int .i64 0, .int .i64 9]) = scRet (Sc.sc a num den how) := by
  rw [h, hQ, if_pos (by omega)]; rfl
theorem quo_rest0 (how : Int) (S : Bool) (q d : Nat) : Sc.quo how S q 0 d = q := by simp [Sc.quo]
theorem quo_stay {how : Int} {S : Bool} {q r d : Nat} (h : Sc.away how S q r d = false) : Sc.quo how S q r d = q := by simp [Sc.quo, h]
theorem quo_up {how : Int} {S : Bool} {q r d : Nat} (h0 : 0 < r) (h : Sc.away how S q r d = true) : Sc.quo how S q r d = q + 1 := by simp [Sc.quo, h, h0]

set_option maxHeartbeats 2000000 in
set_option maxRecDepth 100000 in
/-- the product's quotient fits one word -/
theorem scale_neg (a how : Int) (num den hi lo q r k A : Nat) (w : World) (hk : Hid (how = (k : Int) + 1)) (hk5 : k < 5) (hd : 1 ≤ den) (hD : (den : Int) ≤ 9223372036854775807) (hM : (num : Int) ≤ 9223372036854775807)
    (hs : a < 0) (_ha1 : -9223372036854775808 ≤ a) (hneg : IntKind.u64.wrap (-IntKind.u64.wrap a) = (A : Int))
    (hhi' : ((A * num / 18446744073709551616 : Nat) : Int) = hi) (hlo' : ((A * num % 18446744073709551616 : Nat) : Int) = lo) (hlt : (hi : Int) < den)
    (hq' : (((hi * 18446744073709551616 + lo) / den : Nat) : Int) = q) (hr' : (((hi * 18446744073709551616 + lo) % den : Nat) : Int) = r) (hr0 : (r : Int) < den) (_hlo2 : (lo : Int) ≤ 18446744073709551615) (hq2 : (q : Int) ≤ 18446744073709551615) (hA : (A : Int) ≤ 9223372036854775808)
    (hfin : Hid (Sc.sc a num den how = if 4611686018427387904 < Sc.quo how true q r den then (0, 9) else (Sc.sgn true (Sc.quo how true q r den), 0))) :
    Calls Tryz.prog 27 #[.int .i64 a, .int .i64 num, .int .i64 den, .int .i64 how] w fun e w' => e = scRet (Sc.sc a num den how) ∧ Below w.heap.size w w' := by
  have hw : wayAt how = (k : Int) := by have := hk.out; unfold wayAt; rw [if_pos (by omega)]; omega
  have hmf : ∀ (fn : Fn) (first cap : Array Value) (w : World), (Instr.makeFunc fn first cap).run Tryz.prog w = .ok (.func fn first cap) w := fun _ _ _ _ => rfl
  have b1 : decide ((den : Int) ≤ 0) = false := by rw [decide_eq_false_iff_not]; omega
  have b2 : decide ((den : Int) ≤ hi) = false := by rw [decide_eq_false_iff_not]; omega
  have hmul := Lib.hid (Go.Proofs.Tryz.bits_Mul64 A num)
  have hdiv := Lib.hid (div64_any hi lo den)
  obtain ⟨f, g0, g1, hcf, hf'⟩ := way_any k hk5
  have hf := Lib.hid hf'
  clear hf'
  unfold fnv at g1
  go_enter Tryz.func27, Tryz.ntmps27
  go_wp2_with fail
  refine (ways_any _).mono ?_
  rintro e w1 ⟨rfl, rfl⟩
  go_wp2_with fail
  refine (index_any _ _ how _ (hasRow_new w _) (how_new w how _) (by simp) (by simp; omega)).mono ?_
  rintro e w1 ⟨rfl, hb⟩
  rw [hw]
  have hrow := (hasRow_new w (.cells #[.int .i64 how] 3)).at hb (by simp)
  have hb' := (below_two w _ _).trans (hb.mono (by simp; omega))
  have hk5i : (k : Int) < 5 := by omega
  have r0 := hrow (k * 2) (by omega)
  have r1 := hrow (k * 2 + 1) (by omega)
  rw [g0] at r0; rw [g1] at r1
  clear hb hw hrow g0 g1
  go_wp2_with fail
  refine (hmul.out (by omega) (by omega) _).mono ?_
  rintro e w2 ⟨rfl, rfl⟩
  rw [hhi', hlo']
  go_wp2_with fail
  refine (hdiv.out _ (by omega) (by omega) (by omega)).mono ?_
  rintro e w3 ⟨rfl, hn⟩
  rw [hq', hr']
  obtain ⟨r0', r1', hb2⟩ : w3.cell? ⟨w.heap.size + 1, k * 2, none⟩ = some (.int .i64 ((k : Int) + 1)) ∧ w3.cell? ⟨w.heap.size + 1, k * 2 + 1, none⟩ = some (.func (.func f) #[] #[]) ∧ Below w.heap.size w w3 := by
    obtain ⟨n, rfl⟩ := hn
    exact ⟨r0, r1, below_drewN hb' n⟩
  have Hb2 := Lib.hid hb2
  clear hn r0 r1 hb' hb2 hmul hdiv hq' hr' hhi' hlo' b2
  by_cases hr1 : r = 0
  · subst hr1
    have hQ := Lib.hid (quo_rest0 how true q den)
    go_wp2_with fail
    go_quiet (fail)
    go_wp2
    all_goals go_ret2
    all_goals refine ⟨?_, below_drewN Hb2.out _⟩
    all_goals first | exact fin_ok hfin.out hQ.out (by assumption) (by simp [Sc.sgn]) | exact fin_big hfin.out hQ.out (by assumption)
  · have c1 : decide ((0 : Int) < (r : Int)) = true := by rw [decide_eq_true_eq]; omega
    have hr1' : 0 < r := by omega
    clear hr1
    by_cases hq3 : q ≤ 4611686018427387904
    · have c2 : decide ((q : Int) ≤ 4611686018427387904) = true := by rw [decide_eq_true_eq]; omega
      have hq3i : (q : Int) ≤ 4611686018427387904 := by omega
      clear hq3
      cases haw : Sc.away how true q r den
      · have hwf : wayF ((k : Int) + 1) true q (cmpF r ((den : Int) - r)) = false := by rw [← hk.out, wayF_away, haw]
        have hQ := Lib.hid (quo_stay haw)
        clear haw
        go_wp2_with fail
        refine wp_region_quiet_lit (by kernel_rfl) (by kernel_rfl) ?_
        repeat (go_big_quiet_step (fail))
        go_big_quiet_want
        go_big_quiet_op
        go_big_quiet_call ((refine (compare_any _ _ _).mono ?_; exact fun _ _ h => ⟨h.1, _, h.2.symm⟩))
        go_big_quiet_want
        go_big_quiet_op
        go_big_quiet_call ((refine (hf.out _ _ _ _ (by omega)).mono ?_; exact fun _ _ h => ⟨h.1, _, h.2.symm⟩))
        repeat (go_big_quiet_step (fail))
        refine wpQuiet_nil ?_
        intro w4 hw4
        obtain ⟨nq, rfl⟩ := hw4
        have c4 : decide (4611686018427387904 < (q : Int)) = false := by rw [decide_eq_false_iff_not]; omega
        clear hk5 hd hr1' hmf hcf hlt
        go_wp2
        go_ret2
        refine ⟨?_, below_drewN Hb2.out _⟩
        exact fin_ok hfin.out hQ.out (by omega) (by simp [Sc.sgn])
      · have hwf : wayF ((k : Int) + 1) true q (cmpF r ((den : Int) - r)) = true := by rw [← hk.out, wayF_away, haw]
        have hQ := Lib.hid (quo_up hr1' haw)
        clear haw
        go_wp2_with fail
        refine wp_region_quiet_lit (by kernel_rfl) (by kernel_rfl) ?_
        repeat (go_big_quiet_step (fail))
        go_big_quiet_want
        go_big_quiet_op
        go_big_quiet_call ((refine (compare_any _ _ _).mono ?_; exact fun _ _ h => ⟨h.1, _, h.2.symm⟩))
        go_big_quiet_want
        go_big_quiet_op
        go_big_quiet_call ((refine (hf.out _ _ _ _ (by omega)).mono ?_; exact fun _ _ h => ⟨h.1, _, h.2.symm⟩))
        repeat (go_big_quiet_step (fail))
        refine wpQuiet_nil ?_
        intro w4 hw4
        obtain ⟨nq, rfl⟩ := hw4
        by_cases hq4 : (q : Int) = 4611686018427387904
        · have c4 : decide (4611686018427387904 < (q : Int) + 1) = true := by rw [decide_eq_true_eq]; omega
          have Hq4 := Lib.hid hq4
          clear hk5 hd hr1' hmf hcf hlt hq4
          go_wp2
          go_ret2
          refine ⟨?_, below_drewN Hb2.out _⟩
          exact fin_big hfin.out hQ.out (by have := Hq4.out; omega)
        · have c4 : decide (4611686018427387904 < (q : Int) + 1) = false := by rw [decide_eq_false_iff_not]; omega
          have hq5 : (q : Int) ≤ 4611686018427387903 := by omega
          clear hk5 hd hr1' hmf hcf hlt hq4 hq3i
          go_wp2
          go_ret2
          refine ⟨?_, below_drewN Hb2.out _⟩
          exact fin_ok hfin.out hQ.out (by omega) (by simp [Sc.sgn]; try omega)
    · have c2 : decide ((q : Int) ≤ 4611686018427387904) = false := by rw [decide_eq_false_iff_not]; omega
      have hq3i : 4611686018427387904 < (q : Int) := by omega
      clear hq3
      go_wp2_with fail
      go_quiet (fail)
      go_wp2
      go_ret2
      refine ⟨?_, below_drewN Hb2.out _⟩
      cases haw : Sc.away how true q r den
      · exact fin_big hfin.out (quo_stay haw) hq3i
      · exact fin_big hfin.out (quo_up hr1' haw) (by omega)
set_option maxHeartbeats 2000000 in
set_option maxRecDepth 100000 in
/-- the product's quotient fits one word -/
theorem scale_pos (how : Int) (num den hi lo q r k A : Nat) (w : World) (hk : Hid (how = (k : Int) + 1)) (hk5 : k < 5) (hd : 1 ≤ den) (hD : (den : Int) ≤ 9223372036854775807) (hM : (num : Int) ≤ 9223372036854775807)
    
    (hhi' : ((A * num / 18446744073709551616 : Nat) : Int) = hi) (hlo' : ((A * num % 18446744073709551616 : Nat) : Int) = lo) (hlt : (hi : Int) < den)
    (hq' : (((hi * 18446744073709551616 + lo) / den : Nat) : Int) = q) (hr' : (((hi * 18446744073709551616 + lo) % den : Nat) : Int) = r) (hr0 : (r : Int) < den) (_hlo2 : (lo : Int) ≤ 18446744073709551615) (hq2 : (q : Int) ≤ 18446744073709551615) (hA : (A : Int) ≤ 9223372036854775807)
    (hfin : Hid (Sc.sc A num den how = if 4611686018427387904 < Sc.quo how false q r den then (0, 9) else (Sc.sgn false (Sc.quo how false q r den), 0))) :
    Calls Tryz.prog 27 #[.int .i64 A, .int .i64 num, .int .i64 den, .int .i64 how] w fun e w' => e = scRet (Sc.sc A num den how) ∧ Below w.heap.size w w' := by
  have hw : wayAt how = (k : Int) := by have := hk.out; unfold wayAt; rw [if_pos (by omega)]; omega
  have hmf : ∀ (fn : Fn) (first cap : Array Value) (w : World), (Instr.makeFunc fn first cap).run Tryz.prog w = .ok (.func fn first cap) w := fun _ _ _ _ => rfl
  have b5 : decide ((A : Int) < 0) = false := by rw [decide_eq_false_iff_not]; omega
  have b1 : decide ((den : Int) ≤ 0) = false := by rw [decide_eq_false_iff_not]; omega
  have b2 : decide ((den : Int) ≤ hi) = false := by rw [decide_eq_false_iff_not]; omega
  have hmul := Lib.hid (Go.Proofs.Tryz.bits_Mul64 A num)
  have hdiv := Lib.hid (div64_any hi lo den)
  obtain ⟨f, g0, g1, hcf, hf'⟩ := way_any k hk5
  have hf := Lib.hid hf'
  clear hf'
  unfold fnv at g1
  go_enter Tryz.func27, Tryz.ntmps27
  go_wp2_with fail
  refine (ways_any _).mono ?_
  rintro e w1 ⟨rfl, rfl⟩
  go_wp2_with fail
  refine (index_any _ _ how _ (hasRow_new w _) (how_new w how _) (by simp) (by simp; omega)).mono ?_
  rintro e w1 ⟨rfl, hb⟩
  rw [hw]
  have hrow := (hasRow_new w (.cells #[.int .i64 how] 3)).at hb (by simp)
  have hb' := (below_two w _ _).trans (hb.mono (by simp; omega))
  have hk5i : (k : Int) < 5 := by omega
  have r0 := hrow (k * 2) (by omega)
  have r1 := hrow (k * 2 + 1) (by omega)
  rw [g0] at r0; rw [g1] at r1
  clear hb hw hrow g0 g1
  go_wp2_with fail
  refine (hmul.out (by omega) (by omega) _).mono ?_
  rintro e w2 ⟨rfl, rfl⟩
  rw [hhi', hlo']
  go_wp2_with fail
  refine (hdiv.out _ (by omega) (by omega) (by omega)).mono ?_
  rintro e w3 ⟨rfl, hn⟩
  rw [hq', hr']
  obtain ⟨r0', r1', hb2⟩ : w3.cell? ⟨w.heap.size + 1, k * 2, none⟩ = some (.int .i64 ((k : Int) + 1)) ∧ w3.cell? ⟨w.heap.size + 1, k * 2 + 1, none⟩ = some (.func (.func f) #[] #[]) ∧ Below w.heap.size w w3 := by
    obtain ⟨n, rfl⟩ := hn
    exact ⟨r0, r1, below_drewN hb' n⟩
  have Hb2 := Lib.hid hb2
  clear hn r0 r1 hb' hb2 hmul hdiv hq' hr' hhi' hlo' b2
  by_cases hr1 : r = 0
  · subst hr1
    have hQ := Lib.hid (quo_rest0 how false q den)
    go_wp2_with fail
    go_quiet (fail)
    go_wp2
    all_goals go_ret2
    all_goals refine ⟨?_, below_drewN Hb2.out _⟩
    all_goals first | exact fin_ok hfin.out hQ.out (by assumption) (by simp [Sc.sgn]) | exact fin_big hfin.out hQ.out (by assumption)
  · have c1 : decide ((0 : Int) < (r : Int)) = true := by rw [decide_eq_true_eq]; omega
    have hr1' : 0 < r := by omega
    clear hr1
    by_cases hq3 : q ≤ 4611686018427387904
    · have c2 : decide ((q : Int) ≤ 4611686018427387904) = true := by rw [decide_eq_true_eq]; omega
      have hq3i : (q : Int) ≤ 4611686018427387904 := by omega
      clear hq3
      cases haw : Sc.away how false q r den
      · have hwf : wayF ((k : Int) + 1) false q (cmpF r ((den : Int) - r)) = false := by rw [← hk.out, wayF_away, haw]
        have hQ := Lib.hid (quo_stay haw)
        clear haw
        go_wp2_with fail
        refine wp_region_quiet_lit (by kernel_rfl) (by kernel_rfl) ?_
        repeat (go_big_quiet_step (fail))
        go_big_quiet_want
        go_big_quiet_op
        go_big_quiet_call ((refine (compare_any _ _ _).mono ?_; exact fun _ _ h => ⟨h.1, _, h.2.symm⟩))
        go_big_quiet_want
        go_big_quiet_op
        go_big_quiet_call ((refine (hf.out _ _ _ _ (by omega)).mono ?_; exact fun _ _ h => ⟨h.1, _, h.2.symm⟩))
        repeat (go_big_quiet_step (fail))
        refine wpQuiet_nil ?_
        intro w4 hw4
        obtain ⟨nq, rfl⟩ := hw4
        have c4 : decide (4611686018427387904 < (q : Int)) = false := by rw [decide_eq_false_iff_not]; omega
        clear hk5 hd hr1' hmf hcf hlt
        go_wp2
        go_ret2
        refine ⟨?_, below_drewN Hb2.out _⟩
        exact fin_ok hfin.out hQ.out (by omega) (by simp [Sc.sgn])
      · have hwf : wayF ((k : Int) + 1) false q (cmpF r ((den : Int) - r)) = true := by rw [← hk.out, wayF_away, haw]
        have hQ := Lib.hid (quo_up hr1' haw)
        clear haw
        go_wp2_with fail
        refine wp_region_quiet_lit (by kernel_rfl) (by kernel_rfl) ?_
        repeat (go_big_quiet_step (fail))
        go_big_quiet_want
        go_big_quiet_op
        go_big_quiet_call ((refine (compare_any _ _ _).mono ?_; exact fun _ _ h => ⟨h.1, _, h.2.symm⟩))
        go_big_quiet_want
        go_big_quiet_op
        go_big_quiet_call ((refine (hf.out _ _ _ _ (by omega)).mono ?_; exact fun _ _ h => ⟨h.1, _, h.2.symm⟩))
        repeat (go_big_quiet_step (fail))
        refine wpQuiet_nil ?_
        intro w4 hw4
        obtain ⟨nq, rfl⟩ := hw4
        by_cases hq4 : (q : Int) = 4611686018427387904
        · have c4 : decide (4611686018427387904 < (q : Int) + 1) = true := by rw [decide_eq_true_eq]; omega
          have Hq4 := Lib.hid hq4
          clear hk5 hd hr1' hmf hcf hlt hq4
          go_wp2
          go_ret2
          refine ⟨?_, below_drewN Hb2.out _⟩
          exact fin_big hfin.out hQ.out (by have := Hq4.out; omega)
        · have c4 : decide (4611686018427387904 < (q : Int) + 1) = false := by rw [decide_eq_false_iff_not]; omega
          have hq5 : (q : Int) ≤ 4611686018427387903 := by omega
          clear hk5 hd hr1' hmf hcf hlt hq4 hq3i
          go_wp2
          go_ret2
          refine ⟨?_, below_drewN Hb2.out _⟩
          exact fin_ok hfin.out hQ.out (by omega) (by simp [Sc.sgn]; try omega)
    · have c2 : decide ((q : Int) ≤ 4611686018427387904) = false := by rw [decide_eq_false_iff_not]; omega
      have hq3i : 4611686018427387904 < (q : Int) := by omega
      clear hq3
      go_wp2_with fail
      go_quiet (fail)
      go_wp2
      go_ret2
      refine ⟨?_, below_drewN Hb2.out _⟩
      cases haw : Sc.away how false q r den
      · exact fin_big hfin.out (quo_stay haw) hq3i
      · exact fin_big hfin.out (quo_up hr1' haw) (by omega)
end Go.Proofs.YtcdilamkkodjjaaGreatDoor

/- Scale and Div of the program and of the reference: all return 'Sc.sc'. -/
namespace Go.Proofs.YtcdilamkkodjjaaGreatDoor
open Go.RowKit Go.BigFrame

theorem word_split (n : Nat) : n / 18446744073709551616 * 18446744073709551616 + n % 18446744073709551616 = n := by omega

theorem scale_high_neg (a how : Int) (num den hi k A : Nat) (w : World) (hk : Hid (how = (k : Int) + 1)) (hk5 : k < 5) (hd : 1 ≤ den) (hD : (den : Int) ≤ 9223372036854775807) (hM : (num : Int) ≤ 9223372036854775807)
    (hs : a < 0) (hneg : IntKind.u64.wrap (-IntKind.u64.wrap a) = (A : Int)) (hA : (A : Int) ≤ 9223372036854775808)
    (hhi' : ((A * num / 18446744073709551616 : Nat) : Int) = hi) (hle : (den : Int) ≤ hi) :
    Calls Tryz.prog 27 #[.int .i64 a, .int .i64 num, .int .i64 den, .int .i64 how] w fun e w' => e = scRet (0, 9) ∧ Below w.heap.size w w' := by
  have hw : wayAt how = (k : Int) := by have := hk.out; unfold wayAt; rw [if_pos (by omega)]; omega
  have hmf : ∀ (fn : Fn) (first cap : Array Value) (w : World), (Instr.makeFunc fn first cap).run Tryz.prog w = .ok (.func fn first cap) w := fun _ _ _ _ => rfl
  have b1 : decide ((den : Int) ≤ 0) = false := by rw [decide_eq_false_iff_not]; omega
  have b2 : decide ((den : Int) ≤ hi) = true := by rw [decide_eq_true_eq]; omega
  have hmul := Lib.hid (Go.Proofs.Tryz.bits_Mul64 A num)
  go_enter Tryz.func27, Tryz.ntmps27
  go_wp2_with fail
  refine (ways_any _).mono ?_
  rintro e w1 ⟨rfl, rfl⟩
  go_wp2_with fail
  refine (index_any _ _ how _ (hasRow_new w _) (how_new w how _) (by simp) (by simp; omega)).mono ?_
  rintro e w1 ⟨rfl, hb⟩
  rw [hw]
  have hb' := (below_two w _ _).trans (hb.mono (by simp; omega))
  have hk5i : (k : Int) < 5 := by omega
  clear hb hw
  go_wp2_with fail
  refine (hmul.out (by omega) (by omega) _).mono ?_
  rintro e w2 ⟨rfl, rfl⟩
  rw [hhi']
  go_wp2
  go_ret2
  exact ⟨rfl, hb'⟩
theorem scale_high_pos (how : Int) (num den hi k A : Nat) (w : World) (hk : Hid (how = (k : Int) + 1)) (hk5 : k < 5) (hd : 1 ≤ den) (hD : (den : Int) ≤ 9223372036854775807) (hM : (num : Int) ≤ 9223372036854775807)
    (hA : (A : Int) ≤ 9223372036854775807)
    (hhi' : ((A * num / 18446744073709551616 : Nat) : Int) = hi) (hle : (den : Int) ≤ hi) :
    Calls Tryz.prog 27 #[.int .i64 A, .int .i64 num, .int .i64 den, .int .i64 how] w fun e w' => e = scRet (0, 9) ∧ Below w.heap.size w w' := by
  have hw : wayAt how = (k : Int) := by have := hk.out; unfold wayAt; rw [if_pos (by omega)]; omega
  have hmf : ∀ (fn : Fn) (first cap : Array Value) (w : World), (Instr.makeFunc fn first cap).run Tryz.prog w = .ok (.func fn first cap) w := fun _ _ _ _ => rfl
  have b5 : decide ((A : Int) < 0) = false := by rw [decide_eq_false_iff_not]; omega
  have b1 : decide ((den : Int) ≤ 0) = false := by rw [decide_eq_false_iff_not]; omega
  have b2 : decide ((den : Int) ≤ hi) = true := by rw [decide_eq_true_eq]; omega
  have hmul := Lib.hid (Go.Proofs.Tryz.bits_Mul64 A num)
  go_enter Tryz.func27, Tryz.ntmps27
  go_wp2_with fail
  refine (ways_any _).mono ?_
  rintro e w1 ⟨rfl, rfl⟩
  go_wp2_with fail
  refine (index_any _ _ how _ (hasRow_new w _) (how_new w how _) (by simp) (by simp; omega)).mono ?_
  rintro e w1 ⟨rfl, hb⟩
  rw [hw]
  have hb' := (below_two w _ _).trans (hb.mono (by simp; omega))
  have hk5i : (k : Int) < 5 := by omega
  clear hb hw
  go_wp2_with fail
  refine (hmul.out (by omega) (by omega) _).mono ?_
  rintro e w2 ⟨rfl, rfl⟩
  rw [hhi']
  go_wp2
  go_ret2
  exact ⟨rfl, hb'⟩

/-- the program's Scale -/
theorem scale_any (a num den how : Int) (w : World) (ha1 : -9223372036854775808 ≤ a) (ha2 : a ≤ 9223372036854775807) (hn : num ≤ 9223372036854775807) (hd : den ≤ 9223372036854775807) :
    Calls Tryz.prog 27 #[.int .i64 a, .int .i64 num, .int .i64 den, .int .i64 how] w fun e w' => e = scRet (Sc.sc a num den how) ∧ Below w.heap.size w w' := by
  by_cases h1 : how < 1 ∨ 5 < how
  · rw [Sc.sc_kind _ _ _ _ h1]; exact scale_kind a num den how w h1
  by_cases h2 : den ≤ 0 ∨ num < 0
  · rw [Sc.sc_arg _ _ _ _ (by omega) (by omega) h2]; exact scale_arg a num den how w (by omega) (by omega) h2
  obtain ⟨num, rfl⟩ := Int.eq_ofNat_of_zero_le (show 0 ≤ num by omega)
  obtain ⟨den, rfl⟩ := Int.eq_ofNat_of_zero_le (show 0 ≤ den by omega)
  obtain ⟨k, hk⟩ : ∃ k : Nat, how = (k : Int) + 1 := ⟨(how - 1).toNat, by omega⟩
  have hk5 : k < 5 := by omega
  obtain ⟨N, hN⟩ : ∃ N, N = a.natAbs * num := ⟨_, rfl⟩
  have hN2 : N ≤ 9223372036854775808 * 9223372036854775807 := by rw [hN]; exact Nat.mul_le_mul (by omega) (by omega)
  by_cases h3 : den ≤ a.natAbs * num / 18446744073709551616
  · rw [Sc.sc_high a how num den (by omega) (by omega) (by omega) h3]
    by_cases h4 : a < 0
    · exact scale_high_neg a how num den _ k a.natAbs w (Lib.hid hk) hk5 (by omega) hd hn h4 (neg_wrap h4 ha1) (by omega) rfl (by omega)
    · obtain ⟨A, rfl⟩ := Int.eq_ofNat_of_zero_le (show 0 ≤ a by omega)
      rw [Int.natAbs_natCast] at h3
      exact scale_high_pos how num den _ k A w (Lib.hid hk) hk5 (by omega) hd hn ha2 rfl (by omega)
  · have hfin := Sc.sc_of a how num den (by omega) (by omega) (by omega) (by omega)
    rw [← hN] at hfin h3
    have hr := Nat.mod_lt N (show 0 < den by omega)
    have hq : N / den < 18446744073709551616 := by
      rw [Nat.div_lt_iff_lt_mul (by omega)]
      omega
    have hlo := Nat.mod_lt N (show 0 < 18446744073709551616 by omega)
    by_cases h4 : a < 0
    · rw [show decide (a < 0) = true by simpa using h4] at hfin
      refine scale_neg a how num den (N / 18446744073709551616) (N % 18446744073709551616) (N / den) (N % den) k a.natAbs w (Lib.hid hk) hk5 (by omega) hd hn h4 ha1 (neg_wrap h4 ha1) (by rw [← hN]) (by rw [← hN]) (by omega) (by rw [word_split]) (by rw [word_split]) (by omega) (by omega) (by omega) (by omega) (Lib.hid hfin)
    · obtain ⟨A, rfl⟩ := Int.eq_ofNat_of_zero_le (show 0 ≤ a by omega)
      rw [show decide ((A : Int) < 0) = false by rw [decide_eq_false_iff_not]; exact h4] at hfin
      rw [Int.natAbs_natCast] at hN
      refine scale_pos how num den (N / 18446744073709551616) (N % 18446744073709551616) (N / den) (N % den) k A w (Lib.hid hk) hk5 (by omega) hd hn (by rw [← hN]) (by rw [← hN]) (by omega) (by rw [word_split]) (by rw [word_split]) (by omega) (by omega) (by omega) (by omega) (Lib.hid hfin)

end Go.Proofs.YtcdilamkkodjjaaGreatDoor

/- Scale and Div of the reference return 'Sc.sc'. -/
namespace Go.Proofs.YtcdilamkkodjjaaGreatDoor
open Go.RowKit Go.BigFrame

theorem moreF_away {how : Int} (h1 : 1 ≤ how) (h5 : how ≤ 5) (b : Bool) (q r d : Nat) : moreF q r d b how = decide (0 < r ∧ Sc.away how b q r d = true) := by
  have e3 : ((q : Int) % 2 = 1) ↔ q % 2 = 1 := by omega
  have e5 : ((q : Int) % 2 == 1) = decide (q % 2 = 1) := by rw [Bool.eq_iff_iff, beq_iff_eq, decide_eq_true_eq]; exact e3
  unfold moreF
  by_cases h0 : r = 0
  · subst h0; simp
  rw [if_neg (by omega)]
  have hr : 0 < r := by omega
  unfold Sc.away
  by_cases a1 : how = 1
  · subst a1; cases b <;> simp [hr]
  by_cases a2 : how = 2
  · subst a2; cases b <;> simp [hr]
  by_cases a3 : how = 3
  · subst a3; simp
  simp only [a1, a2, a3, if_false]
  by_cases h6 : (r : Int) = d - r
  · rw [if_neg (by omega)]
    have h7 : 2 * r = d := by omega
    simp only [h7, hr, true_and, decide_true, Bool.true_and, e5]
    by_cases a4 : how = 4
    · subst a4; cases b <;> simp
    · simp [a4]
  · rw [if_pos h6]
    have h7 : ¬ 2 * r = d := by omega
    simp only [h7, hr, true_and, decide_false, Bool.false_and, Bool.or_false]
    have h8 : ((d : Int) - r < r) ↔ d < 2 * r := by omega
    by_cases a4 : how = 4
    · subst a4; simp [h8]
    · simp [a4, h8]

theorem rscale_kind (a num den how : Int) (w : World) (h : how < 1 ∨ 5 < how) :
    Calls Tryz.prog 35 #[.int .i64 a, .int .i64 num, .int .i64 den, .int .i64 how] w fun e w' => e = scRet (0, 7) ∧ Below w.heap.size w w' := by
  have ho : (decide (how < 1) || decide (5 < how)) = true := by simpa using h
  have hout := Lib.hid (outside_any how 1 5)
  clear h
  go_enter Tryz.func35, Tryz.ntmps35
  go_wp2_with fail
  refine (hout.out w).mono ?_
  rintro e w1 ⟨rfl, rfl⟩
  rw [ho]
  go_wp2
  go_ret2
  exact ⟨rfl, Below.refl _ _⟩
theorem rscale_arg (a num den how : Int) (w : World) (h1 : 1 ≤ how) (h5 : how ≤ 5) (h : den ≤ 0 ∨ num < 0) :
    Calls Tryz.prog 35 #[.int .i64 a, .int .i64 num, .int .i64 den, .int .i64 how] w fun e w' => e = scRet (0, 1) ∧ Below w.heap.size w w' := by
  have ho : (decide (how < 1) || decide (5 < how)) = false := by simp; omega
  have hout := Lib.hid (outside_any how 1 5)
  by_cases hd : den ≤ 0
  · have hd2 : decide (den < 1) = true := by rw [decide_eq_true_eq]; omega
    clear h
    go_enter Tryz.func35, Tryz.ntmps35
    go_wp2_with fail
    refine (hout.out w).mono ?_
    rintro e w1 ⟨rfl, rfl⟩
    rw [ho]
    go_wp2
    go_ret2
    exact ⟨rfl, Below.refl _ _⟩
  · have hd2 : decide (den < 1) = false := by rw [decide_eq_false_iff_not]; omega
    have hn2 : decide (num < 0) = true := by rw [decide_eq_true_eq]; omega
    clear h hd
    go_enter Tryz.func35, Tryz.ntmps35
    go_wp2_with fail
    refine (hout.out w).mono ?_
    rintro e w1 ⟨rfl, rfl⟩
    rw [ho]
    go_wp2
    go_ret2
    exact ⟨rfl, Below.refl _ _⟩

set_option maxHeartbeats 1000000 in
set_option maxRecDepth 100000 in
theorem rscale_high (a how : Int) (num den hi A : Nat) (w : World) (h1 : 1 ≤ how) (h5 : how ≤ 5) (hd : 1 ≤ den) (hD : (den : Int) ≤ 9223372036854775807) (hM : (num : Int) ≤ 9223372036854775807)
    (ha1 : -9223372036854775808 ≤ a) (ha2 : a ≤ 9223372036854775807) (hA : (A : Int) ≤ 9223372036854775808) (hAa : Hid (A = a.natAbs))
    (hhi' : ((A * num / 18446744073709551616 : Nat) : Int) = hi) (hle : (den : Int) ≤ hi) :
    Calls Tryz.prog 35 #[.int .i64 a, .int .i64 num, .int .i64 den, .int .i64 how] w fun e w' => e = scRet (0, 9) ∧ Below w.heap.size w w' := by
  have ho : (decide (how < 1) || decide (5 < how)) = false := by simp; omega
  have hout := Lib.hid (outside_any how 1 5)
  have hsz := Lib.hid (size_any a)
  have hmul := Lib.hid (Go.Proofs.Tryz.bits_Mul64 A num)
  have b1 : decide ((den : Int) < 1) = false := by rw [decide_eq_false_iff_not]; omega
  have b2 : decide ((den : Int) ≤ hi) = true := by rw [decide_eq_true_eq]; omega
  go_enter Tryz.func35, Tryz.ntmps35
  go_wp2_with fail
  refine (hout.out w).mono ?_
  rintro e w1 ⟨rfl, rfl⟩
  rw [ho]
  go_wp2_with fail
  refine (hsz.out _ ha1 ha2).mono ?_
  rintro e w1 ⟨rfl, rfl⟩
  rw [← hAa.out]
  go_wp2_with fail
  refine (hmul.out (by omega) (by omega) _).mono ?_
  rintro e w2 ⟨rfl, rfl⟩
  rw [hhi']
  go_wp2
  go_ret2
  exact ⟨rfl, Below.refl _ _⟩

set_option maxHeartbeats 2000000 in
set_option maxRecDepth 100000 in
theorem rscale_of (a how : Int) (num den hi lo q r A : Nat) (S : Bool) (w : World) (h1 : 1 ≤ how) (h5 : how ≤ 5) (hd : 1 ≤ den) (hD : (den : Int) ≤ 9223372036854775807) (hM : (num : Int) ≤ 9223372036854775807)
    (ha1 : -9223372036854775808 ≤ a) (ha2 : a ≤ 9223372036854775807) (hA : (A : Int) ≤ 9223372036854775808) (hAa : Hid (A = a.natAbs)) (hS : decide (a < 0) = S)
    (hhi' : ((A * num / 18446744073709551616 : Nat) : Int) = hi) (hlo' : ((A * num % 18446744073709551616 : Nat) : Int) = lo) (hlt : (hi : Int) < den)
    (hq' : (((hi * 18446744073709551616 + lo) / den : Nat) : Int) = q) (hr' : (((hi * 18446744073709551616 + lo) % den : Nat) : Int) = r) (hr0 : (r : Int) < den) (_hlo2 : (lo : Int) ≤ 18446744073709551615) (hq2 : (q : Int) ≤ 18446744073709551615)
    (hfin : Hid (Sc.sc a num den how = if 4611686018427387904 < Sc.quo how S q r den then (0, 9) else (Sc.sgn S (Sc.quo how S q r den), 0))) :
    Calls Tryz.prog 35 #[.int .i64 a, .int .i64 num, .int .i64 den, .int .i64 how] w fun e w' => e = scRet (Sc.sc a num den how) ∧ Below w.heap.size w w' := by
  have ho : (decide (how < 1) || decide (5 < how)) = false := by simp; omega
  have hout := Lib.hid (outside_any how 1 5)
  have hsz := Lib.hid (size_any a)
  have hmul := Lib.hid (Go.Proofs.Tryz.bits_Mul64 A num)
  have hdiv := Lib.hid (div64_any hi lo den)
  have b1 : decide ((den : Int) < 1) = false := by rw [decide_eq_false_iff_not]; omega
  have b2 : decide ((den : Int) ≤ hi) = false := by rw [decide_eq_false_iff_not]; omega
  have hmore := Lib.hid (more_any q r den S how)
  have hma := Lib.hid (moreF_away h1 h5 S q r den)
  go_enter Tryz.func35, Tryz.ntmps35
  go_wp2_with fail
  refine (hout.out w).mono ?_
  rintro e w1 ⟨rfl, rfl⟩
  rw [ho]
  go_wp2_with fail
  refine (hsz.out _ ha1 ha2).mono ?_
  rintro e w1 ⟨rfl, rfl⟩
  rw [← hAa.out]
  go_wp2_with fail
  refine (hmul.out (by omega) (by omega) _).mono ?_
  rintro e w2 ⟨rfl, rfl⟩
  rw [hhi', hlo']
  go_wp2_with fail
  refine (hdiv.out _ (by omega) (by omega) (by omega)).mono ?_
  rintro e w3 ⟨rfl, nd, rfl⟩
  rw [hq', hr']
  clear hhi' hlo' hq' hr' b1 b2
  go_wp2_with fail
  refine (hmore.out _ (by omega) (by omega) (by omega) (by omega)).mono ?_
  rintro e w4 ⟨rfl, rfl⟩
  rw [hma.out]
  cases haw : decide (0 < r ∧ Sc.away how S q r den = true)
  · have hQ : Sc.quo how S q r den = q := by
      unfold Sc.quo; rw [if_neg (by simpa using haw)]
    have HQ := Lib.hid hQ
    clear haw hQ hma hmore
    by_cases h9 : (q : Int) ≤ 4611686018427387904
    · have c4 : decide (4611686018427387904 < (q : Int)) = false := by rw [decide_eq_false_iff_not]; omega
      cases S
      · go_wp2
        go_ret2
        exact ⟨fin_ok hfin.out HQ.out h9 (by simp [Sc.sgn]), below_drewN (Below.refl _ _) _⟩
      · go_wp2
        go_ret2
        exact ⟨fin_ok hfin.out HQ.out h9 (by simp [Sc.sgn]), below_drewN (Below.refl _ _) _⟩
    · have c4 : decide (4611686018427387904 < (q : Int)) = true := by rw [decide_eq_true_eq]; omega
      have h9' := Lib.hid h9
      clear h9
      go_wp2
      go_ret2
      exact ⟨fin_big hfin.out HQ.out (by have := h9'.out; omega), below_drewN (Below.refl _ _) _⟩
  · have hQ : Sc.quo how S q r den = q + 1 := by
      unfold Sc.quo; rw [if_pos (by simpa using haw)]
    have HQ := Lib.hid hQ
    clear haw hQ hma hmore
    by_cases h8 : (q : Int) = 18446744073709551615
    · have c5 : IntKind.u64.wrap ((q : Int) + 1) = 0 := by rw [IntKind.wrap_u64]; omega
      have H8 := Lib.hid h8
      clear h8
      go_wp2
      go_ret2
      exact ⟨fin_big hfin.out HQ.out (by have := H8.out; omega), below_drewN (Below.refl _ _) _⟩
    · have c5 : IntKind.u64.wrap ((q : Int) + 1) = (q : Int) + 1 := by rw [IntKind.wrap_u64]; omega
      have c6 : ((q : Int) + 1 == 0) = false := by rw [beq_eq_false_iff_ne]; omega
      have H8 := Lib.hid h8
      clear h8
      by_cases h9 : (q : Int) + 1 ≤ 4611686018427387904
      · have c4 : decide (4611686018427387904 < (q : Int) + 1) = false := by rw [decide_eq_false_iff_not]; omega
        cases S
        · go_wp2
          go_ret2
          exact ⟨fin_ok hfin.out HQ.out (by omega) (by simp [Sc.sgn]), below_drewN (Below.refl _ _) _⟩
        · go_wp2
          go_ret2
          exact ⟨fin_ok hfin.out HQ.out (by omega) (by simp [Sc.sgn]), below_drewN (Below.refl _ _) _⟩
      · have c4 : decide (4611686018427387904 < (q : Int) + 1) = true := by rw [decide_eq_true_eq]; omega
        have h9' := Lib.hid h9
        clear h9
        go_wp2
        go_ret2
        exact ⟨fin_big hfin.out HQ.out (by have := h9'.out; omega), below_drewN (Below.refl _ _) _⟩

theorem rscale_any (a num den how : Int) (w : World) (ha1 : -9223372036854775808 ≤ a) (ha2 : a ≤ 9223372036854775807) (hn : num ≤ 9223372036854775807) (hd : den ≤ 9223372036854775807) :
    Calls Tryz.prog 35 #[.int .i64 a, .int .i64 num, .int .i64 den, .int .i64 how] w fun e w' => e = scRet (Sc.sc a num den how) ∧ Below w.heap.size w w' := by
  by_cases h1 : how < 1 ∨ 5 < how
  · rw [Sc.sc_kind _ _ _ _ h1]; exact rscale_kind a num den how w h1
  by_cases h2 : den ≤ 0 ∨ num < 0
  · rw [Sc.sc_arg _ _ _ _ (by omega) (by omega) h2]; exact rscale_arg a num den how w (by omega) (by omega) h2
  obtain ⟨num, rfl⟩ := Int.eq_ofNat_of_zero_le (show 0 ≤ num by omega)
  obtain ⟨den, rfl⟩ := Int.eq_ofNat_of_zero_le (show 0 ≤ den by omega)
  obtain ⟨N, hN⟩ : ∃ N, N = a.natAbs * num := ⟨_, rfl⟩
  have hN2 : N ≤ 9223372036854775808 * 9223372036854775807 := by rw [hN]; exact Nat.mul_le_mul (by omega) (by omega)
  by_cases h3 : den ≤ a.natAbs * num / 18446744073709551616
  · rw [Sc.sc_high a how num den (by omega) (by omega) (by omega) h3]
    exact rscale_high a how num den _ a.natAbs w (by omega) (by omega) (by omega) hd hn ha1 ha2 (by omega) (Lib.hid rfl) rfl (by omega)
  · have hfin := Sc.sc_of a how num den (by omega) (by omega) (by omega) (by omega)
    rw [← hN] at hfin h3
    have hr := Nat.mod_lt N (show 0 < den by omega)
    have hq : N / den < 18446744073709551616 := by
      rw [Nat.div_lt_iff_lt_mul (by omega)]
      omega
    have hlo := Nat.mod_lt N (show 0 < 18446744073709551616 by omega)
    exact rscale_of a how num den (N / 18446744073709551616) (N % 18446744073709551616) (N / den) (N % den) a.natAbs _ w (by omega) (by omega) (by omega) hd hn ha1 ha2 (by omega) (Lib.hid rfl) rfl
      (by rw [← hN]) (by rw [← hN]) (by omega) (by rw [word_split]) (by rw [word_split]) (by omega) (by omega) (by omega) (Lib.hid hfin)

end Go.Proofs.YtcdilamkkodjjaaGreatDoor
