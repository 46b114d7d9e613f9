/- Several texts of this claim in one. -/
import Derived.Lib.Bytealg
import Derived.Lib.AtoiTie
import Derived.Lib.ItoaNum
import Derived.Lib.ItoaLen
import Derived.Test.YthimnjegacdhaaaGreatDoorProg
import Derived.WalkKit
import Derived.WalkSpells
import Derived.WalkLawsBesides
import Derived.Lib.Hide
import Derived.Test.YthimnjegacdhaaaGreatDoorShelf
import Derived.Test.YthimnjegacdhaaaGreatDoorPt1
import Derived.RegionTactic
import Derived.ChangeAlike
import Derived.Deep.QuietTactic
import Derived.BigQuiet
import Derived.Lib.LaidTab
import Derived.Deep.Cut
import Derived.Deep.Slices
import Derived.ChangeSame
import Derived.Below
import Derived.Lib.SmallJoins
/- What the functions of a reader do, in plain words. -/
namespace Rd
def byte (s : ByteArray) (p : Nat) : Nat := if h : p < s.size then s[p].toNat else 0
def isD (c : Nat) : Bool := decide (48 ≤ c) && decide (c ≤ 57)
/-- whether a digit comes next -/
def digAt (s : ByteArray) (p : Nat) (ok : Bool) : Bool := ok && (decide (p < s.size) && isD (byte s p))
theorem byte_lt {s : ByteArray} {p : Nat} (h : p < s.size) : byte s p = s[p].toNat := by unfold byte; rw [dif_pos h]
theorem byte_le (s : ByteArray) (p : Nat) : byte s p < 256 := by
  unfold byte; split
  · exact UInt8.toNat_lt _
  · omega
theorem isD_bounds {c : Nat} (h : isD c = true) : 48 ≤ c ∧ c ≤ 57 := by unfold isD at h; simpa using h
theorem digAt_true {s : ByteArray} {p : Nat} {ok : Bool} (h : digAt s p ok = true) : ok = true ∧ p < s.size ∧ 48 ≤ byte s p ∧ byte s p ≤ 57 := by
  unfold digAt isD at h; simpa using h
/-- does a number of a form stop before a further digit? -/
def stops (least most n next : Int) (m : Nat) : Bool := (decide (0 < m) && decide (n = 0)) || decide (most < next) || (decide (next = 0) && decide (0 < least))
/-- the rounds of 'number': what was read so far, how many digits, and where -/
def numLoop (s : ByteArray) (digits : Nat) (least most : Int) (ok : Bool) : Nat → Int → Nat → Nat → Int × Nat × Nat
  | 0, n, m, p => (n, m, p)
  | f + 1, n, m, p =>
    if m < digits ∧ digAt s p ok = true then
      if stops least most n (10 * n + ((byte s p : Int) - 48)) m = true then (n, m, p)
      else numLoop s digits least most ok f (10 * n + ((byte s p : Int) - 48)) (m + 1) (p + 1)
    else (n, m, p)
def numAt (s : ByteArray) (digits : Nat) (least most : Int) (ok : Bool) (p : Nat) : Int × Nat × Nat := numLoop s digits least most ok digits 0 0 p
def numOk (least : Int) (ok : Bool) (x : Int × Nat × Nat) : Bool := ok && decide (0 < x.2.1) && decide (least ≤ x.1)
theorem numLoop_stop {s : ByteArray} {digits : Nat} {least most : Int} {ok : Bool} {f : Nat} {n : Int} {m p : Nat} (h : ¬ (m < digits ∧ digAt s p ok = true)) :
    numLoop s digits least most ok f n m p = (n, m, p) := by
  cases f <;> simp [numLoop, h]
theorem numLoop_break {s : ByteArray} {digits : Nat} {least most : Int} {ok : Bool} {f : Nat} {n : Int} {m p : Nat} (h : m < digits ∧ digAt s p ok = true)
    (h2 : stops least most n (10 * n + ((byte s p : Int) - 48)) m = true) : numLoop s digits least most ok f n m p = (n, m, p) := by
  cases f <;> simp [numLoop, h, h2]
theorem numLoop_next {s : ByteArray} {digits : Nat} {least most : Int} {ok : Bool} {f : Nat} {n : Int} {m p : Nat} (h : m < digits ∧ digAt s p ok = true)
    (h2 : stops least most n (10 * n + ((byte s p : Int) - 48)) m = false) :
    numLoop s digits least most ok (f + 1) n m p = numLoop s digits least most ok f (10 * n + ((byte s p : Int) - 48)) (m + 1) (p + 1) := by
  simp [numLoop, h, h2]
/-- two digits -/
def pairStep (s : ByteArray) (most unit : Int) (x : Int × Nat × Bool) : Int × Nat × Bool :=
  if digAt s x.2.1 x.2.2 = true ∧ x.1 + unit * ((byte s x.2.1 : Int) - 48) ≤ most then (x.1 + unit * ((byte s x.2.1 : Int) - 48), x.2.1 + 1, true) else (x.1, x.2.1, false)
def pairAt (s : ByteArray) (most : Int) (p : Nat) (ok : Bool) : Int × Nat × Bool := pairStep s most 1 (pairStep s most 10 (0, p, ok))
/-- just these bytes: from the i-th on -/
def exactLoop (s t : ByteArray) : Nat → Nat → Nat → Nat × Bool
  | 0, _, p => (p, true)
  | f + 1, i, p => if i < t.size then (if p < s.size ∧ byte s p = byte t i then exactLoop s t f (i + 1) (p + 1) else (p, false)) else (p, true)
def exactAt (s t : ByteArray) (p : Nat) (ok : Bool) : Nat × Bool := if ok = true then exactLoop s t t.size 0 p else (p, false)
def oneAt (s t : ByteArray) (p : Nat) (ok : Bool) : Int × Nat × Bool :=
  if ok = true ∧ p < s.size then
    let k := Go.Lib.indexByte t.data.toList (byte s p).toUInt8
    if 0 ≤ k then (k, p + 1, true) else (k, p, false)
  else (-1, p, false)
end Rd

/- The forms of texts, in plain words; what the reader's values are at most. -/
namespace Rd
theorem numLoop_pos (s : ByteArray) (digits : Nat) (least most : Int) (ok : Bool) : ∀ (f : Nat) (n : Int) (m p : Nat), p ≤ s.size → (numLoop s digits least most ok f n m p).2.2 ≤ s.size
  | 0, n, m, p, h => h
  | f + 1, n, m, p, h => by
    unfold numLoop
    split
    · split
      · exact h
      · rename_i h1 _
        have := (digAt_true h1.2).2.1
        exact numLoop_pos s digits least most ok f _ _ _ (by omega)
    · exact h
/-- the values that 'number' gives are small -/
theorem numLoop_val (s : ByteArray) (digits : Nat) (least most : Int) (ok : Bool) : ∀ (f : Nat) (n : Int) (m p : Nat), 0 ≤ n → (n ≤ most ∨ n = 0) → 0 ≤ (numLoop s digits least most ok f n m p).1 ∧ ((numLoop s digits least most ok f n m p).1 ≤ most ∨ (numLoop s digits least most ok f n m p).1 = 0)
  | 0, n, m, p, h, h2 => ⟨h, h2⟩
  | f + 1, n, m, p, h, h2 => by
    unfold numLoop
    split
    · rename_i h1
      have hd := digAt_true h1.2
      cases hst : stops least most n (10 * n + ((byte s p : Int) - 48)) m
      · rw [if_neg (by simp)]
        refine numLoop_val s digits least most ok f _ _ _ (by omega) ?_
        unfold stops at hst
        simp only [Bool.or_eq_false_iff, decide_eq_false_iff_not] at hst
        omega
      · rw [if_pos rfl]; exact ⟨h, h2⟩
    · exact ⟨h, h2⟩
theorem pairStep_val {s : ByteArray} {most u n : Int} {q : Nat} {b : Bool} (hu : 0 ≤ u) (h : 0 ≤ n) (hm : n ≤ most) : 0 ≤ (pairStep s most u (n, q, b)).1 ∧ (pairStep s most u (n, q, b)).1 ≤ most := by
  unfold pairStep
  split
  · rename_i h1
    dsimp only at h1
    have hd := digAt_true h1.1
    have : 0 ≤ u * ((byte s q : Int) - 48) := Int.mul_nonneg hu (by omega)
    exact ⟨by show 0 ≤ n + u * ((byte s q : Int) - 48); omega, h1.2⟩
  · exact ⟨h, hm⟩
theorem pairAt_val (s : ByteArray) {most : Int} (p : Nat) (ok : Bool) (hm : 0 ≤ most) : 0 ≤ (pairAt s most p ok).1 ∧ (pairAt s most p ok).1 ≤ most := by
  unfold pairAt
  have h1 := pairStep_val (s := s) (q := p) (b := ok) (u := 10) (n := 0) (by omega) (by omega) hm
  exact pairStep_val (q := (pairStep s most 10 (0, p, ok)).2.1) (b := (pairStep s most 10 (0, p, ok)).2.2) (by omega) h1.1 h1.2

/-! ### forms -/
def colon : ByteArray := ⟨#[58]⟩
def shortF (s : ByteArray) : Int × Nat × Bool :=
  let m := numAt s 2 0 59 true 0
  let c := exactAt s colon m.2.2 (numOk 0 true m)
  let x := pairAt s 59 c.1 c.2
  (60 * m.1 + x.1, x.2.1, x.2.2)
def longF (s : ByteArray) : Int × Nat × Bool :=
  let h := numAt s 3 1 999 true 0
  let c := exactAt s colon h.2.2 (numOk 1 true h)
  let m := pairAt s 59 c.1 c.2
  let d := exactAt s colon m.2.1 m.2.2
  let x := pairAt s 59 d.1 d.2
  (3600 * h.1 + 60 * m.1 + x.1, x.2.1, x.2.2)
/-- the value of the first form that a text has, how far the beginnings of forms go, the error -/
def formsLoop (s : ByteArray) : List (ByteArray → Int × Nat × Bool) → Nat → Int × Nat × Int
  | [], at_ => (0, at_, 6)
  | F :: r, at_ => if ((F s).2.2 && decide ((F s).2.1 = s.size)) = true then ((F s).1, 0, 0) else formsLoop s r (max at_ (F s).2.1)
def readForms (s : ByteArray) (l : List (ByteArray → Int × Nat × Bool)) : Int × Nat × Int := if 1000 < s.size then (0, 0, 3) else formsLoop s l 0
def ranged (x : Int × Nat × Int) (least most : Int) : Int × Nat × Int := if x.2.2 = 0 ∧ (x.1 < least ∨ most < x.1) then (0, 0, 9) else x
end Rd

/- Rows of digits and what they spell; numbers with two digits (plain). -/
namespace Rd
open Go.Lib (digitVal decFrom decNat atoi atoiAll itoa)

def sB (s : ByteArray) : List UInt8 := s.data.toList
theorem sB_inj {a b : ByteArray} (h : sB a = sB b) : a = b := by
  unfold sB at h
  cases a; cases b
  congr 1
  exact Array.toList_inj.1 h
def bt (l : List UInt8) : ByteArray := ⟨l.toArray⟩
def itoaB (n : Int) : ByteArray := bt (itoa n)
/-- the m bytes from p on are digits and spell n -/
structure DigRow (s : ByteArray) (p m : Nat) (n : Int) : Prop where
  le : p + m ≤ s.size
  dec : ∃ k : Nat, n = (k : Int) ∧ decFrom 0 ((sB s).drop p |>.take m) = some k
theorem DigRow.zero {s : ByteArray} {p : Nat} (h : p ≤ s.size) : DigRow s p 0 0 := ⟨h, 0, rfl, by simp [decFrom]⟩
theorem sB_get {s : ByteArray} {p : Nat} (h : p < s.size) : (sB s)[p]? = some s[p] := by
  unfold sB
  have : p < s.data.size := h
  rw [Array.getElem?_toList, Array.getElem?_eq_getElem this]
  rfl
theorem DigRow.next {s : ByteArray} {p m : Nat} {n : Int} (h : DigRow s p m n) (hd : digAt s (p + m) true = true) : DigRow s p (m + 1) (10 * n + ((byte s (p + m) : Int) - 48)) := by
  obtain ⟨_, hlt, h48, h57⟩ := digAt_true hd
  obtain ⟨k, hk, he⟩ := h.dec
  refine ⟨by omega, k * 10 + (byte s (p + m) - 48), by omega, ?_⟩
  refine Go.Lib.decFrom_take ((sB s).drop p) m 0 k (s[p + m]) _ he ?_ ?_
  · rw [List.getElem?_drop, sB_get hlt]
  · unfold digitVal
    rw [byte_lt hlt] at h48 h57 ⊢
    rw [if_pos ⟨h48, h57⟩]
theorem extract_list (s : ByteArray) (p q : Nat) : sB (s.extract p q) = ((sB s).drop p).take (q - p) := by
  unfold sB
  rw [ByteArray.data_extract, Array.toList_extract]
theorem ext_size {s : ByteArray} {p m : Nat} (h : p + m ≤ s.size) : (s.extract p (p + m)).size = m := by
  rw [ByteArray.size_extract]; omega
theorem ext_byte {s : ByteArray} {p m : Nat} (h : p + m ≤ s.size) (hm : 0 < m) : byte (s.extract p (p + m)) 0 = byte s p := by
  have e := ext_size h
  rw [byte_lt (by omega), byte_lt (by omega), ByteArray.getElem_extract]
  simp
theorem DigRow.lt {s : ByteArray} {p m : Nat} {n : Int} (h : DigRow s p m n) : 0 ≤ n ∧ n < 10 ^ m := by
  obtain ⟨k, hk, he⟩ := h.dec
  have h1 := Go.Lib.decFrom_lt _ 0 k he
  have h2 : (((sB s).drop p).take m).length = m := by
    have : (sB s).length = s.size := rfl
    rw [List.length_take, List.length_drop]
    have := h.le
    omega
  rw [h2] at h1
  subst hk
  refine ⟨by omega, ?_⟩
  have : k < 10 ^ m := by omega
  exact_mod_cast this
/-- what Atoi says of a row of digits -/
theorem DigRow.num {s : ByteArray} {p m : Nat} {n : Int} (h : DigRow s p m n) (h0 : 0 < m) (h18 : m ≤ 18) : atoiAll (sB (s.extract p (p + m))) = .ok n := by
  obtain ⟨k, hk, he⟩ := h.dec
  have h2 : (((sB s).drop p).take m).length = m := by
    have : (sB s).length = s.size := rfl
    rw [List.length_take, List.length_drop]
    have := h.le
    omega
  rw [extract_list, show p + m - p = m by omega, Go.Lib.atoiAll_short _ (by omega)]
  obtain ⟨l, hl⟩ : ∃ l, ((sB s).drop p).take m = l := ⟨_, rfl⟩
  rw [hl] at he h2 ⊢
  cases l with
  | nil => simp at h2; omega
  | cons a t =>
    obtain ⟨d, hd⟩ := Go.Lib.digit_of_decFrom _ 0 k he 0 a rfl
    have ha : 48 ≤ a.toNat ∧ a.toNat ≤ 57 := by
      unfold digitVal at hd
      split at hd
      · assumption
      · cases hd
    have e : Go.Lib.atoi (a :: t) = some n := by
      rw [Go.Lib.atoi, if_neg (by simp; intro e; rw [e] at ha; simp at ha), if_neg (by simp; intro e; rw [e] at ha; simp at ha), decNat, if_neg (by simp), he, hk]
      rfl
    rw [e]
    rfl
theorem DigRow.first {s : ByteArray} {p m : Nat} {n : Int} (h : DigRow s p m n) (hm : m = 1) : n = (byte s p : Int) - 48 ∧ 48 ≤ byte s p ∧ byte s p ≤ 57 := by
  subst hm
  obtain ⟨k, hk, he⟩ := h.dec
  have hl := h.le
  have h1 : ((sB s).drop p).take 1 = [s[p]] := by
    have hg := sB_get (s := s) (p := p) (by omega)
    cases hd : (sB s).drop p with
    | nil =>
      have := congrArg List.length hd
      rw [List.length_drop] at this
      have e : (sB s).length = s.size := rfl
      simp at this
      omega
    | cons a t =>
      have : ((sB s).drop p)[0]? = some a := by rw [hd]; rfl
      rw [List.getElem?_drop, Nat.add_zero, hg] at this
      injection this with this
      rw [this]; rfl
  rw [h1] at he
  simp only [decFrom] at he
  rw [byte_lt (by omega)]
  unfold digitVal at he
  by_cases hc : 48 ≤ (s[p]).toNat ∧ (s[p]).toNat ≤ 57
  · rw [if_pos hc] at he
    simp only [Option.some.injEq] at he
    omega
  · rw [if_neg hc] at he
    cases he

/-! ### two digits -/
def zeroB : ByteArray := ⟨#[48]⟩
def padB (n : Int) : ByteArray := if n < 10 then zeroB ++ itoaB n else itoaB n
theorem itoa_len {n : Int} (h0 : 0 ≤ n) (h1 : n < 100) : (itoaB n).size = if n < 10 then 1 else 2 := by
  have key : ∀ k : Fin 100, (itoa ((k.1 : Nat) : Int)).length = if ((k.1 : Nat) : Int) < 10 then 1 else 2 := by decide +kernel
  have := key ⟨n.toNat, by omega⟩
  rw [show ((n.toNat : Nat) : Int) = n by omega] at this
  exact this
theorem itoaB_size {n : Int} (h0 : -9223372036854775808 ≤ n) (h1 : n ≤ 9223372036854775807) : (itoaB n).size ≤ 21 := Go.Lib.itoa_length_le n h0 h1
theorem padB_size {n : Int} (h0 : 0 ≤ n) (h1 : n < 100) : (padB n).size = 2 := by
  have := itoa_len h0 h1
  unfold padB
  split
  · rename_i h
    rw [if_pos h] at this
    rw [ByteArray.size_append, this]
    rfl
  · rename_i h
    rw [if_neg h] at this
    exact this
theorem nil_app (t : ByteArray) : (⟨#[]⟩ : ByteArray) ++ t = t := by
  apply sB_inj
  simp [sB]
def durText (n : Int) : ByteArray :=
  if n < 3600 then itoaB (n / 60) ++ colon ++ padB (n % 60) else itoaB (n / 3600) ++ colon ++ padB (n / 60 % 60) ++ colon ++ padB (n % 60)
end Rd

/- Contracts of small functions of rounding: outside, size, more, ways and its functions, IndexFunc over the ways, Compare. -/
namespace Go.Proofs.YthimnjegacdhaaaGreatDoor
open Go.RowKit

theorem ret_int {k : IntKind} {a b : Int} (h : a = b) : Ending.returned (.int k a) = .returned (.int k b) := by rw [h]
theorem ret_bool {a b : Bool} (h : a = b) : Ending.returned (.bool a) = .returned (.bool b) := by rw [h]

theorem outside_any (n lo hi : Int) (w : World) :
    Calls Tryz.prog 27 #[.int .i64 n, .int .i64 lo, .int .i64 hi] w fun e w' => e = .returned (.bool (decide (n < lo) || decide (hi < n))) ∧ w = w' := by
  by_cases h1 : n < lo
  · go_enter Tryz.func27, Tryz.ntmps27
    go_wp2
    go_ret
    exact ⟨by simp [h1], rfl⟩
  · have h2 : decide (n < lo) = false := by simpa using h1
    go_enter Tryz.func27, Tryz.ntmps27
    go_wp2
    go_ret
    exact ⟨by simp, rfl⟩

theorem size_any (a : Int) (w : World) (h1 : -9223372036854775808 ≤ a) (h2 : a ≤ 9223372036854775807) :
    Calls Tryz.prog 60 #[.int .i64 a] w fun e w' => e = .returned (.int .u64 a.natAbs) ∧ w = w' := by
  go_enter Tryz.func60, Tryz.ntmps60
  go_wp2
  all_goals go_ret
  all_goals refine ⟨ret_int ?_, rfl⟩
  · simp only [IntKind.wrap_u64]; omega
  · show a = _; omega

def cmpF (a b : Int) : Int := if a < b then -1 else if b < a then 1 else 0

theorem compare_any (a b : Int) (w : World) :
    Calls Tryz.prog 59 #[.int .u64 a, .int .u64 b] w fun e w' => e = .returned (.int .i64 (cmpF a b)) ∧ w = w' := by
  go_enter Tryz.func59, Tryz.ntmps59
  go_wp2
  all_goals go_ret
  all_goals refine ⟨ret_int ?_, rfl⟩
  all_goals (unfold cmpF; split <;> (try split) <;> first | rfl | (exfalso; omega))

/-! ### the functions of the table -/
theorem way1 (b : Bool) (q h : Int) (w : World) : Calls Tryz.prog 71 #[.bool b, .int .u64 q, .int .i64 h] w fun e w' => e = .returned (.bool b) ∧ w = w' := by
  go_enter Tryz.func71, Tryz.ntmps71
  go_wp2
  go_ret
  exact ⟨rfl, rfl⟩
theorem way2 (b : Bool) (q h : Int) (w : World) : Calls Tryz.prog 72 #[.bool b, .int .u64 q, .int .i64 h] w fun e w' => e = .returned (.bool (!b)) ∧ w = w' := by
  go_enter Tryz.func72, Tryz.ntmps72
  go_wp2
  go_ret
  exact ⟨rfl, rfl⟩
theorem way3 (b : Bool) (q h : Int) (w : World) : Calls Tryz.prog 73 #[.bool b, .int .u64 q, .int .i64 h] w fun e w' => e = .returned (.bool false) ∧ w = w' := by
  go_enter Tryz.func73, Tryz.ntmps73
  go_wp2
  go_ret
  exact ⟨rfl, rfl⟩
theorem way4 (b : Bool) (q h : Int) (w : World) : Calls Tryz.prog 74 #[.bool b, .int .u64 q, .int .i64 h] w fun e w' => e = .returned (.bool (decide (0 < h) || (h == 0 && !b))) ∧ w = w' := by
  by_cases h1 : 0 < h
  · go_enter Tryz.func74, Tryz.ntmps74
    go_wp2
    go_ret
    exact ⟨by simp [h1], rfl⟩
  · have h2 : decide (0 < h) = false := by simpa using h1
    cases h3 : (h == 0)
    all_goals
      go_enter Tryz.func74, Tryz.ntmps74
      go_wp2
      go_ret
      exact ⟨by simp, rfl⟩
theorem way5 (b : Bool) (q h : Int) (w : World) (hq : 0 ≤ q) : Calls Tryz.prog 75 #[.bool b, .int .u64 q, .int .i64 h] w fun e w' => e = .returned (.bool (decide (0 < h) || (h == 0 && (q % 2 == 1)))) ∧ w = w' := by
  by_cases h1 : 0 < h
  · go_enter Tryz.func75, Tryz.ntmps75
    go_wp2
    go_ret
    exact ⟨by simp [h1], rfl⟩
  · have h2 : decide (0 < h) = false := by simpa using h1
    cases h3 : (h == 0)
    all_goals
      go_enter Tryz.func75, Tryz.ntmps75
      go_wp2
      go_ret
      exact ⟨by simp, rfl⟩

def fnv (k : Nat) : Value := .func (.func k) #[] #[]
/-- the row of the table in memory -/
def wayRow : Array Value := #[.int .i64 1, fnv 71, .int .i64 2, fnv 72, .int .i64 3, fnv 73, .int .i64 4, fnv 74, .int .i64 5, fnv 75]
theorem ways_any (w : World) : Calls Tryz.prog 54 #[] w fun e w' => e = .returned (.slice (some ⟨w.heap.size, 0, none⟩) 5 5) ∧ w' = w.alloc (.cells wayRow 77) := by
  go_enter Tryz.func54, Tryz.ntmps54
  go_wp2
  go_ret
  exact ⟨rfl, rfl⟩

/-- the closure that looks for a way -/
theorem has_any (k h : Int) (f : Value) (a : Addr) (w : World) (ha : w.cell? a = some (.int .i64 h)) (hb : a.block < w.heap.size) :
    Calls Tryz.prog 56 #[.agg #[.int .i64 k, f], .pointer (some a)] w fun e w' => e = .returned (.bool (k == h)) ∧ Below w.heap.size w w' := by
  go_enter Tryz.func56, Tryz.ntmps56
  go_wp2
  go_ret
  exact ⟨rfl, (Below.refl _ _).alloc (Nat.le_refl _) _⟩
/-- what 'more' returns -/
def moreF (q r d : Int) (m : Bool) (how : Int) : Bool :=
  if r = 0 then false else if how = 1 then m else if how = 2 then !m else if how = 3 then false else if r ≠ d - r then decide (d - r < r) else if how = 4 then !m else q % 2 == 1
set_option maxRecDepth 4000 in
theorem more_any (q r d : Int) (m : Bool) (how : Int) (w : World) (hq : 0 ≤ q) (hr : 0 ≤ r) (hd : r ≤ d) (hD : d ≤ 18446744073709551615) :
    Calls Tryz.prog 61 #[.int .u64 q, .int .u64 r, .int .u64 d, .bool m, .int .i64 how] w fun e w' => e = .returned (.bool (moreF q r d m how)) ∧ w = w' := by
  have hwr : IntKind.u64.wrap (d - r) = d - r := by rw [IntKind.wrap_u64]; omega
  unfold moreF
  by_cases h0 : r = 0
  · subst h0
    rw [if_pos rfl]
    clear hwr
    go_enter Tryz.func61, Tryz.ntmps61
    go_wp2
    go_ret
    exact ⟨rfl, rfl⟩
  · have b0 : (r == 0) = false := by simpa using h0
    rw [if_neg h0]
    by_cases h1 : how = 1
    · subst h1
      rw [if_pos rfl]
      go_enter Tryz.func61, Tryz.ntmps61
      go_wp2
      go_ret
      exact ⟨rfl, rfl⟩
    by_cases h2 : how = 2
    · subst h2
      rw [if_neg h1, if_pos rfl]
      go_enter Tryz.func61, Tryz.ntmps61
      go_wp2
      go_ret
      exact ⟨rfl, rfl⟩
    by_cases h3 : how = 3
    · subst h3
      rw [if_neg h1, if_neg h2, if_pos rfl]
      go_enter Tryz.func61, Tryz.ntmps61
      go_wp2
      go_ret
      exact ⟨rfl, rfl⟩
    have b1 : (how == 1) = false := by simpa using h1
    have b2 : (how == 2) = false := by simpa using h2
    have b3 : (how == 3) = false := by simpa using h3
    rw [if_neg h1, if_neg h2, if_neg h3]
    by_cases h4 : r = d - r
    · have b4 : (r != d - r) = false := by rw [bne_eq_false_iff_eq]; exact h4
      rw [if_neg (by simpa using h4)]
      clear h4 h1 h2 h3 h0
      by_cases h5 : how = 4
      · subst h5
        rw [if_pos rfl]
        go_enter Tryz.func61, Tryz.ntmps61
        go_wp2
        go_ret
        exact ⟨rfl, rfl⟩
      · have b5 : (how == 4) = false := by simpa using h5
        rw [if_neg h5]
        clear h5
        go_enter Tryz.func61, Tryz.ntmps61
        go_wp2
        go_ret
        exact ⟨rfl, rfl⟩
    · have b4 : (r != d - r) = true := by rw [bne_iff_ne]; exact h4
      rw [if_pos (by simpa using h4)]
      clear h4 h1 h2 h3 h0
      go_enter Tryz.func61, Tryz.ntmps61
      go_wp2
      go_ret
      exact ⟨rfl, rfl⟩
end Go.Proofs.YthimnjegacdhaaaGreatDoor

/- math/bits.Div64: the contract, for all arguments whose quotient fits. -/
namespace Go.Proofs.YthimnjegacdhaaaGreatDoor
open Go.RowKit

/-- the high part is 0 -/
theorem div64_low (lo y : Int) (w : World) (h0 : 0 ≤ lo) (hy : 1 ≤ y) (hL : lo ≤ 18446744073709551615) :
    Calls Tryz.prog 58 #[.int .u64 0, .int .u64 lo, .int .u64 y] w fun e w' => e = .returned (.tuple #[.int .u64 (lo / y), .int .u64 (lo % y)]) ∧ ∃ n, w' = w.drewN n := by
  have b1 : (y == 0) = false := by rw [beq_eq_false_iff_ne]; omega
  have b2 : decide (y ≤ 0) = false := by simp; omega
  go_enter Tryz.func58, Tryz.ntmps58
  go_wp2
  go_quiet (fail)
  go_wp2
  go_ret2
  exact ⟨rfl, _, rfl⟩

set_option maxHeartbeats 4000000 in
set_option maxRecDepth 100000 in
theorem div64_high (hi lo y : Int) (s Y a b u l d1 d0 u2 qh rh qh2 rh2 qq rr Q1 Q0 : Nat) (w : World) (h1 : 1 ≤ hi) (hy : hi < y) (hY : y ≤ 18446744073709551615)
    (hs : Hid (64 - (Lib.bitLen y.toNat : Int) = (s : Int))) (hs63 : s ≤ 63)
    (e1 : IntKind.u64.wrap (y * 2 ^ s) = Y) (e2 : (Y : Int) / 4294967296 = a) (e3 : bits BinOp.and IntKind.u64 Y 4294967295 = b)
    (e4 : bits BinOp.or IntKind.u64 (IntKind.u64.wrap (hi * 2 ^ s)) (lo / 2 ^ (64 - s)) = u) (e5 : IntKind.u64.wrap (lo * 2 ^ s) = l) (e6 : (l : Int) / 4294967296 = d1) (e7 : bits BinOp.and IntKind.u64 l 4294967295 = d0)
    (e8 : (u : Int) / a = qh) (e9 : IntKind.u64.wrap (u - IntKind.u64.wrap (qh * a)) = rh) (hst : Hid (Knuth.Dig u d1 a b qh rh))
    (e10 : IntKind.u64.wrap (IntKind.u64.wrap (IntKind.u64.wrap ((u : Int) * 4294967296) + d1) - IntKind.u64.wrap ((Q1 : Int) * Y)) = u2)
    (e11 : (u2 : Int) / a = qh2) (e12 : IntKind.u64.wrap (u2 - IntKind.u64.wrap (qh2 * a)) = rh2) (hst2 : Hid (Knuth.Dig u2 d0 a b qh2 rh2))
    (e13 : IntKind.u64.wrap (IntKind.u64.wrap ((Q1 : Int) * 4294967296) + Q0) = qq) (e14 : IntKind.u64.wrap (IntKind.u64.wrap (IntKind.u64.wrap ((u2 : Int) * 4294967296) + d0) - IntKind.u64.wrap ((Q0 : Int) * Y)) / 2 ^ s = rr)
    (hP : Hid (Knuth.Par u d1 a b)) (hP2 : Hid (Knuth.Par u2 d0 a b))
    (hQ1 : Hid (Q1 = (u * 4294967296 + d1) / (a * 4294967296 + b))) (hQ0 : Hid (Q0 = (u2 * 4294967296 + d0) / (a * 4294967296 + b)))
    (ha : (2147483648 : Int) ≤ a) (ha' : (a : Int) < 4294967296) (hb' : Hid (b < 4294967296)) (_hb2 : (b : Int) < 4294967296) (_hu' : (u : Int) ≤ 18446744073709551615) (hd1' : (d1 : Int) < 4294967296) (hd0' : (d0 : Int) < 4294967296) (hqh : (qh : Int) ≤ 4294967297) (_hrh : (rh : Int) < 4294967296)
    (_hu2 : (u2 : Int) ≤ 18446744073709551615) (hqh2 : (qh2 : Int) ≤ 4294967297) (_hrh2 : (rh2 : Int) < 4294967296) :
    Calls Tryz.prog 58 #[.int .u64 hi, .int .u64 lo, .int .u64 y] w fun e w' => e = .returned (.tuple #[.int .u64 qq, .int .u64 rr]) ∧ w' = w := by
  have b1 : (y == 0) = false := by rw [beq_eq_false_iff_ne]; omega
  have b2 : decide (y ≤ hi) = false := by simp; omega
  have b3 : (hi == 0) = false := by rw [beq_eq_false_iff_ne]; omega
  go_enter Tryz.func58, Tryz.ntmps58
  go_wp2_with fail
  refine (Go.Proofs.Tryz.bits_LeadingZeros64 _ _ (by omega) (by omega)).mono ?_
  rintro e w' ⟨rfl, rfl⟩
  rw [hs.out]
  go_wp2_with fail
  clear e1 e2 e3 e4 e5 e6 e7 e8 e9 b1 b2 b3
  go_loop [15, 16] (fun q r => ∃ qn rn : Nat, q = .int .u64 qn ∧ r = .int .u64 rn ∧ Knuth.Dig u d1 a b qn rn) (fun q _ => (intOf q).toNat)
  case atStart => exact ⟨_, _, rfl, rfl, hst.out⟩
  case round =>
    obtain ⟨q, r, rfl, rfl, hD'⟩ := hrel
    have hD := Lib.hid hD'
    have hq1 : (q : Int) ≤ 4294967297 := by have := hD'.1; omega
    have hr1 : (r : Int) < 4294967296 := by have := hD'.2.1; omega
    clear hD'
    by_cases hq : 4294967296 ≤ q
    · have c1 : decide ((4294967296 : Int) ≤ (q : Int)) = true := by rw [decide_eq_true_eq]; omega
      have hpos := hD.out.pos hP.out (.inl hq)
      have hqi : (1 : Int) ≤ q := by omega
      by_cases hr : r + a < 4294967296
      · have c3 : decide ((4294967296 : Int) ≤ (r : Int) + (a : Int)) = false := by rw [decide_eq_false_iff_not]; omega
        have hN := Lib.hid (hD.out.less hP.out (.inl hq) hr)
        have Hp := Lib.hid hpos; clear hpos
        clear hq hr
        go_wp2
        go_round
        case rel => exact ⟨q - 1, r + a, by rw [Int.ofNat_sub Hp.out]; rfl, by go_num, hN.out⟩
        case measure => simp [intOf]; omega
      · have c3 : decide ((4294967296 : Int) ≤ (r : Int) + (a : Int)) = true := by rw [decide_eq_true_eq]; omega
        have hN := hD.out.last hP.out (.inl hq) (by omega)
        have e15 : (q : Int) - 1 = (Q1 : Nat) := by rw [hQ1.out, ← hN]; omega
        clear hN
        clear hq hr
        clear hpos
        go_wp2_with fail
        go_loop [18, 16] (fun q r => ∃ qn rn : Nat, q = .int .u64 qn ∧ r = .int .u64 rn ∧ Knuth.Dig u2 d0 a b qn rn) (fun q _ => (intOf q).toNat)
        case atStart => exact ⟨_, _, rfl, rfl, hst2.out⟩
        case round =>
          obtain ⟨q, r, rfl, rfl, hD'⟩ := hrel
          have hD := Lib.hid hD'
          have hq1 : (q : Int) ≤ 4294967297 := by have := hD'.1; omega
          have hr1 : (r : Int) < 4294967296 := by have := hD'.2.1; omega
          clear hD'
          by_cases hq : 4294967296 ≤ q
          · have c1 : decide ((4294967296 : Int) ≤ (q : Int)) = true := by rw [decide_eq_true_eq]; omega
            have hpos := hD.out.pos hP2.out (.inl hq)
            have hqi : (1 : Int) ≤ q := by omega
            by_cases hr : r + a < 4294967296
            · have c3 : decide ((4294967296 : Int) ≤ (r : Int) + (a : Int)) = false := by rw [decide_eq_false_iff_not]; omega
              have hN := Lib.hid (hD.out.less hP2.out (.inl hq) hr)
              have Hp := Lib.hid hpos; clear hpos
              clear hq hr
              go_wp2
              go_round
              case rel => exact ⟨q - 1, r + a, by rw [Int.ofNat_sub Hp.out]; rfl, by go_num, hN.out⟩
              case measure => simp [intOf]; omega
            · have c3 : decide ((4294967296 : Int) ≤ (r : Int) + (a : Int)) = true := by rw [decide_eq_true_eq]; omega
              have hN := hD.out.last hP2.out (.inl hq) (by omega)
              have e15 : (q : Int) - 1 = (Q0 : Nat) := by rw [hQ0.out, ← hN]; omega
              clear hN
              clear hq hr
              clear hpos
              go_wp2
              go_ret2
              exact ⟨rfl, rfl⟩
          · have c1 : decide ((4294967296 : Int) ≤ (q : Int)) = false := by rw [decide_eq_false_iff_not]; omega
            have hq' : q < 4294967296 := by omega
            clear hq
            obtain ⟨m, hm0⟩ : ∃ m : Nat, m = q * b := ⟨_, rfl⟩
            have hm : IntKind.u64.wrap ((q : Int) * b) = m := by
              rw [IntKind.wrap_u64]; have := Knuth.mul_half hq' hb'.out
              rw [← Int.natCast_mul, ← hm0]; omega
            have Hm := Lib.hid hm0
            clear hm0 hq'
            by_cases ht : 4294967296 * r + d0 < m
            · have c2 : decide (4294967296 * (r : Int) + (d0 : Int) < (m : Int)) = true := by rw [decide_eq_true_eq]; omega
              have hpos := hD.out.pos hP2.out (.inr (by rw [← Hm.out]; omega))
              have hqi : (1 : Int) ≤ q := by omega
              by_cases hr : r + a < 4294967296
              · have c3 : decide ((4294967296 : Int) ≤ (r : Int) + (a : Int)) = false := by rw [decide_eq_false_iff_not]; omega
                have hN := Lib.hid (hD.out.less hP2.out (.inr (by rw [← Hm.out]; omega)) hr)
                have Hp := Lib.hid hpos; clear hpos
                clear ht hr
                go_wp2
                go_round
                case rel => exact ⟨q - 1, r + a, by rw [Int.ofNat_sub Hp.out]; rfl, by go_num, hN.out⟩
                case measure => simp [intOf]; omega
              · have c3 : decide ((4294967296 : Int) ≤ (r : Int) + (a : Int)) = true := by rw [decide_eq_true_eq]; omega
                have hN := hD.out.last hP2.out (.inr (by rw [← Hm.out]; omega)) (by omega)
                have e15 : (q : Int) - 1 = (Q0 : Nat) := by rw [hQ0.out, ← hN]; omega
                clear hN
                clear ht hr
                clear hpos
                go_wp2
                go_ret2
                exact ⟨rfl, rfl⟩
            · have c2 : decide (4294967296 * (r : Int) + (d0 : Int) < (m : Int)) = false := by rw [decide_eq_false_iff_not]; omega
              have hN := hD.out.done hP2.out (by rw [← Hm.out]; omega)
              rw [← hQ0.out] at hN
              subst hN
              clear ht
              go_wp2
              go_ret2
              exact ⟨rfl, rfl⟩
    · have c1 : decide ((4294967296 : Int) ≤ (q : Int)) = false := by rw [decide_eq_false_iff_not]; omega
      have hq' : q < 4294967296 := by omega
      clear hq
      obtain ⟨m, hm0⟩ : ∃ m : Nat, m = q * b := ⟨_, rfl⟩
      have hm : IntKind.u64.wrap ((q : Int) * b) = m := by
        rw [IntKind.wrap_u64]; have := Knuth.mul_half hq' hb'.out
        rw [← Int.natCast_mul, ← hm0]; omega
      have Hm := Lib.hid hm0
      clear hm0 hq'
      by_cases ht : 4294967296 * r + d1 < m
      · have c2 : decide (4294967296 * (r : Int) + (d1 : Int) < (m : Int)) = true := by rw [decide_eq_true_eq]; omega
        have hpos := hD.out.pos hP.out (.inr (by rw [← Hm.out]; omega))
        have hqi : (1 : Int) ≤ q := by omega
        by_cases hr : r + a < 4294967296
        · have c3 : decide ((4294967296 : Int) ≤ (r : Int) + (a : Int)) = false := by rw [decide_eq_false_iff_not]; omega
          have hN := Lib.hid (hD.out.less hP.out (.inr (by rw [← Hm.out]; omega)) hr)
          have Hp := Lib.hid hpos; clear hpos
          clear ht hr
          go_wp2
          go_round
          case rel => exact ⟨q - 1, r + a, by rw [Int.ofNat_sub Hp.out]; rfl, by go_num, hN.out⟩
          case measure => simp [intOf]; omega
        · have c3 : decide ((4294967296 : Int) ≤ (r : Int) + (a : Int)) = true := by rw [decide_eq_true_eq]; omega
          have hN := hD.out.last hP.out (.inr (by rw [← Hm.out]; omega)) (by omega)
          have e15 : (q : Int) - 1 = (Q1 : Nat) := by rw [hQ1.out, ← hN]; omega
          clear hN
          clear ht hr
          clear hpos
          go_wp2_with fail
          go_loop [18, 16] (fun q r => ∃ qn rn : Nat, q = .int .u64 qn ∧ r = .int .u64 rn ∧ Knuth.Dig u2 d0 a b qn rn) (fun q _ => (intOf q).toNat)
          case atStart => exact ⟨_, _, rfl, rfl, hst2.out⟩
          case round =>
            obtain ⟨q, r, rfl, rfl, hD'⟩ := hrel
            have hD := Lib.hid hD'
            have hq1 : (q : Int) ≤ 4294967297 := by have := hD'.1; omega
            have hr1 : (r : Int) < 4294967296 := by have := hD'.2.1; omega
            clear hD'
            by_cases hq : 4294967296 ≤ q
            · have c1 : decide ((4294967296 : Int) ≤ (q : Int)) = true := by rw [decide_eq_true_eq]; omega
              have hpos := hD.out.pos hP2.out (.inl hq)
              have hqi : (1 : Int) ≤ q := by omega
              by_cases hr : r + a < 4294967296
              · have c3 : decide ((4294967296 : Int) ≤ (r : Int) + (a : Int)) = false := by rw [decide_eq_false_iff_not]; omega
                have hN := Lib.hid (hD.out.less hP2.out (.inl hq) hr)
                have Hp := Lib.hid hpos; clear hpos
                clear hq hr
                go_wp2
                go_round
                case rel => exact ⟨q - 1, r + a, by rw [Int.ofNat_sub Hp.out]; rfl, by go_num, hN.out⟩
                case measure => simp [intOf]; omega
              · have c3 : decide ((4294967296 : Int) ≤ (r : Int) + (a : Int)) = true := by rw [decide_eq_true_eq]; omega
                have hN := hD.out.last hP2.out (.inl hq) (by omega)
                have e15 : (q : Int) - 1 = (Q0 : Nat) := by rw [hQ0.out, ← hN]; omega
                clear hN
                clear hq hr
                clear hpos
                go_wp2
                go_ret2
                exact ⟨rfl, rfl⟩
            · have c1 : decide ((4294967296 : Int) ≤ (q : Int)) = false := by rw [decide_eq_false_iff_not]; omega
              have hq' : q < 4294967296 := by omega
              clear hq
              obtain ⟨m, hm0⟩ : ∃ m : Nat, m = q * b := ⟨_, rfl⟩
              have hm : IntKind.u64.wrap ((q : Int) * b) = m := by
                rw [IntKind.wrap_u64]; have := Knuth.mul_half hq' hb'.out
                rw [← Int.natCast_mul, ← hm0]; omega
              have Hm := Lib.hid hm0
              clear hm0 hq'
              by_cases ht : 4294967296 * r + d0 < m
              · have c2 : decide (4294967296 * (r : Int) + (d0 : Int) < (m : Int)) = true := by rw [decide_eq_true_eq]; omega
                have hpos := hD.out.pos hP2.out (.inr (by rw [← Hm.out]; omega))
                have hqi : (1 : Int) ≤ q := by omega
                by_cases hr : r + a < 4294967296
                · have c3 : decide ((4294967296 : Int) ≤ (r : Int) + (a : Int)) = false := by rw [decide_eq_false_iff_not]; omega
                  have hN := Lib.hid (hD.out.less hP2.out (.inr (by rw [← Hm.out]; omega)) hr)
                  have Hp := Lib.hid hpos; clear hpos
                  clear ht hr
                  go_wp2
                  go_round
                  case rel => exact ⟨q - 1, r + a, by rw [Int.ofNat_sub Hp.out]; rfl, by go_num, hN.out⟩
                  case measure => simp [intOf]; omega
                · have c3 : decide ((4294967296 : Int) ≤ (r : Int) + (a : Int)) = true := by rw [decide_eq_true_eq]; omega
                  have hN := hD.out.last hP2.out (.inr (by rw [← Hm.out]; omega)) (by omega)
                  have e15 : (q : Int) - 1 = (Q0 : Nat) := by rw [hQ0.out, ← hN]; omega
                  clear hN
                  clear ht hr
                  clear hpos
                  go_wp2
                  go_ret2
                  exact ⟨rfl, rfl⟩
              · have c2 : decide (4294967296 * (r : Int) + (d0 : Int) < (m : Int)) = false := by rw [decide_eq_false_iff_not]; omega
                have hN := hD.out.done hP2.out (by rw [← Hm.out]; omega)
                rw [← hQ0.out] at hN
                subst hN
                clear ht
                go_wp2
                go_ret2
                exact ⟨rfl, rfl⟩
      · have c2 : decide (4294967296 * (r : Int) + (d1 : Int) < (m : Int)) = false := by rw [decide_eq_false_iff_not]; omega
        have hN := hD.out.done hP.out (by rw [← Hm.out]; omega)
        rw [← hQ1.out] at hN
        subst hN
        clear ht
        go_wp2_with fail
        go_loop [18, 16] (fun q r => ∃ qn rn : Nat, q = .int .u64 qn ∧ r = .int .u64 rn ∧ Knuth.Dig u2 d0 a b qn rn) (fun q _ => (intOf q).toNat)
        case atStart => exact ⟨_, _, rfl, rfl, hst2.out⟩
        case round =>
          obtain ⟨q, r, rfl, rfl, hD'⟩ := hrel
          have hD := Lib.hid hD'
          have hq1 : (q : Int) ≤ 4294967297 := by have := hD'.1; omega
          have hr1 : (r : Int) < 4294967296 := by have := hD'.2.1; omega
          clear hD'
          by_cases hq : 4294967296 ≤ q
          · have c1 : decide ((4294967296 : Int) ≤ (q : Int)) = true := by rw [decide_eq_true_eq]; omega
            have hpos := hD.out.pos hP2.out (.inl hq)
            have hqi : (1 : Int) ≤ q := by omega
            by_cases hr : r + a < 4294967296
            · have c3 : decide ((4294967296 : Int) ≤ (r : Int) + (a : Int)) = false := by rw [decide_eq_false_iff_not]; omega
              have hN := Lib.hid (hD.out.less hP2.out (.inl hq) hr)
              have Hp := Lib.hid hpos; clear hpos
              clear hq hr
              go_wp2
              go_round
              case rel => exact ⟨q - 1, r + a, by rw [Int.ofNat_sub Hp.out]; rfl, by go_num, hN.out⟩
              case measure => simp [intOf]; omega
            · have c3 : decide ((4294967296 : Int) ≤ (r : Int) + (a : Int)) = true := by rw [decide_eq_true_eq]; omega
              have hN := hD.out.last hP2.out (.inl hq) (by omega)
              have e15 : (q : Int) - 1 = (Q0 : Nat) := by rw [hQ0.out, ← hN]; omega
              clear hN
              clear hq hr
              clear hpos
              go_wp2
              go_ret2
              exact ⟨rfl, rfl⟩
          · have c1 : decide ((4294967296 : Int) ≤ (q : Int)) = false := by rw [decide_eq_false_iff_not]; omega
            have hq' : q < 4294967296 := by omega
            clear hq
            obtain ⟨m, hm0⟩ : ∃ m : Nat, m = q * b := ⟨_, rfl⟩
            have hm : IntKind.u64.wrap ((q : Int) * b) = m := by
              rw [IntKind.wrap_u64]; have := Knuth.mul_half hq' hb'.out
              rw [← Int.natCast_mul, ← hm0]; omega
            have Hm := Lib.hid hm0
            clear hm0 hq'
            by_cases ht : 4294967296 * r + d0 < m
            · have c2 : decide (4294967296 * (r : Int) + (d0 : Int) < (m : Int)) = true := by rw [decide_eq_true_eq]; omega
              have hpos := hD.out.pos hP2.out (.inr (by rw [← Hm.out]; omega))
              have hqi : (1 : Int) ≤ q := by omega
              by_cases hr : r + a < 4294967296
              · have c3 : decide ((4294967296 : Int) ≤ (r : Int) + (a : Int)) = false := by rw [decide_eq_false_iff_not]; omega
                have hN := Lib.hid (hD.out.less hP2.out (.inr (by rw [← Hm.out]; omega)) hr)
                have Hp := Lib.hid hpos; clear hpos
                clear ht hr
                go_wp2
                go_round
                case rel => exact ⟨q - 1, r + a, by rw [Int.ofNat_sub Hp.out]; rfl, by go_num, hN.out⟩
                case measure => simp [intOf]; omega
              · have c3 : decide ((4294967296 : Int) ≤ (r : Int) + (a : Int)) = true := by rw [decide_eq_true_eq]; omega
                have hN := hD.out.last hP2.out (.inr (by rw [← Hm.out]; omega)) (by omega)
                have e15 : (q : Int) - 1 = (Q0 : Nat) := by rw [hQ0.out, ← hN]; omega
                clear hN
                clear ht hr
                clear hpos
                go_wp2
                go_ret2
                exact ⟨rfl, rfl⟩
            · have c2 : decide (4294967296 * (r : Int) + (d0 : Int) < (m : Int)) = false := by rw [decide_eq_false_iff_not]; omega
              have hN := hD.out.done hP2.out (by rw [← Hm.out]; omega)
              rw [← hQ0.out] at hN
              subst hN
              clear ht
              go_wp2
              go_ret2
              exact ⟨rfl, rfl⟩
end Go.Proofs.YthimnjegacdhaaaGreatDoor

/- math/bits.Div64: the contract, for all arguments whose quotient fits: the exact quotient and the rest. -/
namespace Go.Proofs.YthimnjegacdhaaaGreatDoor
open Go.RowKit

theorem bitLen_spec : ∀ (n x : Nat), x ≤ n → x ≠ 0 → x < 2 ^ 64 → 1 ≤ Lib.bitLen x ∧ 2 ^ (Lib.bitLen x - 1) ≤ x ∧ x < 2 ^ Lib.bitLen x
  | 0, x, h, h0, _ => absurd (Nat.le_zero.1 h) h0
  | n + 1, x, h, h0, hx => by
    rw [Lib.bitLen_half x h0 hx]
    by_cases h1 : x / 2 = 0
    · have : x = 1 := by omega
      subst this
      decide
    · have ⟨i1, i2, i3⟩ := bitLen_spec n (x / 2) (by omega) h1 (by omega)
      refine ⟨by omega, ?_, ?_⟩
      · obtain ⟨k, hk⟩ : ∃ k, Lib.bitLen (x / 2) = k + 1 := ⟨Lib.bitLen (x / 2) - 1, by omega⟩
        rw [hk] at i2 ⊢
        rw [show 1 + (k + 1) - 1 = k + 1 by omega, Nat.pow_succ]
        rw [Nat.add_sub_cancel] at i2
        omega
      · rw [Nat.add_comm, Nat.pow_succ]; omega
theorem bitLen_le {x : Nat} (h0 : x ≠ 0) (hx : x < 2 ^ 64) : Lib.bitLen x ≤ 64 := by
  have ⟨_, h2, _⟩ := bitLen_spec x x (Nat.le_refl _) h0 hx
  rcases Nat.lt_or_ge 64 (Lib.bitLen x) with h | h
  · have : 2 ^ 64 ≤ 2 ^ (Lib.bitLen x - 1) := Nat.pow_le_pow_right (by omega) (by omega)
    omega
  · exact h

theorem wrap_nat {n : Nat} (h : n < 18446744073709551616) : IntKind.u64.wrap (n : Int) = n := by rw [IntKind.wrap_u64]; omega

theorem cast_pow2 (s : Nat) : ((2 ^ s : Nat) : Int) = (2 : Int) ^ s := by rw [Int.natCast_pow]; rfl

/-- the rest of a digit's step, as the walk reckons it -/
theorem step_rest {u d q Y r : Nat} (h : Y * q + r = u * 4294967296 + d) (hr : r < 18446744073709551616) :
    IntKind.u64.wrap (IntKind.u64.wrap (IntKind.u64.wrap ((u : Int) * 4294967296) + d) - IntKind.u64.wrap ((q : Int) * Y)) = r := by
  have h' : (q : Int) * Y + r = u * 4294967296 + d := by
    have := congrArg (fun n : Nat => (n : Int)) h
    simp only [Int.natCast_add, Int.natCast_mul] at this
    rw [Int.mul_comm]; exact this
  generalize (q : Int) * Y = C at *
  simp only [IntKind.wrap_u64]; omega

theorem rest_wrap {u a : Nat} (hu : u < 18446744073709551616) : IntKind.u64.wrap (u - IntKind.u64.wrap (((u / a : Nat) : Int) * a)) = (u % a : Nat) := by
  have h := Nat.div_add_mod u a
  rw [← Int.natCast_mul]
  have hm : u / a * a ≤ u := Nat.div_mul_le_self u a
  rw [wrap_nat (show u / a * a < _ by omega), IntKind.wrap_u64]
  rw [Nat.mul_comm] at h
  omega

theorem div64_nat (hi lo y : Nat) (w : World) (h1 : 1 ≤ hi) (hy : hi < y) (hL : lo < 18446744073709551616) (hY : y < 18446744073709551616) :
    Calls Tryz.prog 58 #[.int .u64 hi, .int .u64 lo, .int .u64 y] w fun e w' =>
      e = .returned (.tuple #[.int .u64 ((hi * 18446744073709551616 + lo) / y : Nat), .int .u64 ((hi * 18446744073709551616 + lo) % y : Nat)]) ∧ w' = w := by
  obtain ⟨hB1, hB2, hB3⟩ := bitLen_spec y y (Nat.le_refl _) (by omega) hY
  have hB4 := bitLen_le (x := y) (by omega) hY
  obtain ⟨s, hs⟩ : ∃ s, s = 64 - Lib.bitLen y := ⟨_, rfl⟩
  have hP : 0 < 2 ^ s := Nat.two_pow_pos s
  have hPP : 2 ^ (64 - s) * 2 ^ s = 18446744073709551616 := by rw [← Nat.pow_add, show 64 - s + s = 64 by omega]
  -- the divisor
  have hY1 : 9223372036854775808 ≤ y * 2 ^ s := by
    have : 2 ^ (Lib.bitLen y - 1) * 2 ^ s ≤ y * 2 ^ s := Nat.mul_le_mul_right _ hB2
    rw [← Nat.pow_add, show Lib.bitLen y - 1 + s = 63 by omega] at this
    omega
  have hY2 : y * 2 ^ s < 18446744073709551616 := by
    have : y * 2 ^ s < 2 ^ Lib.bitLen y * 2 ^ s := Nat.mul_lt_mul_of_pos_right hB3 hP
    rw [← Nat.pow_add, show Lib.bitLen y + s = 64 by omega] at this
    omega
  generalize hYe : y * 2 ^ s = Y at *
  have hhi : hi * 2 ^ s < 18446744073709551616 := by
    have : hi * 2 ^ s ≤ y * 2 ^ s := Nat.mul_le_mul_right _ (Nat.le_of_lt hy)
    omega
  have hlo : lo / 2 ^ (64 - s) < 2 ^ s := by
    rw [Nat.div_lt_iff_lt_mul (Nat.two_pow_pos _), Nat.mul_comm, hPP]; exact hL
  -- the dividend
  have hsplit : lo * 2 ^ s = lo / 2 ^ (64 - s) * 18446744073709551616 + lo * 2 ^ s % 18446744073709551616 := by
    have h := Nat.div_add_mod (lo * 2 ^ s) 18446744073709551616
    have e : lo * 2 ^ s / 18446744073709551616 = lo / 2 ^ (64 - s) := by
      rw [← hPP, Nat.mul_div_mul_right _ _ hP]
    rw [e] at h
    omega
  generalize hl : lo * 2 ^ s % 18446744073709551616 = l at *
  have hl2 : l < 18446744073709551616 := by rw [← hl]; exact Nat.mod_lt _ (by omega)
  obtain ⟨u, hu⟩ : ∃ u, u = hi * 2 ^ s + lo / 2 ^ (64 - s) := ⟨_, rfl⟩
  have hN : (hi * 18446744073709551616 + lo) * 2 ^ s = (u * 4294967296 + l / 4294967296) * 4294967296 + l % 4294967296 := by
    rw [Nat.add_mul, hsplit, hu]
    have : hi * 18446744073709551616 * 2 ^ s = hi * 2 ^ s * 18446744073709551616 := by rw [Nat.mul_right_comm]
    omega
  have huY : u < Y := by
    have h2 : (hi * 18446744073709551616 + lo) * 2 ^ s < Y * 18446744073709551616 := by
      have h3 : hi * 18446744073709551616 + lo < y * 18446744073709551616 := by omega
      have h4 := Nat.mul_lt_mul_of_pos_right h3 hP
      rw [Nat.mul_right_comm y, hYe] at h4
      exact h4
    omega
  have hl3 : l / 4294967296 < 4294967296 := by omega
  generalize hd1 : l / 4294967296 = d1 at *
  generalize hd0 : l % 4294967296 = d0 at *
  have hd0' : d0 < 4294967296 := by omega
  generalize ha : Y / 4294967296 = a at *
  generalize hb : Y % 4294967296 = b at *
  have hb' : b < 4294967296 := by omega
  have hYab : a * 4294967296 + b = Y := by omega
  have ha1 : 2147483648 ≤ a := by omega
  have ha2 : a < 4294967296 := by omega
  have hPar : Knuth.Par u d1 a b := ⟨by omega, hl3, ha1, ha2, hb'⟩
  obtain ⟨Q1, u2, Q0, r2, hQ1, hQ0, c1, c2, hu2, hr2, hq, hr⟩ := Knuth.digits hYe (by omega) hN
  rw [hq, hr]
  have hlt := Knuth.dig_lt hPar
  rw [hYab, ← hQ1] at hlt
  have hPar2 : Knuth.Par u2 d0 a b := ⟨by omega, hd0', ha1, ha2, hb'⟩
  have hlt2 := Knuth.dig_lt hPar2
  rw [hYab, ← hQ0] at hlt2
  obtain ⟨qh, rh, g1, g2, f1, m1, hD⟩ := Knuth.start hPar
  obtain ⟨qh2, rh2, g3, g4, f2, m2, hD2⟩ := Knuth.start hPar2
  have w1 := rest_wrap (u := u) (a := a) (by omega)
  have w2 := rest_wrap (u := u2) (a := a) (by omega)
  have v1 := (Int.natCast_ediv u a).symm
  have v2 := (Int.natCast_ediv u2 a).symm
  rw [← g1] at v1 w1
  rw [← g2] at w1
  rw [← g3] at v2 w2
  rw [← g4] at w2
  have s1 := step_rest c1 (by omega)
  have s2 := step_rest c2 (by omega)
  refine div64_high hi lo y s Y a b u l d1 d0 u2 qh rh qh2 rh2 _ _ Q1 Q0 w
    (by omega) (by omega) (by omega) (Lib.hid (by rw [Int.toNat_natCast]; omega)) (by omega)
    ?e1 (by omega) ?e3 ?e4 ?e5 (by omega) ?e7 v1 w1 (Lib.hid hD)
    s1 v2 w2 (Lib.hid hD2) ?e13 ?e14 (Lib.hid hPar) (Lib.hid hPar2) (Lib.hid (by rw [hYab]; exact hQ1)) (Lib.hid (by rw [hYab]; exact hQ0))
    (by omega) (by omega) (Lib.hid hb') (by omega) (by omega) (by omega) (by omega) (by omega) (by omega) (by omega) (by omega) (by omega)
  case e1 => rw [← cast_pow2, ← Int.natCast_mul, hYe]; exact wrap_nat hY2
  case e3 => rw [show (4294967295 : Int) = ((4294967295 : Nat) : Int) from rfl, bits_and_u64_nat _ _ hY2 (by omega), show (4294967295 : Nat) = 2 ^ 32 - 1 from rfl, Nat.and_two_pow_sub_one_eq_mod]; omega
  case e4 =>
    rw [← cast_pow2, ← cast_pow2, ← Int.natCast_mul, wrap_nat hhi, ← Int.natCast_ediv, bits_or_u64_nat _ _ hhi (by omega), hu, Nat.mul_comm hi, Nat.two_pow_add_eq_or_of_lt hlo]
  case e5 => rw [← cast_pow2, ← Int.natCast_mul, IntKind.wrap_u64]; omega
  case e7 => rw [show (4294967295 : Int) = ((4294967295 : Nat) : Int) from rfl, bits_and_u64_nat _ _ hl2 (by omega), show (4294967295 : Nat) = 2 ^ 32 - 1 from rfl, Nat.and_two_pow_sub_one_eq_mod]; omega
  case e13 => rw [IntKind.wrap_u64, IntKind.wrap_u64]; omega
  case e14 => rw [s2, ← cast_pow2, ← Int.natCast_ediv]
end Go.Proofs.YthimnjegacdhaaaGreatDoor

/- Scale: of the program and of the reference: both return 'Sc.sc'. -/
namespace Go.Proofs.YthimnjegacdhaaaGreatDoor
open Go.RowKit

theorem div64_any (hi lo y : Nat) (w : World) (hy : hi < y) (hL : lo < 18446744073709551616) (hY : y < 18446744073709551616) :
    Calls Tryz.prog 58 #[.int .u64 hi, .int .u64 lo, .int .u64 y] w fun e w' =>
      e = .returned (.tuple #[.int .u64 ((hi * 18446744073709551616 + lo) / y : Nat), .int .u64 ((hi * 18446744073709551616 + lo) % y : Nat)]) ∧ ∃ n, w' = w.drewN n := by
  by_cases h : hi = 0
  · subst h
    refine (div64_low lo y w (by omega) (by omega) (by omega)).mono ?_
    rintro e w' ⟨rfl, h⟩
    refine ⟨?_, h⟩
    simp only [Nat.zero_mul, Nat.zero_add, Int.natCast_ediv, Int.natCast_emod]
  · refine (div64_nat hi lo y w (by omega) hy hL hY).mono ?_
    rintro e w' ⟨rfl, rfl⟩
    exact ⟨rfl, 0, rfl⟩

/-- where a way of rounding stands in the table -/
def wayAt (how : Int) : Int := if 1 ≤ how ∧ how ≤ 5 then how - 1 else -1
def HasRow (w : World) (R : Nat) : Prop := ∀ j, j < 10 → w.cell? ⟨R, j, none⟩ = some (wayRow.getD j undef)
theorem HasRow.at {w w' : World} {R B : Nat} (h : HasRow w R) (hb : Below B w w') (hR : R < B) : HasRow w' R := fun j hj => (hb.cell (p := ⟨R, j, none⟩) hR).trans (h j hj)

set_option maxHeartbeats 400000 in
theorem index_any (R H : Nat) (how : Int) (w : World) (hr : HasRow w R) (hh : w.cell? ⟨H, 0, none⟩ = some (.int .i64 how)) (hR : R < w.heap.size) (hH : H < w.heap.size) :
    Calls Tryz.prog 55 #[.slice (some ⟨R, 0, none⟩) 5 5, .func (.func 56) #[] #[.pointer (some ⟨H, 0, none⟩)]] w fun e w' => e = .returned (.int .i64 (wayAt how)) ∧ Below w.heap.size w w' := by
  go_enter Tryz.func55, Tryz.ntmps55
  go_wp2_with fail
  go_loopw [8] (fun i wr => ∃ k : Nat, k ≤ 5 ∧ i = .int .i64 k ∧ (∀ j : Nat, j < k → (j : Int) + 1 ≠ how) ∧ Below w.heap.size w wr) (fun i _ => 5 - (intOf i).toNat)
  case atStart => exact ⟨0, by omega, rfl, fun j hj => by omega, Below.refl _ _⟩
  case round =>
    obtain ⟨k, hk, rfl, hno, hb⟩ := hrel
    have Hno := Lib.hid hno
    clear hno
    by_cases h5 : k = 5
    · subst h5
      go_wp2
      go_ret
      refine ⟨ret_int ?_, hb⟩
      unfold wayAt; rw [if_neg]
      intro ⟨h1, h2⟩
      exact Hno.out (how - 1).toNat (by omega) (by omega)
    · have hr' := hr.at hb hR
      have hh' := (hb.cell (p := ⟨H, 0, none⟩) hH).trans hh
      have hsz := hb.size
      have c0 := hr' (k * 2) (by omega)
      have c1 := hr' (k * 2 + 1) (by omega)
      clear hr' hr
      obtain ⟨f, e0, e1⟩ : ∃ f, wayRow.getD (k * 2) undef = .int .i64 ((k : Int) + 1) ∧ wayRow.getD (k * 2 + 1) undef = fnv f := by
        rcases (show k = 0 ∨ k = 1 ∨ k = 2 ∨ k = 3 ∨ k = 4 by omega) with rfl | rfl | rfl | rfl | rfl
        all_goals exact ⟨_, rfl, rfl⟩
      rw [e0] at c0; rw [e1] at c1
      unfold fnv at c1
      clear e0 e1
      go_wp2_with fail
      refine (has_any _ how _ _ wr hh' (by exact Nat.lt_of_lt_of_le hH hsz)).mono ?_
      rintro e w1 ⟨rfl, hb1⟩
      have hb2 := hb.trans (hb1.mono hsz)
      by_cases hd : (k : Int) + 1 = how
      · have hd' : ((k : Int) + 1 == how) = true := by simpa using hd
        have Hd := Lib.hid hd
        clear hd
        go_wp2
        go_ret
        refine ⟨ret_int ?_, hb2⟩
        have := Hd.out
        unfold wayAt; rw [if_pos (by omega)]; show (k : Int) = _; omega
      · have hd' : ((k : Int) + 1 == how) = false := by simpa using hd
        have Hd := Lib.hid hd
        clear hd
        go_wp2
        go_roundw
        case rel =>
          refine ⟨k + 1, by omega, by go_num, fun j hj => ?_, hb2⟩
          rcases Nat.lt_or_ge j k with h | h
          · exact Hno.out j h
          · rw [show j = k by omega]; exact Hd.out
        case measure => simp [intOf]; omega

/-- what the functions of the table return -/
def wayF (how : Int) (b : Bool) (q h : Int) : Bool :=
  if how = 1 then b else if how = 2 then !b else if how = 3 then false else if how = 4 then decide (0 < h) || (h == 0 && !b) else decide (0 < h) || (h == 0 && (q % 2 == 1))
theorem wayF_away (how : Int) (b : Bool) (q r d : Nat) : wayF how b q (cmpF r ((d : Int) - r)) = Sc.away how b q r d := by
  have e1 : (0 < cmpF (r : Int) ((d : Int) - r)) ↔ d < 2 * r := by unfold cmpF; split <;> (try split) <;> omega
  have e2 : (cmpF (r : Int) ((d : Int) - r) = 0) ↔ 2 * r = d := by unfold cmpF; split <;> (try split) <;> omega
  have e3 : ((q : Int) % 2 = 1) ↔ q % 2 = 1 := by omega
  have e4 : (cmpF (r : Int) ((d : Int) - r) == 0) = decide (2 * r = d) := by rw [Bool.eq_iff_iff, beq_iff_eq, decide_eq_true_eq]; exact e2
  have e5 : ((q : Int) % 2 == 1) = decide (q % 2 = 1) := by rw [Bool.eq_iff_iff, beq_iff_eq, decide_eq_true_eq]; exact e3
  unfold wayF Sc.away
  rw [decide_eq_decide.2 e1, e4, e5]
theorem way_any (k : Nat) (hk : k < 5) : ∃ f, wayRow.getD (k * 2) undef = .int .i64 ((k : Int) + 1) ∧ wayRow.getD (k * 2 + 1) undef = fnv f ∧ (∀ args w, Sem.run Tryz.prog (callFunc f args) w = .ok (.enter f args) w) ∧
    ∀ (b : Bool) (q h : Int) (w : World), 0 ≤ q → Calls Tryz.prog f #[.bool b, .int .u64 q, .int .i64 h] w fun e w' => e = .returned (.bool (wayF ((k : Int) + 1) b q h)) ∧ w = w' := by
  rcases (show k = 0 ∨ k = 1 ∨ k = 2 ∨ k = 3 ∨ k = 4 by omega) with rfl | rfl | rfl | rfl | rfl
  · exact ⟨_, rfl, rfl, fun _ _ => by kernel_rfl, fun b q h w _ => way1 b q h w⟩
  · exact ⟨_, rfl, rfl, fun _ _ => by kernel_rfl, fun b q h w _ => way2 b q h w⟩
  · exact ⟨_, rfl, rfl, fun _ _ => by kernel_rfl, fun b q h w _ => way3 b q h w⟩
  · exact ⟨_, rfl, rfl, fun _ _ => by kernel_rfl, fun b q h w _ => way4 b q h w⟩
  · exact ⟨_, rfl, rfl, fun _ _ => by kernel_rfl, fun b q h w hq => way5 b q h w hq⟩
theorem quiet_eq {P : Program} {f : FuncId} {args : Array Value} {w : World} {n : Nat} {v : Value}
    (h : Calls P f args (w.drewN n) fun e w' => e = .returned v ∧ w.drewN n = w') : Calls P f args (w.drewN n) fun e w'' => e = .returned v ∧ ∃ m, w'' = w.drewN m :=
  h.mono fun _ _ ⟨he, hm⟩ => ⟨he, n, hm.symm⟩
theorem below_drewN {B : Nat} {a w : World} (h : Below B a w) (n : Nat) : Below B a (w.drewN n) := h.trans ⟨rfl, rfl, rfl, Nat.le_refl _, fun _ _ => rfl⟩
end Go.Proofs.YthimnjegacdhaaaGreatDoor

/- Small lemmas on memory: what a world keeps. -/
namespace Go.Proofs.YthimnjegacdhaaaGreatDoor
open Go.RowKit

theorem below_cell {w w' : World} {p : Addr} {v : Value} (hb : Below w.heap.size w w') (h : w.cell? p = some v) : w'.cell? p = some v :=
  (hb.cell (World.block_lt_of_cell? w p h)).trans h
theorem below_al (w : World) (o : Obj) : Below w.heap.size w (w.alloc o) := (Below.refl _ _).alloc (Nat.le_refl _) _
theorem below_ad (w : World) (o : Obj) (n : Nat) : Below w.heap.size w ((w.alloc o).drewN n) := below_drewN (below_al w o) n
/-- two steps, each of which keeps all that was there -/
theorem below_tr {B : Nat} {a b c : World} (h : Below B a b) (hB : B ≤ b.heap.size) (k : Below b.heap.size b c) : Below B a c := h.trans (k.mono hB)
theorem below_step {a b c : World} (h : Below a.heap.size a b) (k : Below b.heap.size b c) : Below a.heap.size a c := h.trans (k.mono h.size)
end Go.Proofs.YthimnjegacdhaaaGreatDoor

/- What stays of the library's variables; numbers as texts and back (contracts). -/
namespace Go.Proofs.YthimnjegacdhaaaGreatDoor
open Go.RowKit Go.BigFrame
open Rd (sB sB_inj bt itoaB padB zeroB DigRow)

/-- what the variables of the library hold -/
structure Glo (w : World) : Prop where
  t : Lib.TabIs Tryz.prog w "internal/strconv.uint64pow10" .u64 Lib.pow10Tab
  s : ∃ tp p, w.var? Tryz.prog "strconv.ErrSyntax" = some #[.iface tp p]
  r : ∃ tp p, w.var? Tryz.prog "strconv.ErrRange" = some #[.iface tp p]
theorem var_below {w w' : World} {nm : String} {cs : Array Value} (h : w.var? Tryz.prog nm = some cs) (hb : Below w.heap.size w w') : w'.var? Tryz.prog nm = some cs := by
  unfold World.var? at h ⊢
  cases hg : Tryz.prog.globalNamed nm with
  | none => rw [hg] at h; cases h
  | some g =>
    rw [hg] at h
    simp only [Option.bind_some] at h ⊢
    have hl : g < w.heap.size := by
      rcases Nat.lt_or_ge g w.heap.size with h' | h'
      · exact h'
      · rw [Array.getElem?_eq_none h'] at h
        cases h
    rw [hb.block g hl]
    exact h
theorem Glo.below {w w' : World} (h : Glo w) (hb : Below w.heap.size w w') : Glo w' := by
  obtain ⟨t1, p1, h1⟩ := h.s
  obtain ⟨t2, p2, h2⟩ := h.r
  exact ⟨var_below h.t hb, ⟨t1, p1, var_below h1 hb⟩, ⟨t2, p2, var_below h2 hb⟩⟩
theorem below_grow (w : World) (k : Nat) (os : Array Obj) : Below w.heap.size w (Go.Sort.grow (w.drewN k) os) := by
  refine ⟨rfl, rfl, rfl, ?_, ?_⟩
  · simp [Go.Sort.grow]
  · intro i hi
    simp only [Go.Sort.grow, World.drewN]
    exact Array.getElem?_append_left hi
theorem itoa_any (n : Int) (h0 : -9223372036854775808 ≤ n) (h1 : n ≤ 9223372036854775807) (w : World) (hg : Glo w) :
    Calls Tryz.prog 30 #[.int .i64 n] w fun e w' => e = .returned (.string (itoaB n)) ∧ Below w.heap.size w w' := by
  refine (Tryz.strconv_Itoa n h0 h1 w hg.t).mono ?_
  rintro e w' ⟨rfl, k, os, rfl⟩
  exact ⟨rfl, below_grow w k os⟩
/-- Atoi at every text that is not too long -/
theorem atoi_every (s : ByteArray) (hs : s.size ≤ 1000000) (w : World) (hg : Glo w) :
    Calls Tryz.prog 109 #[.string s] w fun e w' => ∃ (n : Int) (ev : Value), e = .returned (.tuple #[.int .i64 n, ev]) ∧ Below w.heap.size w w' ∧ -9223372036854775808 ≤ n ∧ n ≤ 9223372036854775807 ∧ (∀ v, Lib.atoiAll (sB s) = .ok v → n = v) := by
  cases h : Lib.atoiAll s.data.toList
  case ok v =>
    have hb := Lib.atoiAll_bounds h
    refine (Tryz.strconv_Atoi_ok s (by omega) v h w).mono ?_
    rintro e w' ⟨rfl, hw⟩
    refine ⟨v, _, rfl, ?_, by omega, by omega, fun v' e => by rw [show sB s = s.data.toList from rfl, h] at e; injection e⟩
    rcases hw with rfl | ⟨t, rfl⟩
    · exact Below.refl _ _
    · exact Lib.bytesWorld_below _ _ _
  case range =>
    obtain ⟨tp, p, hv⟩ := hg.r
    refine (Tryz.strconv_Atoi_range_var s (by omega) h tp p w hv).mono ?_
    rintro e w' ⟨N, rfl, _, _, hb⟩
    refine ⟨_, _, rfl, hb, ?_, ?_, fun v e => by rw [show sB s = s.data.toList from rfl, h] at e; cases e⟩
    · unfold Lib.atoiSat
      split <;> omega
    · unfold Lib.atoiSat
      split <;> omega
  · obtain ⟨tp, p, hv⟩ := hg.s
    refine (Tryz.strconv_Atoi_syntax_var s (by omega) h tp p w hv).mono ?_
    rintro e w' ⟨N, rfl, _, _, hb⟩
    exact ⟨0, _, rfl, hb, by omega, by omega, fun v e => by rw [show sB s = s.data.toList from rfl, h] at e; cases e⟩
end Go.Proofs.YthimnjegacdhaaaGreatDoor

/- Durations with letters, in plain words. -/
namespace Rd
/-- the last m of the letters h, m, s -/
def lets : Nat → ByteArray
  | 0 => ⟨#[]⟩
  | 1 => ⟨#[115]⟩
  | 2 => ⟨#[109, 115]⟩
  | _ => ⟨#[104, 109, 115]⟩
def unitOf (i : Int) : Int := if i = 0 then 3600 else if i = 1 then 60 else 1
def lettLoop (s : ByteArray) : Nat → Nat → Int → Nat → Bool → Int × Nat × Bool
  | 0, _, sum, p, ok => (sum, p, ok)
  | f + 1, m, sum, p, ok =>
    if m = 0 then (sum, p, ok) else
    let x := numAt s 7 0 9999999 ok p
    let k := oneAt s (lets m) x.2.2 (numOk 0 ok x)
    if k.1 < 0 then (0, k.2.1, k.2.2) else
    let sum' := sum + x.1 * unitOf (k.1 + 3 - m)
    if digAt s k.2.1 k.2.2 = true then lettLoop s f (m - (k.1 + 1).toNat) sum' k.2.1 k.2.2 else (sum', k.2.1, k.2.2)
def letteredF (s : ByteArray) : Int × Nat × Bool := lettLoop s 3 3 0 0 true
theorem lettLoop_end {s : ByteArray} {f : Nat} {sum : Int} {p : Nat} {ok : Bool} : lettLoop s f 0 sum p ok = (sum, p, ok) := by cases f <;> simp [lettLoop]
theorem lettLoop_none {s : ByteArray} {f m : Nat} {sum : Int} {p : Nat} {ok : Bool} {x : Int × Nat × Nat} {k : Int × Nat × Bool} (hm : m ≠ 0) (hx : numAt s 7 0 9999999 ok p = x) (hk : oneAt s (lets m) x.2.2 (numOk 0 ok x) = k) (h : k.1 < 0) :
    lettLoop s (f + 1) m sum p ok = (0, k.2.1, k.2.2) := by simp [lettLoop, hm, hx, hk, h]
theorem lettLoop_last {s : ByteArray} {f m : Nat} {sum : Int} {p : Nat} {ok : Bool} {x : Int × Nat × Nat} {k : Int × Nat × Bool} (hm : m ≠ 0) (hx : numAt s 7 0 9999999 ok p = x) (hk : oneAt s (lets m) x.2.2 (numOk 0 ok x) = k) (h : ¬ k.1 < 0)
    (hd : digAt s k.2.1 k.2.2 = false) : lettLoop s (f + 1) m sum p ok = (sum + x.1 * unitOf (k.1 + 3 - m), k.2.1, k.2.2) := by simp [lettLoop, hm, hx, hk, h, hd]
theorem lettLoop_next {s : ByteArray} {f m : Nat} {sum : Int} {p : Nat} {ok : Bool} {x : Int × Nat × Nat} {k : Int × Nat × Bool} (hm : m ≠ 0) (hx : numAt s 7 0 9999999 ok p = x) (hk : oneAt s (lets m) x.2.2 (numOk 0 ok x) = k) (h : ¬ k.1 < 0)
    (hd : digAt s k.2.1 k.2.2 = true) : lettLoop s (f + 1) m sum p ok = lettLoop s f (m - (k.1 + 1).toNat) (sum + x.1 * unitOf (k.1 + 3 - m)) k.2.1 k.2.2 := by simp [lettLoop, hm, hx, hk, h, hd]
theorem indexByte_lt (l : List UInt8) (c : UInt8) : Go.Lib.indexByte l c < l.length := by
  induction l with
  | nil => simp [Go.Lib.indexByte]
  | cons b l ih =>
    unfold Go.Lib.indexByte
    simp only [List.length_cons]
    split
    · omega
    · split <;> omega
theorem oneAt_lt (s t : ByteArray) (p : Nat) (ok : Bool) : (oneAt s t p ok).1 < t.size ∨ (oneAt s t p ok).1 < 0 := by
  unfold oneAt
  split
  · have := indexByte_lt t.data.toList (byte s p).toUInt8
    have e : (t.data.toList.length : Int) = t.size := rfl
    dsimp only
    split
    · left; show Go.Lib.indexByte _ _ < _; omega
    · right; show Go.Lib.indexByte _ _ < _; omega
  · right; show (-1 : Int) < 0; omega
theorem numAt_val (s : ByteArray) (digits : Nat) (least most : Int) (ok : Bool) (p : Nat) (hm : 0 ≤ most) : 0 ≤ (numAt s digits least most ok p).1 ∧ (numAt s digits least most ok p).1 ≤ most := by
  have := numLoop_val s digits least most ok digits 0 0 p (by omega) (by omega)
  unfold numAt; omega
end Rd

/- Forms of tokens in plain words; the reference's durations are the program's. -/
namespace Rd
/-- a part of a form -/
structure Tok where
  kind : Nat
  text : ByteArray
  low : Int
  high : Int
  digits : Nat
def litT (t : ByteArray) : Tok := ⟨1, t, 0, 0, 0⟩
def numT (low high : Int) (digits : Nat) : Tok := ⟨2, ⟨#[]⟩, low, high, digits⟩
def pairT (high : Int) : Tok := ⟨3, ⟨#[]⟩, 0, high, 0⟩
def partT (digits : Nat) : Tok := ⟨4, ⟨#[]⟩, 0, 0, digits⟩
/-- one to so many digits: value, how many, where -/
def rowLoop (s : ByteArray) (digits : Nat) (ok : Bool) : Nat → Int → Nat → Nat → Int × Nat × Nat
  | 0, n, m, p => (n, m, p)
  | f + 1, n, m, p => if m < digits ∧ digAt s p ok = true then rowLoop s digits ok f (10 * n + ((byte s p : Int) - 48)) (m + 1) (p + 1) else (n, m, p)
def rowAt (s : ByteArray) (digits : Nat) (ok : Bool) (p : Nat) : Int × Nat × Nat := rowLoop s digits ok digits 0 0 p
/-- what run hands back: the place, the value, whether it is complete -/
def runT (s : ByteArray) (t : Tok) (p : Nat) : Nat × Int × Bool :=
  if t.kind = 1 then let c := exactAt s t.text p true; (c.1, 0, c.2)
  else if t.kind = 3 then let x := pairAt s t.high p true; (x.2.1, x.1, x.2.2)
  else if t.kind = 2 then let x := numAt s t.digits t.low t.high true p; (x.2.2, x.1, numOk t.low true x)
  else let x := rowAt s t.digits true p; (x.2.2, x.1 * 10 ^ (t.digits - x.2.1), decide (0 < x.2.1))
def matchT (s : ByteArray) : List Tok → Nat → Nat × List Int × Bool
  | [], p => (p, [], decide (p = s.size))
  | t :: r, p => if (runT s t p).2.2 = true then ((matchT s r (runT s t p).1).1, (if t.kind = 1 then (matchT s r (runT s t p).1).2.1 else (runT s t p).2.1 :: (matchT s r (runT s t p).1).2.1), (matchT s r (runT s t p).1).2.2) else ((runT s t p).1, [], false)
def firstT (s : ByteArray) : List (List Tok) → Nat → Nat → Int × List Int × Nat
  | [], _, far => (-1, [], far)
  | f :: r, i, far => if (matchT s f 0).2.2 = true then ((i : Int), (matchT s f 0).2.1, 0) else firstT s r (i + 1) (max far (matchT s f 0).1)
/-- the first form that a text has -/
theorem firstT_none {s : ByteArray} : ∀ (l : List (List Tok)) (i far : Nat), (∀ f, f ∈ l → (matchT s f 0).2.2 = false) → firstT s l i far = (-1, [], l.foldl (fun a f => max a (matchT s f 0).1) far)
  | [], i, far, _ => rfl
  | f :: r, i, far, h => by
    unfold firstT
    rw [if_neg (by rw [h f (List.mem_cons_self ..)]; simp), firstT_none r (i + 1) _ (fun g hg => h g (List.mem_cons_of_mem _ hg))]
    rfl
theorem firstT_at {s : ByteArray} : ∀ (l : List (List Tok)) (i far k : Nat) (f : List Tok), l[k]? = some f → (matchT s f 0).2.2 = true → (∀ j g, j < k → l[j]? = some g → (matchT s g 0).2.2 = false) → firstT s l i far = (((i + k : Nat) : Int), (matchT s f 0).2.1, 0)
  | [], i, far, k, f, h, _, _ => by simp at h
  | g :: r, i, far, 0, f, h, hf, _ => by
    simp only [List.getElem?_cons_zero, Option.some.injEq] at h
    subst h
    unfold firstT
    rw [if_pos hf]; rfl
  | g :: r, i, far, k + 1, f, h, hf, hl => by
    unfold firstT
    rw [if_neg (by rw [hl 0 g (by omega) rfl]; simp)]
    rw [firstT_at r (i + 1) _ k f (by simpa using h) hf (fun j g' hj hg => hl (j + 1) g' (by omega) (by simpa using hg))]
    rw [show i + 1 + k = i + (k + 1) by omega]
theorem matchT_lit {s t : ByteArray} {r : List Tok} {p : Nat} : matchT s (litT t :: r) p = if (exactAt s t p true).2 = true then matchT s r (exactAt s t p true).1 else ((exactAt s t p true).1, [], false) := by
  rw [matchT]
  simp only [runT, litT, if_pos]
theorem matchT_num {s : ByteArray} {lo hi : Int} {d : Nat} {r : List Tok} {p : Nat} : matchT s (numT lo hi d :: r) p = if numOk lo true (numAt s d lo hi true p) = true then ((matchT s r (numAt s d lo hi true p).2.2).1, (numAt s d lo hi true p).1 :: (matchT s r (numAt s d lo hi true p).2.2).2.1, (matchT s r (numAt s d lo hi true p).2.2).2.2) else ((numAt s d lo hi true p).2.2, [], false) := by
  rw [matchT]
  simp [runT, numT]
theorem matchT_pair {s : ByteArray} {hi : Int} {r : List Tok} {p : Nat} : matchT s (pairT hi :: r) p = if (pairAt s hi p true).2.2 = true then ((matchT s r (pairAt s hi p true).2.1).1, (pairAt s hi p true).1 :: (matchT s r (pairAt s hi p true).2.1).2.1, (matchT s r (pairAt s hi p true).2.1).2.2) else ((pairAt s hi p true).2.1, [], false) := by
  rw [matchT]
  simp [runT, pairT]
theorem exactAt_no {s t : ByteArray} {p : Nat} : exactAt s t p false = (p, false) := rfl
theorem digAt_no {s : ByteArray} {p : Nat} : digAt s p false = false := rfl
theorem pairAt_no {s : ByteArray} {hi : Int} {p : Nat} : pairAt s hi p false = (0, p, false) := by
  unfold pairAt pairStep
  simp [digAt_no]
theorem numOk_no {lo : Int} {x : Int × Nat × Nat} : numOk lo false x = false := rfl
/-- short form -/
def shortT : List Tok := [numT 0 59 2, litT colon, pairT 59]
def longT : List Tok := [numT 1 999 3, litT colon, pairT 59, litT colon, pairT 59]
theorem short_match (s : ByteArray) (o : Int × Nat × Bool) (ho : shortF s = o) : (matchT s shortT 0).1 = o.2.1 ∧ (matchT s shortT 0).2.2 = (o.2.2 && decide (o.2.1 = s.size)) ∧ ((matchT s shortT 0).2.2 = true → ∃ a b, 0 ≤ a ∧ 0 ≤ b ∧ (matchT s shortT 0).2.1 = [a, b] ∧ o.1 = 60 * a + b) := by
  unfold shortT
  simp only [shortF] at ho
  rw [matchT_num]
  obtain ⟨x, hx⟩ : ∃ y, numAt s 2 0 59 true 0 = y := ⟨_, rfl⟩
  rw [hx] at ho ⊢
  obtain ⟨kx, hkx⟩ : ∃ k, numOk 0 true x = k := ⟨_, rfl⟩
  rw [hkx] at ho ⊢
  cases kx with
  | false =>
    simp only [exactAt_no, pairAt_no] at ho
    subst ho
    simp
  | true =>
    simp only [if_true] at ho ⊢
    rw [matchT_lit]
    obtain ⟨y, hy⟩ : ∃ y, exactAt s colon x.2.2 true = y := ⟨_, rfl⟩
    rw [hy] at ho ⊢
    obtain ⟨y1, y2⟩ := y
    cases y2 with
    | false =>
      simp only [pairAt_no] at ho
      subst ho
      simp
    | true =>
      simp only [if_true] at ho ⊢
      rw [matchT_pair]
      obtain ⟨z, hz⟩ : ∃ y, pairAt s 59 y1 true = y := ⟨_, rfl⟩
      rw [hz] at ho ⊢
      obtain ⟨z1, z2, z3⟩ := z
      cases z3 with
      | false =>
        simp only at ho
        subst ho
        simp
      | true =>
        simp only [if_true] at ho ⊢
        subst ho
        refine ⟨by simp [matchT], by simp [matchT], fun _ => ⟨x.1, z1, by have h := numAt_val s 2 0 59 true 0 (by omega); rw [hx] at h; exact h.1, by have h := pairAt_val s (most := 59) y1 true (by omega); rw [hz] at h; exact h.1, rfl, rfl⟩⟩
theorem long_match (s : ByteArray) (o : Int × Nat × Bool) (ho : longF s = o) : (matchT s longT 0).1 = o.2.1 ∧ (matchT s longT 0).2.2 = (o.2.2 && decide (o.2.1 = s.size)) ∧ ((matchT s longT 0).2.2 = true → ∃ a b c, 0 ≤ a ∧ 0 ≤ b ∧ 0 ≤ c ∧ (matchT s longT 0).2.1 = [a, b, c] ∧ o.1 = 3600 * a + 60 * b + c) := by
  unfold longT
  simp only [longF] at ho
  rw [matchT_num]
  obtain ⟨x, hx⟩ : ∃ y, numAt s 3 1 999 true 0 = y := ⟨_, rfl⟩
  rw [hx] at ho ⊢
  obtain ⟨kx, hkx⟩ : ∃ k, numOk 1 true x = k := ⟨_, rfl⟩
  rw [hkx] at ho ⊢
  cases kx with
  | false =>
    simp only [exactAt_no, pairAt_no] at ho
    subst ho
    simp
  | true =>
    simp only [if_true] at ho ⊢
    rw [matchT_lit]
    obtain ⟨y, hy⟩ : ∃ y, exactAt s colon x.2.2 true = y := ⟨_, rfl⟩
    rw [hy] at ho ⊢
    obtain ⟨y1, y2⟩ := y
    cases y2 with
    | false =>
      simp only [exactAt_no, pairAt_no] at ho
      subst ho
      simp
    | true =>
      simp only [if_true] at ho ⊢
      rw [matchT_pair]
      obtain ⟨z, hz⟩ : ∃ y, pairAt s 59 y1 true = y := ⟨_, rfl⟩
      rw [hz] at ho ⊢
      obtain ⟨z1, z2, z3⟩ := z
      cases z3 with
      | false =>
        simp only [exactAt_no, pairAt_no] at ho
        subst ho
        simp
      | true =>
        simp only [if_true] at ho ⊢
        rw [matchT_lit]
        obtain ⟨u, hu⟩ : ∃ y, exactAt s colon z2 true = y := ⟨_, rfl⟩
        rw [hu] at ho ⊢
        obtain ⟨u1, u2⟩ := u
        cases u2 with
        | false =>
          simp only [pairAt_no] at ho
          subst ho
          simp
        | true =>
          simp only [if_true] at ho ⊢
          rw [matchT_pair]
          obtain ⟨v, hv⟩ : ∃ y, pairAt s 59 u1 true = y := ⟨_, rfl⟩
          rw [hv] at ho ⊢
          obtain ⟨v1, v2, v3⟩ := v
          cases v3 with
          | false =>
            simp only at ho
            subst ho
            simp
          | true =>
            simp only [if_true] at ho ⊢
            subst ho
            refine ⟨by simp [matchT], by simp [matchT], fun _ => ⟨x.1, z1, v1, by have h := numAt_val s 3 1 999 true 0 (by omega); rw [hx] at h; exact h.1, by have h := pairAt_val s (most := 59) y1 true (by omega); rw [hz] at h; exact h.1, by have h := pairAt_val s (most := 59) u1 true (by omega); rw [hv] at h; exact h.1, rfl, rfl⟩⟩

/-! ### durations with letters -/
def num7 (s : ByteArray) (p : Nat) : Int × Nat × Nat := numAt s 7 0 9999999 true p
def byteT (c : Nat) : ByteArray := ⟨#[c.toUInt8]⟩
/-- the form of some letters -/
def lform : List Nat → List Tok
  | [] => []
  | c :: r => numT 0 9999999 7 :: litT (byteT c) :: lform r
theorem exact_one (s : ByteArray) (c p : Nat) (hc : c < 256) : exactAt s (byteT c) p true = if p < s.size ∧ byte s p = c then (p + 1, true) else (p, false) := by
  have h1 : (byteT c).size = 1 := rfl
  have h2 : byte (byteT c) 0 = c := by
    unfold byte
    rw [dif_pos (by rw [h1]; omega)]
    show (c.toUInt8).toNat = c
    simp
    omega
  unfold exactAt
  rw [if_pos rfl, h1]
  unfold exactLoop
  rw [h1, if_pos (by omega), h2]
  split
  · rfl
  · rfl
/-- goes one letter along -/
def stepL (s : ByteArray) (p c : Nat) : Bool := numOk 0 true (num7 s p) && (decide ((num7 s p).2.2 < s.size) && decide (byte s (num7 s p).2.2 = c))
theorem match_step {s : ByteArray} {c : Nat} {r : List Nat} {p : Nat} (hc : c < 256) : matchT s (lform (c :: r)) p =
    if stepL s p c = true then ((matchT s (lform r) ((num7 s p).2.2 + 1)).1, (num7 s p).1 :: (matchT s (lform r) ((num7 s p).2.2 + 1)).2.1, (matchT s (lform r) ((num7 s p).2.2 + 1)).2.2) else ((num7 s p).2.2, (if numOk 0 true (num7 s p) = true then [(num7 s p).1] else []), false) := by
  rw [show lform (c :: r) = numT 0 9999999 7 :: litT (byteT c) :: lform r from rfl, matchT_num]
  unfold stepL num7
  obtain ⟨x, hx⟩ : ∃ y, numAt s 7 0 9999999 true p = y := ⟨_, rfl⟩
  rw [hx]
  cases numOk 0 true x with
  | false => simp
  | true =>
    simp only [if_true, Bool.true_and]
    rw [matchT_lit, exact_one s c _ hc]
    by_cases h : x.2.2 < s.size ∧ byte s x.2.2 = c
    · rw [if_pos h]
      simp [h.1, h.2]
    · rw [if_neg h]
      have : (decide (x.2.2 < s.size) && decide (byte s x.2.2 = c)) = false := by
        rw [Bool.eq_false_iff]
        simpa using h
      rw [this]
      simp
/-- a row of letters out of those that are left, in order -/
inductive Sub : List Nat → List Nat → Prop
  | one {c L} : Sub [c] (c :: L)
  | more {c S L} : Sub S L → Sub (c :: S) (c :: L)
  | skip {c S L} : Sub S L → Sub S (c :: L)
theorem Sub.ne {S L : List Nat} (h : Sub S L) : S ≠ [] := by
  induction h with
  | one => simp
  | more _ _ => simp
  | skip _ ih => exact ih
/-- the letters behind one -/
def behind (c : Nat) : List Nat → List Nat
  | [] => []
  | d :: L => if d = c then L else behind c L
theorem Sub.weak {c : Nat} {S : List Nat} : ∀ {L : List Nat}, Sub S (behind c L) → Sub S L
  | [], h => h
  | d :: L, h => by
    unfold behind at h
    split at h
    · exact .skip h
    · exact .skip (Sub.weak h)
theorem Sub.head {c : Nat} {S L : List Nat} (h : Sub (c :: S) L) : c ∈ L ∧ (S = [] ∨ Sub S (behind c L)) := by
  generalize hq : c :: S = q at h
  induction h generalizing c S with
  | one =>
    injection hq with h1 h2
    subst h1 h2
    exact ⟨List.mem_cons_self .., Or.inl rfl⟩
  | more h0 _ =>
    injection hq with h1 h2
    subst h1 h2
    exact ⟨List.mem_cons_self .., Or.inr (by unfold behind; rw [if_pos rfl]; exact h0)⟩
  | skip h0 ih =>
    obtain ⟨h1, h2⟩ := ih hq
    refine ⟨List.mem_cons_of_mem _ h1, h2.imp id fun h3 => ?_⟩
    unfold behind
    split
    · exact h3.weak
    · exact h3
theorem Sub.cons {c : Nat} {S : List Nat} : ∀ {L : List Nat}, c ∈ L → (S = [] ∨ Sub S (behind c L)) → Sub (c :: S) L
  | [], h, _ => by cases h
  | d :: L, h, h2 => by
    unfold behind at h2
    by_cases e : d = c
    · rw [if_pos e] at h2
      subst e
      rcases h2 with rfl | h2
      · exact .one
      · exact .more h2
    · rw [if_neg e] at h2
      rcases List.mem_cons.1 h with h | h
      · exact absurd h.symm e
      · exact .skip (Sub.cons h h2)
theorem numLoop_ge (s : ByteArray) (digits : Nat) (least most : Int) (ok : Bool) : ∀ (f : Nat) (n : Int) (m p : Nat), p ≤ (numLoop s digits least most ok f n m p).2.2
  | 0, n, m, p => Nat.le_refl _
  | f + 1, n, m, p => by
    unfold numLoop
    split
    · split
      · exact Nat.le_refl _
      · exact Nat.le_trans (Nat.le_succ p) (numLoop_ge s digits least most ok f _ _ _)
    · exact Nat.le_refl _
theorem num7_ge (s : ByteArray) (p : Nat) : p ≤ (num7 s p).2.2 := numLoop_ge _ _ _ _ _ _ _ _ _
theorem num7_none {s : ByteArray} {p : Nat} (h : digAt s p true = false) : num7 s p = (0, 0, p) := numLoop_stop (by rw [h]; simp)
def unitL (c : Nat) : Int := if c = 104 then 3600 else if c = 109 then 60 else 1
def valL : List Nat → List Int → Int
  | c :: S, v :: l => v * unitL c + valL S l
  | _, _ => 0
/-- the program's lettered form over a list of letters -/
def lettL (s : ByteArray) : Nat → List Nat → Int → Nat → Int × Nat × Bool
  | 0, _, sum, p => (sum, p, true)
  | f + 1, L, sum, p =>
    if numOk 0 true (num7 s p) = true ∧ (num7 s p).2.2 < s.size ∧ byte s (num7 s p).2.2 ∈ L then
      if digAt s ((num7 s p).2.2 + 1) true = true ∧ behind (byte s (num7 s p).2.2) L ≠ [] then lettL s f (behind (byte s (num7 s p).2.2) L) (sum + (num7 s p).1 * unitL (byte s (num7 s p).2.2)) ((num7 s p).2.2 + 1)
      else (sum + (num7 s p).1 * unitL (byte s (num7 s p).2.2), (num7 s p).2.2 + 1, true)
    else (0, (num7 s p).2.2, false)
/-- the lettered form and the forms of the rows of letters say the same -/
structure LetOk (s : ByteArray) (L : List Nat) (sum : Int) (p : Nat) (o : Int × Nat × Bool) : Prop where
  most : ∀ S, Sub S L → (matchT s (lform S) p).1 ≤ o.2.1
  here : ∃ S, Sub S L ∧ (matchT s (lform S) p).1 = o.2.1
  good : ∀ S, Sub S L → (matchT s (lform S) p).2.2 = true → o.2.2 = true ∧ o.2.1 = s.size ∧ o.1 = sum + valL S (matchT s (lform S) p).2.1
  back : o.2.2 = true → o.2.1 = s.size → ∃ S, Sub S L ∧ (matchT s (lform S) p).2.2 = true
theorem behind_len {c : Nat} : ∀ {L : List Nat}, c ∈ L → (behind c L).length < L.length
  | [], h => by cases h
  | d :: L, h => by
    unfold behind
    split
    · simp
    · rename_i e
      rcases List.mem_cons.1 h with h | h
      · exact absurd h.symm e
      · have := behind_len h
        simp only [List.length_cons]; omega
theorem letOk (s : ByteArray) : ∀ (f : Nat) (L : List Nat) (sum : Int) (p : Nat), L ≠ [] → L.length ≤ f → (∀ c, c ∈ L → c < 256) → LetOk s L sum p (lettL s f L sum p) ∧ p ≤ (lettL s f L sum p).2.1
  | 0, L, sum, p, hL, hf, _ => absurd (List.eq_nil_of_length_eq_zero (Nat.le_zero.1 hf)) hL
  | f + 1, L, sum, p, hL, hf, hb => by
    obtain ⟨d, L0, hd⟩ : ∃ d L0, L = d :: L0 := by
      cases L with
      | nil => exact absurd rfl hL
      | cons d L0 => exact ⟨d, L0, rfl⟩
    have hge := num7_ge s p
    have step : ∀ S, Sub S L → ∃ c S', S = c :: S' ∧ c ∈ L ∧ c < 256 ∧ (S' = [] ∨ Sub S' (behind c L)) := fun S hS => by
      cases S with
      | nil => exact absurd rfl hS.ne
      | cons c S' =>
        obtain ⟨h1, h2⟩ := hS.head
        exact ⟨c, S', rfl, h1, hb c h1, h2⟩
    unfold lettL
    by_cases hgo : numOk 0 true (num7 s p) = true ∧ (num7 s p).2.2 < s.size ∧ byte s (num7 s p).2.2 ∈ L
    · rw [if_pos hgo]
      obtain ⟨h1, h2, h3⟩ := hgo
      obtain ⟨c, hc⟩ : ∃ c, byte s (num7 s p).2.2 = c := ⟨_, rfl⟩
      rw [hc] at h3 ⊢
      have yes : stepL s p c = true := by unfold stepL; rw [h1, hc]; simp [h2]
      have no : ∀ c', c' ≠ c → stepL s p c' = false := fun c' h => by
        unfold stepL
        rw [hc]
        simp only [Bool.and_eq_false_iff, decide_eq_false_iff_not]
        exact Or.inr (Or.inr fun e => h e.symm)
      have hc256 := hb c h3
      have m1 : matchT s (lform [c]) p = ((num7 s p).2.2 + 1, [(num7 s p).1], decide ((num7 s p).2.2 + 1 = s.size)) := by
        rw [match_step hc256, if_pos yes]; rfl
      have far : ∀ c' S', c' < 256 → c' ≠ c → ∃ l, matchT s (lform (c' :: S')) p = ((num7 s p).2.2, l, false) := fun c' S' h256 h => by
        rw [match_step h256, if_neg (by rw [no c' h]; simp)]
        exact ⟨_, rfl⟩
      have near : ∀ S', matchT s (lform (c :: S')) p = ((matchT s (lform S') ((num7 s p).2.2 + 1)).1, (num7 s p).1 :: (matchT s (lform S') ((num7 s p).2.2 + 1)).2.1, (matchT s (lform S') ((num7 s p).2.2 + 1)).2.2) := fun S' => by
        rw [match_step hc256, if_pos yes]
      by_cases hgo2 : digAt s ((num7 s p).2.2 + 1) true = true ∧ behind c L ≠ []
      · rw [if_pos hgo2]
        obtain ⟨hok, hge2⟩ := letOk s f (behind c L) (sum + (num7 s p).1 * unitL c) ((num7 s p).2.2 + 1) hgo2.2 (by have := behind_len h3; omega) (fun x hx => by
          have : ∀ {M : List Nat}, x ∈ behind c M → x ∈ M := by
            intro M
            induction M with
            | nil => exact id
            | cons y M ih =>
              unfold behind
              split
              · exact List.mem_cons_of_mem _
              · exact fun h => List.mem_cons_of_mem _ (ih h)
          exact hb x (this hx))
        have hlt := (digAt_true hgo2.1).2.1
        refine ⟨⟨fun S hS => ?_, ?_, fun S hS hm => ?_, fun g1 g2 => ?_⟩, by omega⟩
        · obtain ⟨c', S', rfl, hc', h256, hs'⟩ := step S hS
          by_cases e : c' = c
          · subst e
            rcases hs' with rfl | hs'
            · rw [m1]; exact hge2
            · rw [near]; exact hok.most _ hs'
          · rw [(far c' S' h256 e).choose_spec]
            show (num7 s p).2.2 ≤ _
            omega
        · obtain ⟨S, hS, he⟩ := hok.here
          exact ⟨c :: S, .cons h3 (Or.inr hS), by rw [near]; exact he⟩
        · obtain ⟨c', S', rfl, hc', h256, hs'⟩ := step S hS
          by_cases e : c' = c
          · subst e
            rcases hs' with rfl | hs'
            · rw [m1] at hm
              simp only [decide_eq_true_eq] at hm
              omega
            · rw [near] at hm ⊢
              obtain ⟨k1, k2, k3⟩ := hok.good _ hs' hm
              refine ⟨k1, k2, ?_⟩
              rw [k3]
              show _ = sum + ((num7 s p).1 * unitL c' + valL S' _)
              omega
          · rw [(far c' S' h256 e).choose_spec] at hm
            cases hm
        · obtain ⟨S, hS, he⟩ := hok.back g1 g2
          exact ⟨c :: S, .cons h3 (Or.inr hS), by rw [near]; exact he⟩
      · rw [if_neg hgo2]
        have rest : ∀ S', Sub S' (behind c L) → ∃ l, matchT s (lform S') ((num7 s p).2.2 + 1) = ((num7 s p).2.2 + 1, l, false) := fun S' hS' => by
          have hnd : digAt s ((num7 s p).2.2 + 1) true = false := by
            cases h : digAt s ((num7 s p).2.2 + 1) true with
            | false => rfl
            | true =>
              exfalso
              refine hgo2 ⟨h, fun e => ?_⟩
              rw [e] at hS'
              cases hS'
          cases S' with
          | nil => exact absurd rfl hS'.ne
          | cons c' S'' =>
            have h0 : c' < 256 := by
              have : c' ∈ behind c L := hS'.head.1
              have h1 : ∀ {M : List Nat}, c' ∈ behind c M → c' ∈ M := by
                intro M
                induction M with
                | nil => exact id
                | cons y M ih =>
                  unfold behind
                  split
                  · exact List.mem_cons_of_mem _
                  · exact fun h => List.mem_cons_of_mem _ (ih h)
              exact hb c' (h1 this)
            have e0 := num7_none hnd
            rw [match_step h0, if_neg (by unfold stepL; rw [e0]; simp [numOk]), e0]
            exact ⟨_, rfl⟩
        refine ⟨⟨fun S hS => ?_, ⟨[c], .cons h3 (Or.inl rfl), by rw [m1]⟩, fun S hS hm => ?_, fun g1 g2 => ⟨[c], .cons h3 (Or.inl rfl), by rw [m1]; simpa using g2⟩⟩, by show p ≤ (num7 s p).2.2 + 1; omega⟩
        · obtain ⟨c', S', rfl, hc', h256, hs'⟩ := step S hS
          by_cases e : c' = c
          · subst e
            rcases hs' with rfl | hs'
            · rw [m1]; exact Nat.le_refl _
            · rw [near, (rest _ hs').choose_spec]; exact Nat.le_refl _
          · rw [(far c' S' h256 e).choose_spec]
            exact Nat.le_succ _
        · obtain ⟨c', S', rfl, hc', h256, hs'⟩ := step S hS
          by_cases e : c' = c
          · subst e
            rcases hs' with rfl | hs'
            · rw [m1] at hm ⊢
              refine ⟨rfl, by simpa using hm, ?_⟩
              show sum + _ = sum + ((num7 s p).1 * unitL c' + 0)
              omega
            · rw [near, (rest _ hs').choose_spec] at hm
              cases hm
          · rw [(far c' S' h256 e).choose_spec] at hm
            cases hm
    · rw [if_neg hgo]
      have all : ∀ S, Sub S L → ∃ l, matchT s (lform S) p = ((num7 s p).2.2, l, false) := fun S hS => by
        obtain ⟨c', S', rfl, hc', h256, hs'⟩ := step S hS
        rw [match_step h256, if_neg]
        exact ⟨_, rfl⟩
        intro h
        unfold stepL at h
        simp only [Bool.and_eq_true, decide_eq_true_eq] at h
        exact hgo ⟨h.1, h.2.1, by rw [h.2.2]; exact hc'⟩
      refine ⟨⟨fun S hS => by rw [(all S hS).choose_spec]; exact Nat.le_refl _, ⟨[d], by rw [hd]; exact .one, by rw [(all [d] (by rw [hd]; exact .one)).choose_spec]⟩, fun S hS hm => ?_, fun g1 _ => by cases g1⟩, hge⟩
      rw [(all S hS).choose_spec] at hm
      cases hm
/-- the letters of the last m units -/
def lst : Nat → List Nat
  | 0 => []
  | 1 => [115]
  | 2 => [109, 115]
  | _ => [104, 109, 115]
theorem idx_none (l : List UInt8) (c : UInt8) (h : c ∉ l) : Go.Lib.indexByte l c = -1 := by
  induction l with
  | nil => rfl
  | cons b l ih =>
    unfold Go.Lib.indexByte
    have h1 : (b == c) = false := by
      rw [beq_eq_false_iff_ne]
      rintro rfl
      exact h (List.mem_cons_self ..)
    rw [h1, ih fun hm => h (List.mem_cons_of_mem _ hm)]
    rfl
theorem oneAt_lets (s : ByteArray) (m q : Nat) (hm : m ≤ 3) (hq : q < s.size) :
    (byte s q ∈ lst m → ∃ k : Int, oneAt s (lets m) q true = (k, q + 1, true) ∧ 0 ≤ k ∧ unitOf (k + 3 - m) = unitL (byte s q) ∧ lst (m - (k + 1).toNat) = behind (byte s q) (lst m) ∧ m - (k + 1).toNat ≤ 3 ∧ m - (k + 1).toNat < m) ∧
    (byte s q ∉ lst m → oneAt s (lets m) q true = (-1, q, false)) := by
  have hb := byte_le s q
  obtain ⟨b, he⟩ : ∃ b, byte s q = b := ⟨_, rfl⟩
  unfold oneAt
  rw [if_pos ⟨rfl, hq⟩, he]
  rw [he] at hb
  by_cases b1 : b = 104
  · subst b1
    have : m = 0 ∨ m = 1 ∨ m = 2 ∨ m = 3 := by omega
    rcases this with rfl | rfl | rfl | rfl
    · exact ⟨fun h => absurd h (by decide), fun _ => by rfl⟩
    · exact ⟨fun h => absurd h (by decide), fun _ => by rfl⟩
    · exact ⟨fun h => absurd h (by decide), fun _ => by rfl⟩
    · exact ⟨fun _ => ⟨0, by rfl, by decide, by decide, by decide, by decide, by decide⟩, fun h => absurd (by decide) h⟩
  by_cases b2 : b = 109
  · subst b2
    have : m = 0 ∨ m = 1 ∨ m = 2 ∨ m = 3 := by omega
    rcases this with rfl | rfl | rfl | rfl
    · exact ⟨fun h => absurd h (by decide), fun _ => by rfl⟩
    · exact ⟨fun h => absurd h (by decide), fun _ => by rfl⟩
    · exact ⟨fun _ => ⟨0, by rfl, by decide, by decide, by decide, by decide, by decide⟩, fun h => absurd (by decide) h⟩
    · exact ⟨fun _ => ⟨1, by rfl, by decide, by decide, by decide, by decide, by decide⟩, fun h => absurd (by decide) h⟩
  by_cases b3 : b = 115
  · subst b3
    have : m = 0 ∨ m = 1 ∨ m = 2 ∨ m = 3 := by omega
    rcases this with rfl | rfl | rfl | rfl
    · exact ⟨fun h => absurd h (by decide), fun _ => by rfl⟩
    · exact ⟨fun _ => ⟨0, by rfl, by decide, by decide, by decide, by decide, by decide⟩, fun h => absurd (by decide) h⟩
    · exact ⟨fun _ => ⟨1, by rfl, by decide, by decide, by decide, by decide, by decide⟩, fun h => absurd (by decide) h⟩
    · exact ⟨fun _ => ⟨2, by rfl, by decide, by decide, by decide, by decide, by decide⟩, fun h => absurd (by decide) h⟩
  have e : (b.toUInt8).toNat = b := by simp; omega
  have hn : b.toUInt8 ∉ ([104, 109, 115] : List UInt8) := fun h => by
    simp only [List.mem_cons, List.not_mem_nil, or_false] at h
    rcases h with h | h | h
    · rw [h] at e; exact b1 e.symm
    · rw [h] at e; exact b2 e.symm
    · rw [h] at e; exact b3 e.symm
  have hi : Go.Lib.indexByte (lets m).data.toList b.toUInt8 = -1 := by
    refine idx_none _ _ fun h => hn ?_
    have : m = 0 ∨ m = 1 ∨ m = 2 ∨ m = 3 := by omega
    rcases this with rfl | rfl | rfl | rfl
    · cases h
    · exact List.mem_cons_of_mem _ (List.mem_cons_of_mem _ h)
    · exact List.mem_cons_of_mem _ h
    · exact h
  refine ⟨fun h => ?_, fun _ => by rw [hi]; rfl⟩
  exfalso
  have : m = 0 ∨ m = 1 ∨ m = 2 ∨ m = 3 := by omega
  rcases this with rfl | rfl | rfl | rfl <;> simp [lst] at h <;> omega
theorem lett_eq (s : ByteArray) : ∀ (f m : Nat) (sum : Int) (p : Nat), 1 ≤ m → m ≤ 3 → m ≤ f → lettLoop s f m sum p true = lettL s f (lst m) sum p
  | 0, m, sum, p, h1, _, hf => by omega
  | f + 1, m, sum, p, h1, h3, hf => by
    have hm0 : m ≠ 0 := by omega
    unfold lettL
    have hx : numAt s 7 0 9999999 true p = num7 s p := rfl
    by_cases hok : numOk 0 true (num7 s p) = true
    · by_cases hlt : (num7 s p).2.2 < s.size
      · obtain ⟨g1, g2⟩ := oneAt_lets s m (num7 s p).2.2 h3 hlt
        by_cases hb : byte s (num7 s p).2.2 ∈ lst m
        · rw [if_pos ⟨hok, hlt, hb⟩]
          obtain ⟨k, e1, e2, e3, e4, e5, e6⟩ := g1 hb
          have hk : oneAt s (lets m) (num7 s p).2.2 (numOk 0 true (num7 s p)) = (k, (num7 s p).2.2 + 1, true) := by rw [hok]; exact e1
          cases hd : digAt s ((num7 s p).2.2 + 1) true with
          | false =>
            rw [if_neg (by simp), lettLoop_last hm0 hx hk (by show ¬ k < 0; omega) hd]
            show (_, _, _) = _
            rw [e3]
          | true =>
            rw [lettLoop_next hm0 hx hk (by show ¬ k < 0; omega) hd]
            show lettLoop s f (m - (k + 1).toNat) _ _ true = _
            rw [e3]
            by_cases hz : behind (byte s (num7 s p).2.2) (lst m) = []
            · rw [if_neg (by rw [hz]; simp)]
              have : m - (k + 1).toNat = 0 := by
                rw [hz] at e4
                have : m - (k + 1).toNat = 0 ∨ m - (k + 1).toNat = 1 ∨ m - (k + 1).toNat = 2 ∨ m - (k + 1).toNat = 3 := by omega
                rcases this with h | h | h | h
                · exact h
                · rw [h] at e4; cases e4
                · rw [h] at e4; cases e4
                · rw [h] at e4; cases e4
              rw [this, lettLoop_end]
            · rw [if_pos ⟨rfl, hz⟩, ← e4]
              refine lett_eq s f _ _ _ ?_ e5 (by omega)
              apply Classical.byContradiction
              intro h
              have h0 : m - (k + 1).toNat = 0 := by omega
              rw [h0] at e4
              exact hz e4.symm
        · rw [if_neg fun h => hb h.2.2]
          have hk : oneAt s (lets m) (num7 s p).2.2 (numOk 0 true (num7 s p)) = (-1, (num7 s p).2.2, false) := by rw [hok]; exact g2 hb
          rw [lettLoop_none hm0 hx hk (by show (-1 : Int) < 0; omega)]
      · rw [if_neg fun h => hlt h.2.1]
        have hk : oneAt s (lets m) (num7 s p).2.2 (numOk 0 true (num7 s p)) = (-1, (num7 s p).2.2, false) := by
          unfold oneAt
          rw [if_neg fun h => hlt h.2]
        rw [lettLoop_none hm0 hx hk (by show (-1 : Int) < 0; omega)]
    · rw [if_neg fun h => hok h.1]
      have hk : oneAt s (lets m) (num7 s p).2.2 (numOk 0 true (num7 s p)) = (-1, (num7 s p).2.2, false) := by
        unfold oneAt
        rw [if_neg fun h => hok h.1]
      rw [lettLoop_none hm0 hx hk (by show (-1 : Int) < 0; omega)]
theorem lettL_nonneg (s : ByteArray) : ∀ (f : Nat) (L : List Nat) (sum : Int) (p : Nat), 0 ≤ sum → 0 ≤ (lettL s f L sum p).1
  | 0, L, sum, p, h => h
  | f + 1, L, sum, p, h => by
    have hv := numAt_val s 7 0 9999999 true p (by omega)
    have hu : ∀ c, 0 ≤ (num7 s p).1 * unitL c := fun c => Int.mul_nonneg hv.1 (by unfold unitL; split <;> (try split) <;> omega)
    unfold lettL
    split
    · have := hu (byte s (num7 s p).2.2)
      split
      · exact lettL_nonneg s f _ _ _ (by omega)
      · show 0 ≤ sum + _
        omega
    · exact Int.le_refl 0
/-- the forms of durations of the reference, and their units -/
def durT : List (List Tok) := [shortT, longT, lform [104], lform [109], lform [104, 109], lform [115], lform [104, 115], lform [109, 115], lform [104, 109, 115]]
def durU : List (List Int) := [[60, 1], [3600, 60, 1], [3600], [60], [3600, 60], [1], [3600, 1], [60, 1], [3600, 60, 1]]
def dotU : List Int → List Int → Int
  | v :: l, u :: r => v * u + dotU l r
  | _, _ => 0
theorem dot_val : ∀ (S : List Nat) (l : List Int), dotU l (S.map unitL) = valL S l
  | [], [] => rfl
  | [], _ :: _ => rfl
  | _ :: _, [] => rfl
  | c :: S, v :: l => by
    show v * unitL c + dotU l (S.map unitL) = v * unitL c + valL S l
    rw [dot_val S l]
theorem match_len {s : ByteArray} : ∀ (S : List Nat) (p : Nat), (∀ c, c ∈ S → c < 256) → (matchT s (lform S) p).2.2 = true → (matchT s (lform S) p).2.1.length = S.length
  | [], p, _, _ => rfl
  | c :: S, p, hc, h => by
    rw [match_step (hc c (List.mem_cons_self ..))] at h ⊢
    split at h
    · rename_i h1
      rw [if_pos h1]
      show (_ :: _).length = _
      rw [List.length_cons, match_len S _ (fun x hx => hc x (List.mem_cons_of_mem _ hx)) h, List.length_cons]
    · cases h
def refDur (s : ByteArray) : Int × Nat × Int :=
  if 1000 < s.size then (0, 0, 3)
  else if (firstT s durT 0 0).1 < 0 then (0, (firstT s durT 0 0).2.2, 6)
  else if 3599999 < dotU (firstT s durT 0 0).2.1 (durU.getD (firstT s durT 0 0).1.toNat []) then (0, 0, 9) else (dotU (firstT s durT 0 0).2.1 (durU.getD (firstT s durT 0 0).1.toNat []), 0, 0)
/-- the first form that is there -/
theorem firstT_some {s : ByteArray} : ∀ (l : List (List Tok)) (i far : Nat), (∃ f, f ∈ l ∧ (matchT s f 0).2.2 = true) → ∃ k f, l[k]? = some f ∧ (matchT s f 0).2.2 = true ∧ (∀ j g, j < k → l[j]? = some g → (matchT s g 0).2.2 = false) ∧ firstT s l i far = (((i + k : Nat) : Int), (matchT s f 0).2.1, 0)
  | [], i, far, h => by obtain ⟨f, h, _⟩ := h; cases h
  | g :: r, i, far, h => by
    cases hg : (matchT s g 0).2.2 with
    | true => exact ⟨0, g, rfl, hg, fun j _ hj => by omega, by unfold firstT; rw [if_pos hg]; rfl⟩
    | false =>
      obtain ⟨f, hf, hm⟩ := h
      have hr : ∃ f, f ∈ r ∧ (matchT s f 0).2.2 = true := by
        rcases List.mem_cons.1 hf with rfl | hf
        · rw [hm] at hg; cases hg
        · exact ⟨f, hf, hm⟩
      obtain ⟨k, f', h1, h2, h3, h4⟩ := firstT_some r (i + 1) (max far (matchT s g 0).1) hr
      refine ⟨k + 1, f', by simpa using h1, h2, fun j g' hj hg' => ?_, ?_⟩
      · cases j with
        | zero =>
          simp only [List.getElem?_cons_zero, Option.some.injEq] at hg'
          subst hg'; exact hg
        | succ j => exact h3 j g' (by omega) (by simpa using hg')
      · unfold firstT
        rw [if_neg (by rw [hg]; simp), h4]
        rw [show i + 1 + k = i + (k + 1) by omega]
theorem seven_sub : Sub [104] [104, 109, 115] ∧ Sub [109] [104, 109, 115] ∧ Sub [104, 109] [104, 109, 115] ∧ Sub [115] [104, 109, 115] ∧ Sub [104, 115] [104, 109, 115] ∧ Sub [109, 115] [104, 109, 115] ∧ Sub [104, 109, 115] [104, 109, 115] :=
  ⟨.one, .skip .one, .more .one, .skip (.skip .one), .more (.skip .one), .skip (.more .one), .more (.more .one)⟩
theorem sub_seven {S : List Nat} (h : Sub S [104, 109, 115]) : S = [104] ∨ S = [109] ∨ S = [104, 109] ∨ S = [115] ∨ S = [104, 115] ∨ S = [109, 115] ∨ S = [104, 109, 115] := by
  have h1 : ∀ {S}, Sub S [115] → S = [115] := by
    intro S h
    cases h with
    | one => rfl
    | more h => cases h
    | skip h => cases h
  have h2 : ∀ {S}, Sub S [109, 115] → S = [109] ∨ S = [109, 115] ∨ S = [115] := by
    intro S h
    cases h with
    | one => exact Or.inl rfl
    | more h => exact Or.inr (Or.inl (by rw [h1 h]))
    | skip h => exact Or.inr (Or.inr (h1 h))
  cases h with
  | one => simp
  | more h => rcases h2 h with rfl | rfl | rfl <;> simp
  | skip h => rcases h2 h with rfl | rfl | rfl <;> simp
theorem lettered_ok (s : ByteArray) : LetOk s [104, 109, 115] 0 0 (letteredF s) := by
  unfold letteredF
  rw [lett_eq s 3 3 0 0 (by omega) (by omega) (by omega)]
  exact (letOk s 3 [104, 109, 115] 0 0 (by simp) (by simp) (by intro c hc; simp at hc; omega)).1
theorem dur_eq (s : ByteArray) : refDur s = ranged (readForms s [shortF, longF, letteredF]) 0 3599999 := by
  unfold refDur readForms
  by_cases hz : 1000 < s.size
  · rw [if_pos hz, if_pos hz]; rfl
  rw [if_neg hz, if_neg hz]
  obtain ⟨a, ha⟩ : ∃ o, shortF s = o := ⟨_, rfl⟩
  obtain ⟨b, hb⟩ : ∃ o, longF s = o := ⟨_, rfl⟩
  have hc0 := lettered_ok s
  have hcn : 0 ≤ (letteredF s).1 := by
    unfold letteredF
    rw [lett_eq s 3 3 0 0 (by omega) (by omega) (by omega)]
    exact lettL_nonneg _ _ _ _ _ (Int.le_refl 0)
  obtain ⟨c, hc⟩ : ∃ o, letteredF s = o := ⟨_, rfl⟩
  rw [hc] at hc0 hcn
  obtain ⟨a1, a2, a3⟩ := short_match s a ha
  obtain ⟨b1, b2, b3⟩ := long_match s b hb
  simp only [formsLoop, ha, hb, hc]
  have fin : ∀ (k : Nat) (f : List Tok) (l : List Int) (v : Int), durT[k]? = some f → 0 ≤ v → firstT s durT 0 0 = (((0 + k : Nat) : Int), l, 0) → dotU l (durU.getD k []) = v →
      (if (firstT s durT 0 0).1 < 0 then (0, (firstT s durT 0 0).2.2, 6) else if 3599999 < dotU (firstT s durT 0 0).2.1 (durU.getD (firstT s durT 0 0).1.toNat []) then (0, 0, 9) else (dotU (firstT s durT 0 0).2.1 (durU.getD (firstT s durT 0 0).1.toNat []), 0, 0)) = ranged (v, 0, 0) 0 3599999 := by
    intro k f l v _ hv he hd
    rw [he]
    simp only [Nat.zero_add]
    rw [if_neg (by omega), Int.toNat_natCast, hd]
    unfold ranged
    by_cases h : 3599999 < v
    · rw [if_pos h, if_pos ⟨rfl, Or.inr h⟩]
    · rw [if_neg h, if_neg (by rintro ⟨_, h1⟩; simp only at h1; omega)]
  by_cases hA : (matchT s shortT 0).2.2 = true
  · rw [if_pos (show (a.2.2 && decide (a.2.1 = s.size)) = true by rw [← a2]; exact hA)]
    obtain ⟨x, y, hx, hy, hl, hv⟩ := a3 hA
    have he := firstT_at (s := s) durT 0 0 0 shortT rfl hA (fun j _ hj => by omega)
    refine fin 0 shortT _ a.1 rfl (by omega) he ?_
    rw [hl]
    show x * 60 + (y * 1 + 0) = _
    omega
  rw [if_neg (show ¬ (a.2.2 && decide (a.2.1 = s.size)) = true by rw [← a2]; exact hA)]
  by_cases hB : (matchT s longT 0).2.2 = true
  · rw [if_pos (show (b.2.2 && decide (b.2.1 = s.size)) = true by rw [← b2]; exact hB)]
    obtain ⟨x, y, z, hx, hy, hz', hl, hv⟩ := b3 hB
    have he := firstT_at (s := s) durT 0 0 1 longT rfl hB (fun j g hj hg => by
      obtain rfl : j = 0 := by omega
      simp only [durT, List.getElem?_cons_zero, Option.some.injEq] at hg
      subst hg
      simpa using hA)
    refine fin 1 longT _ b.1 rfl (by omega) he ?_
    rw [hl]
    show x * 3600 + (y * 60 + (z * 1 + 0)) = _
    omega
  rw [if_neg (show ¬ (b.2.2 && decide (b.2.1 = s.size)) = true by rw [← b2]; exact hB)]
  obtain ⟨s1, s2, s3, s4, s5, s6, s7⟩ := seven_sub
  by_cases hC : (c.2.2 && decide (c.2.1 = s.size)) = true
  · rw [if_pos hC]
    have hC := hC
    simp only [Bool.and_eq_true, decide_eq_true_eq] at hC
    have hex : ∃ f, f ∈ durT ∧ (matchT s f 0).2.2 = true := by
      obtain ⟨S, hS, hm⟩ := hc0.back hC.1 hC.2
      refine ⟨lform S, ?_, hm⟩
      rcases sub_seven hS with rfl | rfl | rfl | rfl | rfl | rfl | rfl <;> simp [durT]
    obtain ⟨k, f, hk, hm, hfirst, he⟩ := firstT_some durT 0 0 hex
    have key : ∀ S, Sub S [104, 109, 115] → f = lform S → durU.getD k [] = S.map unitL → dotU (matchT s f 0).2.1 (durU.getD k []) = c.1 := fun S hS hf hu => by
      subst hf
      rw [hu, dot_val, (hc0.good S hS hm).2.2]
      omega
    refine fin k f _ c.1 hk hcn he ?_
    match k, hk with
    | 0, hk => injection hk with hk; subst hk; exact absurd hm hA
    | 1, hk => injection hk with hk; subst hk; exact absurd hm hB
    | 2, hk => injection hk with hk; exact key [104] s1 hk.symm rfl
    | 3, hk => injection hk with hk; exact key [109] s2 hk.symm rfl
    | 4, hk => injection hk with hk; exact key [104, 109] s3 hk.symm rfl
    | 5, hk => injection hk with hk; exact key [115] s4 hk.symm rfl
    | 6, hk => injection hk with hk; exact key [104, 115] s5 hk.symm rfl
    | 7, hk => injection hk with hk; exact key [109, 115] s6 hk.symm rfl
    | 8, hk => injection hk with hk; exact key [104, 109, 115] s7 hk.symm rfl
    | k + 9, hk => simp [durT] at hk
  · rw [if_neg hC]
    have hno : ∀ f, f ∈ durT → (matchT s f 0).2.2 = false := fun f hf => by
      have bad : ∀ S, Sub S [104, 109, 115] → (matchT s (lform S) 0).2.2 = false := fun S hS => by
        cases h : (matchT s (lform S) 0).2.2 with
        | false => rfl
        | true =>
          obtain ⟨g1, g2, _⟩ := hc0.good S hS h
          exact absurd (by rw [g1]; simpa using g2) hC
      simp only [durT, List.mem_cons, List.not_mem_nil, or_false] at hf
      rcases hf with rfl | rfl | rfl | rfl | rfl | rfl | rfl | rfl | rfl
      · simpa using hA
      · simpa using hB
      · exact bad _ s1
      · exact bad _ s2
      · exact bad _ s3
      · exact bad _ s4
      · exact bad _ s5
      · exact bad _ s6
      · exact bad _ s7
    rw [firstT_none durT 0 0 hno, if_pos (by show (-1 : Int) < 0; omega)]
    have hmax : (durT.foldl (fun a f => max a (matchT s f 0).1) 0) = max (max (max 0 a.2.1) b.2.1) c.2.1 := by
      have m1 := hc0.most _ s1
      have m2 := hc0.most _ s2
      have m3 := hc0.most _ s3
      have m4 := hc0.most _ s4
      have m5 := hc0.most _ s5
      have m6 := hc0.most _ s6
      have m7 := hc0.most _ s7
      have hh : (matchT s (lform [104]) 0).1 = c.2.1 ∨ (matchT s (lform [109]) 0).1 = c.2.1 ∨ (matchT s (lform [104, 109]) 0).1 = c.2.1 ∨ (matchT s (lform [115]) 0).1 = c.2.1 ∨ (matchT s (lform [104, 115]) 0).1 = c.2.1 ∨ (matchT s (lform [109, 115]) 0).1 = c.2.1 ∨ (matchT s (lform [104, 109, 115]) 0).1 = c.2.1 := by
        obtain ⟨S, hS, hm⟩ := hc0.here
        rcases sub_seven hS with rfl | rfl | rfl | rfl | rfl | rfl | rfl <;> simp [hm]
      simp only [durT, List.foldl, a1, b1]
      omega
    show (_, _, _) = _
    rw [hmax]
    rfl
end Rd

/- The rounds of a token's number, in plain words. -/
namespace Rd
/-- are digits the beginning of a number of a token? (a token whose least number is 0 or 1) -/
def begF (digits : Nat) (low high : Int) (size b0 : Nat) (n : Int) : Bool := decide (size ≤ digits) && !(decide (1 < size) && decide (b0 = 48)) && decide (n ≤ high) && decide (low ≤ n)
/-- m digits from p on were taken -/
structure NumSt (s : ByteArray) (digits : Nat) (low high : Int) (p m : Nat) (n : Int) : Prop where
  row : DigRow s p m n
  zero : 0 < m → (n = 0 ↔ byte s p = 48)
  left : numLoop s digits low high true (digits - m) n m (p + m) = numAt s digits low high true p
  le : m ≤ digits
section
variable {s : ByteArray} {digits p m : Nat} {low high n : Int}
theorem NumSt.start (h : p ≤ s.size) : NumSt s digits low high p 0 0 := ⟨.zero h, fun h => by omega, rfl, Nat.zero_le _⟩
theorem NumSt.next (h : NumSt s digits low high p m n) (hd : digAt s (p + m) true = true) (hb : begF digits low high (m + 1) (byte s p) (10 * n + ((byte s (p + m) : Int) - 48)) = true) :
    NumSt s digits low high p (m + 1) (10 * n + ((byte s (p + m) : Int) - 48)) := by
  unfold begF at hb
  simp only [Bool.and_eq_true, decide_eq_true_eq, Bool.not_eq_true', Bool.and_eq_false_iff, decide_eq_false_iff_not] at hb
  obtain ⟨⟨⟨h1, h2⟩, h3⟩, h4⟩ := hb
  have hn := h.row.lt
  obtain ⟨_, _, h48, h57⟩ := digAt_true hd
  refine ⟨h.row.next hd, fun _ => ?_, ?_, h1⟩
  · rcases Nat.eq_zero_or_pos m with rfl | hm
    · have := hn.2
      simp at this
      have : n = 0 := by omega
      subst this
      simp only [Nat.add_zero] at h48 h57 ⊢
      omega
    · have hz := h.zero hm
      rcases h2 with h2 | h2
      · omega
      · have : n ≠ 0 := fun e => h2 (hz.1 e)
        constructor
        · intro e; omega
        · intro e; exact absurd e h2
  · rw [← h.left, show digits - m = (digits - (m + 1)) + 1 by omega, numLoop_next ⟨by omega, hd⟩ ?_]
    · rw [Nat.add_assoc]
    · unfold stops
      simp only [Bool.or_eq_false_iff, Bool.and_eq_false_iff, decide_eq_false_iff_not]
      refine ⟨⟨?_, by omega⟩, by omega⟩
      rcases Nat.eq_zero_or_pos m with hm | hm
      · exact Or.inl (by omega)
      · rcases h2 with h2 | h2
        · omega
        · exact Or.inr fun e => h2 ((h.zero hm).1 e)
theorem NumSt.stop (h : NumSt s digits low high p m n) (hd : digAt s (p + m) true = false) : numAt s digits low high true p = (n, m, p + m) := by
  rw [← h.left]
  exact numLoop_stop (by rw [hd]; simp)
theorem NumSt.halt (h : NumSt s digits low high p m n) (hlow : low = 0 ∨ low = 1) (hd : digAt s (p + m) true = true) (hb : begF digits low high (m + 1) (byte s p) (10 * n + ((byte s (p + m) : Int) - 48)) = false) : numAt s digits low high true p = (n, m, p + m) := by
  rw [← h.left]
  by_cases hm : m < digits
  · refine numLoop_break ⟨hm, hd⟩ ?_
    unfold stops
    unfold begF at hb
    simp only [Bool.and_eq_false_iff, decide_eq_false_iff_not, Bool.not_eq_false', Bool.and_eq_true, decide_eq_true_eq] at hb
    simp only [Bool.or_eq_true, Bool.and_eq_true, decide_eq_true_eq]
    have hn := h.row.lt
    obtain ⟨_, _, h48, h57⟩ := digAt_true hd
    rcases hb with ((hb | hb) | hb) | hb
    · omega
    · exact Or.inl (Or.inl ⟨by omega, (h.zero (by omega)).2 hb.2⟩)
    · exact Or.inl (Or.inr (by omega))
    · exact Or.inr ⟨by omega, by omega⟩
  · exact numLoop_stop (fun e => hm e.1)
end
/-- m digits of a row from p on were taken -/
structure RowSt (s : ByteArray) (digits p m : Nat) (n : Int) : Prop where
  row : DigRow s p m n
  left : rowLoop s digits true (digits - m) n m (p + m) = rowAt s digits true p
  le : m ≤ digits
section
variable {s : ByteArray} {digits p m : Nat} {n : Int}
theorem RowSt.start (h : p ≤ s.size) : RowSt s digits p 0 0 := ⟨.zero h, rfl, Nat.zero_le _⟩
theorem rowLoop_stop {ok : Bool} {f : Nat} (h : ¬ (m < digits ∧ digAt s p ok = true)) : rowLoop s digits ok f n m p = (n, m, p) := by
  cases f <;> simp [rowLoop, h]
theorem RowSt.next (h : RowSt s digits p m n) (hm : m < digits) (hd : digAt s (p + m) true = true) : RowSt s digits p (m + 1) (10 * n + ((byte s (p + m) : Int) - 48)) := by
  refine ⟨h.row.next hd, ?_, hm⟩
  rw [← h.left, show digits - m = (digits - (m + 1)) + 1 by omega]
  conv => rhs; rw [rowLoop]
  rw [if_pos ⟨hm, hd⟩, Nat.add_assoc]
theorem RowSt.stop (h : RowSt s digits p m n) (hd : ¬ (m < digits ∧ digAt s (p + m) true = true)) : rowAt s digits true p = (n, m, p + m) := by
  rw [← h.left]
  exact rowLoop_stop hd
end
/-- what the forms' tokens are like -/
def TokOk (t : Tok) : Prop :=
  (t.kind = 1 ∧ t.text.size ≤ 100) ∨ (t.kind = 2 ∧ (t.low = 0 ∨ t.low = 1) ∧ 0 ≤ t.high ∧ t.high ≤ 9999999999999 ∧ t.digits ≤ 13) ∨ (t.kind = 3 ∧ 0 ≤ t.high ∧ t.high ≤ 99) ∨ (t.kind = 4 ∧ t.digits ≤ 6 )
end Rd

/- A region that draws its order, whose operations only read, but whose callees may make memory: one walk in the order of the text (the kit's law wp_region_quiet at the class 'all that was there is as it was'). -/
namespace Go.Proofs.YthimnjegacdhaaaGreatDoor
open Go.RowKit Go.BigFrame

/-- a world in which all that was there is as it was -/
def Ext (W : World) : Type := { w : World // Below W.heap.size W w }
instance (W : World) : Nonempty (Ext W) := ⟨⟨W, Below.refl _ _⟩⟩
theorem Ext.ex {W : World} {p : Addr} {v : Value} (h : W.cell? p = some v) : ∀ X : Ext W, X.1.cell? p = some v := fun X => below_cell X.2 h
theorem Ext.exa {W : World} {p : Addr} {v : Value} (e : ∀ X : Ext W, X.1.cell? p = some v) : ∀ (X : Ext W) (o : Obj), (X.1.alloc o).cell? p = some v := fun X o => below_cell (below_al _ o) (e X)
theorem Ext.calls {P : Program} {W : World} {f : FuncId} {args : Array Value} {v : Value} (X : Ext W) (h : Calls P f args X.1 fun e w' => e = .returned v ∧ Below X.1.heap.size X.1 w') : Calls P f args X.1 fun e w'' => e = .returned v ∧ ∃ Y : Ext W, w'' = Y.1 :=
  h.mono fun _ w'' ⟨he, hb⟩ => ⟨he, ⟨w'', below_step X.2 hb⟩, rfl⟩
theorem Ext.same {P : Program} {W : World} {f : FuncId} {args : Array Value} {v : Value} (X : Ext W) (h : Calls P f args X.1 fun e w' => e = .returned v ∧ X.1 = w') : Calls P f args X.1 fun e w'' => e = .returned v ∧ ∃ Y : Ext W, w'' = Y.1 :=
  h.mono fun _ _ ⟨he, hb⟩ => ⟨he, X, hb.symm⟩
theorem wp_region_ext {P : Program} {id : Nat} {Q : Exit → Act → World → Prop} {a : Act} {W : World} (X : Ext W) {l : List Oper} (hm : P.follows .mixedOrders = true) (hB : Region.lexB .any l.toArray = true)
    (h : wpQuiet P l.toArray (fun w' => ∃ Y : Ext W, w' = Y.1) (fun a' => ∀ w', (∃ Y : Ext W, w' = Y.1) → Q .normal a' w') l a) : (Code.region id l.toArray true).wp P Q a X.1 :=
  wp_region_quiet (C := fun w' => ∃ Y : Ext W, w' = Y.1) hm hB ⟨⟨{ X.1 with drawn := X.1.drawn + 1 }, below_step X.2 ⟨rfl, rfl, rfl, Nat.le_refl _, fun _ _ => rfl⟩⟩, rfl⟩ (by simpa using h)
/-- the world behind an allocation of cells, under one name -/
theorem alloc_cells (w : World) (cs : Array Value) (T : TypeId) : ∃ W, w.alloc (.cells cs T) = W ∧ Below w.heap.size w W ∧ W.heap.size = w.heap.size + 1 ∧ ∀ i v, cs[i]? = some v → W.cell? ⟨w.heap.size, i, none⟩ = some v :=
  ⟨_, rfl, below_al _ _, by simp, fun i v h => by rw [World.cell?_alloc_at _ _ _ _ rfl, h]⟩
/-- go on in an arbitrary later world -/
theorem ext_wp {P : Program} {c : Code} {Q : Exit → Act → World → Prop} {a : Act} {W : World} (h : ∀ X : Ext W, c.wp P Q a X.1) : c.wp P Q a W := h ⟨W, Below.refl _ _⟩
theorem ext_calls {P : Program} {f : FuncId} {args : Array Value} {R : Ending → World → Prop} {W : World} (h : ∀ X : Ext W, Calls P f args X.1 R) : Calls P f args W R := h ⟨W, Below.refl _ _⟩
theorem Ext.down {W : World} (X : Ext W) {B : Nat} {w : World} (h : Below B w W) (hB : B ≤ W.heap.size) : Below B w X.1 := h.trans (X.2.mono hB)
/-- a later base -/
theorem Ext.re {W W' : World} (h : Below W.heap.size W W') {p : Addr} {v : Value} (e : ∀ X : Ext W, X.1.cell? p = some v) : ∀ X : Ext W', X.1.cell? p = some v := fun X => e ⟨X.1, below_step h X.2⟩
end Go.Proofs.YthimnjegacdhaaaGreatDoor

/- Slices of structs of one-cell fields that came in: how they read (any program). -/
namespace Go.Proofs.YthimnjegacdhaaaGreatDoor
open Go.RowKit Go.ChangeShapes Go.WideShapes Go.Deep

/-- a slice of structs of k one-cell fields, as it lies in memory: element i has the cells V i -/
structure RowK (w : World) (a : Option Addr) (len k : Nat) (V : Nat → List Value) : Prop where
  here : 0 < len → ∃ b off, a = some ⟨b, off, none⟩ ∧ b < w.heap.size ∧ ∀ i, i < len → ∀ j, j < k → w.cell? ⟨b, off + i * k + j, none⟩ = (V i)[j]?
theorem RowK.below {w w' : World} {a : Option Addr} {len k B : Nat} {V : Nat → List Value} (h : RowK w a len k V) (hb : Below B w w') (hB : w.heap.size ≤ B) : RowK w' a len k V := by
  refine ⟨fun hl => ?_⟩
  obtain ⟨b, off, rfl, hlt, hc⟩ := h.here hl
  exact ⟨b, off, rfl, Nat.lt_of_lt_of_le hlt hb.size, fun i hi j hj => (hb.cell (p := ⟨b, off + i * k + j, none⟩) (Nat.lt_of_lt_of_le hlt hB)).trans (hc i hi j hj)⟩

theorem RowK.at {w : World} {b off len k : Nat} {V : Nat → List Value} (h : RowK w (some ⟨b, off, none⟩) len k V) {i j : Nat} (hi : i < len) (hj : j < k) : w.cell? ⟨b, off + i * k + j, none⟩ = (V i)[j]? := by
  obtain ⟨b', off', he, _, hc⟩ := h.here (by omega)
  injection he with he
  injection he with h1 h2
  subst h1
  subst h2
  exact hc i hi j hj

section
variable {H : Type} {enc : TypeId × Value → H} {P : Program} {w : World} {base : Nat}
theorem open_rowK {t e : TypeId} {fs : Array Field} {fuel : Nat} {v : Value} {x : DataW H × List MemPlace} (ht : P.underlying t = some (.slice e)) (he : P.underlying e = some (.struct fs)) (hC : P.cellsOf e = fs.size) (hfs : 0 < fs.size)
    (hone : ∀ (i : Nat) (f : Field), fs[i]? = some f → f.offset = i ∧ P.cellsOf f.type = 1) (h : DataW.trod enc P w base (fun _ => true) true fuel t [v] = some x) :
    ∃ (a : Option Addr) (len cap : Nat) (V : Nat → List Value), v = .slice a len cap ∧ len ≤ cap ∧ cap ≤ maxLen ∧ RowK w a len fs.size V ∧
      ∀ i, i < len → (V i).length = fs.size ∧ ∀ (j : Nat) (f : Field), fs[j]? = some f → ∃ u n y, (V i)[j]? = some u ∧ DataW.trod enc P w base (fun _ => true) true n f.type [u] = some y := by
  rcases open_slice ht h with ⟨hc, _⟩ | ⟨a, len, cap, m, n, D, Pl, hc, _, hl, hm, hmm, _, hx⟩
  · simp only [List.cons.injEq, and_true] at hc
    exact ⟨none, 0, 0, fun _ => [], hc, Nat.le_refl _, Nat.zero_le _, ⟨fun h => absurd h (by omega)⟩, fun i hi => absurd hi (by omega)⟩
  · simp only [List.cons.injEq, and_true] at hc
    simp only [if_true] at hmm
    subst hmm
    have each : ∀ i, i < m → ∃ cs : List Value, cs.length = fs.size ∧ (∀ j, j < fs.size → w.cell? (a.add (i * fs.size + j)) = cs[j]?) ∧ ∀ (j : Nat) (f : Field), fs[j]? = some f → ∃ u n y, cs[j]? = some u ∧ DataW.trod enc P w base (fun _ => true) true n f.type [u] = some y := by
      intro i hi
      obtain ⟨cs, h1, h2⟩ := hx i hi
      rw [hC] at h1
      obtain ⟨_, hlen, hcell⟩ := World.cells?_some h1
      obtain ⟨xs, k, _, _, _, hxl, hf⟩ := DataW.trod_struct he h2
      refine ⟨cs, hlen, fun j hj => by rw [← add_add]; exact hcell j (by omega), fun j f hj => ?_⟩
      obtain ⟨o1, o2⟩ := hone j f hj
      have g := hf j f hj
      rw [o1, o2] at g
      have hjl : j < cs.length := by
        rw [hlen]
        exact (Array.getElem?_eq_some_iff.1 hj).1
      have hjx : j < xs.length := by rw [hxl]; rw [hlen] at hjl; exact hjl
      have e1 : (cs.drop j).take 1 = [cs[j]] := by rw [List.drop_eq_getElem_cons hjl]; rfl
      rw [e1, List.getElem?_eq_getElem hjx] at g
      exact ⟨cs[j], k, xs[j], List.getElem?_eq_getElem hjl, g⟩
    obtain ⟨V, hV⟩ := choose_lt each
    refine ⟨some a, len, m, V, hc, hl, hm, ⟨fun hl0 => ?_⟩, fun i hi => ⟨(hV i (by omega)).1, (hV i (by omega)).2.2⟩⟩
    obtain ⟨b, o, sp⟩ := a
    have hc0 : ∃ u, w.cell? ((⟨b, o, sp⟩ : Addr).add (0 * fs.size + 0)) = some u := by
      obtain ⟨g1, g2, g3⟩ := hV 0 (by omega)
      exact ⟨(V 0)[0]'(by omega), by rw [g2 0 hfs, List.getElem?_eq_getElem]⟩
    obtain ⟨u, hu⟩ := hc0
    have hspot : sp = none := by simpa [Addr.add] using World.cell?_spot hu
    subst hspot
    rw [Nat.zero_mul, add_plain] at hu
    refine ⟨b, o, rfl, World.block_lt_of_cell? w _ hu, fun i hi j hj => ?_⟩
    have := (hV i (by omega)).2.1 j hj
    rw [add_plain, ← Nat.add_assoc] at this
    exact this
end
end Go.Proofs.YthimnjegacdhaaaGreatDoor
