/- What the functions of a reader do, in plain words. -/
import Derived.Lib.Bytealg
namespace Rd
def byte (s : ByteArray) (p : Nat) : Nat := if h : p < s.size then s[p].toNat else 0
def isD (c : Nat) : Bool := decide (48 ≤ c) && decide (c ≤ 57)
/-- whether a digit comes next -/
def digAt (s : ByteArray) (p : Nat) (ok : Bool) : Bool := ok && (decide (p < s.size) && isD (byte s p))
theorem byte_lt {s : ByteArray} {p : Nat} (h : p < s.size) : byte s p = s[p].toNat := by unfold byte; rw [dif_pos h]
theorem byte_le (s : ByteArray) (p : Nat) : byte s p < 256 := by
  unfold byte; split
  · exact UInt8.toNat_lt _
  · omega
theorem isD_bounds {c : Nat} (h : isD c = true) : 48 ≤ c ∧ c ≤ 57 := by unfold isD at h; simpa using h
theorem digAt_true {s : ByteArray} {p : Nat} {ok : Bool} (h : digAt s p ok = true) : ok = true ∧ p < s.size ∧ 48 ≤ byte s p ∧ byte s p ≤ 57 := by
  unfold digAt isD at h; simpa using h
/-- does a number of a form stop before a further digit? -/
def stops (least most n next : Int) (m : Nat) : Bool := (decide (0 < m) && decide (n = 0)) || decide (most < next) || (decide (next = 0) && decide (0 < least))
/-- the rounds of 'number': what was read so far, how many digits, and where -/
def numLoop (s : ByteArray) (digits : Nat) (least most : Int) (ok : Bool) : Nat → Int → Nat → Nat → Int × Nat × Nat
  | 0, n, m, p => (n, m, p)
  | f + 1, n, m, p =>
    if m < digits ∧ digAt s p ok = true then
      if stops least most n (10 * n + ((byte s p : Int) - 48)) m = true then (n, m, p)
      else numLoop s digits least most ok f (10 * n + ((byte s p : Int) - 48)) (m + 1) (p + 1)
    else (n, m, p)
def numAt (s : ByteArray) (digits : Nat) (least most : Int) (ok : Bool) (p : Nat) : Int × Nat × Nat := numLoop s digits least most ok digits 0 0 p
def numOk (least : Int) (ok : Bool) (x : Int × Nat × Nat) : Bool := ok && decide (0 < x.2.1) && decide (least ≤ x.1)
theorem numLoop_stop {s : ByteArray} {digits : Nat} {least most : Int} {ok : Bool} {f : Nat} {n : Int} {m p : Nat} (h : ¬ (m < digits ∧ digAt s p ok = true)) :
    numLoop s digits least most ok f n m p = (n, m, p) := by
  cases f <;> simp [numLoop, h]
theorem numLoop_break {s : ByteArray} {digits : Nat} {least most : Int} {ok : Bool} {f : Nat} {n : Int} {m p : Nat} (h : m < digits ∧ digAt s p ok = true)
    (h2 : stops least most n (10 * n + ((byte s p : Int) - 48)) m = true) : numLoop s digits least most ok f n m p = (n, m, p) := by
  cases f <;> simp [numLoop, h, h2]
theorem numLoop_next {s : ByteArray} {digits : Nat} {least most : Int} {ok : Bool} {f : Nat} {n : Int} {m p : Nat} (h : m < digits ∧ digAt s p ok = true)
    (h2 : stops least most n (10 * n + ((byte s p : Int) - 48)) m = false) :
    numLoop s digits least most ok (f + 1) n m p = numLoop s digits least most ok f (10 * n + ((byte s p : Int) - 48)) (m + 1) (p + 1) := by
  simp [numLoop, h, h2]
/-- two digits -/
def pairStep (s : ByteArray) (most unit : Int) (x : Int × Nat × Bool) : Int × Nat × Bool :=
  if digAt s x.2.1 x.2.2 = true ∧ x.1 + unit * ((byte s x.2.1 : Int) - 48) ≤ most then (x.1 + unit * ((byte s x.2.1 : Int) - 48), x.2.1 + 1, true) else (x.1, x.2.1, false)
def pairAt (s : ByteArray) (most : Int) (p : Nat) (ok : Bool) : Int × Nat × Bool := pairStep s most 1 (pairStep s most 10 (0, p, ok))
/-- just these bytes: from the i-th on -/
def exactLoop (s t : ByteArray) : Nat → Nat → Nat → Nat × Bool
  | 0, _, p => (p, true)
  | f + 1, i, p => if i < t.size then (if p < s.size ∧ byte s p = byte t i then exactLoop s t f (i + 1) (p + 1) else (p, false)) else (p, true)
def exactAt (s t : ByteArray) (p : Nat) (ok : Bool) : Nat × Bool := if ok = true then exactLoop s t t.size 0 p else (p, false)
def oneAt (s t : ByteArray) (p : Nat) (ok : Bool) : Int × Nat × Bool :=
  if ok = true ∧ p < s.size then
    let k := Go.Lib.indexByte t.data.toList (byte s p).toUInt8
    if 0 ≤ k then (k, p + 1, true) else (k, p, false)
  else (-1, p, false)
end Rd
