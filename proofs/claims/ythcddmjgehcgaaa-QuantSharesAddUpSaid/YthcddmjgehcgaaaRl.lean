/- Durations with letters, in plain words. -/
import Derived.Test.YthcddmjgehcgaaaRf
namespace Rd
/-- the last m of the letters h, m, s -/
def lets : Nat → ByteArray
  | 0 => ⟨#[]⟩
  | 1 => ⟨#[115]⟩
  | 2 => ⟨#[109, 115]⟩
  | _ => ⟨#[104, 109, 115]⟩
def unitOf (i : Int) : Int := if i = 0 then 3600 else if i = 1 then 60 else 1
def lettLoop (s : ByteArray) : Nat → Nat → Int → Nat → Bool → Int × Nat × Bool
  | 0, _, sum, p, ok => (sum, p, ok)
  | f + 1, m, sum, p, ok =>
    if m = 0 then (sum, p, ok) else
    let x := numAt s 7 0 9999999 ok p
    let k := oneAt s (lets m) x.2.2 (numOk 0 ok x)
    if k.1 < 0 then (0, k.2.1, k.2.2) else
    let sum' := sum + x.1 * unitOf (k.1 + 3 - m)
    if digAt s k.2.1 k.2.2 = true then lettLoop s f (m - (k.1 + 1).toNat) sum' k.2.1 k.2.2 else (sum', k.2.1, k.2.2)
def letteredF (s : ByteArray) : Int × Nat × Bool := lettLoop s 3 3 0 0 true
theorem lettLoop_end {s : ByteArray} {f : Nat} {sum : Int} {p : Nat} {ok : Bool} : lettLoop s f 0 sum p ok = (sum, p, ok) := by cases f <;> simp [lettLoop]
theorem lettLoop_none {s : ByteArray} {f m : Nat} {sum : Int} {p : Nat} {ok : Bool} {x : Int × Nat × Nat} {k : Int × Nat × Bool} (hm : m ≠ 0) (hx : numAt s 7 0 9999999 ok p = x) (hk : oneAt s (lets m) x.2.2 (numOk 0 ok x) = k) (h : k.1 < 0) :
    lettLoop s (f + 1) m sum p ok = (0, k.2.1, k.2.2) := by simp [lettLoop, hm, hx, hk, h]
theorem lettLoop_last {s : ByteArray} {f m : Nat} {sum : Int} {p : Nat} {ok : Bool} {x : Int × Nat × Nat} {k : Int × Nat × Bool} (hm : m ≠ 0) (hx : numAt s 7 0 9999999 ok p = x) (hk : oneAt s (lets m) x.2.2 (numOk 0 ok x) = k) (h : ¬ k.1 < 0)
    (hd : digAt s k.2.1 k.2.2 = false) : lettLoop s (f + 1) m sum p ok = (sum + x.1 * unitOf (k.1 + 3 - m), k.2.1, k.2.2) := by simp [lettLoop, hm, hx, hk, h, hd]
theorem lettLoop_next {s : ByteArray} {f m : Nat} {sum : Int} {p : Nat} {ok : Bool} {x : Int × Nat × Nat} {k : Int × Nat × Bool} (hm : m ≠ 0) (hx : numAt s 7 0 9999999 ok p = x) (hk : oneAt s (lets m) x.2.2 (numOk 0 ok x) = k) (h : ¬ k.1 < 0)
    (hd : digAt s k.2.1 k.2.2 = true) : lettLoop s (f + 1) m sum p ok = lettLoop s f (m - (k.1 + 1).toNat) (sum + x.1 * unitOf (k.1 + 3 - m)) k.2.1 k.2.2 := by simp [lettLoop, hm, hx, hk, h, hd]
theorem indexByte_lt (l : List UInt8) (c : UInt8) : Go.Lib.indexByte l c < l.length := by
  induction l with
  | nil => simp [Go.Lib.indexByte]
  | cons b l ih =>
    unfold Go.Lib.indexByte
    simp only [List.length_cons]
    split
    · omega
    · split <;> omega
theorem oneAt_lt (s t : ByteArray) (p : Nat) (ok : Bool) : (oneAt s t p ok).1 < t.size ∨ (oneAt s t p ok).1 < 0 := by
  unfold oneAt
  split
  · have := indexByte_lt t.data.toList (byte s p).toUInt8
    have e : (t.data.toList.length : Int) = t.size := rfl
    dsimp only
    split
    · left; show Go.Lib.indexByte _ _ < _; omega
    · right; show Go.Lib.indexByte _ _ < _; omega
  · right; show (-1 : Int) < 0; omega
theorem numAt_val (s : ByteArray) (digits : Nat) (least most : Int) (ok : Bool) (p : Nat) (hm : 0 ≤ most) : 0 ≤ (numAt s digits least most ok p).1 ∧ (numAt s digits least most ok p).1 ≤ most := by
  have := numLoop_val s digits least most ok digits 0 0 p (by omega) (by omega)
  unfold numAt; omega
end Rd
