/- Gear: a garage as data, and what Check returns, in plain functions. -/
import Derived.Test.YtbkpoepacjinlaaProg
import Derived.Test.YtbkpoepacjinlaaGm
namespace Go.Proofs.Ytbkpoepacjinlaa
open Go

def nameC (x : Int) : Bool := (decide (97 ≤ x) && decide (x ≤ 122)) || (decide (65 ≤ x) && decide (x ≤ 90)) || (decide (48 ≤ x) && decide (x ≤ 57)) || decide (x = 45) || decide (x = 95) || decide (x = 46)
def nameB (s : ByteArray) : Bool := decide (1 ≤ s.size) && decide (s.size ≤ 60) && s.data.toList.all fun c => nameC c.toNat
/-- a stands before b -/
def strLt (a b : ByteArray) : Bool := Op.bytesLess a.toList b.toList
structure Gar where
  np : Nat
  ns : Nat
  nm : Nat
  nu : Nat
  pn : Nat → ByteArray
  pc : Nat → Int
  sn : Nat → ByteArray
  sr : Nat → ByteArray
  ms : Nat → ByteArray
  mp : Nat → ByteArray
  mf : Nat → Int
  mt : Nat → Int
  un : Nat → ByteArray
  ur : Nat → ByteArray
  uf : Nat → Int
  us : Nat → Int
  uw : Nat → Int
namespace Gar
def momG (n : Int) : Bool := decide (0 ≤ n) && decide (n ≤ 86399999999)
def endG (t : Int) : Int := if t < 0 then 4611686018427387904 else t
/-- the look at the parts from the k-th on -/
def chkP (g : Gar) : Nat → Nat → Int
  | 0, _ => 0
  | n + 1, k => if nameB (g.pn k) = false then 8 else if 0 < k ∧ strLt (g.pn (k - 1)) (g.pn k) = false then 10 else if g.pc k < 0 ∨ 1000000000 < g.pc k then 9 else chkP g n (k + 1)
def chkS (g : Gar) : Nat → Nat → Int
  | 0, _ => 0
  | n + 1, k => if nameB (g.sn k) = false then 8 else if 0 < k ∧ strLt (g.sn (k - 1)) (g.sn k) = false then 10 else if nameB (g.sr k) = false then 8 else chkS g n (k + 1)
def hasS (g : Gar) (s : ByteArray) : Bool := (List.range g.ns).any fun i => decide (g.sn i = s)
def hasP (g : Gar) (s : ByteArray) : Bool := (List.range g.np).any fun i => decide (g.pn i = s)
/-- does mount i stand before mount k? -/
def befM (g : Gar) (i k : Nat) : Bool := decide (g.mf i < g.mf k) || (decide (g.mf i = g.mf k) && strLt (g.ms i) (g.ms k))
def chkM (g : Gar) : Nat → Nat → Int
  | 0, _ => 0
  | n + 1, k => if (hasS g (g.ms k) && hasP g (g.mp k)) = false then 4
    else if (momG (g.mf k) && (decide (g.mt k = -1) || momG (g.mt k))) = false then 9
    else if (g.mt k ≠ -1 ∧ g.mt k ≤ g.mf k) ∨ (0 < k ∧ befM g (k - 1) k = false) then 10 else chkM g n (k + 1)
/-- two mounts overlap -/
def overB (g : Gar) (i k : Nat) : Bool := (decide (g.ms i = g.ms k) || decide (g.mp i = g.mp k)) && decide (max (g.mf i) (g.mf k) < min (endG (g.mt i)) (endG (g.mt k)))
def anyOver (g : Gar) : Bool := (List.range g.nm).any fun k => (List.range k).any fun i => overB g i k
def befU (g : Gar) (i k : Nat) : Bool := decide (g.uf i < g.uf k) || (decide (g.uf i = g.uf k) && strLt (g.un i) (g.un k))
/-- a use beside others; tw: one has its name -/
def chkUse (n r : ByteArray) (tw : Bool) (f s x : Int) : Int :=
  if (nameB n && nameB r) = false then 8 else if tw = true then 5 else if (momG f && decide (1 ≤ s) && decide (s ≤ 1000000) && decide (0 ≤ x) && decide (x ≤ 1000000000)) = false then 9 else 0
def chkU (g : Gar) : Nat → Nat → Int
  | 0, _ => 0
  | n + 1, k => if chkUse (g.un k) (g.ur k) ((List.range k).any fun i => decide (g.un i = g.un k)) (g.uf k) (g.us k) (g.uw k) ≠ 0 then chkUse (g.un k) (g.ur k) ((List.range k).any fun i => decide (g.un i = g.un k)) (g.uf k) (g.us k) (g.uw k)
    else if 0 < k ∧ befU g (k - 1) k = false then 10 else chkU g n (k + 1)
def chk (g : Gar) : Int :=
  if 500 < g.np ∨ 100 < g.ns ∨ 2000 < g.nm ∨ 5000 < g.nu then 3
  else if chkP g g.np 0 ≠ 0 then chkP g g.np 0
  else if chkS g g.ns 0 ≠ 0 then chkS g g.ns 0
  else if chkM g g.nm 0 ≠ 0 then chkM g g.nm 0
  else if anyOver g = true then 11
  else chkU g g.nu 0
end Gar
end Go.Proofs.Ytbkpoepacjinlaa
