/- Several texts of this claim in one. -/
import Derived.Test.YtgdepcnfjmobjaaGreatProg
import Derived.Test.YtgdepcnfjmobjaaGreatMg1
import Derived.WalkKit
import Derived.WalkSpells
import Derived.WalkLawsBesides
import Derived.Lib.Hide
import Derived.Test.YtgdepcnfjmobjaaGreatShelf
import Derived.RegionTactic
import Derived.ChangeAlike
import Derived.Deep.QuietTactic
import Derived.BigQuiet
import Derived.Deep.Cut
import Derived.Deep.Slices
import Derived.ChangeSame
import Derived.Below
import Derived.Lib.SmallJoins
import Derived.OrdersHeld
import Derived.Laws.AppendOwn
import Derived.Laws.StructEq
import Derived.Deep.AppendLies
import Derived.Lib.AppendZeros
import Derived.Deep.RegionWith
/- A text of this claim. -/
namespace Go.Proofs.YtgdepcnfjmobjaaGreat
open Go
def nameC (x : Int) : Bool := (decide (97 ≤ x) && decide (x ≤ 122)) || (decide (65 ≤ x) && decide (x ≤ 90)) || (decide (48 ≤ x) && decide (x ≤ 57)) || decide (x = 45) || decide (x = 95) || decide (x = 46)
def nameB (s : ByteArray) : Bool := decide (1 ≤ s.size) && decide (s.size ≤ 60) && s.data.toList.all fun c => nameC c.toNat
def strLt (a b : ByteArray) : Bool := Op.bytesLess a.toList b.toList
structure Gar where
 np : Nat
 ns : Nat
 nm : Nat
 nu : Nat
 pn : Nat → ByteArray
 pc : Nat → Int
 sn : Nat → ByteArray
 sr : Nat → ByteArray
 ms : Nat → ByteArray
 mp : Nat → ByteArray
 mf : Nat → Int
 mt : Nat → Int
 un : Nat → ByteArray
 ur : Nat → ByteArray
 uf : Nat → Int
 us : Nat → Int
 uw : Nat → Int
namespace Gar
def momG (n : Int) : Bool := decide (0 ≤ n) && decide (n ≤ 86399999999)
def endG (t : Int) : Int := if t < 0 then 4611686018427387904 else t
def chkP (g : Gar) : Nat → Nat → Int
 | 0, _ => 0
 | n + 1, k => if nameB (g.pn k) = false then 8 else if 0 < k ∧ strLt (g.pn (k - 1)) (g.pn k) = false then 10 else if g.pc k < 0 ∨ 1000000000 < g.pc k then 9 else chkP g n (k + 1)
def chkS (g : Gar) : Nat → Nat → Int
 | 0, _ => 0
 | n + 1, k => if nameB (g.sn k) = false then 8 else if 0 < k ∧ strLt (g.sn (k - 1)) (g.sn k) = false then 10 else if nameB (g.sr k) = false then 8 else chkS g n (k + 1)
def hasS (g : Gar) (s : ByteArray) : Bool := (List.range g.ns).any fun i => decide (g.sn i = s)
def hasP (g : Gar) (s : ByteArray) : Bool := (List.range g.np).any fun i => decide (g.pn i = s)
def befM (g : Gar) (i k : Nat) : Bool := decide (g.mf i < g.mf k) || (decide (g.mf i = g.mf k) && strLt (g.ms i) (g.ms k))
def chkM (g : Gar) : Nat → Nat → Int
 | 0, _ => 0
 | n + 1, k => if (hasS g (g.ms k) && hasP g (g.mp k)) = false then 4
  else if (momG (g.mf k) && (decide (g.mt k = -1) || momG (g.mt k))) = false then 9
  else if (g.mt k ≠ -1 ∧ g.mt k ≤ g.mf k) ∨ (0 < k ∧ befM g (k - 1) k = false) then 10 else chkM g n (k + 1)
def overB (g : Gar) (i k : Nat) : Bool := (decide (g.ms i = g.ms k) || decide (g.mp i = g.mp k)) && decide (max (g.mf i) (g.mf k) < min (endG (g.mt i)) (endG (g.mt k)))
def anyOver (g : Gar) : Bool := (List.range g.nm).any fun k => (List.range k).any fun i => overB g i k
def befU (g : Gar) (i k : Nat) : Bool := decide (g.uf i < g.uf k) || (decide (g.uf i = g.uf k) && strLt (g.un i) (g.un k))
def chkUse (n r : ByteArray) (tw : Bool) (f s x : Int) : Int :=
 if (nameB n && nameB r) = false then 8 else if tw = true then 5 else if (momG f && decide (1 ≤ s) && decide (s ≤ 1000000) && decide (0 ≤ x) && decide (x ≤ 1000000000)) = false then 9 else 0
def chkU (g : Gar) : Nat → Nat → Int
 | 0, _ => 0
 | n + 1, k => if chkUse (g.un k) (g.ur k) ((List.range k).any fun i => decide (g.un i = g.un k)) (g.uf k) (g.us k) (g.uw k) ≠ 0 then chkUse (g.un k) (g.ur k) ((List.range k).any fun i => decide (g.un i = g.un k)) (g.uf k) (g.us k) (g.uw k)
  else if 0 < k ∧ befU g (k - 1) k = false then 10 else chkU g n (k + 1)
def chk (g : Gar) : Int :=
 if 500 < g.np ∨ 100 < g.ns ∨ 2000 < g.nm ∨ 5000 < g.nu then 3
 else if chkP g g.np 0 ≠ 0 then chkP g g.np 0
 else if chkS g g.ns 0 ≠ 0 then chkS g g.ns 0
 else if chkM g g.nm 0 ≠ 0 then chkM g g.nm 0
 else if anyOver g = true then 11
 else chkU g g.nu 0
end Gar
end Go.Proofs.YtgdepcnfjmobjaaGreat

/- A text of this claim. -/
namespace Tr
open Go
end Tr
namespace Go.Proofs.YtgdepcnfjmobjaaGreat
open Go
open Tr (Ed inR united most)
def titleB (s : ByteArray) : Bool := decide (s.size ≤ 60) && s.data.toList.all fun c => decide (32 ≤ c.toNat) && decide (c.toNat ≤ 126)
def formE (x : Ed) : Bool :=
 if x.k = 1 ∨ x.k = 3 ∨ x.k = 4 then decide (x.n = 0) && decide (x.f = 0) && decide (x.t = 0)
 else if x.k = 8 then decide (x.n = 0) && decide (x.s.size = 0)
 else if x.k = 11 then decide (x.n = 0)
 else decide (x.f = 0) && decide (x.t = 0) && decide (x.s.size = 0)
def rngE (n lo hi : Int) : Int := if inR n lo hi = true then 0 else 9
def fieldE (x : Ed) : Int :=
 if x.k = 1 ∨ x.k = 3 ∨ x.k = 4 then (if nameB x.s = true then 0 else 8)
 else if x.k = 2 then (if inR x.n 1 5 = true then 0 else 7)
 else if x.k = 5 then rngE x.n (-86399999999) 86399999999
 else if x.k = 6 then rngE x.n (-200000) 200000
 else if x.k = 7 then rngE x.n 1 3
 else if x.k = 9 then rngE x.n 0 50
 else if x.k = 10 then rngE x.n 0 1000000
 else if x.k = 12 then rngE x.n 0 199
 else if x.f < 0 ∨ x.t ≤ x.f ∨ 1000000 < x.t then 9 else if titleB x.s = true then 0 else 8
def chkE (x : Ed) : Int := if x.k < 1 ∨ 12 < x.k then 7 else if formE x = false then 2 else fieldE x
def chkEs : List Ed → Int
 | [] => 0
 | x :: l => if chkE x = 0 then chkEs l else chkE x
def chkEL (l : List Ed) : Int := if 200 < l.length then 3 else chkEs l
theorem chkEs_zero : ∀ {l : List Ed}, chkEs l = 0 ↔ ∀ x, x ∈ l → chkE x = 0
 | [] => ⟨(fun _ x hx => by cases hx), fun _ => rfl⟩
 | x :: l => by
  rw [chkEs]
  by_cases h : chkE x = 0
  · rw [if_pos h, chkEs_zero]
    constructor
    · intro hl y hy
      rcases List.mem_cons.1 hy with rfl | hy
      · exact h
      · exact hl y hy
    · exact fun hl y hy => hl y (List.mem_cons_of_mem _ hy)
  · rw [if_neg h]
    exact ⟨fun e => absurd e h, fun hl => absurd (hl x (List.mem_cons_self ..)) h⟩
theorem united_ok (x y : Ed) (m : List Ed) (_ : chkE x = 0) (hy : chkE y = 0) (h : united x y = some m) : ∀ z, z ∈ m → chkE z = 0 := by
 unfold united at h
 split at h
 · injection h with h; subst h; intro z hz; cases hz
 · split at h
   · cases h
   · split at h
     · injection h with h; subst h
       intro z hz
       rw [List.mem_singleton.1 hz]
       exact hy
     · split at h
       · split at h
         · injection h with h; subst h
           intro z hz
           rw [List.mem_singleton.1 hz]
           exact hy
         · cases h
       · split at h
         · rename_i hxy _ _ hk
           have hxy : x.k = y.k := by
            rcases Int.lt_trichotomy x.k y.k with g | g | g
            · exact absurd (by omega) hxy
            · exact g
            · exact absurd (by omega) hxy
           split at h
           · rename_i hr
             injection h with h; subst h
             intro z hz
             rw [List.mem_singleton.1 hz]
             rw [hxy] at hk hr
             unfold chkE at hy ⊢
             by_cases hf : formE y = false
             · rw [if_pos hf] at hy
               split at hy <;> cases hy
             · have hform : formE { y with n := y.n + x.n } = formE y := by
                unfold formE
                rcases hk with e | e <;> simp [e]
               rw [hform, if_neg (show ¬ (y.k < 1 ∨ 12 < y.k) by omega), if_neg hf]
               unfold fieldE rngE
               unfold most at hr
               rcases hk with e | e
               · simp only [e] at hr ⊢
                 simpa using hr
               · simp only [e] at hr ⊢
                 simpa using hr
           · cases h
         · cases h
end Go.Proofs.YtgdepcnfjmobjaaGreat

/- A text of this claim. -/
namespace Go.Proofs.YtgdepcnfjmobjaaGreat
open Go
open Tr (inR)
structure Sm where
 tm : Int
 x : Int
 y : Int
 z : Int
 pu : Int
 po : Int
 st : Int
structure Lp where
 f : Int
 t : Int
 s : ByteArray
structure Acv where
 name : ByteArray
 sport : Int
 start : Int
 sm : List Sm
 lp : List Lp
 tg : List ByteArray
def firstE (f : Nat → Int) : Nat → Nat → Int
 | 0, _ => 0
 | n + 1, i => if f i = 0 then firstE f n (i + 1) else f i
theorem firstE_zero {f : Nat → Int} : ∀ {n i : Nat}, firstE f n i = 0 ↔ ∀ j, i ≤ j → j < i + n → f j = 0
 | 0, i => ⟨fun _ j h1 h2 => by omega, fun _ => rfl⟩
 | n + 1, i => by
  rw [firstE]
  by_cases h : f i = 0
  · rw [if_pos h, firstE_zero]
    constructor
    · intro hh j h1 h2
      by_cases e : j = i
      · rw [e]; exact h
      · exact hh j (by omega) (by omega)
    · exact fun hh j h1 h2 => hh j (by omega) (by omega)
  · rw [if_neg h]
    exact ⟨fun e => absurd e h, fun hh => absurd (hh i (Nat.le_refl _) (by omega)) h⟩
theorem firstE_go {f : Nat → Int} {n k : Nat} {E : Int} (hk : k < n) (h : E = firstE f (n - k) k) : (f k ≠ 0 → E = f k) ∧ (f k = 0 → E = firstE f (n - (k + 1)) (k + 1)) := by
 obtain ⟨m, hm⟩ : ∃ m, n - k = m + 1 := ⟨n - k - 1, by omega⟩
 rw [hm, firstE] at h
 rw [show n - (k + 1) = m by omega]
 exact ⟨fun h0 => by rw [h, if_neg h0], fun h0 => by rw [h, if_pos h0]⟩
theorem firstE_end {f : Nat → Int} {n k : Nat} {E : Int} (hk : n ≤ k) (h : E = firstE f (n - k) k) : E = 0 := by
 rw [h, Nat.sub_eq_zero_of_le hk]
 rfl
def rangeS (s : Sm) : Bool := inR s.x (-100000000) 100000000 && inR s.y (-100000000) 100000000 && inR s.z (-100000) 100000 && inR s.pu (-1) 300 && inR s.po (-1) 3000 && inR s.st (-1) 300
def ordS (l : List Sm) (i : Nat) (t : Int) : Bool := if i = 0 then decide (t ≠ 0) else match l[i - 1]? with
 | some p => decide (t ≤ p.tm)
 | none => false
def errS (start : Int) (l : List Sm) (i : Nat) : Int := match l[i]? with
 | none => 0
 | some s => if ordS l i s.tm = true then 10 else if 1000000 < s.tm ∨ 86399999999 < start + s.tm ∨ rangeS s = false then 9 else 0
def spanS (l : List Sm) : Int := match l[l.length - 1]? with
 | some s => s.tm
 | none => 0
def ordL (l : List Lp) (i : Nat) (f : Int) : Bool := if i = 0 then false else match l[i - 1]? with
 | some p => decide (f < p.t)
 | none => false
def errL (span : Int) (l : List Lp) (i : Nat) : Int := match l[i]? with
 | none => 0
 | some p => if p.f < 0 ∨ p.t ≤ p.f ∨ span < p.t then 9 else if ordL l i p.f = true then 10 else if titleB p.s = true then 0 else 8
def ordT (l : List ByteArray) (i : Nat) (s : ByteArray) : Bool := if i = 0 then false else match l[i - 1]? with
 | some p => !Op.bytesLess p.toList s.toList
 | none => false
def errT (l : List ByteArray) (i : Nat) : Int := match l[i]? with
 | none => 0
 | some s => if nameB s = false then 8 else if ordT l i s = true then 10 else 0
def chkSs (A : Acv) : Int := firstE (errS A.start A.sm) A.sm.length 0
def chkLs (A : Acv) : Int := firstE (errL (spanS A.sm) A.lp) A.lp.length 0
def chkTs (A : Acv) : Int := firstE (errT A.tg) A.tg.length 0
def chkR (A : Acv) : Int := if chkSs A = 0 then (if chkLs A = 0 then chkTs A else chkLs A) else chkSs A
def chkA (A : Acv) : Int := if nameB A.name = false then 8 else if inR A.sport 1 5 = false then 7 else if inR A.start 0 86399999999 = false then 9
 else if 20000 < A.sm.length ∨ 200 < A.lp.length ∨ 20 < A.tg.length then 3 else chkR A
theorem inR_iff {n a b : Int} : inR n a b = true ↔ a ≤ n ∧ n ≤ b := by
 unfold inR
 simp
structure SmOk (start : Int) (l : List Sm) : Prop where
 first : ∀ s : Sm, l[0]? = some s → s.tm = 0
 next : ∀ (i : Nat) (p s : Sm), l[i]? = some p → l[i + 1]? = some s → p.tm < s.tm
 upto : ∀ (i : Nat) (s : Sm), l[i]? = some s → s.tm ≤ 1000000 ∧ start + s.tm ≤ 86399999999 ∧ rangeS s = true
theorem smOk_of {start : Int} {l : List Sm} (h : firstE (errS start l) l.length 0 = 0) : SmOk start l := by
 have h := firstE_zero.1 h
 have g : ∀ (i : Nat) (s : Sm), l[i]? = some s → ordS l i s.tm = false ∧ s.tm ≤ 1000000 ∧ start + s.tm ≤ 86399999999 ∧ rangeS s = true := by
  intro i s hs
  have := h i (Nat.zero_le _) (by have := (List.getElem?_eq_some_iff.1 hs).1; omega)
  unfold errS at this
  rw [hs] at this
  simp only at this
  cases ho : ordS l i s.tm with
  | true =>
   rw [ho, if_pos rfl] at this
   cases this
  | false =>
   rw [ho, if_neg (by simp)] at this
   split at this
   · cases this
   · rename_i hn
     refine ⟨rfl, by omega, by omega, ?_⟩
     cases hr : rangeS s with
     | true => rfl
     | false => exact absurd (Or.inr (Or.inr hr)) hn
 refine ⟨fun s hs => ?_, fun i p s hp hs => ?_, fun i s hs => (g i s hs).2⟩
 · have := (g 0 s hs).1
   unfold ordS at this
   rw [if_pos rfl] at this
   simpa using this
 · have := (g (i + 1) s hs).1
   unfold ordS at this
   rw [if_neg (by omega), Nat.add_sub_cancel, hp] at this
   simp only [decide_eq_false_iff_not] at this
   omega
theorem SmOk.mono {start : Int} {l : List Sm} (h : SmOk start l) : ∀ (d i : Nat) (p s : Sm), l[i]? = some p → l[i + d + 1]? = some s → p.tm < s.tm := by
 intro d
 induction d with
 | zero => exact fun i p s hp hs => h.next i p s hp hs
 | succ d ih =>
  intro i p s hp hs
  obtain ⟨m, hm⟩ : ∃ m, l[i + d + 1]? = some m := ⟨_, List.getElem?_eq_getElem (by have := (List.getElem?_eq_some_iff.1 hs).1; omega)⟩
  have h1 := ih i p m hp hm
  have h2 := h.next (i + d + 1) m s hm hs
  omega
theorem SmOk.lt {start : Int} {l : List Sm} (h : SmOk start l) {i j : Nat} {p s : Sm} (hij : i < j) (hp : l[i]? = some p) (hs : l[j]? = some s) : p.tm < s.tm :=
 h.mono (j - i - 1) i p s hp (by rw [show i + (j - i - 1) + 1 = j by omega]; exact hs)
theorem SmOk.nonneg {start : Int} {l : List Sm} (h : SmOk start l) {i : Nat} {s : Sm} (hs : l[i]? = some s) : 0 ≤ s.tm := by
 obtain ⟨z, hz⟩ : ∃ z, l[0]? = some z := ⟨_, List.getElem?_eq_getElem (by have := (List.getElem?_eq_some_iff.1 hs).1; omega)⟩
 have h0 := h.first z hz
 by_cases hi : i = 0
 · subst hi
   rw [hz] at hs
   injection hs with hs
   subst hs
   omega
 · have := h.lt (i := 0) (j := i) (by omega) hz hs
   omega
def lbS : List Sm → Int → Nat
 | [], _ => 0
 | s :: l, n => if s.tm < n then lbS l n + 1 else 0
theorem lbS_unique : ∀ {l : List Sm} {n : Int} {k : Nat}, k ≤ l.length → (∀ i s, i < k → l[i]? = some s → s.tm < n) → (∀ s, l[k]? = some s → n ≤ s.tm) → lbS l n = k
 | [], n, k, hk, _, _ => by
  have : k = 0 := by simpa using hk
  rw [this]; rfl
 | s :: l, n, 0, _, _, h2 => by
  have := h2 s rfl
  rw [lbS, if_neg (by omega)]
 | s :: l, n, k + 1, hk, h1, h2 => by
  have := h1 0 s (by omega) rfl
  rw [lbS, if_pos this]
  rw [lbS_unique (k := k) (by simpa using hk) (fun i z hi hz => h1 (i + 1) z (by omega) (by simpa using hz)) (fun z hz => h2 z (by simpa using hz))]
theorem lbS_le : ∀ (l : List Sm) (n : Int), lbS l n ≤ l.length
 | [], _ => Nat.le_refl _
 | s :: l, n => by
  rw [lbS, List.length_cons]
  have := lbS_le l n
  split <;> omega
theorem lbS_before : ∀ (l : List Sm) (n : Int) (i : Nat) (s : Sm), i < lbS l n → l[i]? = some s → s.tm < n
 | [], _, i, s, h, _ => by simp [lbS] at h
 | z :: l, n, i, s, h, hs => by
  rw [lbS] at h
  split at h
  · rename_i hz
    cases i with
    | zero =>
     injection hs with hs
     subst hs
     exact hz
    | succ i => exact lbS_before l n i s (by omega) (by simpa using hs)
  · omega
theorem lbS_at : ∀ (l : List Sm) (n : Int) (s : Sm), l[lbS l n]? = some s → n ≤ s.tm
 | [], _, s, h => by simp at h
 | z :: l, n, s, h => by
  rw [lbS] at h
  split at h
  · exact lbS_at l n s (by simpa using h)
  · rename_i hz
    injection h with h
    subst h
    omega
theorem lbS_halved {start : Int} {l : List Sm} (h : SmOk start l) {n : Int} {i : Nat} (hi : i ≤ l.length) (h1 : ∀ s, 0 < i → l[i - 1]? = some s → s.tm < n) (h2 : ∀ s, l[i]? = some s → n ≤ s.tm) : lbS l n = i := by
 refine lbS_unique hi (fun k s hk hs => ?_) h2
 obtain ⟨z, hz⟩ : ∃ z, l[i - 1]? = some z := ⟨_, List.getElem?_eq_getElem (by omega)⟩
 have := h1 z (by omega) hz
 by_cases e : k = i - 1
 · subst e
   rw [hs] at hz
   injection hz with hz
   subst hz
   exact this
 · have := h.lt (i := k) (j := i - 1) (by omega) hs hz
   omega
def betw (p q part whole : Int) : Int := p + (Sc.sc (q - p) part whole 4).1
def amidS (p q : Sm) (n : Int) : Sm := { p with tm := n, x := betw p.x q.x (n - p.tm) (q.tm - p.tm), y := betw p.y q.y (n - p.tm) (q.tm - p.tm), z := betw p.z q.z (n - p.tm) (q.tm - p.tm) }
def sm0 : Sm := ⟨0, 0, 0, 0, 0, 0, 0⟩
def whereS (l : List Sm) (n : Int) : Sm := match l[lbS l n]? with
 | none => sm0
 | some q => if q.tm = n then q else match l[lbS l n - 1]? with
  | none => sm0
  | some p => amidS p q n
end Go.Proofs.YtgdepcnfjmobjaaGreat

/- Contracts of small functions of rounding: outside, size, more, ways and its functions, IndexFunc over the ways, Compare. -/
namespace Go.Proofs.YtgdepcnfjmobjaaGreat
open Go.RowKit

theorem ret_int {k : IntKind} {a b : Int} (h : a = b) : Ending.returned (.int k a) = .returned (.int k b) := by rw [h]
theorem ret_bool {a b : Bool} (h : a = b) : Ending.returned (.bool a) = .returned (.bool b) := by rw [h]

def cmpF (a b : Int) : Int := if a < b then -1 else if b < a then 1 else 0

theorem compare_any (a b : Int) (w : World) :
    Calls Tryz.prog 48 #[.int .u64 a, .int .u64 b] w fun e w' => e = .returned (.int .i64 (cmpF a b)) ∧ w = w' := by
  go_enter Tryz.func48, Tryz.ntmps48
  go_wp2
  all_goals go_ret
  all_goals refine ⟨ret_int ?_, rfl⟩
  all_goals (unfold cmpF; split <;> (try split) <;> first | rfl | (exfalso; omega))

/-! ### the functions of the table -/
theorem way1 (b : Bool) (q h : Int) (w : World) : Calls Tryz.prog 58 #[.bool b, .int .u64 q, .int .i64 h] w fun e w' => e = .returned (.bool b) ∧ w = w' := by
  go_enter Tryz.func58, Tryz.ntmps58
  go_wp2
  go_ret
  exact ⟨rfl, rfl⟩
theorem way2 (b : Bool) (q h : Int) (w : World) : Calls Tryz.prog 59 #[.bool b, .int .u64 q, .int .i64 h] w fun e w' => e = .returned (.bool (!b)) ∧ w = w' := by
  go_enter Tryz.func59, Tryz.ntmps59
  go_wp2
  go_ret
  exact ⟨rfl, rfl⟩
theorem way3 (b : Bool) (q h : Int) (w : World) : Calls Tryz.prog 60 #[.bool b, .int .u64 q, .int .i64 h] w fun e w' => e = .returned (.bool false) ∧ w = w' := by
  go_enter Tryz.func60, Tryz.ntmps60
  go_wp2
  go_ret
  exact ⟨rfl, rfl⟩
theorem way4 (b : Bool) (q h : Int) (w : World) : Calls Tryz.prog 61 #[.bool b, .int .u64 q, .int .i64 h] w fun e w' => e = .returned (.bool (decide (0 < h) || (h == 0 && !b))) ∧ w = w' := by
  by_cases h1 : 0 < h
  · go_enter Tryz.func61, Tryz.ntmps61
    go_wp2
    go_ret
    exact ⟨by simp [h1], rfl⟩
  · have h2 : decide (0 < h) = false := by simpa using h1
    cases h3 : (h == 0)
    all_goals
      go_enter Tryz.func61, Tryz.ntmps61
      go_wp2
      go_ret
      exact ⟨by simp, rfl⟩
theorem way5 (b : Bool) (q h : Int) (w : World) (hq : 0 ≤ q) : Calls Tryz.prog 62 #[.bool b, .int .u64 q, .int .i64 h] w fun e w' => e = .returned (.bool (decide (0 < h) || (h == 0 && (q % 2 == 1)))) ∧ w = w' := by
  by_cases h1 : 0 < h
  · go_enter Tryz.func62, Tryz.ntmps62
    go_wp2
    go_ret
    exact ⟨by simp [h1], rfl⟩
  · have h2 : decide (0 < h) = false := by simpa using h1
    cases h3 : (h == 0)
    all_goals
      go_enter Tryz.func62, Tryz.ntmps62
      go_wp2
      go_ret
      exact ⟨by simp, rfl⟩

def fnv (k : Nat) : Value := .func (.func k) #[] #[]
/-- the row of the table in memory -/
def wayRow : Array Value := #[.int .i64 1, fnv 58, .int .i64 2, fnv 59, .int .i64 3, fnv 60, .int .i64 4, fnv 61, .int .i64 5, fnv 62]
theorem ways_any (w : World) : Calls Tryz.prog 43 #[] w fun e w' => e = .returned (.slice (some ⟨w.heap.size, 0, none⟩) 5 5) ∧ w' = w.alloc (.cells wayRow 95) := by
  go_enter Tryz.func43, Tryz.ntmps43
  go_wp2
  go_ret
  exact ⟨rfl, rfl⟩

/-- the closure that looks for a way -/
theorem has_any (k h : Int) (f : Value) (a : Addr) (w : World) (ha : w.cell? a = some (.int .i64 h)) (hb : a.block < w.heap.size) :
    Calls Tryz.prog 45 #[.agg #[.int .i64 k, f], .pointer (some a)] w fun e w' => e = .returned (.bool (k == h)) ∧ Below w.heap.size w w' := by
  go_enter Tryz.func45, Tryz.ntmps45
  go_wp2
  go_ret
  exact ⟨rfl, (Below.refl _ _).alloc (Nat.le_refl _) _⟩
/-- what 'more' returns -/
def moreF (q r d : Int) (m : Bool) (how : Int) : Bool :=
  if r = 0 then false else if how = 1 then m else if how = 2 then !m else if how = 3 then false else if r ≠ d - r then decide (d - r < r) else if how = 4 then !m else q % 2 == 1
end Go.Proofs.YtgdepcnfjmobjaaGreat

/- math/bits.Div64: the contract, for all arguments whose quotient fits. -/
namespace Go.Proofs.YtgdepcnfjmobjaaGreat
open Go.RowKit

/-- the high part is 0 -/
theorem div64_low (lo y : Int) (w : World) (h0 : 0 ≤ lo) (hy : 1 ≤ y) (hL : lo ≤ 18446744073709551615) :
    Calls Tryz.prog 47 #[.int .u64 0, .int .u64 lo, .int .u64 y] w fun e w' => e = .returned (.tuple #[.int .u64 (lo / y), .int .u64 (lo % y)]) ∧ ∃ n, w' = w.drewN n := by
  have b1 : (y == 0) = false := by rw [beq_eq_false_iff_ne]; omega
  have b2 : decide (y ≤ 0) = false := by simp; omega
  go_enter Tryz.func47, Tryz.ntmps47
  go_wp2
  go_quiet (fail)
  go_wp2
  go_ret2
  exact ⟨rfl, _, rfl⟩

set_option maxHeartbeats 4000000 in
set_option maxRecDepth 100000 in
theorem div64_high (hi lo y : Int) (s Y a b u l d1 d0 u2 qh rh qh2 rh2 qq rr Q1 Q0 : Nat) (w : World) (h1 : 1 ≤ hi) (hy : hi < y) (hY : y ≤ 18446744073709551615)
    (hs : Hid (64 - (Lib.bitLen y.toNat : Int) = (s : Int))) (hs63 : s ≤ 63)
    (e1 : IntKind.u64.wrap (y * 2 ^ s) = Y) (e2 : (Y : Int) / 4294967296 = a) (e3 : bits BinOp.and IntKind.u64 Y 4294967295 = b)
    (e4 : bits BinOp.or IntKind.u64 (IntKind.u64.wrap (hi * 2 ^ s)) (lo / 2 ^ (64 - s)) = u) (e5 : IntKind.u64.wrap (lo * 2 ^ s) = l) (e6 : (l : Int) / 4294967296 = d1) (e7 : bits BinOp.and IntKind.u64 l 4294967295 = d0)
    (e8 : (u : Int) / a = qh) (e9 : IntKind.u64.wrap (u - IntKind.u64.wrap (qh * a)) = rh) (hst : Hid (Knuth.Dig u d1 a b qh rh))
    (e10 : IntKind.u64.wrap (IntKind.u64.wrap (IntKind.u64.wrap ((u : Int) * 4294967296) + d1) - IntKind.u64.wrap ((Q1 : Int) * Y)) = u2)
    (e11 : (u2 : Int) / a = qh2) (e12 : IntKind.u64.wrap (u2 - IntKind.u64.wrap (qh2 * a)) = rh2) (hst2 : Hid (Knuth.Dig u2 d0 a b qh2 rh2))
    (e13 : IntKind.u64.wrap (IntKind.u64.wrap ((Q1 : Int) * 4294967296) + Q0) = qq) (e14 : IntKind.u64.wrap (IntKind.u64.wrap (IntKind.u64.wrap ((u2 : Int) * 4294967296) + d0) - IntKind.u64.wrap ((Q0 : Int) * Y)) / 2 ^ s = rr)
    (hP : Hid (Knuth.Par u d1 a b)) (hP2 : Hid (Knuth.Par u2 d0 a b))
    (hQ1 : Hid (Q1 = (u * 4294967296 + d1) / (a * 4294967296 + b))) (hQ0 : Hid (Q0 = (u2 * 4294967296 + d0) / (a * 4294967296 + b)))
    (ha : (2147483648 : Int) ≤ a) (ha' : (a : Int) < 4294967296) (hb' : Hid (b < 4294967296)) (_hb2 : (b : Int) < 4294967296) (_hu' : (u : Int) ≤ 18446744073709551615) (hd1' : (d1 : Int) < 4294967296) (hd0' : (d0 : Int) < 4294967296) (hqh : (qh : Int) ≤ 4294967297) (_hrh : (rh : Int) < 4294967296)
    (_hu2 : (u2 : Int) ≤ 18446744073709551615) (hqh2 : (qh2 : Int) ≤ 4294967297) (_hrh2 : (rh2 : Int) < 4294967296) :
    Calls Tryz.prog 47 #[.int .u64 hi, .int .u64 lo, .int .u64 y] w fun e w' => e = .returned (.tuple #[.int .u64 qq, .int .u64 rr]) ∧ w' = w := by
  have b1 : (y == 0) = false := by rw [beq_eq_false_iff_ne]; omega
  have b2 : decide (y ≤ hi) = false := by simp; omega
  have b3 : (hi == 0) = false := by rw [beq_eq_false_iff_ne]; omega
  go_enter Tryz.func47, Tryz.ntmps47
  go_wp2_with fail
  refine (Go.Proofs.Tryz.bits_LeadingZeros64 _ _ (by omega) (by omega)).mono ?_
  rintro e w' ⟨rfl, rfl⟩
  rw [hs.out]
  go_wp2_with fail
  clear e1 e2 e3 e4 e5 e6 e7 e8 e9 b1 b2 b3
  go_loop [15, 16] (fun q r => ∃ qn rn : Nat, q = .int .u64 qn ∧ r = .int .u64 rn ∧ Knuth.Dig u d1 a b qn rn) (fun q _ => (intOf q).toNat)
  case atStart => exact ⟨_, _, rfl, rfl, hst.out⟩
  case round =>
    obtain ⟨q, r, rfl, rfl, hD'⟩ := hrel
    have hD := Lib.hid hD'
    have hq1 : (q : Int) ≤ 4294967297 := by have := hD'.1; omega
    have hr1 : (r : Int) < 4294967296 := by have := hD'.2.1; omega
    clear hD'
    by_cases hq : 4294967296 ≤ q
    · have c1 : decide ((4294967296 : Int) ≤ (q : Int)) = true := by rw [decide_eq_true_eq]; omega
      have hpos := hD.out.pos hP.out (.inl hq)
      have hqi : (1 : Int) ≤ q := by omega
      by_cases hr : r + a < 4294967296
      · have c3 : decide ((4294967296 : Int) ≤ (r : Int) + (a : Int)) = false := by rw [decide_eq_false_iff_not]; omega
        have hN := Lib.hid (hD.out.less hP.out (.inl hq) hr)
        have Hp := Lib.hid hpos; clear hpos
        clear hq hr
        go_wp2
        go_round
        case rel => exact ⟨q - 1, r + a, by rw [Int.ofNat_sub Hp.out]; rfl, by go_num, hN.out⟩
        case measure => simp [intOf]; omega
      · have c3 : decide ((4294967296 : Int) ≤ (r : Int) + (a : Int)) = true := by rw [decide_eq_true_eq]; omega
        have hN := hD.out.last hP.out (.inl hq) (by omega)
        have e15 : (q : Int) - 1 = (Q1 : Nat) := by rw [hQ1.out, ← hN]; omega
        clear hN
        clear hq hr
        clear hpos
        go_wp2_with fail
        go_loop [18, 16] (fun q r => ∃ qn rn : Nat, q = .int .u64 qn ∧ r = .int .u64 rn ∧ Knuth.Dig u2 d0 a b qn rn) (fun q _ => (intOf q).toNat)
        case atStart => exact ⟨_, _, rfl, rfl, hst2.out⟩
        case round =>
          obtain ⟨q, r, rfl, rfl, hD'⟩ := hrel
          have hD := Lib.hid hD'
          have hq1 : (q : Int) ≤ 4294967297 := by have := hD'.1; omega
          have hr1 : (r : Int) < 4294967296 := by have := hD'.2.1; omega
          clear hD'
          by_cases hq : 4294967296 ≤ q
          · have c1 : decide ((4294967296 : Int) ≤ (q : Int)) = true := by rw [decide_eq_true_eq]; omega
            have hpos := hD.out.pos hP2.out (.inl hq)
            have hqi : (1 : Int) ≤ q := by omega
            by_cases hr : r + a < 4294967296
            · have c3 : decide ((4294967296 : Int) ≤ (r : Int) + (a : Int)) = false := by rw [decide_eq_false_iff_not]; omega
              have hN := Lib.hid (hD.out.less hP2.out (.inl hq) hr)
              have Hp := Lib.hid hpos; clear hpos
              clear hq hr
              go_wp2
              go_round
              case rel => exact ⟨q - 1, r + a, by rw [Int.ofNat_sub Hp.out]; rfl, by go_num, hN.out⟩
              case measure => simp [intOf]; omega
            · have c3 : decide ((4294967296 : Int) ≤ (r : Int) + (a : Int)) = true := by rw [decide_eq_true_eq]; omega
              have hN := hD.out.last hP2.out (.inl hq) (by omega)
              have e15 : (q : Int) - 1 = (Q0 : Nat) := by rw [hQ0.out, ← hN]; omega
              clear hN
              clear hq hr
              clear hpos
              go_wp2
              go_ret2
              exact ⟨rfl, rfl⟩
          · have c1 : decide ((4294967296 : Int) ≤ (q : Int)) = false := by rw [decide_eq_false_iff_not]; omega
            have hq' : q < 4294967296 := by omega
            clear hq
            obtain ⟨m, hm0⟩ : ∃ m : Nat, m = q * b := ⟨_, rfl⟩
            have hm : IntKind.u64.wrap ((q : Int) * b) = m := by
              rw [IntKind.wrap_u64]; have := Knuth.mul_half hq' hb'.out
              rw [← Int.natCast_mul, ← hm0]; omega
            have Hm := Lib.hid hm0
            clear hm0 hq'
            by_cases ht : 4294967296 * r + d0 < m
            · have c2 : decide (4294967296 * (r : Int) + (d0 : Int) < (m : Int)) = true := by rw [decide_eq_true_eq]; omega
              have hpos := hD.out.pos hP2.out (.inr (by rw [← Hm.out]; omega))
              have hqi : (1 : Int) ≤ q := by omega
              by_cases hr : r + a < 4294967296
              · have c3 : decide ((4294967296 : Int) ≤ (r : Int) + (a : Int)) = false := by rw [decide_eq_false_iff_not]; omega
                have hN := Lib.hid (hD.out.less hP2.out (.inr (by rw [← Hm.out]; omega)) hr)
                have Hp := Lib.hid hpos; clear hpos
                clear ht hr
                go_wp2
                go_round
                case rel => exact ⟨q - 1, r + a, by rw [Int.ofNat_sub Hp.out]; rfl, by go_num, hN.out⟩
                case measure => simp [intOf]; omega
              · have c3 : decide ((4294967296 : Int) ≤ (r : Int) + (a : Int)) = true := by rw [decide_eq_true_eq]; omega
                have hN := hD.out.last hP2.out (.inr (by rw [← Hm.out]; omega)) (by omega)
                have e15 : (q : Int) - 1 = (Q0 : Nat) := by rw [hQ0.out, ← hN]; omega
                clear hN
                clear ht hr
                clear hpos
                go_wp2
                go_ret2
                exact ⟨rfl, rfl⟩
            · have c2 : decide (4294967296 * (r : Int) + (d0 : Int) < (m : Int)) = false := by rw [decide_eq_false_iff_not]; omega
              have hN := hD.out.done hP2.out (by rw [← Hm.out]; omega)
              rw [← hQ0.out] at hN
              subst hN
              clear ht
              go_wp2
              go_ret2
              exact ⟨rfl, rfl⟩
    · have c1 : decide ((4294967296 : Int) ≤ (q : Int)) = false := by rw [decide_eq_false_iff_not]; omega
      have hq' : q < 4294967296 := by omega
      clear hq
      obtain ⟨m, hm0⟩ : ∃ m : Nat, m = q * b := ⟨_, rfl⟩
      have hm : IntKind.u64.wrap ((q : Int) * b) = m := by
        rw [IntKind.wrap_u64]; have := Knuth.mul_half hq' hb'.out
        rw [← Int.natCast_mul, ← hm0]; omega
      have Hm := Lib.hid hm0
      clear hm0 hq'
      by_cases ht : 4294967296 * r + d1 < m
      · have c2 : decide (4294967296 * (r : Int) + (d1 : Int) < (m : Int)) = true := by rw [decide_eq_true_eq]; omega
        have hpos := hD.out.pos hP.out (.inr (by rw [← Hm.out]; omega))
        have hqi : (1 : Int) ≤ q := by omega
        by_cases hr : r + a < 4294967296
        · have c3 : decide ((4294967296 : Int) ≤ (r : Int) + (a : Int)) = false := by rw [decide_eq_false_iff_not]; omega
          have hN := Lib.hid (hD.out.less hP.out (.inr (by rw [← Hm.out]; omega)) hr)
          have Hp := Lib.hid hpos; clear hpos
          clear ht hr
          go_wp2
          go_round
          case rel => exact ⟨q - 1, r + a, by rw [Int.ofNat_sub Hp.out]; rfl, by go_num, hN.out⟩
          case measure => simp [intOf]; omega
        · have c3 : decide ((4294967296 : Int) ≤ (r : Int) + (a : Int)) = true := by rw [decide_eq_true_eq]; omega
          have hN := hD.out.last hP.out (.inr (by rw [← Hm.out]; omega)) (by omega)
          have e15 : (q : Int) - 1 = (Q1 : Nat) := by rw [hQ1.out, ← hN]; omega
          clear hN
          clear ht hr
          clear hpos
          go_wp2_with fail
          go_loop [18, 16] (fun q r => ∃ qn rn : Nat, q = .int .u64 qn ∧ r = .int .u64 rn ∧ Knuth.Dig u2 d0 a b qn rn) (fun q _ => (intOf q).toNat)
          case atStart => exact ⟨_, _, rfl, rfl, hst2.out⟩
          case round =>
            obtain ⟨q, r, rfl, rfl, hD'⟩ := hrel
            have hD := Lib.hid hD'
            have hq1 : (q : Int) ≤ 4294967297 := by have := hD'.1; omega
            have hr1 : (r : Int) < 4294967296 := by have := hD'.2.1; omega
            clear hD'
            by_cases hq : 4294967296 ≤ q
            · have c1 : decide ((4294967296 : Int) ≤ (q : Int)) = true := by rw [decide_eq_true_eq]; omega
              have hpos := hD.out.pos hP2.out (.inl hq)
              have hqi : (1 : Int) ≤ q := by omega
              by_cases hr : r + a < 4294967296
              · have c3 : decide ((4294967296 : Int) ≤ (r : Int) + (a : Int)) = false := by rw [decide_eq_false_iff_not]; omega
                have hN := Lib.hid (hD.out.less hP2.out (.inl hq) hr)
                have Hp := Lib.hid hpos; clear hpos
                clear hq hr
                go_wp2
                go_round
                case rel => exact ⟨q - 1, r + a, by rw [Int.ofNat_sub Hp.out]; rfl, by go_num, hN.out⟩
                case measure => simp [intOf]; omega
              · have c3 : decide ((4294967296 : Int) ≤ (r : Int) + (a : Int)) = true := by rw [decide_eq_true_eq]; omega
                have hN := hD.out.last hP2.out (.inl hq) (by omega)
                have e15 : (q : Int) - 1 = (Q0 : Nat) := by rw [hQ0.out, ← hN]; omega
                clear hN
                clear hq hr
                clear hpos
                go_wp2
                go_ret2
                exact ⟨rfl, rfl⟩
            · have c1 : decide ((4294967296 : Int) ≤ (q : Int)) = false := by rw [decide_eq_false_iff_not]; omega
              have hq' : q < 4294967296 := by omega
              clear hq
              obtain ⟨m, hm0⟩ : ∃ m : Nat, m = q * b := ⟨_, rfl⟩
              have hm : IntKind.u64.wrap ((q : Int) * b) = m := by
                rw [IntKind.wrap_u64]; have := Knuth.mul_half hq' hb'.out
                rw [← Int.natCast_mul, ← hm0]; omega
              have Hm := Lib.hid hm0
              clear hm0 hq'
              by_cases ht : 4294967296 * r + d0 < m
              · have c2 : decide (4294967296 * (r : Int) + (d0 : Int) < (m : Int)) = true := by rw [decide_eq_true_eq]; omega
                have hpos := hD.out.pos hP2.out (.inr (by rw [← Hm.out]; omega))
                have hqi : (1 : Int) ≤ q := by omega
                by_cases hr : r + a < 4294967296
                · have c3 : decide ((4294967296 : Int) ≤ (r : Int) + (a : Int)) = false := by rw [decide_eq_false_iff_not]; omega
                  have hN := Lib.hid (hD.out.less hP2.out (.inr (by rw [← Hm.out]; omega)) hr)
                  have Hp := Lib.hid hpos; clear hpos
                  clear ht hr
                  go_wp2
                  go_round
                  case rel => exact ⟨q - 1, r + a, by rw [Int.ofNat_sub Hp.out]; rfl, by go_num, hN.out⟩
                  case measure => simp [intOf]; omega
                · have c3 : decide ((4294967296 : Int) ≤ (r : Int) + (a : Int)) = true := by rw [decide_eq_true_eq]; omega
                  have hN := hD.out.last hP2.out (.inr (by rw [← Hm.out]; omega)) (by omega)
                  have e15 : (q : Int) - 1 = (Q0 : Nat) := by rw [hQ0.out, ← hN]; omega
                  clear hN
                  clear ht hr
                  clear hpos
                  go_wp2
                  go_ret2
                  exact ⟨rfl, rfl⟩
              · have c2 : decide (4294967296 * (r : Int) + (d0 : Int) < (m : Int)) = false := by rw [decide_eq_false_iff_not]; omega
                have hN := hD.out.done hP2.out (by rw [← Hm.out]; omega)
                rw [← hQ0.out] at hN
                subst hN
                clear ht
                go_wp2
                go_ret2
                exact ⟨rfl, rfl⟩
      · have c2 : decide (4294967296 * (r : Int) + (d1 : Int) < (m : Int)) = false := by rw [decide_eq_false_iff_not]; omega
        have hN := hD.out.done hP.out (by rw [← Hm.out]; omega)
        rw [← hQ1.out] at hN
        subst hN
        clear ht
        go_wp2_with fail
        go_loop [18, 16] (fun q r => ∃ qn rn : Nat, q = .int .u64 qn ∧ r = .int .u64 rn ∧ Knuth.Dig u2 d0 a b qn rn) (fun q _ => (intOf q).toNat)
        case atStart => exact ⟨_, _, rfl, rfl, hst2.out⟩
        case round =>
          obtain ⟨q, r, rfl, rfl, hD'⟩ := hrel
          have hD := Lib.hid hD'
          have hq1 : (q : Int) ≤ 4294967297 := by have := hD'.1; omega
          have hr1 : (r : Int) < 4294967296 := by have := hD'.2.1; omega
          clear hD'
          by_cases hq : 4294967296 ≤ q
          · have c1 : decide ((4294967296 : Int) ≤ (q : Int)) = true := by rw [decide_eq_true_eq]; omega
            have hpos := hD.out.pos hP2.out (.inl hq)
            have hqi : (1 : Int) ≤ q := by omega
            by_cases hr : r + a < 4294967296
            · have c3 : decide ((4294967296 : Int) ≤ (r : Int) + (a : Int)) = false := by rw [decide_eq_false_iff_not]; omega
              have hN := Lib.hid (hD.out.less hP2.out (.inl hq) hr)
              have Hp := Lib.hid hpos; clear hpos
              clear hq hr
              go_wp2
              go_round
              case rel => exact ⟨q - 1, r + a, by rw [Int.ofNat_sub Hp.out]; rfl, by go_num, hN.out⟩
              case measure => simp [intOf]; omega
            · have c3 : decide ((4294967296 : Int) ≤ (r : Int) + (a : Int)) = true := by rw [decide_eq_true_eq]; omega
              have hN := hD.out.last hP2.out (.inl hq) (by omega)
              have e15 : (q : Int) - 1 = (Q0 : Nat) := by rw [hQ0.out, ← hN]; omega
              clear hN
              clear hq hr
              clear hpos
              go_wp2
              go_ret2
              exact ⟨rfl, rfl⟩
          · have c1 : decide ((4294967296 : Int) ≤ (q : Int)) = false := by rw [decide_eq_false_iff_not]; omega
            have hq' : q < 4294967296 := by omega
            clear hq
            obtain ⟨m, hm0⟩ : ∃ m : Nat, m = q * b := ⟨_, rfl⟩
            have hm : IntKind.u64.wrap ((q : Int) * b) = m := by
              rw [IntKind.wrap_u64]; have := Knuth.mul_half hq' hb'.out
              rw [← Int.natCast_mul, ← hm0]; omega
            have Hm := Lib.hid hm0
            clear hm0 hq'
            by_cases ht : 4294967296 * r + d0 < m
            · have c2 : decide (4294967296 * (r : Int) + (d0 : Int) < (m : Int)) = true := by rw [decide_eq_true_eq]; omega
              have hpos := hD.out.pos hP2.out (.inr (by rw [← Hm.out]; omega))
              have hqi : (1 : Int) ≤ q := by omega
              by_cases hr : r + a < 4294967296
              · have c3 : decide ((4294967296 : Int) ≤ (r : Int) + (a : Int)) = false := by rw [decide_eq_false_iff_not]; omega
                have hN := Lib.hid (hD.out.less hP2.out (.inr (by rw [← Hm.out]; omega)) hr)
                have Hp := Lib.hid hpos; clear hpos
                clear ht hr
                go_wp2
                go_round
                case rel => exact ⟨q - 1, r + a, by rw [Int.ofNat_sub Hp.out]; rfl, by go_num, hN.out⟩
                case measure => simp [intOf]; omega
              · have c3 : decide ((4294967296 : Int) ≤ (r : Int) + (a : Int)) = true := by rw [decide_eq_true_eq]; omega
                have hN := hD.out.last hP2.out (.inr (by rw [← Hm.out]; omega)) (by omega)
                have e15 : (q : Int) - 1 = (Q0 : Nat) := by rw [hQ0.out, ← hN]; omega
                clear hN
                clear ht hr
                clear hpos
                go_wp2
                go_ret2
                exact ⟨rfl, rfl⟩
            · have c2 : decide (4294967296 * (r : Int) + (d0 : Int) < (m : Int)) = false := by rw [decide_eq_false_iff_not]; omega
              have hN := hD.out.done hP2.out (by rw [← Hm.out]; omega)
              rw [← hQ0.out] at hN
              subst hN
              clear ht
              go_wp2
              go_ret2
              exact ⟨rfl, rfl⟩
end Go.Proofs.YtgdepcnfjmobjaaGreat

/- math/bits.Div64: the contract, for all arguments whose quotient fits: the exact quotient and the rest. -/
namespace Go.Proofs.YtgdepcnfjmobjaaGreat
open Go.RowKit

theorem bitLen_spec : ∀ (n x : Nat), x ≤ n → x ≠ 0 → x < 2 ^ 64 → 1 ≤ Lib.bitLen x ∧ 2 ^ (Lib.bitLen x - 1) ≤ x ∧ x < 2 ^ Lib.bitLen x
  | 0, x, h, h0, _ => absurd (Nat.le_zero.1 h) h0
  | n + 1, x, h, h0, hx => by
    rw [Lib.bitLen_half x h0 hx]
    by_cases h1 : x / 2 = 0
    · have : x = 1 := by omega
      subst this
      decide
    · have ⟨i1, i2, i3⟩ := bitLen_spec n (x / 2) (by omega) h1 (by omega)
      refine ⟨by omega, ?_, ?_⟩
      · obtain ⟨k, hk⟩ : ∃ k, Lib.bitLen (x / 2) = k + 1 := ⟨Lib.bitLen (x / 2) - 1, by omega⟩
        rw [hk] at i2 ⊢
        rw [show 1 + (k + 1) - 1 = k + 1 by omega, Nat.pow_succ]
        rw [Nat.add_sub_cancel] at i2
        omega
      · rw [Nat.add_comm, Nat.pow_succ]; omega
theorem bitLen_le {x : Nat} (h0 : x ≠ 0) (hx : x < 2 ^ 64) : Lib.bitLen x ≤ 64 := by
  have ⟨_, h2, _⟩ := bitLen_spec x x (Nat.le_refl _) h0 hx
  rcases Nat.lt_or_ge 64 (Lib.bitLen x) with h | h
  · have : 2 ^ 64 ≤ 2 ^ (Lib.bitLen x - 1) := Nat.pow_le_pow_right (by omega) (by omega)
    omega
  · exact h

theorem wrap_nat {n : Nat} (h : n < 18446744073709551616) : IntKind.u64.wrap (n : Int) = n := by rw [IntKind.wrap_u64]; omega

theorem cast_pow2 (s : Nat) : ((2 ^ s : Nat) : Int) = (2 : Int) ^ s := by rw [Int.natCast_pow]; rfl

/-- the rest of a digit's step, as the walk reckons it -/
theorem step_rest {u d q Y r : Nat} (h : Y * q + r = u * 4294967296 + d) (hr : r < 18446744073709551616) :
    IntKind.u64.wrap (IntKind.u64.wrap (IntKind.u64.wrap ((u : Int) * 4294967296) + d) - IntKind.u64.wrap ((q : Int) * Y)) = r := by
  have h' : (q : Int) * Y + r = u * 4294967296 + d := by
    have := congrArg (fun n : Nat => (n : Int)) h
    simp only [Int.natCast_add, Int.natCast_mul] at this
    rw [Int.mul_comm]; exact this
  generalize (q : Int) * Y = C at *
  simp only [IntKind.wrap_u64]; omega

theorem rest_wrap {u a : Nat} (hu : u < 18446744073709551616) : IntKind.u64.wrap (u - IntKind.u64.wrap (((u / a : Nat) : Int) * a)) = (u % a : Nat) := by
  have h := Nat.div_add_mod u a
  rw [← Int.natCast_mul]
  have hm : u / a * a ≤ u := Nat.div_mul_le_self u a
  rw [wrap_nat (show u / a * a < _ by omega), IntKind.wrap_u64]
  rw [Nat.mul_comm] at h
  omega

theorem div64_nat (hi lo y : Nat) (w : World) (h1 : 1 ≤ hi) (hy : hi < y) (hL : lo < 18446744073709551616) (hY : y < 18446744073709551616) :
    Calls Tryz.prog 47 #[.int .u64 hi, .int .u64 lo, .int .u64 y] w fun e w' =>
      e = .returned (.tuple #[.int .u64 ((hi * 18446744073709551616 + lo) / y : Nat), .int .u64 ((hi * 18446744073709551616 + lo) % y : Nat)]) ∧ w' = w := by
  obtain ⟨hB1, hB2, hB3⟩ := bitLen_spec y y (Nat.le_refl _) (by omega) hY
  have hB4 := bitLen_le (x := y) (by omega) hY
  obtain ⟨s, hs⟩ : ∃ s, s = 64 - Lib.bitLen y := ⟨_, rfl⟩
  have hP : 0 < 2 ^ s := Nat.two_pow_pos s
  have hPP : 2 ^ (64 - s) * 2 ^ s = 18446744073709551616 := by rw [← Nat.pow_add, show 64 - s + s = 64 by omega]
  -- the divisor
  have hY1 : 9223372036854775808 ≤ y * 2 ^ s := by
    have : 2 ^ (Lib.bitLen y - 1) * 2 ^ s ≤ y * 2 ^ s := Nat.mul_le_mul_right _ hB2
    rw [← Nat.pow_add, show Lib.bitLen y - 1 + s = 63 by omega] at this
    omega
  have hY2 : y * 2 ^ s < 18446744073709551616 := by
    have : y * 2 ^ s < 2 ^ Lib.bitLen y * 2 ^ s := Nat.mul_lt_mul_of_pos_right hB3 hP
    rw [← Nat.pow_add, show Lib.bitLen y + s = 64 by omega] at this
    omega
  generalize hYe : y * 2 ^ s = Y at *
  have hhi : hi * 2 ^ s < 18446744073709551616 := by
    have : hi * 2 ^ s ≤ y * 2 ^ s := Nat.mul_le_mul_right _ (Nat.le_of_lt hy)
    omega
  have hlo : lo / 2 ^ (64 - s) < 2 ^ s := by
    rw [Nat.div_lt_iff_lt_mul (Nat.two_pow_pos _), Nat.mul_comm, hPP]; exact hL
  -- the dividend
  have hsplit : lo * 2 ^ s = lo / 2 ^ (64 - s) * 18446744073709551616 + lo * 2 ^ s % 18446744073709551616 := by
    have h := Nat.div_add_mod (lo * 2 ^ s) 18446744073709551616
    have e : lo * 2 ^ s / 18446744073709551616 = lo / 2 ^ (64 - s) := by
      rw [← hPP, Nat.mul_div_mul_right _ _ hP]
    rw [e] at h
    omega
  generalize hl : lo * 2 ^ s % 18446744073709551616 = l at *
  have hl2 : l < 18446744073709551616 := by rw [← hl]; exact Nat.mod_lt _ (by omega)
  obtain ⟨u, hu⟩ : ∃ u, u = hi * 2 ^ s + lo / 2 ^ (64 - s) := ⟨_, rfl⟩
  have hN : (hi * 18446744073709551616 + lo) * 2 ^ s = (u * 4294967296 + l / 4294967296) * 4294967296 + l % 4294967296 := by
    rw [Nat.add_mul, hsplit, hu]
    have : hi * 18446744073709551616 * 2 ^ s = hi * 2 ^ s * 18446744073709551616 := by rw [Nat.mul_right_comm]
    omega
  have huY : u < Y := by
    have h2 : (hi * 18446744073709551616 + lo) * 2 ^ s < Y * 18446744073709551616 := by
      have h3 : hi * 18446744073709551616 + lo < y * 18446744073709551616 := by omega
      have h4 := Nat.mul_lt_mul_of_pos_right h3 hP
      rw [Nat.mul_right_comm y, hYe] at h4
      exact h4
    omega
  have hl3 : l / 4294967296 < 4294967296 := by omega
  generalize hd1 : l / 4294967296 = d1 at *
  generalize hd0 : l % 4294967296 = d0 at *
  have hd0' : d0 < 4294967296 := by omega
  generalize ha : Y / 4294967296 = a at *
  generalize hb : Y % 4294967296 = b at *
  have hb' : b < 4294967296 := by omega
  have hYab : a * 4294967296 + b = Y := by omega
  have ha1 : 2147483648 ≤ a := by omega
  have ha2 : a < 4294967296 := by omega
  have hPar : Knuth.Par u d1 a b := ⟨by omega, hl3, ha1, ha2, hb'⟩
  obtain ⟨Q1, u2, Q0, r2, hQ1, hQ0, c1, c2, hu2, hr2, hq, hr⟩ := Knuth.digits hYe (by omega) hN
  rw [hq, hr]
  have hlt := Knuth.dig_lt hPar
  rw [hYab, ← hQ1] at hlt
  have hPar2 : Knuth.Par u2 d0 a b := ⟨by omega, hd0', ha1, ha2, hb'⟩
  have hlt2 := Knuth.dig_lt hPar2
  rw [hYab, ← hQ0] at hlt2
  obtain ⟨qh, rh, g1, g2, f1, m1, hD⟩ := Knuth.start hPar
  obtain ⟨qh2, rh2, g3, g4, f2, m2, hD2⟩ := Knuth.start hPar2
  have w1 := rest_wrap (u := u) (a := a) (by omega)
  have w2 := rest_wrap (u := u2) (a := a) (by omega)
  have v1 := (Int.natCast_ediv u a).symm
  have v2 := (Int.natCast_ediv u2 a).symm
  rw [← g1] at v1 w1
  rw [← g2] at w1
  rw [← g3] at v2 w2
  rw [← g4] at w2
  have s1 := step_rest c1 (by omega)
  have s2 := step_rest c2 (by omega)
  refine div64_high hi lo y s Y a b u l d1 d0 u2 qh rh qh2 rh2 _ _ Q1 Q0 w
    (by omega) (by omega) (by omega) (Lib.hid (by rw [Int.toNat_natCast]; omega)) (by omega)
    ?e1 (by omega) ?e3 ?e4 ?e5 (by omega) ?e7 v1 w1 (Lib.hid hD)
    s1 v2 w2 (Lib.hid hD2) ?e13 ?e14 (Lib.hid hPar) (Lib.hid hPar2) (Lib.hid (by rw [hYab]; exact hQ1)) (Lib.hid (by rw [hYab]; exact hQ0))
    (by omega) (by omega) (Lib.hid hb') (by omega) (by omega) (by omega) (by omega) (by omega) (by omega) (by omega) (by omega) (by omega)
  case e1 => rw [← cast_pow2, ← Int.natCast_mul, hYe]; exact wrap_nat hY2
  case e3 => rw [show (4294967295 : Int) = ((4294967295 : Nat) : Int) from rfl, bits_and_u64_nat _ _ hY2 (by omega), show (4294967295 : Nat) = 2 ^ 32 - 1 from rfl, Nat.and_two_pow_sub_one_eq_mod]; omega
  case e4 =>
    rw [← cast_pow2, ← cast_pow2, ← Int.natCast_mul, wrap_nat hhi, ← Int.natCast_ediv, bits_or_u64_nat _ _ hhi (by omega), hu, Nat.mul_comm hi, Nat.two_pow_add_eq_or_of_lt hlo]
  case e5 => rw [← cast_pow2, ← Int.natCast_mul, IntKind.wrap_u64]; omega
  case e7 => rw [show (4294967295 : Int) = ((4294967295 : Nat) : Int) from rfl, bits_and_u64_nat _ _ hl2 (by omega), show (4294967295 : Nat) = 2 ^ 32 - 1 from rfl, Nat.and_two_pow_sub_one_eq_mod]; omega
  case e13 => rw [IntKind.wrap_u64, IntKind.wrap_u64]; omega
  case e14 => rw [s2, ← cast_pow2, ← Int.natCast_ediv]
end Go.Proofs.YtgdepcnfjmobjaaGreat

/- Scale: of the program and of the reference: both return 'Sc.sc'. -/
namespace Go.Proofs.YtgdepcnfjmobjaaGreat
open Go.RowKit

theorem div64_any (hi lo y : Nat) (w : World) (hy : hi < y) (hL : lo < 18446744073709551616) (hY : y < 18446744073709551616) :
    Calls Tryz.prog 47 #[.int .u64 hi, .int .u64 lo, .int .u64 y] w fun e w' =>
      e = .returned (.tuple #[.int .u64 ((hi * 18446744073709551616 + lo) / y : Nat), .int .u64 ((hi * 18446744073709551616 + lo) % y : Nat)]) ∧ ∃ n, w' = w.drewN n := by
  by_cases h : hi = 0
  · subst h
    refine (div64_low lo y w (by omega) (by omega) (by omega)).mono ?_
    rintro e w' ⟨rfl, h⟩
    refine ⟨?_, h⟩
    simp only [Nat.zero_mul, Nat.zero_add, Int.natCast_ediv, Int.natCast_emod]
  · refine (div64_nat hi lo y w (by omega) hy hL hY).mono ?_
    rintro e w' ⟨rfl, rfl⟩
    exact ⟨rfl, 0, rfl⟩

/-- where a way of rounding stands in the table -/
def wayAt (how : Int) : Int := if 1 ≤ how ∧ how ≤ 5 then how - 1 else -1
def HasRow (w : World) (R : Nat) : Prop := ∀ j, j < 10 → w.cell? ⟨R, j, none⟩ = some (wayRow.getD j undef)
theorem HasRow.at {w w' : World} {R B : Nat} (h : HasRow w R) (hb : Below B w w') (hR : R < B) : HasRow w' R := fun j hj => (hb.cell (p := ⟨R, j, none⟩) hR).trans (h j hj)

set_option maxHeartbeats 400000 in
theorem index_any (R H : Nat) (how : Int) (w : World) (hr : HasRow w R) (hh : w.cell? ⟨H, 0, none⟩ = some (.int .i64 how)) (hR : R < w.heap.size) (hH : H < w.heap.size) :
    Calls Tryz.prog 44 #[.slice (some ⟨R, 0, none⟩) 5 5, .func (.func 45) #[] #[.pointer (some ⟨H, 0, none⟩)]] w fun e w' => e = .returned (.int .i64 (wayAt how)) ∧ Below w.heap.size w w' := by
  go_enter Tryz.func44, Tryz.ntmps44
  go_wp2_with fail
  go_loopw [8] (fun i wr => ∃ k : Nat, k ≤ 5 ∧ i = .int .i64 k ∧ (∀ j : Nat, j < k → (j : Int) + 1 ≠ how) ∧ Below w.heap.size w wr) (fun i _ => 5 - (intOf i).toNat)
  case atStart => exact ⟨0, by omega, rfl, fun j hj => by omega, Below.refl _ _⟩
  case round =>
    obtain ⟨k, hk, rfl, hno, hb⟩ := hrel
    have Hno := Lib.hid hno
    clear hno
    by_cases h5 : k = 5
    · subst h5
      go_wp2
      go_ret
      refine ⟨ret_int ?_, hb⟩
      unfold wayAt; rw [if_neg]
      intro ⟨h1, h2⟩
      exact Hno.out (how - 1).toNat (by omega) (by omega)
    · have hr' := hr.at hb hR
      have hh' := (hb.cell (p := ⟨H, 0, none⟩) hH).trans hh
      have hsz := hb.size
      have c0 := hr' (k * 2) (by omega)
      have c1 := hr' (k * 2 + 1) (by omega)
      clear hr' hr
      obtain ⟨f, e0, e1⟩ : ∃ f, wayRow.getD (k * 2) undef = .int .i64 ((k : Int) + 1) ∧ wayRow.getD (k * 2 + 1) undef = fnv f := by
        rcases (show k = 0 ∨ k = 1 ∨ k = 2 ∨ k = 3 ∨ k = 4 by omega) with rfl | rfl | rfl | rfl | rfl
        all_goals exact ⟨_, rfl, rfl⟩
      rw [e0] at c0; rw [e1] at c1
      unfold fnv at c1
      clear e0 e1
      go_wp2_with fail
      refine (has_any _ how _ _ wr hh' (by exact Nat.lt_of_lt_of_le hH hsz)).mono ?_
      rintro e w1 ⟨rfl, hb1⟩
      have hb2 := hb.trans (hb1.mono hsz)
      by_cases hd : (k : Int) + 1 = how
      · have hd' : ((k : Int) + 1 == how) = true := by simpa using hd
        have Hd := Lib.hid hd
        clear hd
        go_wp2
        go_ret
        refine ⟨ret_int ?_, hb2⟩
        have := Hd.out
        unfold wayAt; rw [if_pos (by omega)]; show (k : Int) = _; omega
      · have hd' : ((k : Int) + 1 == how) = false := by simpa using hd
        have Hd := Lib.hid hd
        clear hd
        go_wp2
        go_roundw
        case rel =>
          refine ⟨k + 1, by omega, by go_num, fun j hj => ?_, hb2⟩
          rcases Nat.lt_or_ge j k with h | h
          · exact Hno.out j h
          · rw [show j = k by omega]; exact Hd.out
        case measure => simp [intOf]; omega

/-- what the functions of the table return -/
def wayF (how : Int) (b : Bool) (q h : Int) : Bool :=
  if how = 1 then b else if how = 2 then !b else if how = 3 then false else if how = 4 then decide (0 < h) || (h == 0 && !b) else decide (0 < h) || (h == 0 && (q % 2 == 1))
theorem wayF_away (how : Int) (b : Bool) (q r d : Nat) : wayF how b q (cmpF r ((d : Int) - r)) = Sc.away how b q r d := by
  have e1 : (0 < cmpF (r : Int) ((d : Int) - r)) ↔ d < 2 * r := by unfold cmpF; split <;> (try split) <;> omega
  have e2 : (cmpF (r : Int) ((d : Int) - r) = 0) ↔ 2 * r = d := by unfold cmpF; split <;> (try split) <;> omega
  have e3 : ((q : Int) % 2 = 1) ↔ q % 2 = 1 := by omega
  have e4 : (cmpF (r : Int) ((d : Int) - r) == 0) = decide (2 * r = d) := by rw [Bool.eq_iff_iff, beq_iff_eq, decide_eq_true_eq]; exact e2
  have e5 : ((q : Int) % 2 == 1) = decide (q % 2 = 1) := by rw [Bool.eq_iff_iff, beq_iff_eq, decide_eq_true_eq]; exact e3
  unfold wayF Sc.away
  rw [decide_eq_decide.2 e1, e4, e5]
theorem way_any (k : Nat) (hk : k < 5) : ∃ f, wayRow.getD (k * 2) undef = .int .i64 ((k : Int) + 1) ∧ wayRow.getD (k * 2 + 1) undef = fnv f ∧ (∀ args w, Sem.run Tryz.prog (callFunc f args) w = .ok (.enter f args) w) ∧
    ∀ (b : Bool) (q h : Int) (w : World), 0 ≤ q → Calls Tryz.prog f #[.bool b, .int .u64 q, .int .i64 h] w fun e w' => e = .returned (.bool (wayF ((k : Int) + 1) b q h)) ∧ w = w' := by
  rcases (show k = 0 ∨ k = 1 ∨ k = 2 ∨ k = 3 ∨ k = 4 by omega) with rfl | rfl | rfl | rfl | rfl
  · exact ⟨_, rfl, rfl, fun _ _ => by kernel_rfl, fun b q h w _ => way1 b q h w⟩
  · exact ⟨_, rfl, rfl, fun _ _ => by kernel_rfl, fun b q h w _ => way2 b q h w⟩
  · exact ⟨_, rfl, rfl, fun _ _ => by kernel_rfl, fun b q h w _ => way3 b q h w⟩
  · exact ⟨_, rfl, rfl, fun _ _ => by kernel_rfl, fun b q h w _ => way4 b q h w⟩
  · exact ⟨_, rfl, rfl, fun _ _ => by kernel_rfl, fun b q h w hq => way5 b q h w hq⟩
theorem quiet_eq {P : Program} {f : FuncId} {args : Array Value} {w : World} {n : Nat} {v : Value}
    (h : Calls P f args (w.drewN n) fun e w' => e = .returned v ∧ w.drewN n = w') : Calls P f args (w.drewN n) fun e w'' => e = .returned v ∧ ∃ m, w'' = w.drewN m :=
  h.mono fun _ _ ⟨he, hm⟩ => ⟨he, n, hm.symm⟩
theorem below_drewN {B : Nat} {a w : World} (h : Below B a w) (n : Nat) : Below B a (w.drewN n) := h.trans ⟨rfl, rfl, rfl, Nat.le_refl _, fun _ _ => rfl⟩
end Go.Proofs.YtgdepcnfjmobjaaGreat

/- A text of this claim. -/
namespace Go.Proofs.YtgdepcnfjmobjaaGreat
open Go.RowKit
theorem below_cell {w w' : World} {p : Addr} {v : Value} (hb : Below w.heap.size w w') (h : w.cell? p = some v) : w'.cell? p = some v :=
 (hb.cell (World.block_lt_of_cell? w p h)).trans h
theorem below_al (w : World) (o : Obj) : Below w.heap.size w (w.alloc o) := (Below.refl _ _).alloc (Nat.le_refl _) _
theorem below_step {a b c : World} (h : Below a.heap.size a b) (k : Below b.heap.size b c) : Below a.heap.size a c := h.trans (k.mono h.size)
end Go.Proofs.YtgdepcnfjmobjaaGreat

/- A text of this claim. -/
namespace Go.Proofs.YtgdepcnfjmobjaaGreat
open Go.RowKit Go.BigFrame
def Ext (W : World) : Type := { w : World // Below W.heap.size W w }
instance (W : World) : Nonempty (Ext W) := ⟨⟨W, Below.refl _ _⟩⟩
theorem Ext.ex {W : World} {p : Addr} {v : Value} (h : W.cell? p = some v) : ∀ X : Ext W, X.1.cell? p = some v := fun X => below_cell X.2 h
theorem Ext.calls {P : Program} {W : World} {f : FuncId} {args : Array Value} {v : Value} (X : Ext W) (h : Calls P f args X.1 fun e w' => e = .returned v ∧ Below X.1.heap.size X.1 w') : Calls P f args X.1 fun e w'' => e = .returned v ∧ ∃ Y : Ext W, w'' = Y.1 :=
 h.mono fun _ w'' ⟨he, hb⟩ => ⟨he, ⟨w'', below_step X.2 hb⟩, rfl⟩
theorem wp_region_ext {P : Program} {id : Nat} {Q : Exit → Act → World → Prop} {a : Act} {W : World} (X : Ext W) {l : List Oper} (hm : P.follows .mixedOrders = true) (hB : Region.lexB .any l.toArray = true)
 (h : wpQuiet P l.toArray (fun w' => ∃ Y : Ext W, w' = Y.1) (fun a' => ∀ w', (∃ Y : Ext W, w' = Y.1) → Q .normal a' w') l a) : (Code.region id l.toArray true).wp P Q a X.1 :=
 wp_region_quiet (C := fun w' => ∃ Y : Ext W, w' = Y.1) hm hB ⟨⟨{ X.1 with drawn := X.1.drawn + 1 }, below_step X.2 ⟨rfl, rfl, rfl, Nat.le_refl _, fun _ _ => rfl⟩⟩, rfl⟩ (by simpa using h)
theorem alloc_cells (w : World) (cs : Array Value) (T : TypeId) : ∃ W, w.alloc (.cells cs T) = W ∧ Below w.heap.size w W ∧ W.heap.size = w.heap.size + 1 ∧ ∀ i v, cs[i]? = some v → W.cell? ⟨w.heap.size, i, none⟩ = some v :=
 ⟨_, rfl, below_al _ _, by simp, fun i v h => by rw [World.cell?_alloc_at _ _ _ _ rfl, h]⟩
theorem ext_wp {P : Program} {c : Code} {Q : Exit → Act → World → Prop} {a : Act} {W : World} (h : ∀ X : Ext W, c.wp P Q a X.1) : c.wp P Q a W := h ⟨W, Below.refl _ _⟩
theorem Ext.down {W : World} (X : Ext W) {B : Nat} {w : World} (h : Below B w W) (hB : B ≤ W.heap.size) : Below B w X.1 := h.trans (X.2.mono hB)
theorem Ext.re {W W' : World} (h : Below W.heap.size W W') {p : Addr} {v : Value} (e : ∀ X : Ext W, X.1.cell? p = some v) : ∀ X : Ext W', X.1.cell? p = some v := fun X => e ⟨X.1, below_step h X.2⟩
end Go.Proofs.YtgdepcnfjmobjaaGreat

/- A text of this claim. -/
namespace Go.Proofs.YtgdepcnfjmobjaaGreat
open Go.RowKit Go.ChangeShapes Go.WideShapes Go.Deep
end Go.Proofs.YtgdepcnfjmobjaaGreat

/- A text of this claim. -/
namespace Go.Proofs.YtgdepcnfjmobjaaGreat
open Go.RowKit Go.BigFrame
structure Kept (O : Nat → Prop) (w w' : World) : Prop where
 os : w'.os = w.os
 tape : w'.tape = w.tape
 output : w'.output = w.output
 size : w.heap.size ≤ w'.heap.size
 block : ∀ k, k < w.heap.size → ¬ O k → w'.heap[k]? = w.heap[k]?
theorem Kept.refl (O : Nat → Prop) (w : World) : Kept O w w := ⟨rfl, rfl, rfl, Nat.le_refl _, fun _ _ _ => rfl⟩
theorem Kept.trans {O : Nat → Prop} {a b c : World} (h : Kept O a b) (k : Kept O b c) : Kept O a c :=
 ⟨k.os.trans h.os, k.tape.trans h.tape, k.output.trans h.output, Nat.le_trans h.size k.size, fun i hi ho => (k.block i (Nat.lt_of_lt_of_le hi h.size) ho).trans (h.block i hi ho)⟩
theorem Kept.of_below {O : Nat → Prop} {a b : World} (h : Below a.heap.size a b) : Kept O a b := ⟨h.os, h.tape, h.output, h.size, fun k hk _ => h.block k hk⟩
theorem Kept.of_grown {O : Nat → Prop} {a b : World} {row : Option Nat} (h : a.grownBy b row) (hr : ∀ g, row = some g → g < a.heap.size → O g) : Kept O a b :=
 ⟨h.os, h.tape, h.output, h.size, fun k hk ho => h.block k hk (fun e => ho (hr k e.symm hk))⟩
theorem Kept.cell {O : Nat → Prop} {w w' : World} {p : Addr} {v : Value} (h : Kept O w w') (ho : ¬ O p.block) (hc : w.cell? p = some v) : w'.cell? p = some v :=
 (World.cell?_of_block (h.block p.block (World.block_lt_of_cell? w p hc) ho)).trans hc
theorem Kept.grown {O : Nat → Prop} {a b c : World} (h : Kept O a b) {row : Option Nat} (hg : b.grownBy c row) (hr : ∀ g, row = some g → g < a.heap.size → O g) : Kept O a c :=
 ⟨hg.os.trans h.os, hg.tape.trans h.tape, hg.output.trans h.output, Nat.le_trans h.size hg.size, fun k hk ho => (hg.block k (Nat.lt_of_lt_of_le hk h.size) (fun e => ho (hr k e.symm hk))).trans (h.block k hk ho)⟩
theorem Kept.below {O : Nat → Prop} {B : Nat} {w a b : World} (hb : Below B w a) (h : Kept O a b) (hB : B ≤ a.heap.size) (hO : ∀ k, k < B → ¬ O k) : Below B w b :=
 hb.trans ⟨h.os, h.tape, h.output, h.size, fun k hk => h.block k (Nat.lt_of_lt_of_le hk hB) (hO k hk)⟩
def ExtO (O : Nat → Prop) (W : World) : Type := { w : World // Kept O W w }
instance (O : Nat → Prop) (W : World) : Nonempty (ExtO O W) := ⟨⟨W, Kept.refl _ _⟩⟩
section
variable {O : Nat → Prop} {W : World}
theorem ExtO.ex {p : Addr} {v : Value} (ho : ¬ O p.block) (h : W.cell? p = some v) : ∀ X : ExtO O W, X.1.cell? p = some v := fun X => X.2.cell ho h
theorem ExtO.re {W' : World} (h : Kept O W W') {p : Addr} {v : Value} (e : ∀ X : ExtO O W, X.1.cell? p = some v) : ∀ X : ExtO O W', X.1.cell? p = some v := fun X => e ⟨X.1, h.trans X.2⟩
end
def isCalm : Op → Bool
 | .move _ | .assign _ | .pick .. | .build .. | .load .. | .binOp .. | .unOp .. | .fieldAddr .. | .field .. | .indexAddr .. | .index .. | .lookup .. | .extract .. | .slice .. => true
 | _ => false
theorem run_val {α : Type} {P : Program} {s : Sem α} (f : α → Value) {w w' : World} {n : Next} (h : (do pure (Next.value (f (← s))) : Sem Next).run P w = .ok n w') : ∃ x, n = .value x := by
 rw [Sem.run_bind] at h
 cases hs : s.run P w with
 | ok x w1 => rw [hs] at h; simp at h; exact ⟨f x, h.1.symm⟩
 | halt e w1 => rw [hs] at h; simp at h
theorem calm_value {P : Program} {o : Oper} {ρ : Operand → Value} {w w' : World} {n : Next} (hc : isCalm o.op = true) (h : (execOp ρ o).run P w = .ok n w') : ∃ x, n = .value x := by
 obtain ⟨dst, op, type, pos, after, guard⟩ := o
 cases op <;> first | (simp [isCalm] at hc; done) | (simp only [execOp] at h; first | exact run_val (fun x => x) h | exact run_val (fun b : Bool => if b then _ else _) h | (simp at h; exact ⟨_, h.1.symm⟩))
section
variable {P : Program} {ops : Array Oper} {Q : Exit → Act → World → Prop} {C : World → Prop}
theorem yieldsIf_of_quiet {o : Oper} {a : Act} {v : Value} (hc : isCalm o.op = true) (hw : Region.wanted o (yielded ops a.tmps) = true) (h : ∀ w, C w → o.quietAt P a C w v) : YieldsIf P ops C o v a := by
 refine Or.inl ⟨hw, fun w hC => ?_⟩
 have h1 := h w hC
 unfold Oper.quietAt at h1
 cases hr : (execOp a.eval o).run P w with
 | ok n w' =>
  rw [hr] at h1
  obtain ⟨x, rfl⟩ := calm_value hc hr
  simp only [Oper.quietUpon] at h1
  rw [h1.1, h1.2]
 | halt e w' => rw [hr] at h1; simp [Oper.quietUpon] at h1
def calmB (ops : Array Oper) : List Nat → Array Bool → Bool
 | [], _ => true
 | i :: is, listed => ((ops[i]?).map fun o => isCalm o.op).getD false && Region.free .any ops listed i && (Region.ready .any ops listed).contains i && calmB ops is (listed.setIfInBounds i true)
def listAll (is : List Nat) (listed : Array Bool) : Array Bool := is.foldl (fun l i => l.setIfInBounds i true) listed
theorem held_calm (hsel : Region.noSelect ops = true) (hQ : ∀ c a d v w, Q (.panic c) (Act.put a d v) w → Q (.panic c) a w) {w : World} (hC : C w) : ∀ (is : List Nat) (fuel : Nat) (listed : Array Bool) (a : Act),
 calmB ops is listed = true → wpQuiet P ops C (fun a' => wpAnyH P .any ops Q C fuel (listAll is listed) a' w) (is.filterMap fun i => ops[i]?) a → wpAnyH P .any ops Q C (fuel + is.length) listed a w
 | [], _, _, _, _, h => h
 | i :: is, fuel, listed, a, hB, h => by
  simp only [calmB, Bool.and_eq_true] at hB
  obtain ⟨⟨⟨h1, h2⟩, h3⟩, h4⟩ := hB
  cases ho : ops[i]? with
  | none => rw [ho] at h1; simp at h1
  | some o =>
   rw [ho] at h1
   simp only [Option.map_some, Option.getD_some] at h1
   rw [List.filterMap_cons, ho] at h
   simp only [wpQuiet] at h
   have e : fuel + (i :: is).length = (fuel + is.length) + 1 := by simp; omega
   rw [e]
   by_cases hw : Region.wanted o (yielded ops a.tmps) = true
   · rw [if_pos hw] at h
     obtain ⟨v, hv, hn⟩ := h
     exact wpAnyH_take ho hsel h2 h3 (fun c a w => hQ c a _ _ w) (yieldsIf_of_quiet h1 hw hv) hC (held_calm hsel hQ hC is fuel _ _ h4 hn)
   · rw [if_neg hw] at h
     exact wpAnyH_take ho hsel h2 h3 (fun c a w => hQ c a _ _ w) (Or.inr ⟨by simpa using hw, rfl⟩) hC (held_calm hsel hQ hC is fuel _ _ h4 h)
def nth : List Oper → Nat → Option Oper
 | [], _ => none
 | o :: _, 0 => some o
 | _ :: l, i + 1 => nth l i
theorem nth_eq : ∀ (l : List Oper) (i : Nat), nth l i = l.toArray[i]?
 | [], i => by simp [nth]
 | o :: l, 0 => by simp [nth]
 | o :: l, i + 1 => by
  rw [nth, nth_eq l i]
  simp
theorem held_quiet {l : List Oper} (hsel : Region.noSelect l.toArray = true) (hQ : ∀ c a d v w, Q (.panic c) (Act.put a d v) w → Q (.panic c) a w) {w : World} (hC : C w) (is : List Nat) (fuel : Nat) (listed : Array Bool) (a : Act)
 (hB : calmB l.toArray is listed = true) (h : wpQuiet P l.toArray C (fun a' => wpAnyH P .any l.toArray Q C fuel (listAll is listed) a' w) (is.filterMap (nth l)) a) : wpAnyH P .any l.toArray Q C (fuel + is.length) listed a w :=
 held_calm hsel hQ hC is fuel listed a hB (by rw [show (fun i => l.toArray[i]?) = nth l from funext fun i => (nth_eq l i).symm]; exact h)
theorem held_do {l : List Oper} {i fuel : Nat} {listed : Array Bool} {a : Act} {w : World} (o : Oper) (hi : nth l i = some o) (hr : Region.ready .any l.toArray listed = [i]) (hw : Region.wanted o (yielded l.toArray a.tmps) = true)
 (h : ∀ K : Act → World → Prop, (∀ a' w', C w' → wpAnyH P .any l.toArray Q C fuel (listed.setIfInBounds i true) a' w' → K a' w') → o.wp P a w K Q) : wpAnyH P .any l.toArray Q C (fuel + 1) listed a w := by
 rw [nth_eq] at hi
 refine wpAnyH_all hr (by simp) fun j hj => ?_
 simp only [List.mem_singleton] at hj
 subst hj
 unfold wpOp
 simp only [hi, hw, if_true]
 exact Or.inl (h _ fun a' w' h1 h2 => ⟨h1, h2⟩)
theorem held_start {id : Nat} {a : Act} {w : World} {l : List Oper} (hm : P.follows .mixedOrders = true)
 (h : wpAnyH P .any l.toArray Q C l.length (Array.replicate l.length false) a { w with drawn := w.drawn + 1 }) : (Code.region id l.toArray true).wp P Q a w :=
 wp_region_held hm (by simpa using h)
end
end Go.Proofs.YtgdepcnfjmobjaaGreat

/- A text of this claim. -/
namespace Go.Proofs.YtgdepcnfjmobjaaGreat
open Go.RowKit
theorem append_where {P : Program} (w : World) (base : Nat) (t ty e : TypeId) (i : TypeInfo) (z : Value) (size bytes : Nat) (ht : P.underlying t = some (.slice e)) (hi : P.info? e = some i) (hz : i.zero = some z)
 (hsize : i.size = size) (hby : i.bytes = bytes) (hsz : 0 < size) (v : Value) (n : Nat) (xs : List Value) (hown : w.ownsRow base e size v n xs)
 (a : Addr) (m c : Nat) (news : List Value) (hl : news.length = m * size) (hnews : ∀ j u, news[j]? = some u → w.cell? (a.add j) = some u) (h1 : ∀ u ∈ news, u.oneCell' = true) (hm : 0 < m)
 (h63 : n + m ≤ maxLen) (hbytes : (n + m) * bytes ≤ 140737488355328) :
 ∃ v' w', (Builtin.append_ #[t, t] ty #[v, .slice (some a) m c]).run P w = .ok v' w' ∧ (v'.ownBlock = v.ownBlock ∨ v'.ownBlock = some w.heap.size) := by
 subst hsize
 subst hby
 have hsmall : n + m ≤ 9223372036854775807 := by simp only [maxLen] at h63; omega
 rcases hown.2 with ⟨rfl, rfl⟩ | ⟨g, cap, cur, rfl, _, hg, hnc, _, hcs, _⟩
 · exact ⟨_, _, run_append_nil w t ty e i z ht hi hz a m c news hl hnews hm (by omega) (by have hb := hbytes; simp only [Nat.zero_add] at hb; omega), Or.inr rfl⟩
 · by_cases hroom : n + m ≤ cap
   · have hfit : n * i.size + news.length ≤ cur.size := by rw [hl, hcs, ← Nat.add_mul]; exact Nat.mul_le_mul_right _ hroom
     exact ⟨_, _, run_append_room w t ty e i ht hi g n cap cur hg a m c news hl hnews h1 hroom hfit, Or.inl rfl⟩
   · have holds : ∀ j u, xs[j]? = some u → w.cell? ((⟨g, 0, none⟩ : Addr).add j) = some u := hown.cells (g := g) rfl
     exact ⟨_, _, run_append_grow w t ty e i z ht hi hz ⟨g, 0, none⟩ n cap xs hown.1 holds a m c news hl hnews (by omega) (by omega) (growslice_fits (by omega) hbytes), Or.inr rfl⟩
end Go.Proofs.YtgdepcnfjmobjaaGreat

/- A text of this claim. -/
namespace Go.Proofs.YtgdepcnfjmobjaaGreat
open Go.RowKit Go.BigFrame
theorem ownsRow_below {W W' : World} {base e k n : Nat} {v : Value} {xs : List Value} (h : W.ownsRow base e k v n xs) (hb : Below W.heap.size W W') : W'.ownsRow base e k v n xs :=
 h.kept (row := none) ⟨hb.os, hb.tape, hb.output, hb.size, fun k hk _ => hb.block k hk⟩ (by cases v.ownBlock <;> simp)
end Go.Proofs.YtgdepcnfjmobjaaGreat

/- A text of this claim. -/
namespace Go.Proofs.YtgdepcnfjmobjaaGreat
open Go.RowKit Go.BigFrame
open Tr (Ed)
def edC (x : Ed) : List Value := [.int .i64 x.k, .int .i64 x.n, .int .i64 x.f, .int .i64 x.t, .string x.s]
def edV (x : Ed) : Value := .agg #[.int .i64 x.k, .int .i64 x.n, .int .i64 x.f, .int .i64 x.t, .string x.s]
theorem edC_len (x : Ed) : (edC x).length = 5 := rfl
theorem flatEd_len (l : List Ed) : (l.flatMap edC).length = l.length * 5 := by
 induction l with
 | nil => rfl
 | cons t l ih => rw [List.flatMap_cons, List.length_append, ih]; show 5 + l.length * 5 = (l.length + 1) * 5; omega
theorem flatEd_get : ∀ (l : List Ed) (i : Nat) (x : Ed), l[i]? = some x → ∀ j v, (edC x)[j]? = some v → (l.flatMap edC)[i * 5 + j]? = some v
 | [], i, x, h, _, _, _ => by simp at h
 | y :: l, 0, x, h, j, v, hv => by
  injection h with h
  subst h
  rw [List.flatMap_cons, Nat.zero_mul, Nat.zero_add, List.getElem?_append_left (by have := (List.getElem?_eq_some_iff.1 hv).1; exact this)]
  exact hv
 | y :: l, i + 1, x, h, j, v, hv => by
  have ih := flatEd_get l i x (by simpa using h) j v hv
  rw [List.flatMap_cons, List.getElem?_append_right (by rw [edC_len]; omega), edC_len, show (i + 1) * 5 + j - 5 = i * 5 + j by omega]
  exact ih
structure ERow (w : World) (a : Option Addr) (l : List Ed) : Prop where
 here : 0 < l.length → ∃ b off, a = some ⟨b, off, none⟩ ∧ b < w.heap.size ∧ ∀ i x, l[i]? = some x → ∀ j v, (edC x)[j]? = some v → w.cell? ⟨b, off + i * 5 + j, none⟩ = some v
theorem ERow.below {w w' : World} {a : Option Addr} {l : List Ed} (h : ERow w a l) (hb : Below w.heap.size w w') : ERow w' a l :=
 ⟨fun hl => by
  obtain ⟨b, off, e, hbl, hc⟩ := h.here hl
  exact ⟨b, off, e, Nat.lt_of_lt_of_le hbl hb.size, fun i x hx j v hv => (hb.cell (p := ⟨b, off + i * 5 + j, none⟩) hbl).trans (hc i x hx j v hv)⟩⟩
theorem ERow.at {w : World} {a : Option Addr} {l : List Ed} (h : ERow w a l) {i : Nat} {x : Ed} (hx : l[i]? = some x) :
 ∃ b off, a = some ⟨b, off, none⟩ ∧ b < w.heap.size ∧ w.cell? ⟨b, off + i * 5, none⟩ = some (.int .i64 x.k) ∧ w.cell? ⟨b, off + i * 5 + 1, none⟩ = some (.int .i64 x.n) ∧ w.cell? ⟨b, off + i * 5 + 2, none⟩ = some (.int .i64 x.f) ∧ w.cell? ⟨b, off + i * 5 + 3, none⟩ = some (.int .i64 x.t) ∧ w.cell? ⟨b, off + i * 5 + 4, none⟩ = some (.string x.s) := by
 obtain ⟨b, off, e, hb, hc⟩ := h.here (by have := (List.getElem?_eq_some_iff.1 hx).1; omega)
 exact ⟨b, off, e, hb, hc i x hx 0 _ rfl, hc i x hx 1 _ rfl, hc i x hx 2 _ rfl, hc i x hx 3 _ rfl, hc i x hx 4 _ rfl⟩
def EdOwn (w : World) (base : Nat) (v : Value) (l : List Ed) : Prop := w.ownsRow base 36 5 v l.length (l.flatMap edC)
theorem EdOwn.below {w w' : World} {base : Nat} {v : Value} {l : List Ed} (h : EdOwn w base v l) (hb : Below w.heap.size w w') : EdOwn w' base v l := ownsRow_below h hb
theorem EdOwn.nil (w : World) (base : Nat) : EdOwn w base (.slice none 0 0) [] := World.ownsRow_nil _ _ _ _
theorem EdOwn.lt {w : World} {base : Nat} {v : Value} {l : List Ed} (h : EdOwn w base v l) : ∀ b, v.ownBlock = some b → base ≤ b ∧ b < w.heap.size := fun b e => World.ownsRow.lt h b e
theorem EdOwn.weaken {w : World} {base base' : Nat} {v : Value} {l : List Ed} (h : EdOwn w base v l) (hb : base' ≤ base) : EdOwn w base' v l := by
 refine ⟨h.1, ?_⟩
 rcases h.2 with e | ⟨g, cap, cur, h1, h2, h3⟩
 · exact Or.inl e
 · exact Or.inr ⟨g, cap, cur, h1, Nat.le_trans hb h2, h3⟩
theorem EdOwn.snoc {w' : World} {base : Nat} {v : Value} {l : List Ed} {x : Ed} (h : w'.ownsRow base 36 5 v (l.length + 1) (l.flatMap edC ++ edC x)) : EdOwn w' base v (l ++ [x]) := by
 unfold EdOwn
 rw [List.length_append, List.flatMap_append]
 rw [show ([x].flatMap edC) = edC x from List.append_nil _]
 exact h
theorem EdOwn.row {w : World} {base : Nat} {v : Value} {l : List Ed} (h : EdOwn w base v l) : ∃ a c, v = .slice a l.length c ∧ l.length ≤ c ∧ ERow w a l ∧ ∀ b, a = some b → base ≤ b.block := by
 have hh := h
 rcases h.2 with ⟨e, h0⟩ | ⟨g, cap, cur, e, hb, hg, hn, hm, hs, ht⟩
 · refine ⟨none, 0, ?_, by omega, ⟨fun hl => by omega⟩, fun b hb => by cases hb⟩
   rw [e, h0]
 · refine ⟨_, cap, e, hn, ⟨fun _ => ⟨g, 0, rfl, lt_of_block hg, fun i x hx j v hv => ?_⟩⟩, fun b hb' => by injection hb' with hb'; subst hb'; exact hb⟩
   have hc := World.ownsRow.cells hh (g := g) (by rw [e]; rfl) (i * 5 + j) _ (flatEd_get l i x hx j v hv)
   have : (⟨g, 0, none⟩ : Addr).add (i * 5 + j) = ⟨g, 0 + i * 5 + j, none⟩ := by
    unfold Addr.add
    split <;> simp_all
   rw [this] at hc
   exact hc
end Go.Proofs.YtgdepcnfjmobjaaGreat

/- A text of this claim. -/
namespace Go.Proofs.YtgdepcnfjmobjaaGreat
open Go.RowKit Go.BigFrame
open Tr (Ed inR)
theorem tin_any (n lo hi : Int) (w : World) : Calls Tryz.prog 49 #[.int .i64 n, .int .i64 lo, .int .i64 hi] w fun e w' => e = .returned (.bool (inR n lo hi)) ∧ w = w' := by
 cases h : decide (lo ≤ n)
 all_goals
  go_enter Tryz.func49, Tryz.ntmps49
  go_wp2
  go_ret
  exact ⟨ret_bool (by simp [inR, h]), rfl⟩
theorem rcin_any (n lo hi : Int) (w : World) : Calls Tryz.prog 25 #[.int .i64 n, .int .i64 lo, .int .i64 hi] w fun e w' => e = .returned (.bool (inR n lo hi)) ∧ w = w' := by
 cases h : decide (lo ≤ n)
 all_goals
  go_enter Tryz.func25, Tryz.ntmps25
  go_wp2
  go_ret
  exact ⟨ret_bool (by simp [inR, h]), rfl⟩
theorem tranged_any (n lo hi : Int) (w : World) : Calls Tryz.prog 102 #[.int .i64 n, .int .i64 lo, .int .i64 hi] w fun e w' => e = .returned (.int .i64 (rngE n lo hi)) ∧ w = w' := by
 have D := Lib.hid (tin_any n lo hi w)
 unfold rngE
 generalize inR n lo hi = b at D ⊢
 cases b
 all_goals
  go_enter Tryz.func102, Tryz.ntmps102
  go_wp2_with fail
  refine D.out.mono ?_
  rintro e _ ⟨rfl, rfl⟩
  go_wp2_with fail
  go_ret
  exact ⟨rfl, rfl⟩
def edI (x : Ed) : Value :=
 if x.k = 1 ∨ x.k = 3 ∨ x.k = 4 then .iface 86 (edV x)
 else if x.k = 2 ∨ x.k = 5 ∨ x.k = 6 ∨ x.k = 7 then .iface 87 (edV x)
 else if x.k = 9 ∨ x.k = 10 then .iface 88 (edV x)
 else if x.k = 8 ∨ x.k = 11 ∨ x.k = 12 then .iface 89 (edV x)
 else .nilIface
theorem kinds (k : Int) : k = 1 ∨ k = 2 ∨ k = 3 ∨ k = 4 ∨ k = 5 ∨ k = 6 ∨ k = 7 ∨ k = 8 ∨ k = 9 ∨ k = 10 ∨ k = 11 ∨ k = 12 ∨ k < 1 ∨ 12 < k := by omega
end Go.Proofs.YtgdepcnfjmobjaaGreat

/- A text of this claim. -/
namespace Go.Proofs.YtgdepcnfjmobjaaGreat
open Go.RowKit Go.BigFrame
open Tr (Ed)
theorem addr_plus (b off j : Nat) : (⟨b, off, none⟩ : Addr).add j = ⟨b, off + j, none⟩ := by
 unfold Addr.add
 split <;> simp_all
theorem edC_one : ∀ (x : Ed), ∀ v ∈ edC x, v.oneCell' = true := fun x v hv => by
 simp only [edC, List.mem_cons, List.not_mem_nil, or_false] at hv
 rcases hv with rfl | rfl | rfl | rfl | rfl <;> rfl
theorem flatEd_one (l : List Ed) : ∀ u ∈ l.flatMap edC, u.oneCell' = true := fun u hu => by
 obtain ⟨y, _, hy⟩ := List.mem_flatMap.1 hu
 exact edC_one y u hy
theorem flatEd_at : ∀ (l : List Ed) (j : Nat) (u : Value), (l.flatMap edC)[j]? = some u → ∃ x, l[j / 5]? = some x ∧ (edC x)[j % 5]? = some u
 | [], j, u, h => by simp at h
 | x :: l, j, u, h => by
  rw [List.flatMap_cons] at h
  by_cases hj : j < 5
  · rw [List.getElem?_append_left (by rw [edC_len]; exact hj)] at h
    exact ⟨x, by rw [Nat.div_eq_of_lt hj]; rfl, by rw [Nat.mod_eq_of_lt hj]; exact h⟩
  · rw [List.getElem?_append_right (by rw [edC_len]; omega), edC_len] at h
    obtain ⟨y, h1, h2⟩ := flatEd_at l (j - 5) u h
    refine ⟨y, ?_, ?_⟩
    · rw [show j / 5 = (j - 5) / 5 + 1 by omega]
      exact h1
    · rw [show j % 5 = (j - 5) % 5 by omega]
      exact h2
theorem ERow.flat {w : World} {a : Addr} {l : List Ed} (h : ERow w (some a) l) : ∀ j u, (l.flatMap edC)[j]? = some u → w.cell? (a.add j) = some u := by
 intro j u hj
 obtain ⟨x, hx, hu⟩ := flatEd_at l j u hj
 obtain ⟨b, off, e, _, hc⟩ := h.here (by have := (List.getElem?_eq_some_iff.1 hx).1; omega)
 injection e with e
 subst e
 have := hc _ x hx _ u hu
 rw [addr_plus, show off + j = off + j / 5 * 5 + j % 5 by omega]
 exact this
theorem ERow.nil_of {w : World} {l : List Ed} (h : ERow w none l) : l = [] := by
 cases l with
 | nil => rfl
 | cons x l =>
  obtain ⟨b, off, e, _⟩ := h.here (by simp)
  cases e
theorem append_noneE {P : Program} {t e : TypeId} {i : TypeInfo} (ht : P.underlying t = some (.slice e)) (hi : P.info? e = some i) (ty : TypeId) (base : Option Addr) (l c : Nat) (hlc : l ≤ c) (a : Option Addr) (k : Nat) (w : World) :
 (Builtin.append_ #[t, t] ty #[.slice base l c, .slice a 0 k]).run P w = .ok (.slice base l c) w := by
 cases base <;> cases a <;> simp [Builtin.append_, run_underlying ht, sizeOf, typeInfo, hi, Builtin.lenOf, Builtin.firstCells, hlc, loadCells, loadCellsFrom, storeCells]
theorem grown_self (w : World) (r : Option Nat) : w.grownBy w r := ⟨rfl, rfl, rfl, Nat.le_refl _, fun _ _ _ => rfl⟩
set_option maxHeartbeats 2000000 in
set_option maxRecDepth 100000 in
theorem cloneE_any (a : Option Addr) (l : List Ed) (cap : Nat) (w : World) (hr : ERow w a l) (hl : l.length ≤ 1000000) :
 Calls Tryz.prog 23 #[.slice a l.length cap] w fun e w' => (∃ v, e = .returned v ∧ EdOwn w' w.heap.size v l) ∧ Below w.heap.size w w' := by
 have HU := Lib.hid (show Tryz.prog.underlying 27 = some (.slice 36) by kernel_rfl)
 have hq : ∀ (w : World) (a : Option Addr) (n c n' c' : Nat), (binOp .eql 27 (.slice a n c) (.slice none n' c')).run Tryz.prog w = .ok (.bool a.isNone) w := fun w a n c n' c' => Lib.run_eql_slice_nil w _ _ a n c n' c' HU.out
 have u22 : ∀ w, Sem.run Tryz.prog (underlying 27) w = .ok (TypeDesc.slice 36) w := run_underlying HU.out
 cases a with
 | none =>
  have h0 := hr.nil_of
  subst h0
  clear hr
  go_enter Tryz.func23, Tryz.ntmps23
  go_wp2_with fail
  go_ret
  exact ⟨⟨_, rfl, EdOwn.nil _ _⟩, Below.refl _ _⟩
 | some a =>
  obtain ⟨i0, hi0, hz0, hz1, hz2⟩ := info_parts (show (Tryz.prog.info? 36).map (fun i => (i.zero, i.size, i.bytes)) = some (some (.agg #[.int .i64 0, .int .i64 0, .int .i64 0, .int .i64 0, .string ⟨#[]⟩]), 5, 48) by kernel_rfl)
  have HI0 := Lib.hid hi0
  have HZ0 := Lib.hid hz0
  have HZ1 := Lib.hid hz1
  have HZ2 := Lib.hid hz2
  have HC := Lib.hid hr.flat
  have HL := Lib.hid (flatEd_len l)
  have H1 := Lib.hid (flatEd_one l)
  clear hi0 hz0 hz1 hz2 hr
  go_enter Tryz.func23, Tryz.ntmps23
  go_wp2_with (at_builtin; refine wpList_append_own _ rfl _ _ 27 rfl w.heap.size 36 i0 (.agg #[.int .i64 0, .int .i64 0, .int .i64 0, .int .i64 0, .string ⟨#[]⟩]) 5 48 HU.out HI0.out HZ0.out HZ1.out HZ2.out rfl (by decide) _ _ _ rfl (World.ownsRow_made w #[] 0 (Nat.le_refl _) (Nat.zero_le _) (by simp)) a l.length cap (l.flatMap edC) rfl ?qc1 ?qc2 ?qc3 ?qc4 ?qc5 ?qc6 ?_)
  case qc1 => exact HL.out
  case qc2 =>
   intro j u hj
   exact Lib.cell?_alloc_some _ (HC.out j u hj)
  case qc3 => exact H1.out
  case qc4 => rw [Nat.zero_add]; unfold maxLen; omega
  case qc5 => rw [Nat.zero_add]; omega
  case qc6 => simp
  intro v' w1 hown hgrow hnil
  go_wp2_with fail
  go_ret
  exact ⟨⟨v', rfl, by unfold EdOwn; simpa using hown⟩, ((Below.refl _ w).alloc (Nat.le_refl _) _).grown hgrow (by simp) (by intro k hk; simp [Value.ownBlock] at hk; omega)⟩
def eqE (x y : Ed) : Bool := decide (x.k = y.k) && decide (x.n = y.n) && decide (x.f = y.f) && decide (x.t = y.t) && decide (x.s = y.s)
theorem strEq (a b : ByteArray) : (a.toList == b.toList) = decide (a = b) := by
 rw [ByteArray.toList_eq, ByteArray.toList_eq, Bool.eq_iff_iff, beq_iff_eq, decide_eq_true_eq]
 constructor
 · intro h
   cases a; cases b
   congr 1
   exact Array.toList_inj.1 h
 · intro h; rw [h]
set_option maxHeartbeats 2000000 in
theorem eqEdit (x y : Ed) (w : World) : (Op.equalIn 10000 36 (edV x) (edV y)).run Tryz.prog w = .ok (eqE x y) w := by
 have u3 := Tryz.underlying3
 have a3 := Tryz.isAgg3
 have z3 := Tryz.sizeOf3
 have u9 := Tryz.underlying9
 have a9 := Tryz.isAgg9
 have z9 := Tryz.sizeOf9
 have hS : Tryz.prog.underlying 36 = some (.struct (Tryz.prog.fieldsOf 36)) := by kernel_rfl
 have hp : Tryz.prog.stoodInHeld 36 = false := by kernel_rfl
 obtain ⟨k, n, f, t, s⟩ := x
 obtain ⟨k', n', f', t', s'⟩ := y
 unfold eqE edV
 simp only
 have h5 := strEq s s'
 rw [show (10000 : Nat) = 9999 + 1 from rfl, run_equalIn_agg w 9999 36 _ _ hS hp]
 simp only [Program.fieldsOf, Tryz.underlying36]
 have h1 : (k == k') = decide (k = k') := rfl
 have h2 : (n == n') = decide (n = n') := rfl
 have h3 : (f == f') = decide (f = f') := rfl
 have h4 : (t == t') = decide (t = t') := rfl
 generalize decide (k = k') = b1 at h1 ⊢
 generalize decide (n = n') = b2 at h2 ⊢
 generalize decide (f = f') = b3 at h3 ⊢
 generalize decide (t = t') = b4 at h4 ⊢
 generalize decide (s = s') = b5 at h5 ⊢
 cases b1 <;> cases b2 <;> cases b3 <;> cases b4 <;> cases b5 <;> go_simp
end Go.Proofs.YtgdepcnfjmobjaaGreat

/- A text of this claim. -/
namespace Go.Proofs.YtgdepcnfjmobjaaGreat
open Go.RowKit
def allN (s : ByteArray) (k : Nat) : Bool := (s.data.toList.take k).all fun c => nameC c.toNat
theorem allN_step {s : ByteArray} {k : Nat} (hk : k < s.size) (h : allN s k = true) (hc : nameC (s[k].toNat : Int) = true) : allN s (k + 1) = true := by
 unfold allN at h ⊢
 rw [List.take_succ_eq_append_getElem (by simpa using hk), List.all_append, h, Bool.true_and]
 simpa [ByteArray.getElem_eq_getElem_data] using hc
theorem allN_bad {s : ByteArray} {k : Nat} (hk : k < s.size) (hc : nameC (s[k].toNat : Int) = false) : nameB s = false := by
 unfold nameB
 have h1 : (s.data.toList.all fun c => nameC c.toNat) = false := by
  rw [List.all_eq_false]
  exact ⟨s[k], by simp [ByteArray.getElem_eq_getElem_data], by rw [hc]; simp⟩
 rw [h1, Bool.and_false]
theorem nameB_of {s : ByteArray} (h : allN s s.size = true) : nameB s = (decide (1 ≤ s.size) && decide (s.size ≤ 60)) := by
 unfold nameB
 unfold allN at h
 rw [List.take_of_length_le (by simp)] at h
 rw [h, Bool.and_true]
def digB (x : Int) : Bool := decide (48 ≤ x) && decide (x ≤ 57)
theorem ndigit_any (x : Int) (w : World) : Calls Tryz.prog 36 #[.int .u8 x] w fun e w' => e = .returned (.bool (digB x)) ∧ w = w' := by
 cases h : decide (48 ≤ x)
 all_goals
  go_enter Tryz.func36, Tryz.ntmps36
  go_wp2
  go_ret
  exact ⟨ret_bool (by simp [digB, h]), rfl⟩
set_option maxHeartbeats 4000000 in
set_option maxRecDepth 100000 in
theorem isName_any (s : ByteArray) (w : World) (hs : s.size ≤ maxLen) :
 Calls Tryz.prog 18 #[.string s] w fun e w' => e = .returned (.bool (nameB s)) ∧ w = w' := by
 unfold maxLen at hs
 go_enter Tryz.func18, Tryz.ntmps18
 go_wp2_with fail
 go_loop [8] (fun iv => ∃ (k : Nat), iv = .int .i64 k ∧ k ≤ s.size ∧ Hid (allN s k = true)) (fun iv => s.size - (intOf iv).toNat)
 case atStart => exact ⟨0, rfl, by omega, Lib.hid rfl⟩
 case round =>
  obtain ⟨k, rfl, hk, HA⟩ := hrel
  by_cases hlt : k < s.size
  · have t3 : decide ((k : Int) < (s.size : Int)) = true := by rw [decide_eq_true_eq]; omega
    have t3' : decide (k < s.size) = true := by simpa using hlt
    have hub : (s[k].toNat : Int) ≤ 255 := by have := s[k].toNat_lt; omega
    have OKN := fun (h : Hid (nameC (s[k].toNat : Int) = true)) => Lib.hid (allN_step hlt HA.out h.out)
    have BADN := fun (h : Hid (nameC (s[k].toNat : Int) = false)) => allN_bad hlt h.out
    have OKN := Lib.hid OKN
    have BADN := Lib.hid BADN
    have hnn : 0 ≤ (s[k].toNat : Int) := Int.natCast_nonneg _
    obtain ⟨x, hx⟩ : ∃ x : Int, (s[k].toNat : Int) = x := ⟨_, rfl⟩
    rw [hx] at hub hnn OKN BADN
    have hways : (0 ≤ x ∧ x ≤ 44) ∨ (45 ≤ x ∧ x ≤ 45) ∨ (46 ≤ x ∧ x ≤ 46) ∨ (47 ≤ x ∧ x ≤ 47) ∨ (48 ≤ x ∧ x ≤ 57) ∨ (58 ≤ x ∧ x ≤ 64) ∨ (65 ≤ x ∧ x ≤ 90) ∨ (91 ≤ x ∧ x ≤ 94) ∨ (95 ≤ x ∧ x ≤ 95) ∨ (96 ≤ x ∧ x ≤ 96) ∨ (97 ≤ x ∧ x ≤ 122) ∨ (123 ≤ x ∧ x ≤ 255) := by omega
    rcases hways with hways | hways | hways | hways | hways | hways | hways | hways | hways | hways | hways | hways
    · have hx0 : 0 ≤ x := by omega
      have hx1 : x ≤ 44 := by omega
      have d1 : decide ((97 : Int) ≤ x) = false := by rw [decide_eq_false_iff_not]; omega
      have d2 : decide (x ≤ (122 : Int)) = true := by rw [decide_eq_true_eq]; omega
      have d3 : decide ((65 : Int) ≤ x) = false := by rw [decide_eq_false_iff_not]; omega
      have d4 : decide (x ≤ (90 : Int)) = true := by rw [decide_eq_true_eq]; omega
      have b0 : (x != (45 : Int)) = true := by rw [bne_iff_ne]; omega
      have b1 : (x != (95 : Int)) = true := by rw [bne_iff_ne]; omega
      have b2 : (x != (46 : Int)) = true := by rw [bne_iff_ne]; omega
      have hc : nameC x = false := by unfold nameC; simp; omega
      have HC := Lib.hid hc
      have HD := Lib.hid (ndigit_any x)
      rw [show digB x = false by unfold digB; simp; omega] at HD
      clear hc hx0 hx1 hways
      go_wp2_with fail
      refine (HD.out _).mono ?_
      rintro e w1 ⟨rfl, rfl⟩
      go_wp2_with fail
      go_ret
      exact ⟨ret_bool (BADN.out HC).symm, rfl⟩
    · have hx0 : 45 ≤ x := by omega
      have hx1 : x ≤ 45 := by omega
      have d1 : decide ((97 : Int) ≤ x) = false := by rw [decide_eq_false_iff_not]; omega
      have d2 : decide (x ≤ (122 : Int)) = true := by rw [decide_eq_true_eq]; omega
      have d3 : decide ((65 : Int) ≤ x) = false := by rw [decide_eq_false_iff_not]; omega
      have d4 : decide (x ≤ (90 : Int)) = true := by rw [decide_eq_true_eq]; omega
      have b0 : (x != (45 : Int)) = false := by rw [show x = 45 by omega]; rfl
      have b1 : (x != (95 : Int)) = true := by rw [bne_iff_ne]; omega
      have b2 : (x != (46 : Int)) = true := by rw [bne_iff_ne]; omega
      have hc : nameC x = true := by unfold nameC; simp; omega
      have HC := Lib.hid hc
      have HD := Lib.hid (ndigit_any x)
      rw [show digB x = false by unfold digB; simp; omega] at HD
      clear hc hx0 hx1 hways
      go_wp2_with fail
      refine (HD.out _).mono ?_
      rintro e w1 ⟨rfl, rfl⟩
      go_wp2_with fail
      go_round
      case rel => exact ⟨k + 1, by go_num, by omega, OKN.out HC⟩
      case measure => simp [intOf]; omega
    · have hx0 : 46 ≤ x := by omega
      have hx1 : x ≤ 46 := by omega
      have d1 : decide ((97 : Int) ≤ x) = false := by rw [decide_eq_false_iff_not]; omega
      have d2 : decide (x ≤ (122 : Int)) = true := by rw [decide_eq_true_eq]; omega
      have d3 : decide ((65 : Int) ≤ x) = false := by rw [decide_eq_false_iff_not]; omega
      have d4 : decide (x ≤ (90 : Int)) = true := by rw [decide_eq_true_eq]; omega
      have b0 : (x != (45 : Int)) = true := by rw [bne_iff_ne]; omega
      have b1 : (x != (95 : Int)) = true := by rw [bne_iff_ne]; omega
      have b2 : (x != (46 : Int)) = false := by rw [show x = 46 by omega]; rfl
      have hc : nameC x = true := by unfold nameC; simp; omega
      have HC := Lib.hid hc
      have HD := Lib.hid (ndigit_any x)
      rw [show digB x = false by unfold digB; simp; omega] at HD
      clear hc hx0 hx1 hways
      go_wp2_with fail
      refine (HD.out _).mono ?_
      rintro e w1 ⟨rfl, rfl⟩
      go_wp2_with fail
      go_round
      case rel => exact ⟨k + 1, by go_num, by omega, OKN.out HC⟩
      case measure => simp [intOf]; omega
    · have hx0 : 47 ≤ x := by omega
      have hx1 : x ≤ 47 := by omega
      have d1 : decide ((97 : Int) ≤ x) = false := by rw [decide_eq_false_iff_not]; omega
      have d2 : decide (x ≤ (122 : Int)) = true := by rw [decide_eq_true_eq]; omega
      have d3 : decide ((65 : Int) ≤ x) = false := by rw [decide_eq_false_iff_not]; omega
      have d4 : decide (x ≤ (90 : Int)) = true := by rw [decide_eq_true_eq]; omega
      have b0 : (x != (45 : Int)) = true := by rw [bne_iff_ne]; omega
      have b1 : (x != (95 : Int)) = true := by rw [bne_iff_ne]; omega
      have b2 : (x != (46 : Int)) = true := by rw [bne_iff_ne]; omega
      have hc : nameC x = false := by unfold nameC; simp; omega
      have HC := Lib.hid hc
      have HD := Lib.hid (ndigit_any x)
      rw [show digB x = false by unfold digB; simp; omega] at HD
      clear hc hx0 hx1 hways
      go_wp2_with fail
      refine (HD.out _).mono ?_
      rintro e w1 ⟨rfl, rfl⟩
      go_wp2_with fail
      go_ret
      exact ⟨ret_bool (BADN.out HC).symm, rfl⟩
    · have hx0 : 48 ≤ x := by omega
      have hx1 : x ≤ 57 := by omega
      have d1 : decide ((97 : Int) ≤ x) = false := by rw [decide_eq_false_iff_not]; omega
      have d2 : decide (x ≤ (122 : Int)) = true := by rw [decide_eq_true_eq]; omega
      have d3 : decide ((65 : Int) ≤ x) = false := by rw [decide_eq_false_iff_not]; omega
      have d4 : decide (x ≤ (90 : Int)) = true := by rw [decide_eq_true_eq]; omega
      have b0 : (x != (45 : Int)) = true := by rw [bne_iff_ne]; omega
      have b1 : (x != (95 : Int)) = true := by rw [bne_iff_ne]; omega
      have b2 : (x != (46 : Int)) = true := by rw [bne_iff_ne]; omega
      have hc : nameC x = true := by unfold nameC; simp; omega
      have HC := Lib.hid hc
      have HD := Lib.hid (ndigit_any x)
      rw [show digB x = true by unfold digB; simp; omega] at HD
      clear hc hx0 hx1 hways
      go_wp2_with fail
      refine (HD.out _).mono ?_
      rintro e w1 ⟨rfl, rfl⟩
      go_wp2_with fail
      go_round
      case rel => exact ⟨k + 1, by go_num, by omega, OKN.out HC⟩
      case measure => simp [intOf]; omega
    · have hx0 : 58 ≤ x := by omega
      have hx1 : x ≤ 64 := by omega
      have d1 : decide ((97 : Int) ≤ x) = false := by rw [decide_eq_false_iff_not]; omega
      have d2 : decide (x ≤ (122 : Int)) = true := by rw [decide_eq_true_eq]; omega
      have d3 : decide ((65 : Int) ≤ x) = false := by rw [decide_eq_false_iff_not]; omega
      have d4 : decide (x ≤ (90 : Int)) = true := by rw [decide_eq_true_eq]; omega
      have b0 : (x != (45 : Int)) = true := by rw [bne_iff_ne]; omega
      have b1 : (x != (95 : Int)) = true := by rw [bne_iff_ne]; omega
      have b2 : (x != (46 : Int)) = true := by rw [bne_iff_ne]; omega
      have hc : nameC x = false := by unfold nameC; simp; omega
      have HC := Lib.hid hc
      have HD := Lib.hid (ndigit_any x)
      rw [show digB x = false by unfold digB; simp; omega] at HD
      clear hc hx0 hx1 hways
      go_wp2_with fail
      refine (HD.out _).mono ?_
      rintro e w1 ⟨rfl, rfl⟩
      go_wp2_with fail
      go_ret
      exact ⟨ret_bool (BADN.out HC).symm, rfl⟩
    · have hx0 : 65 ≤ x := by omega
      have hx1 : x ≤ 90 := by omega
      have d1 : decide ((97 : Int) ≤ x) = false := by rw [decide_eq_false_iff_not]; omega
      have d2 : decide (x ≤ (122 : Int)) = true := by rw [decide_eq_true_eq]; omega
      have d3 : decide ((65 : Int) ≤ x) = true := by rw [decide_eq_true_eq]; omega
      have d4 : decide (x ≤ (90 : Int)) = true := by rw [decide_eq_true_eq]; omega
      have b0 : (x != (45 : Int)) = true := by rw [bne_iff_ne]; omega
      have b1 : (x != (95 : Int)) = true := by rw [bne_iff_ne]; omega
      have b2 : (x != (46 : Int)) = true := by rw [bne_iff_ne]; omega
      have hc : nameC x = true := by unfold nameC; simp; omega
      have HC := Lib.hid hc
      have HD := Lib.hid (ndigit_any x)
      rw [show digB x = false by unfold digB; simp; omega] at HD
      clear hc hx0 hx1 hways
      go_wp2_with fail
      go_round
      case rel => exact ⟨k + 1, by go_num, by omega, OKN.out HC⟩
      case measure => simp [intOf]; omega
    · have hx0 : 91 ≤ x := by omega
      have hx1 : x ≤ 94 := by omega
      have d1 : decide ((97 : Int) ≤ x) = false := by rw [decide_eq_false_iff_not]; omega
      have d2 : decide (x ≤ (122 : Int)) = true := by rw [decide_eq_true_eq]; omega
      have d3 : decide ((65 : Int) ≤ x) = true := by rw [decide_eq_true_eq]; omega
      have d4 : decide (x ≤ (90 : Int)) = false := by rw [decide_eq_false_iff_not]; omega
      have b0 : (x != (45 : Int)) = true := by rw [bne_iff_ne]; omega
      have b1 : (x != (95 : Int)) = true := by rw [bne_iff_ne]; omega
      have b2 : (x != (46 : Int)) = true := by rw [bne_iff_ne]; omega
      have hc : nameC x = false := by unfold nameC; simp; omega
      have HC := Lib.hid hc
      have HD := Lib.hid (ndigit_any x)
      rw [show digB x = false by unfold digB; simp; omega] at HD
      clear hc hx0 hx1 hways
      go_wp2_with fail
      refine (HD.out _).mono ?_
      rintro e w1 ⟨rfl, rfl⟩
      go_wp2_with fail
      go_ret
      exact ⟨ret_bool (BADN.out HC).symm, rfl⟩
    · have hx0 : 95 ≤ x := by omega
      have hx1 : x ≤ 95 := by omega
      have d1 : decide ((97 : Int) ≤ x) = false := by rw [decide_eq_false_iff_not]; omega
      have d2 : decide (x ≤ (122 : Int)) = true := by rw [decide_eq_true_eq]; omega
      have d3 : decide ((65 : Int) ≤ x) = true := by rw [decide_eq_true_eq]; omega
      have d4 : decide (x ≤ (90 : Int)) = false := by rw [decide_eq_false_iff_not]; omega
      have b0 : (x != (45 : Int)) = true := by rw [bne_iff_ne]; omega
      have b1 : (x != (95 : Int)) = false := by rw [show x = 95 by omega]; rfl
      have b2 : (x != (46 : Int)) = true := by rw [bne_iff_ne]; omega
      have hc : nameC x = true := by unfold nameC; simp; omega
      have HC := Lib.hid hc
      have HD := Lib.hid (ndigit_any x)
      rw [show digB x = false by unfold digB; simp; omega] at HD
      clear hc hx0 hx1 hways
      go_wp2_with fail
      refine (HD.out _).mono ?_
      rintro e w1 ⟨rfl, rfl⟩
      go_wp2_with fail
      go_round
      case rel => exact ⟨k + 1, by go_num, by omega, OKN.out HC⟩
      case measure => simp [intOf]; omega
    · have hx0 : 96 ≤ x := by omega
      have hx1 : x ≤ 96 := by omega
      have d1 : decide ((97 : Int) ≤ x) = false := by rw [decide_eq_false_iff_not]; omega
      have d2 : decide (x ≤ (122 : Int)) = true := by rw [decide_eq_true_eq]; omega
      have d3 : decide ((65 : Int) ≤ x) = true := by rw [decide_eq_true_eq]; omega
      have d4 : decide (x ≤ (90 : Int)) = false := by rw [decide_eq_false_iff_not]; omega
      have b0 : (x != (45 : Int)) = true := by rw [bne_iff_ne]; omega
      have b1 : (x != (95 : Int)) = true := by rw [bne_iff_ne]; omega
      have b2 : (x != (46 : Int)) = true := by rw [bne_iff_ne]; omega
      have hc : nameC x = false := by unfold nameC; simp; omega
      have HC := Lib.hid hc
      have HD := Lib.hid (ndigit_any x)
      rw [show digB x = false by unfold digB; simp; omega] at HD
      clear hc hx0 hx1 hways
      go_wp2_with fail
      refine (HD.out _).mono ?_
      rintro e w1 ⟨rfl, rfl⟩
      go_wp2_with fail
      go_ret
      exact ⟨ret_bool (BADN.out HC).symm, rfl⟩
    · have hx0 : 97 ≤ x := by omega
      have hx1 : x ≤ 122 := by omega
      have d1 : decide ((97 : Int) ≤ x) = true := by rw [decide_eq_true_eq]; omega
      have d2 : decide (x ≤ (122 : Int)) = true := by rw [decide_eq_true_eq]; omega
      have d3 : decide ((65 : Int) ≤ x) = true := by rw [decide_eq_true_eq]; omega
      have d4 : decide (x ≤ (90 : Int)) = false := by rw [decide_eq_false_iff_not]; omega
      have b0 : (x != (45 : Int)) = true := by rw [bne_iff_ne]; omega
      have b1 : (x != (95 : Int)) = true := by rw [bne_iff_ne]; omega
      have b2 : (x != (46 : Int)) = true := by rw [bne_iff_ne]; omega
      have hc : nameC x = true := by unfold nameC; simp; omega
      have HC := Lib.hid hc
      have HD := Lib.hid (ndigit_any x)
      rw [show digB x = false by unfold digB; simp; omega] at HD
      clear hc hx0 hx1 hways
      go_wp2_with fail
      go_round
      case rel => exact ⟨k + 1, by go_num, by omega, OKN.out HC⟩
      case measure => simp [intOf]; omega
    · have hx0 : 123 ≤ x := by omega
      have hx1 : x ≤ 255 := by omega
      have d1 : decide ((97 : Int) ≤ x) = true := by rw [decide_eq_true_eq]; omega
      have d2 : decide (x ≤ (122 : Int)) = false := by rw [decide_eq_false_iff_not]; omega
      have d3 : decide ((65 : Int) ≤ x) = true := by rw [decide_eq_true_eq]; omega
      have d4 : decide (x ≤ (90 : Int)) = false := by rw [decide_eq_false_iff_not]; omega
      have b0 : (x != (45 : Int)) = true := by rw [bne_iff_ne]; omega
      have b1 : (x != (95 : Int)) = true := by rw [bne_iff_ne]; omega
      have b2 : (x != (46 : Int)) = true := by rw [bne_iff_ne]; omega
      have hc : nameC x = false := by unfold nameC; simp; omega
      have HC := Lib.hid hc
      have HD := Lib.hid (ndigit_any x)
      rw [show digB x = false by unfold digB; simp; omega] at HD
      clear hc hx0 hx1 hways
      go_wp2_with fail
      refine (HD.out _).mono ?_
      rintro e w1 ⟨rfl, rfl⟩
      go_wp2_with fail
      go_ret
      exact ⟨ret_bool (BADN.out HC).symm, rfl⟩
  · have t3 : decide ((k : Int) < (s.size : Int)) = false := by rw [decide_eq_false_iff_not]; omega
    have t3' : decide (k < s.size) = false := by simpa using hlt
    obtain rfl : k = s.size := by omega
    have HE := Lib.hid (nameB_of HA.out)
    clear hlt hk
    by_cases h1 : 1 ≤ s.size
    · have t4 : decide ((1 : Int) ≤ (s.size : Int)) = true := by rw [decide_eq_true_eq]; omega
      have t4' : decide (1 ≤ s.size) = true := by simpa using h1
      rw [t4', Bool.true_and] at HE
      by_cases h6 : s.size ≤ 60
      · have t5 : decide ((s.size : Int) ≤ (60 : Int)) = true := by rw [decide_eq_true_eq]; omega
        have t5' : decide (s.size ≤ 60) = true := by simpa using h6
        rw [t5'] at HE
        go_wp2_with fail
        go_ret
        exact ⟨ret_bool HE.out.symm, rfl⟩
      · have t5 : decide ((s.size : Int) ≤ (60 : Int)) = false := by rw [decide_eq_false_iff_not]; omega
        have t5' : decide (s.size ≤ 60) = false := by simpa using h6
        rw [t5'] at HE
        go_wp2_with fail
        go_ret
        exact ⟨ret_bool HE.out.symm, rfl⟩
    · have t4 : decide ((1 : Int) ≤ (s.size : Int)) = false := by rw [decide_eq_false_iff_not]; omega
      have t4' : decide (1 ≤ s.size) = false := by simpa using h1
      rw [t4', Bool.false_and] at HE
      go_wp2_with fail
      go_ret
      exact ⟨ret_bool HE.out.symm, rfl⟩
end Go.Proofs.YtgdepcnfjmobjaaGreat

/- A text of this claim. -/
namespace Go.Proofs.YtgdepcnfjmobjaaGreat
open Go.RowKit Go.BigFrame
open Tr (Ed inR)
def allT (s : ByteArray) (k : Nat) : Bool := (s.data.toList.take k).all fun c => decide (32 ≤ c.toNat) && decide (c.toNat ≤ 126)
theorem allT_step {s : ByteArray} {k : Nat} (hk : k < s.size) (h : allT s k = true) (h1 : 32 ≤ s[k].toNat) (h2 : s[k].toNat ≤ 126) : allT s (k + 1) = true := by
 unfold allT at h ⊢
 rw [List.take_succ_eq_append_getElem (by simpa using hk), List.all_append, h, Bool.true_and]
 simp [← ByteArray.getElem_eq_getElem_data, h1, h2]
theorem titleB_bad {s : ByteArray} {k : Nat} (hk : k < s.size) (h : ¬ (32 ≤ s[k].toNat ∧ s[k].toNat ≤ 126)) : titleB s = false := by
 unfold titleB
 have h1 : (s.data.toList.all fun c => decide (32 ≤ c.toNat) && decide (c.toNat ≤ 126)) = false := by
  rw [List.all_eq_false]
  exact ⟨s[k], by simp [ByteArray.getElem_eq_getElem_data], by simp; omega⟩
 rw [h1, Bool.and_false]
theorem titleB_of {s : ByteArray} (h : allT s s.size = true) : titleB s = decide (s.size ≤ 60) := by
 unfold titleB
 unfold allT at h
 rw [List.take_of_length_le (by simp)] at h
 rw [h, Bool.and_true]
set_option maxHeartbeats 2000000 in
set_option maxRecDepth 100000 in
theorem isTitle_any (s : ByteArray) (w : World) (hs : s.size ≤ maxLen) :
 Calls Tryz.prog 28 #[.string s] w fun e w' => e = .returned (.bool (titleB s)) ∧ w = w' := by
 unfold maxLen at hs
 have DI := Lib.hid (fun (n : Int) => rcin_any n 32 126)
 go_enter Tryz.func28, Tryz.ntmps28
 go_wp2_with fail
 go_loop [6] (fun iv => ∃ (k : Nat), iv = .int .i64 k ∧ k ≤ s.size ∧ Hid (allT s k = true)) (fun iv => s.size - (intOf iv).toNat)
 case atStart => exact ⟨0, rfl, by omega, Lib.hid rfl⟩
 case round =>
  obtain ⟨k, rfl, hk, HA⟩ := hrel
  by_cases hlt : k < s.size
  · have t3 : decide ((k : Int) < (s.size : Int)) = true := by rw [decide_eq_true_eq]; omega
    have t3' : decide (k < s.size) = true := by simpa using hlt
    have hub : (s[k].toNat : Int) ≤ 255 := by have := s[k].toNat_lt; omega
    have OKN := Lib.hid (fun (h1 : 32 ≤ s[k].toNat) (h2 : s[k].toNat ≤ 126) => allT_step hlt HA.out h1 h2)
    have BADN := Lib.hid (fun (h : ¬ (32 ≤ s[k].toNat ∧ s[k].toNat ≤ 126)) => titleB_bad hlt h)
    have D := DI.out (s[k].toNat : Int)
    have hi : inR (s[k].toNat : Int) 32 126 = true ↔ (32 ≤ s[k].toNat ∧ s[k].toNat ≤ 126) := by
     unfold inR
     simp only [Bool.and_eq_true, decide_eq_true_eq]
     omega
    cases hb : inR (s[k].toNat : Int) 32 126
    · rw [hb] at D hi
      have HF := Lib.hid (BADN.out (fun h => by have := hi.2 h; cases this))
      have D := Lib.hid D
      clear hi hb OKN BADN
      go_wp2_with fail
      refine (D.out _).mono ?_
      rintro e w1 ⟨rfl, rfl⟩
      go_wp2_with fail
      go_ret
      exact ⟨ret_bool HF.out.symm, rfl⟩
    · rw [hb] at D hi
      have HF := Lib.hid (OKN.out (hi.1 rfl).1 (hi.1 rfl).2)
      have D := Lib.hid D
      clear hi hb OKN BADN
      go_wp2_with fail
      refine (D.out _).mono ?_
      rintro e w1 ⟨rfl, rfl⟩
      go_wp2_with fail
      go_round
      case rel => exact ⟨k + 1, by go_num, by omega, HF⟩
      case measure => simp [intOf]; omega
  · have t3 : decide ((k : Int) < (s.size : Int)) = false := by rw [decide_eq_false_iff_not]; omega
    have t3' : decide (k < s.size) = false := by simpa using hlt
    have HF := Lib.hid (show titleB s = decide (s.size ≤ 60) from titleB_of (by have := HA.out; rwa [show k = s.size by omega] at this))
    clear hlt
    by_cases h6 : s.size ≤ 60
    · have t4 : decide ((s.size : Int) ≤ 60) = true := by rw [decide_eq_true_eq]; omega
      have HG := Lib.hid (HF.out.trans (decide_eq_true h6))
      clear h6
      go_wp2_with fail
      go_ret
      exact ⟨ret_bool HG.out.symm, rfl⟩
    · have t4 : decide ((s.size : Int) ≤ 60) = false := by rw [decide_eq_false_iff_not]; omega
      have HG := Lib.hid (HF.out.trans (decide_eq_false h6))
      clear h6
      go_wp2_with fail
      go_ret
      exact ⟨ret_bool HG.out.symm, rfl⟩
set_option maxHeartbeats 2000000 in
set_option maxRecDepth 100000 in
theorem editOf_any (x : Ed) (w : World) : Calls Tryz.prog 34 #[edV x] w fun e w' => e = .returned (edI x) ∧ Below w.heap.size w w' := by
 obtain ⟨k, n, f, t, s⟩ := x
 rcases kinds k with rfl | rfl | rfl | rfl | rfl | rfl | rfl | rfl | rfl | rfl | rfl | rfl | h | h
 · show Calls _ _ _ _ fun e w' => e = .returned (.iface 86 (edV ⟨1, n, f, t, s⟩)) ∧ _
   unfold edV
   go_enter Tryz.func34, Tryz.ntmps34
   go_wp2_with fail
   go_ret
   exact ⟨rfl, below_al w _⟩
 · show Calls _ _ _ _ fun e w' => e = .returned (.iface 87 (edV ⟨2, n, f, t, s⟩)) ∧ _
   unfold edV
   go_enter Tryz.func34, Tryz.ntmps34
   go_wp2_with fail
   go_ret
   exact ⟨rfl, below_al w _⟩
 · show Calls _ _ _ _ fun e w' => e = .returned (.iface 86 (edV ⟨3, n, f, t, s⟩)) ∧ _
   unfold edV
   go_enter Tryz.func34, Tryz.ntmps34
   go_wp2_with fail
   go_ret
   exact ⟨rfl, below_al w _⟩
 · show Calls _ _ _ _ fun e w' => e = .returned (.iface 86 (edV ⟨4, n, f, t, s⟩)) ∧ _
   unfold edV
   go_enter Tryz.func34, Tryz.ntmps34
   go_wp2_with fail
   go_ret
   exact ⟨rfl, below_al w _⟩
 · show Calls _ _ _ _ fun e w' => e = .returned (.iface 87 (edV ⟨5, n, f, t, s⟩)) ∧ _
   unfold edV
   go_enter Tryz.func34, Tryz.ntmps34
   go_wp2_with fail
   go_ret
   exact ⟨rfl, below_al w _⟩
 · show Calls _ _ _ _ fun e w' => e = .returned (.iface 87 (edV ⟨6, n, f, t, s⟩)) ∧ _
   unfold edV
   go_enter Tryz.func34, Tryz.ntmps34
   go_wp2_with fail
   go_ret
   exact ⟨rfl, below_al w _⟩
 · show Calls _ _ _ _ fun e w' => e = .returned (.iface 87 (edV ⟨7, n, f, t, s⟩)) ∧ _
   unfold edV
   go_enter Tryz.func34, Tryz.ntmps34
   go_wp2_with fail
   go_ret
   exact ⟨rfl, below_al w _⟩
 · show Calls _ _ _ _ fun e w' => e = .returned (.iface 89 (edV ⟨8, n, f, t, s⟩)) ∧ _
   unfold edV
   go_enter Tryz.func34, Tryz.ntmps34
   go_wp2_with fail
   go_ret
   exact ⟨rfl, below_al w _⟩
 · show Calls _ _ _ _ fun e w' => e = .returned (.iface 88 (edV ⟨9, n, f, t, s⟩)) ∧ _
   unfold edV
   go_enter Tryz.func34, Tryz.ntmps34
   go_wp2_with fail
   go_ret
   exact ⟨rfl, below_al w _⟩
 · show Calls _ _ _ _ fun e w' => e = .returned (.iface 88 (edV ⟨10, n, f, t, s⟩)) ∧ _
   unfold edV
   go_enter Tryz.func34, Tryz.ntmps34
   go_wp2_with fail
   go_ret
   exact ⟨rfl, below_al w _⟩
 · show Calls _ _ _ _ fun e w' => e = .returned (.iface 89 (edV ⟨11, n, f, t, s⟩)) ∧ _
   unfold edV
   go_enter Tryz.func34, Tryz.ntmps34
   go_wp2_with fail
   go_ret
   exact ⟨rfl, below_al w _⟩
 · show Calls _ _ _ _ fun e w' => e = .returned (.iface 89 (edV ⟨12, n, f, t, s⟩)) ∧ _
   unfold edV
   go_enter Tryz.func34, Tryz.ntmps34
   go_wp2_with fail
   go_ret
   exact ⟨rfl, below_al w _⟩
 all_goals
  have hI : edI ⟨k, n, f, t, s⟩ = .nilIface := by
   unfold edI
   simp only
   rw [if_neg (by omega), if_neg (by omega), if_neg (by omega), if_neg (by omega)]
  rw [hI]
  unfold edV
  have b1 : (k == 1) = false := by rw [beq_eq_false_iff_ne]; omega
  have b2 : (k == 2) = false := by rw [beq_eq_false_iff_ne]; omega
  have b3 : (k == 3) = false := by rw [beq_eq_false_iff_ne]; omega
  have b4 : (k == 4) = false := by rw [beq_eq_false_iff_ne]; omega
  have b5 : (k == 5) = false := by rw [beq_eq_false_iff_ne]; omega
  have b6 : (k == 6) = false := by rw [beq_eq_false_iff_ne]; omega
  have b7 : (k == 7) = false := by rw [beq_eq_false_iff_ne]; omega
  have b8 : (k == 8) = false := by rw [beq_eq_false_iff_ne]; omega
  have b9 : (k == 9) = false := by rw [beq_eq_false_iff_ne]; omega
  have b10 : (k == 10) = false := by rw [beq_eq_false_iff_ne]; omega
  have b11 : (k == 11) = false := by rw [beq_eq_false_iff_ne]; omega
  have b12 : (k == 12) = false := by rw [beq_eq_false_iff_ne]; omega
  clear h hI
  go_enter Tryz.func34, Tryz.ntmps34
  go_wp2_with fail
  go_ret
  exact ⟨rfl, below_al w _⟩
end Go.Proofs.YtgdepcnfjmobjaaGreat

/- A text of this claim. -/
namespace Go.Proofs.YtgdepcnfjmobjaaGreat
open Go.RowKit Go.BigFrame
open Tr (Ed inR)
abbrev noB : ByteArray := ⟨#[]⟩
theorem edSize : Hid ((Tryz.prog.info? 36).map (·.size) = some 5) := Lib.hid (by kernel_rfl)
theorem texted_plain (x : Ed) (w : World) : Calls Tryz.prog 88 #[edV x] w fun e w' => e = .returned (edV ⟨x.k, 0, 0, 0, x.s⟩) ∧ Below w.heap.size w w' := by
 obtain ⟨k, n, f, t, s⟩ := x
 have HI := edSize
 unfold edV
 go_enter Tryz.func88, Tryz.ntmps88
 go_wp2_with fail
 exact bodyPost_ret (v := _) (results_cell_row Tryz.results88 _ _ (w.heap.size + 1) _ _ _ _ rfl (heap_alloc2_new w _ _) Tryz.underlying36 rfl HI.out) rfl ⟨rfl, (below_al w _).alloc (by simp) _⟩
theorem counted_plain (x : Ed) (w : World) : Calls Tryz.prog 101 #[edV x] w fun e w' => e = .returned (edV ⟨x.k, x.n, 0, 0, noB⟩) ∧ Below w.heap.size w w' := by
 obtain ⟨k, n, f, t, s⟩ := x
 have HI := edSize
 unfold edV
 go_enter Tryz.func101, Tryz.ntmps101
 go_wp2_with fail
 exact bodyPost_ret (v := _) (results_cell_row Tryz.results101 _ _ (w.heap.size + 1) _ _ _ _ rfl (heap_alloc2_new w _ _) Tryz.underlying36 rfl HI.out) rfl ⟨rfl, (below_al w _).alloc (by simp) _⟩
theorem tracked_plain (x : Ed) (w : World) : Calls Tryz.prog 105 #[edV x] w fun e w' => e = .returned (edV ⟨x.k, x.n, 0, 0, noB⟩) ∧ Below w.heap.size w w' := by
 obtain ⟨k, n, f, t, s⟩ := x
 have HI := edSize
 unfold edV
 go_enter Tryz.func105, Tryz.ntmps105
 go_wp2_with fail
 exact bodyPost_ret (v := _) (results_cell_row Tryz.results105 _ _ (w.heap.size + 1) _ _ _ _ rfl (heap_alloc2_new w _ _) Tryz.underlying36 rfl HI.out) rfl ⟨rfl, (below_al w _).alloc (by simp) _⟩
theorem parted_plain8 (n f t : Int) (s : ByteArray) (w : World) : Calls Tryz.prog 136 #[edV ⟨8, n, f, t, s⟩] w fun e w' => e = .returned (edV ⟨8, 0, f, t, noB⟩) ∧ Below w.heap.size w w' := by
 have HI := edSize
 unfold edV
 go_enter Tryz.func136, Tryz.ntmps136
 go_wp2_with fail
 exact bodyPost_ret (v := _) (results_cell_row Tryz.results136 _ _ (w.heap.size + 1) _ _ _ _ rfl (heap_alloc2_new w _ _) Tryz.underlying36 rfl HI.out) rfl ⟨rfl, (below_al w _).alloc (by simp) _⟩
theorem parted_plain11 (n f t : Int) (s : ByteArray) (w : World) : Calls Tryz.prog 136 #[edV ⟨11, n, f, t, s⟩] w fun e w' => e = .returned (edV ⟨11, 0, f, t, s⟩) ∧ Below w.heap.size w w' := by
 have HI := edSize
 unfold edV
 go_enter Tryz.func136, Tryz.ntmps136
 go_wp2_with fail
 exact bodyPost_ret (v := _) (results_cell_row Tryz.results136 _ _ (w.heap.size + 1) _ _ _ _ rfl (heap_alloc2_new w _ _) Tryz.underlying36 rfl HI.out) rfl ⟨rfl, (below_al w _).alloc (by simp) _⟩
theorem parted_plain12 (n f t : Int) (s : ByteArray) (w : World) : Calls Tryz.prog 136 #[edV ⟨12, n, f, t, s⟩] w fun e w' => e = .returned (edV ⟨12, n, 0, 0, noB⟩) ∧ Below w.heap.size w w' := by
 have HI := edSize
 unfold edV
 go_enter Tryz.func136, Tryz.ntmps136
 go_wp2_with fail
 exact bodyPost_ret (v := _) (results_cell_row Tryz.results136 _ _ (w.heap.size + 1) _ _ _ _ rfl (heap_alloc2_new w _ _) Tryz.underlying36 rfl HI.out) rfl ⟨rfl, (below_al w _).alloc (by simp) _⟩
set_option maxHeartbeats 1000000 in
theorem texted_check1 (n f t : Int) (s : ByteArray) (w : World) (hs : s.size ≤ maxLen) : Calls Tryz.prog 87 #[edV ⟨1, n, f, t, s⟩] w fun e w' => e = .returned (.int .i64 (fieldE ⟨1, n, f, t, s⟩)) ∧ Below w.heap.size w w' := by
 have D := Lib.hid (fun w => isName_any s w hs)
 have hE : fieldE ⟨1, n, f, t, s⟩ = if nameB s = true then 0 else 8 := rfl
 rw [hE]
 clear hE
 unfold edV
 cases hb : nameB s
 all_goals
  rw [hb] at D
  clear hb
  go_enter Tryz.func87, Tryz.ntmps87
  go_wp2_with fail
  refine (D.out _).mono ?_
  rintro e w1 ⟨rfl, rfl⟩
  go_wp2_with fail
  go_ret
  exact ⟨rfl, below_al w _⟩
set_option maxHeartbeats 1000000 in
theorem texted_check3 (n f t : Int) (s : ByteArray) (w : World) (hs : s.size ≤ maxLen) : Calls Tryz.prog 87 #[edV ⟨3, n, f, t, s⟩] w fun e w' => e = .returned (.int .i64 (fieldE ⟨3, n, f, t, s⟩)) ∧ Below w.heap.size w w' := by
 have D := Lib.hid (fun w => isName_any s w hs)
 have hE : fieldE ⟨3, n, f, t, s⟩ = if nameB s = true then 0 else 8 := rfl
 rw [hE]
 clear hE
 unfold edV
 cases hb : nameB s
 all_goals
  rw [hb] at D
  clear hb
  go_enter Tryz.func87, Tryz.ntmps87
  go_wp2_with fail
  refine (D.out _).mono ?_
  rintro e w1 ⟨rfl, rfl⟩
  go_wp2_with fail
  go_ret
  exact ⟨rfl, below_al w _⟩
set_option maxHeartbeats 1000000 in
theorem texted_check4 (n f t : Int) (s : ByteArray) (w : World) (hs : s.size ≤ maxLen) : Calls Tryz.prog 87 #[edV ⟨4, n, f, t, s⟩] w fun e w' => e = .returned (.int .i64 (fieldE ⟨4, n, f, t, s⟩)) ∧ Below w.heap.size w w' := by
 have D := Lib.hid (fun w => isName_any s w hs)
 have hE : fieldE ⟨4, n, f, t, s⟩ = if nameB s = true then 0 else 8 := rfl
 rw [hE]
 clear hE
 unfold edV
 cases hb : nameB s
 all_goals
  rw [hb] at D
  clear hb
  go_enter Tryz.func87, Tryz.ntmps87
  go_wp2_with fail
  refine (D.out _).mono ?_
  rintro e w1 ⟨rfl, rfl⟩
  go_wp2_with fail
  go_ret
  exact ⟨rfl, below_al w _⟩
set_option maxHeartbeats 1000000 in
theorem counted_check5 (n f t : Int) (s : ByteArray) (w : World) : Calls Tryz.prog 100 #[edV ⟨5, n, f, t, s⟩] w fun e w' => e = .returned (.int .i64 (fieldE ⟨5, n, f, t, s⟩)) ∧ Below w.heap.size w w' := by
 have D := Lib.hid (tranged_any n (-86399999999) 86399999999)
 have hE : fieldE ⟨5, n, f, t, s⟩ = rngE n (-86399999999) 86399999999 := rfl
 rw [hE]
 clear hE
 unfold edV
 go_enter Tryz.func100, Tryz.ntmps100
 go_wp2_with fail
 refine (D.out _).mono ?_
 rintro e w1 ⟨rfl, rfl⟩
 go_wp2_with fail
 go_ret
 exact ⟨rfl, below_al w _⟩
set_option maxHeartbeats 1000000 in
theorem counted_check6 (n f t : Int) (s : ByteArray) (w : World) : Calls Tryz.prog 100 #[edV ⟨6, n, f, t, s⟩] w fun e w' => e = .returned (.int .i64 (fieldE ⟨6, n, f, t, s⟩)) ∧ Below w.heap.size w w' := by
 have D := Lib.hid (tranged_any n (-200000) 200000)
 have hE : fieldE ⟨6, n, f, t, s⟩ = rngE n (-200000) 200000 := rfl
 rw [hE]
 clear hE
 unfold edV
 go_enter Tryz.func100, Tryz.ntmps100
 go_wp2_with fail
 refine (D.out _).mono ?_
 rintro e w1 ⟨rfl, rfl⟩
 go_wp2_with fail
 go_ret
 exact ⟨rfl, below_al w _⟩
set_option maxHeartbeats 1000000 in
theorem counted_check7 (n f t : Int) (s : ByteArray) (w : World) : Calls Tryz.prog 100 #[edV ⟨7, n, f, t, s⟩] w fun e w' => e = .returned (.int .i64 (fieldE ⟨7, n, f, t, s⟩)) ∧ Below w.heap.size w w' := by
 have D := Lib.hid (tranged_any n 1 3)
 have hE : fieldE ⟨7, n, f, t, s⟩ = rngE n 1 3 := rfl
 rw [hE]
 clear hE
 unfold edV
 go_enter Tryz.func100, Tryz.ntmps100
 go_wp2_with fail
 refine (D.out _).mono ?_
 rintro e w1 ⟨rfl, rfl⟩
 go_wp2_with fail
 go_ret
 exact ⟨rfl, below_al w _⟩
set_option maxHeartbeats 1000000 in
theorem tracked_check9 (n f t : Int) (s : ByteArray) (w : World) : Calls Tryz.prog 104 #[edV ⟨9, n, f, t, s⟩] w fun e w' => e = .returned (.int .i64 (fieldE ⟨9, n, f, t, s⟩)) ∧ Below w.heap.size w w' := by
 have D := Lib.hid (tranged_any n 0 50)
 have hE : fieldE ⟨9, n, f, t, s⟩ = rngE n 0 50 := rfl
 rw [hE]
 clear hE
 unfold edV
 go_enter Tryz.func104, Tryz.ntmps104
 go_wp2_with fail
 refine (D.out _).mono ?_
 rintro e w1 ⟨rfl, rfl⟩
 go_wp2_with fail
 go_ret
 exact ⟨rfl, below_al w _⟩
set_option maxHeartbeats 1000000 in
theorem tracked_check10 (n f t : Int) (s : ByteArray) (w : World) : Calls Tryz.prog 104 #[edV ⟨10, n, f, t, s⟩] w fun e w' => e = .returned (.int .i64 (fieldE ⟨10, n, f, t, s⟩)) ∧ Below w.heap.size w w' := by
 have D := Lib.hid (tranged_any n 0 1000000)
 have hE : fieldE ⟨10, n, f, t, s⟩ = rngE n 0 1000000 := rfl
 rw [hE]
 clear hE
 unfold edV
 go_enter Tryz.func104, Tryz.ntmps104
 go_wp2_with fail
 refine (D.out _).mono ?_
 rintro e w1 ⟨rfl, rfl⟩
 go_wp2_with fail
 go_ret
 exact ⟨rfl, below_al w _⟩
set_option maxHeartbeats 1000000 in
theorem parted_check12 (n f t : Int) (s : ByteArray) (w : World) : Calls Tryz.prog 135 #[edV ⟨12, n, f, t, s⟩] w fun e w' => e = .returned (.int .i64 (fieldE ⟨12, n, f, t, s⟩)) ∧ Below w.heap.size w w' := by
 have D := Lib.hid (tranged_any n 0 199)
 have hE : fieldE ⟨12, n, f, t, s⟩ = rngE n 0 199 := rfl
 rw [hE]
 clear hE
 unfold edV
 go_enter Tryz.func135, Tryz.ntmps135
 go_wp2_with fail
 refine (D.out _).mono ?_
 rintro e w1 ⟨rfl, rfl⟩
 go_wp2_with fail
 go_ret
 exact ⟨rfl, below_al w _⟩
set_option maxHeartbeats 1000000 in
theorem counted_check2 (n f t : Int) (s : ByteArray) (w : World) : Calls Tryz.prog 100 #[edV ⟨2, n, f, t, s⟩] w fun e w' => e = .returned (.int .i64 (fieldE ⟨2, n, f, t, s⟩)) ∧ Below w.heap.size w w' := by
 have D := Lib.hid (tin_any n 1 5)
 have hE : fieldE ⟨2, n, f, t, s⟩ = if inR n 1 5 = true then 0 else 7 := rfl
 rw [hE]
 clear hE
 unfold edV
 cases hb : inR n 1 5
 all_goals
  rw [hb] at D
  clear hb
  go_enter Tryz.func100, Tryz.ntmps100
  go_wp2_with fail
  refine (D.out _).mono ?_
  rintro e w1 ⟨rfl, rfl⟩
  go_wp2_with fail
  go_ret
  exact ⟨rfl, below_al w _⟩
set_option maxHeartbeats 2000000 in
theorem parted_check8 (n f t : Int) (s : ByteArray) (w : World) (hs : s.size ≤ maxLen) : Calls Tryz.prog 135 #[edV ⟨8, n, f, t, s⟩] w fun e w' => e = .returned (.int .i64 (fieldE ⟨8, n, f, t, s⟩)) ∧ Below w.heap.size w w' := by
 have D := Lib.hid (fun w => isTitle_any s w hs)
 have HE : Hid (fieldE ⟨8, n, f, t, s⟩ = if f < 0 ∨ t ≤ f ∨ 1000000 < t then 9 else if titleB s = true then 0 else 8) := Lib.hid rfl
 unfold edV
 by_cases hbad : f < 0 ∨ t ≤ f ∨ 1000000 < t
 · have HV := Lib.hid (HE.out.trans (if_pos hbad))
   clear HE
   rcases Classical.em (f < 0) with h1 | h1
   · have t1 : decide (f < 0) = true := by simpa using h1
     clear h1 hbad
     go_enter Tryz.func135, Tryz.ntmps135
     go_wp2_with fail
     go_ret
     exact ⟨by rw [HV.out]; rfl, below_al w _⟩
   · have t1 : decide (f < 0) = false := by simpa using h1
     rcases Classical.em (t ≤ f) with h2 | h2
     · have t2 : decide (t ≤ f) = true := by simpa using h2
       clear h1 h2 hbad
       go_enter Tryz.func135, Tryz.ntmps135
       go_wp2_with fail
       go_ret
       exact ⟨by rw [HV.out]; rfl, below_al w _⟩
     · have t2 : decide (t ≤ f) = false := by simpa using h2
       have t3 : decide (1000000 < t) = true := by rw [decide_eq_true_eq]; omega
       clear h1 h2 hbad
       go_enter Tryz.func135, Tryz.ntmps135
       go_wp2_with fail
       go_ret
       exact ⟨by rw [HV.out]; rfl, below_al w _⟩
 · have HV := Lib.hid (HE.out.trans (if_neg hbad))
   have t1 : decide (f < 0) = false := by rw [decide_eq_false_iff_not]; omega
   have t2 : decide (t ≤ f) = false := by rw [decide_eq_false_iff_not]; omega
   have t3 : decide (1000000 < t) = false := by rw [decide_eq_false_iff_not]; omega
   clear HE hbad
   cases hb : titleB s
   all_goals
    rw [hb] at D HV
    clear hb
    go_enter Tryz.func135, Tryz.ntmps135
    go_wp2_with fail
    refine (D.out _).mono ?_
    rintro e w1 ⟨rfl, rfl⟩
    go_wp2_with fail
    go_ret
    exact ⟨by rw [HV.out]; rfl, below_al w _⟩
set_option maxHeartbeats 2000000 in
theorem parted_check11 (n f t : Int) (s : ByteArray) (w : World) (hs : s.size ≤ maxLen) : Calls Tryz.prog 135 #[edV ⟨11, n, f, t, s⟩] w fun e w' => e = .returned (.int .i64 (fieldE ⟨11, n, f, t, s⟩)) ∧ Below w.heap.size w w' := by
 have D := Lib.hid (fun w => isTitle_any s w hs)
 have HE : Hid (fieldE ⟨11, n, f, t, s⟩ = if f < 0 ∨ t ≤ f ∨ 1000000 < t then 9 else if titleB s = true then 0 else 8) := Lib.hid rfl
 unfold edV
 by_cases hbad : f < 0 ∨ t ≤ f ∨ 1000000 < t
 · have HV := Lib.hid (HE.out.trans (if_pos hbad))
   clear HE
   rcases Classical.em (f < 0) with h1 | h1
   · have t1 : decide (f < 0) = true := by simpa using h1
     clear h1 hbad
     go_enter Tryz.func135, Tryz.ntmps135
     go_wp2_with fail
     go_ret
     exact ⟨by rw [HV.out]; rfl, below_al w _⟩
   · have t1 : decide (f < 0) = false := by simpa using h1
     rcases Classical.em (t ≤ f) with h2 | h2
     · have t2 : decide (t ≤ f) = true := by simpa using h2
       clear h1 h2 hbad
       go_enter Tryz.func135, Tryz.ntmps135
       go_wp2_with fail
       go_ret
       exact ⟨by rw [HV.out]; rfl, below_al w _⟩
     · have t2 : decide (t ≤ f) = false := by simpa using h2
       have t3 : decide (1000000 < t) = true := by rw [decide_eq_true_eq]; omega
       clear h1 h2 hbad
       go_enter Tryz.func135, Tryz.ntmps135
       go_wp2_with fail
       go_ret
       exact ⟨by rw [HV.out]; rfl, below_al w _⟩
 · have HV := Lib.hid (HE.out.trans (if_neg hbad))
   have t1 : decide (f < 0) = false := by rw [decide_eq_false_iff_not]; omega
   have t2 : decide (t ≤ f) = false := by rw [decide_eq_false_iff_not]; omega
   have t3 : decide (1000000 < t) = false := by rw [decide_eq_false_iff_not]; omega
   clear HE hbad
   cases hb : titleB s
   all_goals
    rw [hb] at D HV
    clear hb
    go_enter Tryz.func135, Tryz.ntmps135
    go_wp2_with fail
    refine (D.out _).mono ?_
    rintro e w1 ⟨rfl, rfl⟩
    go_wp2_with fail
    go_ret
    exact ⟨by rw [HV.out]; rfl, below_al w _⟩
end Go.Proofs.YtgdepcnfjmobjaaGreat

/- A text of this claim. -/
namespace Go.Proofs.YtgdepcnfjmobjaaGreat
open Go.RowKit Go.BigFrame
open Tr (Ed inR)
set_option maxHeartbeats 2000000 in
theorem checkEdit_go (x y : Ed) (T : TypeId) (fp fc : FuncId) (w : World) (hE : edI x = .iface T (edV x))
 (hm1 : ∀ m w, (method (m + 1) T (edV x) "harrier/trail.plain").run Tryz.prog w = .ok (fp, edV x) w)
 (hm2 : ∀ m w, (method (m + 1) T (edV x) "harrier/trail.check").run Tryz.prog w = .ok (fc, edV x) w)
 (hf1 : ∀ (args : Array Value) w, (callFunc fp args).run Tryz.prog w = .ok (.enter fp args) w) (hf2 : ∀ (args : Array Value) w, (callFunc fc args).run Tryz.prog w = .ok (.enter fc args) w)
 (hP : ∀ w, Calls Tryz.prog fp #[edV x] w fun e w' => e = .returned (edV y) ∧ Below w.heap.size w w')
 (hC : formE x = true → ∀ w, Calls Tryz.prog fc #[edV x] w fun e w' => e = .returned (.int .i64 (fieldE x)) ∧ Below w.heap.size w w')
 (hy : eqE y x = formE x) (hk : 1 ≤ x.k ∧ x.k ≤ 12) :
 Calls Tryz.prog 33 #[edV x] w fun e w' => e = .returned (.int .i64 (chkE x)) ∧ Below w.heap.size w w' := by
 -- 199: how many types the program has, and 100
 have hm1 := hm1 287
 have hm2 := hm2 287
 simp only [Nat.reduceAdd] at hm1 hm2
 have DE := Lib.hid (editOf_any x)
 rw [hE] at DE
 have hq : ∀ W, (Op.equalIn 10000 36 (edV y) (edV x)).run Tryz.prog W = .ok (eqE y x) W := fun W => eqEdit y x W
 rw [hy] at hq
 have HP := Lib.hid hP
 have HC := Lib.hid hC
 obtain ⟨k, n, f, t, s⟩ := x
 obtain ⟨k', n', f', t', s'⟩ := y
 have hgd : Tryz.prog.eqGuardType Tryz.prog.depth 36 = false := by kernel_rfl
 have HV : Hid (chkE ⟨k, n, f, t, s⟩ = if formE ⟨k, n, f, t, s⟩ = false then 2 else fieldE ⟨k, n, f, t, s⟩) := Lib.hid (by
  unfold chkE
  rw [if_neg (show ¬ (k < 1 ∨ 12 < k) by simp only at hk; omega)])
 obtain ⟨W0, hW0, hb0, hs0, hl0⟩ := alloc_cells w #[.int .i64 k, .int .i64 n, .int .i64 f, .int .i64 t, .string s] 36
 have G0 := Ext.ex (hl0 0 _ rfl)
 have G1 := Ext.ex (hl0 1 _ rfl)
 have G2 := Ext.ex (hl0 2 _ rfl)
 have G3 := Ext.ex (hl0 3 _ rfl)
 have G4 := Ext.ex (hl0 4 _ rfl)
 have HW0 := Lib.hid hW0
 have HB0 := Lib.hid hb0
 have hs0' : w.heap.size ≤ W0.heap.size := by omega
 have DE' := Lib.hid (fun Y : Ext W0 => Y.calls (DE.out Y.1))
 have DP := Lib.hid (fun Y : Ext W0 => Y.calls (HP.out Y.1))
 clear hy hk hE hP hC hl0 hs0 hW0 hb0 DE HP
 unfold edV at *
 simp only at *
 cases hb : formE ⟨k, n, f, t, s⟩
 · rw [hb] at hq HV
   clear hb HC hm2
   go_enter Tryz.func33, Tryz.ntmps33
   go_upto_region 1 with (fail)
   rw [HW0.out]
   refine ext_wp fun X => ?_
   go_wp2_with fail
   refine (DE'.out _).mono ?_
   rintro e w1 ⟨rfl, Y, rfl⟩
   clear DE'
   go_wp2_with fail
   refine wp_region_ext (W := W0) _ (by kernel_rfl) (by kernel_rfl) ?_
   repeat go_big_quiet_step (exact DP.out _)
   refine wpQuiet_nil ?_
   intro _ hw'
   obtain ⟨Z, rfl⟩ := hw'
   go_wp2_with fail
   go_ret
   exact ⟨by rw [HV.out]; rfl, Z.down HB0.out hs0'⟩
 · rw [hb] at hq HV
   have DC := Lib.hid (fun Y : Ext W0 => Y.calls (HC.out hb Y.1))
   clear hb HC
   go_enter Tryz.func33, Tryz.ntmps33
   go_upto_region 1 with (fail)
   rw [HW0.out]
   refine ext_wp fun X => ?_
   go_wp2_with fail
   refine (DE'.out _).mono ?_
   rintro e w1 ⟨rfl, Y, rfl⟩
   clear DE'
   go_wp2_with fail
   refine wp_region_ext (W := W0) _ (by kernel_rfl) (by kernel_rfl) ?_
   repeat go_big_quiet_step (exact DP.out _)
   refine wpQuiet_nil ?_
   intro _ hw'
   obtain ⟨Z, rfl⟩ := hw'
   clear DP
   go_wp2_with fail
   refine (DC.out _).mono ?_
   rintro e w1 ⟨rfl, V, rfl⟩
   go_wp2_with fail
   go_ret
   exact ⟨by rw [HV.out]; rfl, V.down HB0.out hs0'⟩
theorem noB_iff (s : ByteArray) : decide (noB = s) = decide (s.size = 0) := by
 rw [decide_eq_decide]
 constructor
 · rintro rfl
   rfl
 · intro h
   cases s with
   | mk d =>
    have : d = #[] := Array.eq_empty_of_size_eq_zero h
    rw [this]
theorem zero_comm (n : Int) : decide ((0 : Int) = n) = decide (n = 0) := by
 rw [decide_eq_decide]
 exact eq_comm
set_option maxHeartbeats 1000000 in
theorem checkEdit_any (x : Ed) (w : World) (hs : x.s.size ≤ maxLen) : Calls Tryz.prog 33 #[edV x] w fun e w' => e = .returned (.int .i64 (chkE x)) ∧ Below w.heap.size w w' := by
 obtain ⟨k, n, f, t, s⟩ := x
 rcases kinds k with rfl | rfl | rfl | rfl | rfl | rfl | rfl | rfl | rfl | rfl | rfl | rfl | h | h
 · exact checkEdit_go ⟨1, n, f, t, s⟩ ⟨1, 0, 0, 0, s⟩ 86 88 87 w rfl (fun _ _ => by kernel_rfl) (fun _ _ => by kernel_rfl) (fun _ _ => by kernel_rfl) (fun _ _ => by kernel_rfl) (fun w => texted_plain ⟨1, n, f, t, s⟩ w) (fun _ w => texted_check1 n f t s w hs) (by simp only [eqE, formE, zero_comm]; simp) (show (1 : Int) ≤ 1 ∧ (1 : Int) ≤ 12 by decide)
 · exact checkEdit_go ⟨2, n, f, t, s⟩ ⟨2, n, 0, 0, noB⟩ 87 101 100 w rfl (fun _ _ => by kernel_rfl) (fun _ _ => by kernel_rfl) (fun _ _ => by kernel_rfl) (fun _ _ => by kernel_rfl) (fun w => counted_plain ⟨2, n, f, t, s⟩ w) (fun _ w => counted_check2 n f t s w) (by simp only [eqE, formE, noB_iff, zero_comm]; simp) (show (1 : Int) ≤ 2 ∧ (2 : Int) ≤ 12 by decide)
 · exact checkEdit_go ⟨3, n, f, t, s⟩ ⟨3, 0, 0, 0, s⟩ 86 88 87 w rfl (fun _ _ => by kernel_rfl) (fun _ _ => by kernel_rfl) (fun _ _ => by kernel_rfl) (fun _ _ => by kernel_rfl) (fun w => texted_plain ⟨3, n, f, t, s⟩ w) (fun _ w => texted_check3 n f t s w hs) (by simp only [eqE, formE, zero_comm]; simp) (show (1 : Int) ≤ 3 ∧ (3 : Int) ≤ 12 by decide)
 · exact checkEdit_go ⟨4, n, f, t, s⟩ ⟨4, 0, 0, 0, s⟩ 86 88 87 w rfl (fun _ _ => by kernel_rfl) (fun _ _ => by kernel_rfl) (fun _ _ => by kernel_rfl) (fun _ _ => by kernel_rfl) (fun w => texted_plain ⟨4, n, f, t, s⟩ w) (fun _ w => texted_check4 n f t s w hs) (by simp only [eqE, formE, zero_comm]; simp) (show (1 : Int) ≤ 4 ∧ (4 : Int) ≤ 12 by decide)
 · exact checkEdit_go ⟨5, n, f, t, s⟩ ⟨5, n, 0, 0, noB⟩ 87 101 100 w rfl (fun _ _ => by kernel_rfl) (fun _ _ => by kernel_rfl) (fun _ _ => by kernel_rfl) (fun _ _ => by kernel_rfl) (fun w => counted_plain ⟨5, n, f, t, s⟩ w) (fun _ w => counted_check5 n f t s w) (by simp only [eqE, formE, noB_iff, zero_comm]; simp) (show (1 : Int) ≤ 5 ∧ (5 : Int) ≤ 12 by decide)
 · exact checkEdit_go ⟨6, n, f, t, s⟩ ⟨6, n, 0, 0, noB⟩ 87 101 100 w rfl (fun _ _ => by kernel_rfl) (fun _ _ => by kernel_rfl) (fun _ _ => by kernel_rfl) (fun _ _ => by kernel_rfl) (fun w => counted_plain ⟨6, n, f, t, s⟩ w) (fun _ w => counted_check6 n f t s w) (by simp only [eqE, formE, noB_iff, zero_comm]; simp) (show (1 : Int) ≤ 6 ∧ (6 : Int) ≤ 12 by decide)
 · exact checkEdit_go ⟨7, n, f, t, s⟩ ⟨7, n, 0, 0, noB⟩ 87 101 100 w rfl (fun _ _ => by kernel_rfl) (fun _ _ => by kernel_rfl) (fun _ _ => by kernel_rfl) (fun _ _ => by kernel_rfl) (fun w => counted_plain ⟨7, n, f, t, s⟩ w) (fun _ w => counted_check7 n f t s w) (by simp only [eqE, formE, noB_iff, zero_comm]; simp) (show (1 : Int) ≤ 7 ∧ (7 : Int) ≤ 12 by decide)
 · exact checkEdit_go ⟨8, n, f, t, s⟩ ⟨8, 0, f, t, noB⟩ 89 136 135 w rfl (fun _ _ => by kernel_rfl) (fun _ _ => by kernel_rfl) (fun _ _ => by kernel_rfl) (fun _ _ => by kernel_rfl) (fun w => parted_plain8 n f t s w) (fun _ w => parted_check8 n f t s w hs) (by simp only [eqE, formE, noB_iff, zero_comm]; simp) (show (1 : Int) ≤ 8 ∧ (8 : Int) ≤ 12 by decide)
 · exact checkEdit_go ⟨9, n, f, t, s⟩ ⟨9, n, 0, 0, noB⟩ 88 105 104 w rfl (fun _ _ => by kernel_rfl) (fun _ _ => by kernel_rfl) (fun _ _ => by kernel_rfl) (fun _ _ => by kernel_rfl) (fun w => tracked_plain ⟨9, n, f, t, s⟩ w) (fun _ w => tracked_check9 n f t s w) (by simp only [eqE, formE, noB_iff, zero_comm]; simp) (show (1 : Int) ≤ 9 ∧ (9 : Int) ≤ 12 by decide)
 · exact checkEdit_go ⟨10, n, f, t, s⟩ ⟨10, n, 0, 0, noB⟩ 88 105 104 w rfl (fun _ _ => by kernel_rfl) (fun _ _ => by kernel_rfl) (fun _ _ => by kernel_rfl) (fun _ _ => by kernel_rfl) (fun w => tracked_plain ⟨10, n, f, t, s⟩ w) (fun _ w => tracked_check10 n f t s w) (by simp only [eqE, formE, noB_iff, zero_comm]; simp) (show (1 : Int) ≤ 10 ∧ (10 : Int) ≤ 12 by decide)
 · exact checkEdit_go ⟨11, n, f, t, s⟩ ⟨11, 0, f, t, s⟩ 89 136 135 w rfl (fun _ _ => by kernel_rfl) (fun _ _ => by kernel_rfl) (fun _ _ => by kernel_rfl) (fun _ _ => by kernel_rfl) (fun w => parted_plain11 n f t s w) (fun _ w => parted_check11 n f t s w hs) (by simp only [eqE, formE, zero_comm]; simp) (show (1 : Int) ≤ 11 ∧ (11 : Int) ≤ 12 by decide)
 · exact checkEdit_go ⟨12, n, f, t, s⟩ ⟨12, n, 0, 0, noB⟩ 89 136 135 w rfl (fun _ _ => by kernel_rfl) (fun _ _ => by kernel_rfl) (fun _ _ => by kernel_rfl) (fun _ _ => by kernel_rfl) (fun w => parted_plain12 n f t s w) (fun _ w => parted_check12 n f t s w) (by simp only [eqE, formE, noB_iff, zero_comm]; simp) (show (1 : Int) ≤ 12 ∧ (12 : Int) ≤ 12 by decide)
 all_goals
  have hI : edI ⟨k, n, f, t, s⟩ = .nilIface := by
   unfold edI
   simp only
   rw [if_neg (by omega), if_neg (by omega), if_neg (by omega), if_neg (by omega)]
  have DE := Lib.hid (editOf_any ⟨k, n, f, t, s⟩)
  rw [hI] at DE
  have HV := Lib.hid (show chkE ⟨k, n, f, t, s⟩ = 7 by
   unfold chkE
   rw [if_pos (by simp only; omega)])
  unfold edV at *
  simp only at *
  clear hI h
  go_enter Tryz.func33, Tryz.ntmps33
  go_wp2_with fail
  refine (DE.out _).mono ?_
  rintro e w1 ⟨rfl, hb⟩
  have HB := Lib.hid ((below_al w _).trans (hb.mono (by simp)))
  clear hb
  go_wp2_with fail
  go_ret
  exact ⟨by rw [HV.out]; rfl, HB.out⟩
end Go.Proofs.YtgdepcnfjmobjaaGreat

/- A text of this claim. -/
namespace Go.Proofs.YtgdepcnfjmobjaaGreat
open Go.RowKit Go.BigFrame
open Tr (Ed inR)
theorem chkEs_drop {l : List Ed} {k : Nat} {x : Ed} (hx : l[k]? = some x) (h : chkEs l = chkEs (l.drop k)) : (chkE x ≠ 0 → chkEs l = chkE x) ∧ (chkE x = 0 → chkEs l = chkEs (l.drop (k + 1))) := by
 obtain ⟨h1, e1⟩ := List.getElem?_eq_some_iff.1 hx
 rw [List.drop_eq_getElem_cons h1, e1, chkEs] at h
 exact ⟨fun h0 => by rw [h, if_neg h0], fun h0 => by rw [h, if_pos h0]⟩
set_option maxHeartbeats 2000000 in
set_option maxRecDepth 100000 in
theorem checkEdits_any (a : Option Addr) (l : List Ed) (c : Nat) (w : World) (hr : ERow w a l) (hs : ∀ x, x ∈ l → x.s.size ≤ maxLen) :
 Calls Tryz.prog 22 #[.slice a l.length c] w fun e w' => e = .returned (.int .i64 (chkEL l)) ∧ Below w.heap.size w w' := by
 have HR := Lib.hid hr
 have HS := Lib.hid hs
 have DC := Lib.hid (fun (x : Ed) (hx : x ∈ l) (W : World) => checkEdit_any x W (hs x hx))
 obtain ⟨nl, hnl⟩ : ∃ n, l.length = n := ⟨_, rfl⟩
 have HV : Hid (chkEL l = if 200 < nl then 3 else chkEs l) := Lib.hid (by unfold chkEL; rw [hnl])
 have HN := Lib.hid hnl
 rw [hnl]
 clear hr hs hnl
 by_cases hbig : 200 < nl
 · have t1 : decide ((200 : Int) < (nl : Int)) = true := by rw [decide_eq_true_eq]; omega
   have HV2 := Lib.hid (HV.out.trans (if_pos hbig))
   clear hbig HV
   go_enter Tryz.func22, Tryz.ntmps22
   go_wp2_with fail
   go_ret
   exact ⟨by rw [HV2.out]; rfl, Below.refl _ _⟩
 · have t1 : decide ((200 : Int) < (nl : Int)) = false := by rw [decide_eq_false_iff_not]; omega
   have HV2 := Lib.hid (HV.out.trans (if_neg hbig))
   clear HV
   go_enter Tryz.func22, Tryz.ntmps22
   go_wp2_with fail
   go_loopw [11] (fun iv wr => ∃ (k : Nat), iv = .int .i64 k ∧ k ≤ nl ∧ Hid (chkEs l = chkEs (l.drop k)) ∧ ∃ X : Ext w, wr = X.1) (fun iv _ => nl - (intOf iv).toNat)
   case atStart => exact ⟨0, rfl, by omega, Lib.hid rfl, ⟨w, Below.refl _ _⟩, rfl⟩
   case round =>
    obtain ⟨k, rfl, hk, HE, X, rfl⟩ := hrel
    by_cases hlt : k < nl
    · have t2 : decide ((k : Int) < (nl : Int)) = true := by rw [decide_eq_true_eq]; omega
      have t2' : decide (k < nl) = true := by simpa using hlt
      obtain ⟨x, hx⟩ : ∃ x, l[k]? = some x := ⟨_, List.getElem?_eq_getElem (by rw [HN.out]; exact hlt)⟩
      obtain ⟨b, off, rfl, hb, e0, e1, e2, e3, e4⟩ := (HR.out.below X.2).at hx
      have DX := Lib.hid (DC.out x (List.mem_of_getElem? hx))
      obtain ⟨hn1, hn2⟩ := chkEs_drop hx HE.out
      obtain ⟨r, hr⟩ : ∃ r, chkE x = r := ⟨_, rfl⟩
      rw [hr] at DX hn1 hn2
      obtain ⟨V1, hV1, hvb, hvs, hvl⟩ := alloc_cells X.1 #[.int .i64 x.k, .int .i64 x.n, .int .i64 x.f, .int .i64 x.t, .string x.s] 36
      have u0 := hvl 0 _ rfl
      have u1 := hvl 1 _ rfl
      have u2 := hvl 2 _ rfl
      have u3 := hvl 3 _ rfl
      have u4 := hvl 4 _ rfl
      have HV1 := Lib.hid hV1
      have HB1 := Lib.hid (X.2.trans (hvb.mono X.2.size))
      unfold edV at DX
      clear hx hr hV1 hvb hvs hvl HE
      by_cases h0 : r = 0
      · subst h0
        have HN2 := Lib.hid (hn2 rfl)
        clear hn1 hn2
        go_wp2_with fail
        rw [HV1.out]
        go_wp2_with fail
        refine (DX.out _).mono ?_
        rintro e w1 ⟨rfl, hb2⟩
        obtain ⟨Z, rfl⟩ : ∃ Z : Ext w, w1 = Z.1 := ⟨⟨w1, HB1.out.trans (hb2.mono HB1.out.size)⟩, rfl⟩
        clear hb2
        go_wp2_with fail
        go_roundw
        case rel => exact ⟨k + 1, by go_num, by omega, HN2, Z, rfl⟩
        case measure => simp [intOf]; omega
      · have HN1 := Lib.hid (hn1 h0)
        have hbne : (r != 0) = true := by rw [bne_iff_ne]; exact h0
        clear hn1 hn2 h0
        go_wp2_with fail
        rw [HV1.out]
        go_wp2_with fail
        refine (DX.out _).mono ?_
        rintro e w1 ⟨rfl, hb2⟩
        have HB2 := Lib.hid (HB1.out.trans (hb2.mono HB1.out.size))
        clear hb2
        go_wp2_with fail
        go_ret
        exact ⟨by rw [HV2.out, HN1.out]; rfl, HB2.out⟩
    · have t2 : decide ((k : Int) < (nl : Int)) = false := by rw [decide_eq_false_iff_not]; omega
      have t2' : decide (k < nl) = false := by simpa using hlt
      have HF := Lib.hid (show chkEs l = 0 by
       rw [HE.out, List.drop_eq_nil_of_le (by rw [HN.out]; omega)]
       rfl)
      have HX := Lib.hid X.2
      clear hlt HE
      go_wp2_with fail
      go_ret
      exact ⟨by rw [HV2.out, HF.out]; rfl, HX.out⟩
end Go.Proofs.YtgdepcnfjmobjaaGreat

/- A text of this claim. -/
namespace Go.Proofs.YtgdepcnfjmobjaaGreat
open Go.RowKit Go.BigFrame
open Tr (Ed inR isZero united)
theorem beqF {n m : Int} (h : n ≠ m) : (n == m) = false := beq_eq_false_iff_ne.2 h
theorem beqT {n m : Int} (h : n = m) : (n == m) = true := beq_iff_eq.2 h
set_option maxHeartbeats 1000000 in
theorem isZero_any (x : Ed) (w : World) : Calls Tryz.prog 38 #[edV x] w fun e w' => e = .returned (.bool (isZero x)) ∧ Below w.heap.size w w' := by
 obtain ⟨k, n, f, t, s⟩ := x
 unfold edV
 have walk : ∀ b, isZero ⟨k, n, f, t, s⟩ = b → Hid (isZero ⟨k, n, f, t, s⟩ = b) := fun _ h => Lib.hid h
 by_cases hn : n = 0
 · have b0 := beqT hn
   by_cases h5 : k = 5
   · have HV := walk true (by subst hn h5; rfl)
     have b5 := beqT h5
     clear h5 hn
     clear walk
     go_enter Tryz.func38, Tryz.ntmps38
     go_wp2_with fail
     go_ret
     exact ⟨ret_bool HV.out.symm, below_al w _⟩
   · have b5 := beqF h5
     by_cases h6 : k = 6
     · have HV := walk true (by subst hn h6; rfl)
       have b6 := beqT h6
       clear h6 hn
       clear walk
       go_enter Tryz.func38, Tryz.ntmps38
       go_wp2_with fail
       go_ret
       exact ⟨ret_bool HV.out.symm, below_al w _⟩
     · have b6 := beqF h6
       by_cases h9 : k = 9
       · have HV := walk true (by subst hn h9; rfl)
         have b9 := beqT h9
         clear h9 hn
         clear walk
         go_enter Tryz.func38, Tryz.ntmps38
         go_wp2_with fail
         go_ret
         exact ⟨ret_bool HV.out.symm, below_al w _⟩
       · have b9 := beqF h9
         have HV := walk false (by simp [isZero, h5, h6, h9])
         clear h5 h6 h9 hn
         clear walk
         go_enter Tryz.func38, Tryz.ntmps38
         go_wp2_with fail
         go_ret
         exact ⟨ret_bool HV.out.symm, below_al w _⟩
 · have b0 := beqF hn
   have HV := walk false (by simp [isZero, hn])
   clear hn
   clear walk
   go_enter Tryz.func38, Tryz.ntmps38
   go_wp2_with fail
   go_ret
   exact ⟨ret_bool HV.out.symm, below_al w _⟩
theorem size_al2 (w : World) (A B : Obj) : w.heap.size ≤ ((w.alloc A).alloc B).heap.size := by simp; omega
theorem below_al3 (w : World) (A B C : Obj) : Below w.heap.size w (((w.alloc A).alloc B).alloc C) := ((below_al w _).alloc (by simp) _).alloc (size_al2 w _ _) _
def UniR (x y : Ed) (w : World) (e : Ending) (w' : World) : Prop :=
 (∃ v, e = .returned (.tuple #[v, .bool (united x y).isSome]) ∧ ∀ m, united x y = some m → EdOwn w' w.heap.size v m) ∧ Below w.heap.size w w'
theorem UniR.none {x y : Ed} {w w' : World} {v : Value} {b : Bool} (h : united x y = none) (hb : Below w.heap.size w w') (hv : b = false) : UniR x y w (.returned (.tuple #[v, .bool b])) w' :=
 ⟨⟨v, by rw [h, hv]; rfl, fun m hm => by rw [h] at hm; cases hm⟩, hb⟩
theorem UniR.some {x y : Ed} {w w' : World} {v : Value} {m : List Ed} {b : Bool} (h : united x y = some m) (hb : Below w.heap.size w w') (ho : EdOwn w' w.heap.size v m) (hv : b = true) : UniR x y w (.returned (.tuple #[v, .bool b])) w' :=
 ⟨⟨v, by rw [h, hv]; rfl, fun m' hm => by rw [h] at hm; injection hm with hm; subst hm; exact ho⟩, hb⟩
theorem UniR.of {x y : Ed} {w w' : World} {v : Value} {m : List Ed} {b : Bool} (h : united x y = if b = true then Option.some m else Option.none) (hb : Below w.heap.size w w') (ho : EdOwn w' w.heap.size v m) : UniR x y w (.returned (.tuple #[v, .bool b])) w' := by
 cases b
 · exact .none h hb rfl
 · exact .some h hb ho rfl
theorem EdOwn.one (x : Ed) {w W : World} (hb : w.heap.size ≤ W.heap.size) {g : Nat} (hg : W.heap.size = g) : EdOwn (W.alloc (.cells #[.int .i64 x.k, .int .i64 x.n, .int .i64 x.f, .int .i64 x.t, .string x.s] 36)) w.heap.size (.slice (some ⟨g, 0, none⟩) 1 1) [x] := by
 subst hg
 exact ⟨rfl, .inr ⟨W.heap.size, 1, _, rfl, hb, heap_alloc_new W _, Nat.le_refl _, by unfold maxLen; omega, rfl, rfl⟩⟩
set_option maxHeartbeats 1000000 in
theorem united_tags (x y : Ed) (w : World) (h : x.k = 3 ∧ y.k = 4 ∨ x.k = 4 ∧ y.k = 3) : Calls Tryz.prog 40 #[edV x, edV y] w fun e w' => UniR x y w e w' := by
 obtain ⟨k, n, f, t, s⟩ := x
 obtain ⟨k', n', f', t', s'⟩ := y
 have hs := strEq s s'
 unfold edV
 simp only at h
 by_cases he : s = s'
 · rw [decide_eq_true he] at hs
   have HV := Lib.hid (show united ⟨k, n, f, t, s⟩ ⟨k', n', f', t', s'⟩ = Option.some [] by unfold united; rw [if_pos ⟨he, by omega⟩])
   clear he
   rcases h with ⟨rfl, rfl⟩ | ⟨rfl, rfl⟩
   all_goals
    go_enter Tryz.func40, Tryz.ntmps40
    go_wp2_with fail
    go_ret2
    exact .some HV.out ((below_al w _).alloc (by simp) _) (EdOwn.nil _ _) rfl
 · rw [decide_eq_false he] at hs
   have HV := Lib.hid (show united ⟨k, n, f, t, s⟩ ⟨k', n', f', t', s'⟩ = Option.none by
    unfold united
    rw [if_neg (fun h => he h.1), if_pos (by simp only; omega)])
   clear he
   rcases h with ⟨rfl, rfl⟩ | ⟨rfl, rfl⟩
   all_goals
    go_enter Tryz.func40, Tryz.ntmps40
    go_wp2_with fail
    go_ret2
    exact .none HV.out ((below_al w _).alloc (by simp) _) rfl
set_option maxHeartbeats 1000000 in
theorem united_diff (x y : Ed) (w : World) (hx : 1 ≤ x.k ∧ x.k ≤ 12) (hy : 1 ≤ y.k ∧ y.k ≤ 12) (hne : x.k ≠ y.k) (h : ¬ (x.k = 3 ∧ y.k = 4 ∨ x.k = 4 ∧ y.k = 3)) : Calls Tryz.prog 40 #[edV x, edV y] w fun e w' => UniR x y w e w' := by
 have HV := Lib.hid (show united x y = Option.none by
  unfold united
  rw [if_neg (fun g => h g.2), if_pos hne])
 obtain ⟨k, n, f, t, s⟩ := x
 obtain ⟨k', n', f', t', s'⟩ := y
 unfold edV
 simp only at h hx hy hne
 obtain ⟨hx1, hx2⟩ := hx
 obtain ⟨hy1, hy2⟩ := hy
 have hb : (k != k') = true := by rw [bne_iff_ne]; exact hne
 by_cases h7 : k + k' = 7
 · have b7 := beqT h7
   have b3 : (k == 3) = false := beqF (by omega)
   have b4 : (k == 4) = false := beqF (by omega)
   clear h7 h hne
   go_enter Tryz.func40, Tryz.ntmps40
   go_wp2_with fail
   go_ret2
   exact .none HV.out ((below_al w _).alloc (by simp) _) rfl
 · have b7 := beqF h7
   clear h7 h hne
   go_enter Tryz.func40, Tryz.ntmps40
   go_wp2_with fail
   go_ret2
   exact .none HV.out ((below_al w _).alloc (by simp) _) rfl
set_option maxHeartbeats 1000000 in
theorem united_3 (n f t n' f' t' : Int) (s s' : ByteArray) (w : World) : Calls Tryz.prog 40 #[edV ⟨3, n, f, t, s⟩, edV ⟨3, n', f', t', s'⟩] w fun e w' => UniR ⟨3, n, f, t, s⟩ ⟨3, n', f', t', s'⟩ w e w' := by
 have HV := Lib.hid (show united ⟨3, n, f, t, s⟩ ⟨3, n', f', t', s'⟩ = Option.none by
  unfold united
  rw [if_neg (by simp), if_neg (by simp), if_neg (by simp), if_neg (by simp), if_neg (by simp)])
 unfold edV
 go_enter Tryz.func40, Tryz.ntmps40
 go_wp2_with fail
 go_ret2
 exact .none HV.out ((below_al w _).alloc (by simp) _) rfl
set_option maxHeartbeats 1000000 in
theorem united_4 (n f t n' f' t' : Int) (s s' : ByteArray) (w : World) : Calls Tryz.prog 40 #[edV ⟨4, n, f, t, s⟩, edV ⟨4, n', f', t', s'⟩] w fun e w' => UniR ⟨4, n, f, t, s⟩ ⟨4, n', f', t', s'⟩ w e w' := by
 have HV := Lib.hid (show united ⟨4, n, f, t, s⟩ ⟨4, n', f', t', s'⟩ = Option.none by
  unfold united
  rw [if_neg (by simp), if_neg (by simp), if_neg (by simp), if_neg (by simp), if_neg (by simp)])
 unfold edV
 go_enter Tryz.func40, Tryz.ntmps40
 go_wp2_with fail
 go_ret2
 exact .none HV.out ((below_al w _).alloc (by simp) _) rfl
set_option maxHeartbeats 1000000 in
theorem united_8 (n f t n' f' t' : Int) (s s' : ByteArray) (w : World) : Calls Tryz.prog 40 #[edV ⟨8, n, f, t, s⟩, edV ⟨8, n', f', t', s'⟩] w fun e w' => UniR ⟨8, n, f, t, s⟩ ⟨8, n', f', t', s'⟩ w e w' := by
 have HV := Lib.hid (show united ⟨8, n, f, t, s⟩ ⟨8, n', f', t', s'⟩ = Option.none by
  unfold united
  rw [if_neg (by simp), if_neg (by simp), if_neg (by simp), if_neg (by simp), if_neg (by simp)])
 unfold edV
 go_enter Tryz.func40, Tryz.ntmps40
 go_wp2_with fail
 go_ret2
 exact .none HV.out ((below_al w _).alloc (by simp) _) rfl
set_option maxHeartbeats 1000000 in
theorem united_9 (n f t n' f' t' : Int) (s s' : ByteArray) (w : World) : Calls Tryz.prog 40 #[edV ⟨9, n, f, t, s⟩, edV ⟨9, n', f', t', s'⟩] w fun e w' => UniR ⟨9, n, f, t, s⟩ ⟨9, n', f', t', s'⟩ w e w' := by
 have HV := Lib.hid (show united ⟨9, n, f, t, s⟩ ⟨9, n', f', t', s'⟩ = Option.none by
  unfold united
  rw [if_neg (by simp), if_neg (by simp), if_neg (by simp), if_neg (by simp), if_neg (by simp)])
 unfold edV
 go_enter Tryz.func40, Tryz.ntmps40
 go_wp2_with fail
 go_ret2
 exact .none HV.out ((below_al w _).alloc (by simp) _) rfl
set_option maxHeartbeats 1000000 in
theorem united_10 (n f t n' f' t' : Int) (s s' : ByteArray) (w : World) : Calls Tryz.prog 40 #[edV ⟨10, n, f, t, s⟩, edV ⟨10, n', f', t', s'⟩] w fun e w' => UniR ⟨10, n, f, t, s⟩ ⟨10, n', f', t', s'⟩ w e w' := by
 have HV := Lib.hid (show united ⟨10, n, f, t, s⟩ ⟨10, n', f', t', s'⟩ = Option.none by
  unfold united
  rw [if_neg (by simp), if_neg (by simp), if_neg (by simp), if_neg (by simp), if_neg (by simp)])
 unfold edV
 go_enter Tryz.func40, Tryz.ntmps40
 go_wp2_with fail
 go_ret2
 exact .none HV.out ((below_al w _).alloc (by simp) _) rfl
set_option maxHeartbeats 1000000 in
theorem united_11 (n f t n' f' t' : Int) (s s' : ByteArray) (w : World) : Calls Tryz.prog 40 #[edV ⟨11, n, f, t, s⟩, edV ⟨11, n', f', t', s'⟩] w fun e w' => UniR ⟨11, n, f, t, s⟩ ⟨11, n', f', t', s'⟩ w e w' := by
 have HV := Lib.hid (show united ⟨11, n, f, t, s⟩ ⟨11, n', f', t', s'⟩ = Option.none by
  unfold united
  rw [if_neg (by simp), if_neg (by simp), if_neg (by simp), if_neg (by simp), if_neg (by simp)])
 unfold edV
 go_enter Tryz.func40, Tryz.ntmps40
 go_wp2_with fail
 go_ret2
 exact .none HV.out ((below_al w _).alloc (by simp) _) rfl
set_option maxHeartbeats 1000000 in
theorem united_12 (n f t n' f' t' : Int) (s s' : ByteArray) (w : World) : Calls Tryz.prog 40 #[edV ⟨12, n, f, t, s⟩, edV ⟨12, n', f', t', s'⟩] w fun e w' => UniR ⟨12, n, f, t, s⟩ ⟨12, n', f', t', s'⟩ w e w' := by
 have HV := Lib.hid (show united ⟨12, n, f, t, s⟩ ⟨12, n', f', t', s'⟩ = Option.none by
  unfold united
  rw [if_neg (by simp), if_neg (by simp), if_neg (by simp), if_neg (by simp), if_neg (by simp)])
 unfold edV
 go_enter Tryz.func40, Tryz.ntmps40
 go_wp2_with fail
 go_ret2
 exact .none HV.out ((below_al w _).alloc (by simp) _) rfl
set_option maxHeartbeats 1000000 in
theorem united_1 (n f t n' f' t' : Int) (s s' : ByteArray) (w : World) : Calls Tryz.prog 40 #[edV ⟨1, n, f, t, s⟩, edV ⟨1, n', f', t', s'⟩] w fun e w' => UniR ⟨1, n, f, t, s⟩ ⟨1, n', f', t', s'⟩ w e w' := by
 have HV := Lib.hid (show united ⟨1, n, f, t, s⟩ ⟨1, n', f', t', s'⟩ = Option.some [⟨1, n', f', t', s'⟩] by
  unfold united
  rw [if_neg (by simp), if_neg (by simp), if_pos (by simp)])
 unfold edV
 go_enter Tryz.func40, Tryz.ntmps40
 go_wp2_with fail
 go_ret2
 exact .some HV.out (below_al3 w _ _ _) (EdOwn.one ⟨1, n', f', t', s'⟩ (size_al2 w _ _) (by simp)) rfl
set_option maxHeartbeats 1000000 in
theorem united_2 (n f t n' f' t' : Int) (s s' : ByteArray) (w : World) : Calls Tryz.prog 40 #[edV ⟨2, n, f, t, s⟩, edV ⟨2, n', f', t', s'⟩] w fun e w' => UniR ⟨2, n, f, t, s⟩ ⟨2, n', f', t', s'⟩ w e w' := by
 have HV := Lib.hid (show united ⟨2, n, f, t, s⟩ ⟨2, n', f', t', s'⟩ = Option.some [⟨2, n', f', t', s'⟩] by
  unfold united
  rw [if_neg (by simp), if_neg (by simp), if_pos (by simp)])
 unfold edV
 go_enter Tryz.func40, Tryz.ntmps40
 go_wp2_with fail
 go_ret2
 exact .some HV.out (below_al3 w _ _ _) (EdOwn.one ⟨2, n', f', t', s'⟩ (size_al2 w _ _) (by simp)) rfl
set_option maxHeartbeats 2000000 in
theorem united_7 (n f t n' f' t' : Int) (s s' : ByteArray) (w : World) : Calls Tryz.prog 40 #[edV ⟨7, n, f, t, s⟩, edV ⟨7, n', f', t', s'⟩] w fun e w' => UniR ⟨7, n, f, t, s⟩ ⟨7, n', f', t', s'⟩ w e w' := by
 have HV : Hid (united ⟨7, n, f, t, s⟩ ⟨7, n', f', t', s'⟩ = if n = n' then Option.some [⟨7, n', f', t', s'⟩] else Option.none) := Lib.hid (by
  unfold united
  rw [if_neg (by simp), if_neg (by simp), if_neg (by simp), if_pos (by simp)])
 unfold edV
 by_cases hn : n = n'
 · have bn := beqT hn
   have HV2 := Lib.hid (HV.out.trans (if_pos hn))
   clear hn HV
   go_enter Tryz.func40, Tryz.ntmps40
   go_wp2_with fail
   go_region
   go_wp2_with fail
   go_ret2
   exact .some HV2.out (below_al3 w _ _ _).drew ((EdOwn.one ⟨7, n', f', t', s'⟩ (size_al2 w _ _) (by simp)).below (Below.refl _ _).drew) rfl
 · have bn := beqF hn
   have HV2 := Lib.hid (HV.out.trans (if_neg hn))
   clear hn HV
   go_enter Tryz.func40, Tryz.ntmps40
   go_wp2_with fail
   go_region
   go_wp2_with fail
   go_ret2
   exact .none HV2.out (below_al3 w _ _ _).drew rfl
set_option maxHeartbeats 2000000 in
theorem united_5 (n f t n' f' t' : Int) (s s' : ByteArray) (w : World) (hn : -1000000000000 ≤ n ∧ n ≤ 1000000000000) (hn' : -1000000000000 ≤ n' ∧ n' ≤ 1000000000000) : Calls Tryz.prog 40 #[edV ⟨5, n, f, t, s⟩, edV ⟨5, n', f', t', s'⟩] w fun e w' => UniR ⟨5, n, f, t, s⟩ ⟨5, n', f', t', s'⟩ w e w' := by
 have HV : Hid (united ⟨5, n, f, t, s⟩ ⟨5, n', f', t', s'⟩ = if inR (n' + n) (-86399999999) 86399999999 = true then Option.some [⟨5, n' + n, f', t', s'⟩] else Option.none) := Lib.hid (by
  unfold united
  rw [if_neg (by simp), if_neg (by simp), if_neg (by simp), if_neg (by simp), if_pos (by simp)]
  rfl)
 have D := Lib.hid (tin_any (n' + n) (-86399999999) 86399999999)
 obtain ⟨hn1, hn2⟩ := hn
 obtain ⟨hn3, hn4⟩ := hn'
 unfold edV
 generalize inR (n' + n) (-86399999999) 86399999999 = b at D HV
 go_enter Tryz.func40, Tryz.ntmps40
 go_wp2_with fail
 go_region_with ((go_at_call 49; refine (D.out _).mono ?_; rintro e w1 ⟨rfl, rfl⟩))
 all_goals
  go_wp2_with fail
  go_ret2
  exact .of HV.out (below_al3 w _ _ _).drew ((EdOwn.one ⟨5, n' + n, f', t', s'⟩ (size_al2 w _ _) (by simp)).below (Below.refl _ _).drew)
set_option maxHeartbeats 2000000 in
theorem united_6 (n f t n' f' t' : Int) (s s' : ByteArray) (w : World) (hn : -1000000000000 ≤ n ∧ n ≤ 1000000000000) (hn' : -1000000000000 ≤ n' ∧ n' ≤ 1000000000000) : Calls Tryz.prog 40 #[edV ⟨6, n, f, t, s⟩, edV ⟨6, n', f', t', s'⟩] w fun e w' => UniR ⟨6, n, f, t, s⟩ ⟨6, n', f', t', s'⟩ w e w' := by
 have HV : Hid (united ⟨6, n, f, t, s⟩ ⟨6, n', f', t', s'⟩ = if inR (n' + n) (-200000) 200000 = true then Option.some [⟨6, n' + n, f', t', s'⟩] else Option.none) := Lib.hid (by
  unfold united
  rw [if_neg (by simp), if_neg (by simp), if_neg (by simp), if_neg (by simp), if_pos (by simp)]
  rfl)
 have D := Lib.hid (tin_any (n' + n) (-200000) 200000)
 obtain ⟨hn1, hn2⟩ := hn
 obtain ⟨hn3, hn4⟩ := hn'
 unfold edV
 generalize inR (n' + n) (-200000) 200000 = b at D HV
 go_enter Tryz.func40, Tryz.ntmps40
 go_wp2_with fail
 go_region_with ((go_at_call 49; refine (D.out _).mono ?_; rintro e w1 ⟨rfl, rfl⟩))
 all_goals
  go_wp2_with fail
  go_ret2
  exact .of HV.out (below_al3 w _ _ _).drew ((EdOwn.one ⟨6, n' + n, f', t', s'⟩ (size_al2 w _ _) (by simp)).below (Below.refl _ _).drew)
end Go.Proofs.YtgdepcnfjmobjaaGreat

/- A text of this claim. -/
namespace Go.Proofs.YtgdepcnfjmobjaaGreat
open Go.RowKit Go.BigFrame
open Tr (inR)
theorem bneT {n m : Int} (h : n ≠ m) : (n != m) = true := by rw [bne_iff_ne]; exact h
theorem bneF {n m : Int} (h : n = m) : (n != m) = false := by rw [h]; simp
structure Rw {α : Type} (C : α → List Value) (k : Nat) (w : World) (a : Option Addr) (l : List α) : Prop where
 here : 0 < l.length → ∃ b off, a = some ⟨b, off, none⟩ ∧ b < w.heap.size ∧ ∀ i x, l[i]? = some x → ∀ j v, (C x)[j]? = some v → w.cell? ⟨b, off + i * k + j, none⟩ = some v
theorem Rw.below {α : Type} {C : α → List Value} {k : Nat} {w w' : World} {a : Option Addr} {l : List α} (h : Rw C k w a l) (hb : Below w.heap.size w w') : Rw C k w' a l :=
 ⟨fun hl => by
  obtain ⟨b, off, e, hbl, hc⟩ := h.here hl
  exact ⟨b, off, e, Nat.lt_of_lt_of_le hbl hb.size, fun i x hx j v hv => (hb.cell (p := ⟨b, off + i * k + j, none⟩) hbl).trans (hc i x hx j v hv)⟩⟩
theorem Rw.at {α : Type} {C : α → List Value} {k : Nat} {w : World} {a : Option Addr} {l : List α} (h : Rw C k w a l) {i : Nat} {x : α} (hx : l[i]? = some x) :
 ∃ b off, a = some ⟨b, off, none⟩ ∧ b < w.heap.size ∧ ∀ j v, (C x)[j]? = some v → w.cell? ⟨b, off + i * k + j, none⟩ = some v := by
 obtain ⟨b, off, e, hb, hc⟩ := h.here (by have := (List.getElem?_eq_some_iff.1 hx).1; omega)
 exact ⟨b, off, e, hb, hc i x hx⟩
theorem Rw.on {α : Type} {C : α → List Value} {k : Nat} {w : World} {b off : Nat} {l : List α} (h : Rw C k w (some ⟨b, off, none⟩) l) {i : Nat} {x : α} (hx : l[i]? = some x) :
 ∀ j v, (C x)[j]? = some v → w.cell? ⟨b, off + i * k + j, none⟩ = some v := by
 obtain ⟨b', off', e, _, hc⟩ := h.at hx
 injection e with e
 injection e with e1 e2
 subst e1 e2
 exact hc
def smC (s : Sm) : List Value := [.int .i64 s.tm, .int .i64 s.x, .int .i64 s.y, .int .i64 s.z, .int .i64 s.pu, .int .i64 s.po, .int .i64 s.st]
def smV (s : Sm) : Value := .agg #[.int .i64 s.tm, .int .i64 s.x, .int .i64 s.y, .int .i64 s.z, .int .i64 s.pu, .int .i64 s.po, .int .i64 s.st]
def lpC (p : Lp) : List Value := [.int .i64 p.f, .int .i64 p.t, .string p.s]
def lpV (p : Lp) : Value := .agg #[.int .i64 p.f, .int .i64 p.t, .string p.s]
def tgC (s : ByteArray) : List Value := [.string s]
def actV (A : Acv) (a b c : Option Addr) (ca cb cc : Nat) : Value := .agg #[.string A.name, .int .i64 A.sport, .int .i64 A.start, .slice a A.sm.length ca, .slice b A.lp.length cb, .slice c A.tg.length cc]
structure ActIn (w : World) (A : Acv) (a b c : Option Addr) : Prop where
 sm : Rw smC 7 w a A.sm
 lp : Rw lpC 3 w b A.lp
 tg : Rw tgC 1 w c A.tg
 name : A.name.size ≤ maxLen
 titles : ∀ p, p ∈ A.lp → p.s.size ≤ maxLen
 tags : ∀ s, s ∈ A.tg → s.size ≤ maxLen
 nsm : (A.sm.length : Int) ≤ 9223372036854775807
 nlp : (A.lp.length : Int) ≤ 9223372036854775807
 ntg : (A.tg.length : Int) ≤ 9223372036854775807
theorem ActIn.below {w w' : World} {A : Acv} {a b c : Option Addr} (h : ActIn w A a b c) (hb : Below w.heap.size w w') : ActIn w' A a b c :=
 ⟨h.sm.below hb, h.lp.below hb, h.tg.below hb, h.name, h.titles, h.tags, h.nsm, h.nlp, h.ntg⟩
set_option maxHeartbeats 4000000 in
theorem inRange_any (s : Sm) (w : World) : Calls Tryz.prog 26 #[smV s] w fun e w' => e = .returned (.bool (rangeS s)) ∧ Below w.heap.size w w' := by
 have D0 := Lib.hid (fun W => rcin_any s.x (-100000000) 100000000 W)
 have D1 := Lib.hid (fun W => rcin_any s.y (-100000000) 100000000 W)
 have D2 := Lib.hid (fun W => rcin_any s.z (-100000) 100000 W)
 have D3 := Lib.hid (fun W => rcin_any s.pu (-1) 300 W)
 have D4 := Lib.hid (fun W => rcin_any s.po (-1) 3000 W)
 have D5 := Lib.hid (fun W => rcin_any s.st (-1) 300 W)
 unfold rangeS smV
 generalize inR s.x (-100000000) 100000000 = b0 at *
 generalize inR s.y (-100000000) 100000000 = b1 at *
 generalize inR s.z (-100000) 100000 = b2 at *
 generalize inR s.pu (-1) 300 = b3 at *
 generalize inR s.po (-1) 3000 = b4 at *
 generalize inR s.st (-1) 300 = b5 at *
 cases b0
 · clear D1 D2 D3 D4 D5
   go_enter Tryz.func26, Tryz.ntmps26
   go_wp2_with fail
   refine (D0.out _).mono ?_
   rintro e w1 ⟨rfl, rfl⟩
   go_wp2_with fail
   go_ret
   exact ⟨ret_bool (by simp), below_al w _⟩
 · skip
   cases b1
   · clear D2 D3 D4 D5
     go_enter Tryz.func26, Tryz.ntmps26
     go_wp2_with fail
     refine (D0.out _).mono ?_
     rintro e w1 ⟨rfl, rfl⟩
     go_wp2_with fail
     refine (D1.out _).mono ?_
     rintro e w1 ⟨rfl, rfl⟩
     go_wp2_with fail
     go_ret
     exact ⟨ret_bool (by simp), below_al w _⟩
   · skip
     cases b2
     · clear D3 D4 D5
       go_enter Tryz.func26, Tryz.ntmps26
       go_wp2_with fail
       refine (D0.out _).mono ?_
       rintro e w1 ⟨rfl, rfl⟩
       go_wp2_with fail
       refine (D1.out _).mono ?_
       rintro e w1 ⟨rfl, rfl⟩
       go_wp2_with fail
       refine (D2.out _).mono ?_
       rintro e w1 ⟨rfl, rfl⟩
       go_wp2_with fail
       go_ret
       exact ⟨ret_bool (by simp), below_al w _⟩
     · skip
       cases b3
       · clear D4 D5
         go_enter Tryz.func26, Tryz.ntmps26
         go_wp2_with fail
         refine (D0.out _).mono ?_
         rintro e w1 ⟨rfl, rfl⟩
         go_wp2_with fail
         refine (D1.out _).mono ?_
         rintro e w1 ⟨rfl, rfl⟩
         go_wp2_with fail
         refine (D2.out _).mono ?_
         rintro e w1 ⟨rfl, rfl⟩
         go_wp2_with fail
         refine (D3.out _).mono ?_
         rintro e w1 ⟨rfl, rfl⟩
         go_wp2_with fail
         go_ret
         exact ⟨ret_bool (by simp), below_al w _⟩
       · skip
         cases b4
         · clear D5
           go_enter Tryz.func26, Tryz.ntmps26
           go_wp2_with fail
           refine (D0.out _).mono ?_
           rintro e w1 ⟨rfl, rfl⟩
           go_wp2_with fail
           refine (D1.out _).mono ?_
           rintro e w1 ⟨rfl, rfl⟩
           go_wp2_with fail
           refine (D2.out _).mono ?_
           rintro e w1 ⟨rfl, rfl⟩
           go_wp2_with fail
           refine (D3.out _).mono ?_
           rintro e w1 ⟨rfl, rfl⟩
           go_wp2_with fail
           refine (D4.out _).mono ?_
           rintro e w1 ⟨rfl, rfl⟩
           go_wp2_with fail
           go_ret
           exact ⟨ret_bool (by simp), below_al w _⟩
         · skip
           cases b5
           · skip
             go_enter Tryz.func26, Tryz.ntmps26
             go_wp2_with fail
             refine (D0.out _).mono ?_
             rintro e w1 ⟨rfl, rfl⟩
             go_wp2_with fail
             refine (D1.out _).mono ?_
             rintro e w1 ⟨rfl, rfl⟩
             go_wp2_with fail
             refine (D2.out _).mono ?_
             rintro e w1 ⟨rfl, rfl⟩
             go_wp2_with fail
             refine (D3.out _).mono ?_
             rintro e w1 ⟨rfl, rfl⟩
             go_wp2_with fail
             refine (D4.out _).mono ?_
             rintro e w1 ⟨rfl, rfl⟩
             go_wp2_with fail
             refine (D5.out _).mono ?_
             rintro e w1 ⟨rfl, rfl⟩
             go_wp2_with fail
             go_ret
             exact ⟨ret_bool (by simp), below_al w _⟩
           · skip
             go_enter Tryz.func26, Tryz.ntmps26
             go_wp2_with fail
             refine (D0.out _).mono ?_
             rintro e w1 ⟨rfl, rfl⟩
             go_wp2_with fail
             refine (D1.out _).mono ?_
             rintro e w1 ⟨rfl, rfl⟩
             go_wp2_with fail
             refine (D2.out _).mono ?_
             rintro e w1 ⟨rfl, rfl⟩
             go_wp2_with fail
             refine (D3.out _).mono ?_
             rintro e w1 ⟨rfl, rfl⟩
             go_wp2_with fail
             refine (D4.out _).mono ?_
             rintro e w1 ⟨rfl, rfl⟩
             go_wp2_with fail
             refine (D5.out _).mono ?_
             rintro e w1 ⟨rfl, rfl⟩
             go_wp2_with fail
             go_ret
             exact ⟨ret_bool (by simp), below_al w _⟩
end Go.Proofs.YtgdepcnfjmobjaaGreat
