/- Several texts of this claim in one. -/
import Derived.Test.YtkejjlghelnfjaaProg
import Derived.Test.YtkejjlghelnfjaaRa1
import Derived.WalkKit
import Derived.WalkSpells
import Derived.WalkLawsBesides
import Derived.Lib.Hide
import Derived.Test.YtkejjlghelnfjaaShelf
import Derived.RegionTactic
import Derived.ChangeAlike
import Derived.Deep.QuietTactic
import Derived.BigQuiet
import Derived.Deep.Cut
import Derived.Deep.Slices
import Derived.ChangeSame
import Derived.Below
import Derived.Lib.SmallJoins
import Derived.OrdersHeld
import Derived.Laws.AppendOwn
import Derived.Laws.StructEq
import Derived.Deep.AppendLies
import Derived.Lib.AppendZeros
import Derived.Deep.RegionWith
import Derived.Laws.OwnMore
import Derived.Lib.SliceRun
/- Gear: a garage as data, and what Check returns, in plain functions. -/
namespace Go.Proofs.Ytkejjlghelnfjaa
open Go

def nameC (x : Int) : Bool := (decide (97 ≤ x) && decide (x ≤ 122)) || (decide (65 ≤ x) && decide (x ≤ 90)) || (decide (48 ≤ x) && decide (x ≤ 57)) || decide (x = 45) || decide (x = 95) || decide (x = 46)
def nameB (s : ByteArray) : Bool := decide (1 ≤ s.size) && decide (s.size ≤ 60) && s.data.toList.all fun c => nameC c.toNat
/-- a stands before b -/
def strLt (a b : ByteArray) : Bool := Op.bytesLess a.toList b.toList
structure Gar where
  np : Nat
  ns : Nat
  nm : Nat
  nu : Nat
  pn : Nat → ByteArray
  pc : Nat → Int
  sn : Nat → ByteArray
  sr : Nat → ByteArray
  ms : Nat → ByteArray
  mp : Nat → ByteArray
  mf : Nat → Int
  mt : Nat → Int
  un : Nat → ByteArray
  ur : Nat → ByteArray
  uf : Nat → Int
  us : Nat → Int
  uw : Nat → Int
namespace Gar
def momG (n : Int) : Bool := decide (0 ≤ n) && decide (n ≤ 86399999999)
def endG (t : Int) : Int := if t < 0 then 4611686018427387904 else t
/-- the look at the parts from the k-th on -/
def chkP (g : Gar) : Nat → Nat → Int
  | 0, _ => 0
  | n + 1, k => if nameB (g.pn k) = false then 8 else if 0 < k ∧ strLt (g.pn (k - 1)) (g.pn k) = false then 10 else if g.pc k < 0 ∨ 1000000000 < g.pc k then 9 else chkP g n (k + 1)
def chkS (g : Gar) : Nat → Nat → Int
  | 0, _ => 0
  | n + 1, k => if nameB (g.sn k) = false then 8 else if 0 < k ∧ strLt (g.sn (k - 1)) (g.sn k) = false then 10 else if nameB (g.sr k) = false then 8 else chkS g n (k + 1)
def hasS (g : Gar) (s : ByteArray) : Bool := (List.range g.ns).any fun i => decide (g.sn i = s)
def hasP (g : Gar) (s : ByteArray) : Bool := (List.range g.np).any fun i => decide (g.pn i = s)
/-- does mount i stand before mount k? -/
def befM (g : Gar) (i k : Nat) : Bool := decide (g.mf i < g.mf k) || (decide (g.mf i = g.mf k) && strLt (g.ms i) (g.ms k))
def chkM (g : Gar) : Nat → Nat → Int
  | 0, _ => 0
  | n + 1, k => if (hasS g (g.ms k) && hasP g (g.mp k)) = false then 4
    else if (momG (g.mf k) && (decide (g.mt k = -1) || momG (g.mt k))) = false then 9
    else if (g.mt k ≠ -1 ∧ g.mt k ≤ g.mf k) ∨ (0 < k ∧ befM g (k - 1) k = false) then 10 else chkM g n (k + 1)
/-- two mounts overlap -/
def overB (g : Gar) (i k : Nat) : Bool := (decide (g.ms i = g.ms k) || decide (g.mp i = g.mp k)) && decide (max (g.mf i) (g.mf k) < min (endG (g.mt i)) (endG (g.mt k)))
def anyOver (g : Gar) : Bool := (List.range g.nm).any fun k => (List.range k).any fun i => overB g i k
def befU (g : Gar) (i k : Nat) : Bool := decide (g.uf i < g.uf k) || (decide (g.uf i = g.uf k) && strLt (g.un i) (g.un k))
/-- a use beside others; tw: one has its name -/
def chkUse (n r : ByteArray) (tw : Bool) (f s x : Int) : Int :=
  if (nameB n && nameB r) = false then 8 else if tw = true then 5 else if (momG f && decide (1 ≤ s) && decide (s ≤ 1000000) && decide (0 ≤ x) && decide (x ≤ 1000000000)) = false then 9 else 0
def chkU (g : Gar) : Nat → Nat → Int
  | 0, _ => 0
  | n + 1, k => if chkUse (g.un k) (g.ur k) ((List.range k).any fun i => decide (g.un i = g.un k)) (g.uf k) (g.us k) (g.uw k) ≠ 0 then chkUse (g.un k) (g.ur k) ((List.range k).any fun i => decide (g.un i = g.un k)) (g.uf k) (g.us k) (g.uw k)
    else if 0 < k ∧ befU g (k - 1) k = false then 10 else chkU g n (k + 1)
def chk (g : Gar) : Int :=
  if 500 < g.np ∨ 100 < g.ns ∨ 2000 < g.nm ∨ 5000 < g.nu then 3
  else if chkP g g.np 0 ≠ 0 then chkP g g.np 0
  else if chkS g g.ns 0 ≠ 0 then chkS g g.ns 0
  else if chkM g g.nm 0 ≠ 0 then chkM g g.nm 0
  else if anyOver g = true then 11
  else chkU g g.nu 0
end Gar
end Go.Proofs.Ytkejjlghelnfjaa

/- Which edits are right, in plain words; the order of texts. -/
namespace Tr
open Go
theorem ltB_less : ∀ a b : List UInt8, ltB a b = Op.bytesLess a b
  | [], [] => rfl
  | [], _ :: _ => rfl
  | _ :: _, [] => rfl
  | x :: a, y :: b => by
    rw [ltB, Op.bytesLess, ltB_less a b]
    by_cases h1 : x < y
    · simp [h1]
    · by_cases h2 : y < x
      · have h3 : (x == y) = false := by
          rw [beq_eq_false_iff_ne]
          rintro rfl
          exact h1 h2
        simp [h1, h2, h3]
      · have h3 : x = y := by
          rw [← UInt8.toNat_inj]
          rw [UInt8.lt_iff_toNat_lt] at h1 h2
          omega
        subst h3
        simp [h1]
end Tr
namespace Go.Proofs.Ytkejjlghelnfjaa
open Go
open Tr (Ed inR united most)
def titleB (s : ByteArray) : Bool := decide (s.size ≤ 60) && s.data.toList.all fun c => decide (32 ≤ c.toNat) && decide (c.toNat ≤ 126)
def formE (x : Ed) : Bool :=
  if x.k = 1 ∨ x.k = 3 ∨ x.k = 4 then decide (x.n = 0) && decide (x.f = 0) && decide (x.t = 0)
  else if x.k = 8 then decide (x.n = 0) && decide (x.s.size = 0)
  else if x.k = 11 then decide (x.n = 0)
  else decide (x.f = 0) && decide (x.t = 0) && decide (x.s.size = 0)
def rngE (n lo hi : Int) : Int := if inR n lo hi = true then 0 else 9
def fieldE (x : Ed) : Int :=
  if x.k = 1 ∨ x.k = 3 ∨ x.k = 4 then (if nameB x.s = true then 0 else 8)
  else if x.k = 2 then (if inR x.n 1 5 = true then 0 else 7)
  else if x.k = 5 then rngE x.n (-86399999999) 86399999999
  else if x.k = 6 then rngE x.n (-200000) 200000
  else if x.k = 7 then rngE x.n 1 3
  else if x.k = 9 then rngE x.n 0 50
  else if x.k = 10 then rngE x.n 0 1000000
  else if x.k = 12 then rngE x.n 0 199
  else if x.f < 0 ∨ x.t ≤ x.f ∨ 1000000 < x.t then 9 else if titleB x.s = true then 0 else 8
def chkE (x : Ed) : Int := if x.k < 1 ∨ 12 < x.k then 7 else if formE x = false then 2 else fieldE x
/-- the first error of a row of edits -/
def chkEs : List Ed → Int
  | [] => 0
  | x :: l => if chkE x = 0 then chkEs l else chkE x
def chkEL (l : List Ed) : Int := if 200 < l.length then 3 else chkEs l
theorem chkEs_zero : ∀ {l : List Ed}, chkEs l = 0 ↔ ∀ x, x ∈ l → chkE x = 0
  | [] => ⟨(fun _ x hx => by cases hx), fun _ => rfl⟩
  | x :: l => by
    rw [chkEs]
    by_cases h : chkE x = 0
    · rw [if_pos h, chkEs_zero]
      constructor
      · intro hl y hy
        rcases List.mem_cons.1 hy with rfl | hy
        · exact h
        · exact hl y hy
      · exact fun hl y hy => hl y (List.mem_cons_of_mem _ hy)
    · rw [if_neg h]
      exact ⟨fun e => absurd e h, fun hl => absurd (hl x (List.mem_cons_self ..)) h⟩
theorem united_ok (x y : Ed) (m : List Ed) (_ : chkE x = 0) (hy : chkE y = 0) (h : united x y = some m) : ∀ z, z ∈ m → chkE z = 0 := by
  unfold united at h
  split at h
  · injection h with h; subst h; intro z hz; cases hz
  · split at h
    · cases h
    · split at h
      · injection h with h; subst h
        intro z hz
        rw [List.mem_singleton.1 hz]
        exact hy
      · split at h
        · split at h
          · injection h with h; subst h
            intro z hz
            rw [List.mem_singleton.1 hz]
            exact hy
          · cases h
        · split at h
          · rename_i hxy _ _ hk
            have hxy : x.k = y.k := by
              rcases Int.lt_trichotomy x.k y.k with g | g | g
              · exact absurd (by omega) hxy
              · exact g
              · exact absurd (by omega) hxy
            split at h
            · rename_i hr
              injection h with h; subst h
              intro z hz
              rw [List.mem_singleton.1 hz]
              rw [hxy] at hk hr
              unfold chkE at hy ⊢
              by_cases hf : formE y = false
              · rw [if_pos hf] at hy
                split at hy <;> cases hy
              · have hform : formE { y with n := y.n + x.n } = formE y := by
                  unfold formE
                  rcases hk with e | e <;> simp [e]
                rw [hform, if_neg (show ¬ (y.k < 1 ∨ 12 < y.k) by omega), if_neg hf]
                unfold fieldE rngE
                unfold most at hr
                rcases hk with e | e
                · simp only [e] at hr ⊢
                  simpa using hr
                · simp only [e] at hr ⊢
                  simpa using hr
            · cases h
          · cases h
theorem tidy_right {l : List Ed} (h : chkEL l = 0) : chkEL (Tr.tidyL l) = 0 ∧ Tr.tidyL (Tr.tidyL l) = Tr.tidyL l ∧ (Tr.tidyL l).length ≤ l.length ∧ l.length ≤ 200 := by
  unfold chkEL at h
  split at h
  · cases h
  · rename_i hl
    have hl : l.length ≤ 200 := by omega
    obtain ⟨h1, h2⟩ := Tr.tidyL_done hl
    refine ⟨?_, Tr.tidyL_none h1, h2, hl⟩
    unfold chkEL
    rw [if_neg (by omega)]
    exact chkEs_zero.2 (Tr.tidyL_all united_ok (chkEs_zero.1 h))
end Go.Proofs.Ytkejjlghelnfjaa

/- Activities, in plain words: which are right; where somebody is at a second. -/
namespace Go.Proofs.Ytkejjlghelnfjaa
open Go
open Tr (inR)
/-- a sample: time, place, measures -/
structure Sm where
  tm : Int
  x : Int
  y : Int
  z : Int
  pu : Int
  po : Int
  st : Int
/-- a lap -/
structure Lp where
  f : Int
  t : Int
  s : ByteArray
/-- an activity -/
structure Acv where
  name : ByteArray
  sport : Int
  start : Int
  sm : List Sm
  lp : List Lp
  tg : List ByteArray
/-- the first error among n from i on -/
def firstE (f : Nat → Int) : Nat → Nat → Int
  | 0, _ => 0
  | n + 1, i => if f i = 0 then firstE f n (i + 1) else f i
theorem firstE_zero {f : Nat → Int} : ∀ {n i : Nat}, firstE f n i = 0 ↔ ∀ j, i ≤ j → j < i + n → f j = 0
  | 0, i => ⟨fun _ j h1 h2 => by omega, fun _ => rfl⟩
  | n + 1, i => by
    rw [firstE]
    by_cases h : f i = 0
    · rw [if_pos h, firstE_zero]
      constructor
      · intro hh j h1 h2
        by_cases e : j = i
        · rw [e]; exact h
        · exact hh j (by omega) (by omega)
      · exact fun hh j h1 h2 => hh j (by omega) (by omega)
    · rw [if_neg h]
      exact ⟨fun e => absurd e h, fun hh => absurd (hh i (Nat.le_refl _) (by omega)) h⟩
/-- one more is looked at -/
theorem firstE_go {f : Nat → Int} {n k : Nat} {E : Int} (hk : k < n) (h : E = firstE f (n - k) k) : (f k ≠ 0 → E = f k) ∧ (f k = 0 → E = firstE f (n - (k + 1)) (k + 1)) := by
  obtain ⟨m, hm⟩ : ∃ m, n - k = m + 1 := ⟨n - k - 1, by omega⟩
  rw [hm, firstE] at h
  rw [show n - (k + 1) = m by omega]
  exact ⟨fun h0 => by rw [h, if_neg h0], fun h0 => by rw [h, if_pos h0]⟩
theorem firstE_end {f : Nat → Int} {n k : Nat} {E : Int} (hk : n ≤ k) (h : E = firstE f (n - k) k) : E = 0 := by
  rw [h, Nat.sub_eq_zero_of_le hk]
  rfl
def rangeS (s : Sm) : Bool := inR s.x (-100000000) 100000000 && inR s.y (-100000000) 100000000 && inR s.z (-100000) 100000 && inR s.pu (-1) 300 && inR s.po (-1) 3000 && inR s.st (-1) 300
/-- a sample that does not come behind the one before -/
def ordS (l : List Sm) (i : Nat) (t : Int) : Bool := if i = 0 then decide (t ≠ 0) else match l[i - 1]? with
  | some p => decide (t ≤ p.tm)
  | none => false
def errS (start : Int) (l : List Sm) (i : Nat) : Int := match l[i]? with
  | none => 0
  | some s => if ordS l i s.tm = true then 10 else if 1000000 < s.tm ∨ 86399999999 < start + s.tm ∨ rangeS s = false then 9 else 0
def spanS (l : List Sm) : Int := match l[l.length - 1]? with
  | some s => s.tm
  | none => 0
def ordL (l : List Lp) (i : Nat) (f : Int) : Bool := if i = 0 then false else match l[i - 1]? with
  | some p => decide (f < p.t)
  | none => false
def errL (span : Int) (l : List Lp) (i : Nat) : Int := match l[i]? with
  | none => 0
  | some p => if p.f < 0 ∨ p.t ≤ p.f ∨ span < p.t then 9 else if ordL l i p.f = true then 10 else if titleB p.s = true then 0 else 8
def ordT (l : List ByteArray) (i : Nat) (s : ByteArray) : Bool := if i = 0 then false else match l[i - 1]? with
  | some p => !Op.bytesLess p.toList s.toList
  | none => false
def errT (l : List ByteArray) (i : Nat) : Int := match l[i]? with
  | none => 0
  | some s => if nameB s = false then 8 else if ordT l i s = true then 10 else 0
def chkSs (A : Acv) : Int := firstE (errS A.start A.sm) A.sm.length 0
def chkLs (A : Acv) : Int := firstE (errL (spanS A.sm) A.lp) A.lp.length 0
def chkTs (A : Acv) : Int := firstE (errT A.tg) A.tg.length 0
def chkR (A : Acv) : Int := if chkSs A = 0 then (if chkLs A = 0 then chkTs A else chkLs A) else chkSs A
def chkA (A : Acv) : Int := if nameB A.name = false then 8 else if inR A.sport 1 5 = false then 7 else if inR A.start 0 86399999999 = false then 9
  else if 20000 < A.sm.length ∨ 200 < A.lp.length ∨ 20 < A.tg.length then 3 else chkR A
/-! ### what a right activity is -/
theorem inR_iff {n a b : Int} : inR n a b = true ↔ a ≤ n ∧ n ≤ b := by
  unfold inR
  simp
structure SmOk (start : Int) (l : List Sm) : Prop where
  first : ∀ s : Sm, l[0]? = some s → s.tm = 0
  next : ∀ (i : Nat) (p s : Sm), l[i]? = some p → l[i + 1]? = some s → p.tm < s.tm
  upto : ∀ (i : Nat) (s : Sm), l[i]? = some s → s.tm ≤ 1000000 ∧ start + s.tm ≤ 86399999999 ∧ rangeS s = true
theorem smOk_of {start : Int} {l : List Sm} (h : firstE (errS start l) l.length 0 = 0) : SmOk start l := by
  have h := firstE_zero.1 h
  have g : ∀ (i : Nat) (s : Sm), l[i]? = some s → ordS l i s.tm = false ∧ s.tm ≤ 1000000 ∧ start + s.tm ≤ 86399999999 ∧ rangeS s = true := by
    intro i s hs
    have := h i (Nat.zero_le _) (by have := (List.getElem?_eq_some_iff.1 hs).1; omega)
    unfold errS at this
    rw [hs] at this
    simp only at this
    cases ho : ordS l i s.tm with
    | true =>
      rw [ho, if_pos rfl] at this
      cases this
    | false =>
      rw [ho, if_neg (by simp)] at this
      split at this
      · cases this
      · rename_i hn
        refine ⟨rfl, by omega, by omega, ?_⟩
        cases hr : rangeS s with
        | true => rfl
        | false => exact absurd (Or.inr (Or.inr hr)) hn
  refine ⟨fun s hs => ?_, fun i p s hp hs => ?_, fun i s hs => (g i s hs).2⟩
  · have := (g 0 s hs).1
    unfold ordS at this
    rw [if_pos rfl] at this
    simpa using this
  · have := (g (i + 1) s hs).1
    unfold ordS at this
    rw [if_neg (by omega), Nat.add_sub_cancel, hp] at this
    simp only [decide_eq_false_iff_not] at this
    omega
theorem SmOk.mono {start : Int} {l : List Sm} (h : SmOk start l) : ∀ (d i : Nat) (p s : Sm), l[i]? = some p → l[i + d + 1]? = some s → p.tm < s.tm := by
  intro d
  induction d with
  | zero => exact fun i p s hp hs => h.next i p s hp hs
  | succ d ih =>
    intro i p s hp hs
    obtain ⟨m, hm⟩ : ∃ m, l[i + d + 1]? = some m := ⟨_, List.getElem?_eq_getElem (by have := (List.getElem?_eq_some_iff.1 hs).1; omega)⟩
    have h1 := ih i p m hp hm
    have h2 := h.next (i + d + 1) m s hm hs
    omega
theorem SmOk.lt {start : Int} {l : List Sm} (h : SmOk start l) {i j : Nat} {p s : Sm} (hij : i < j) (hp : l[i]? = some p) (hs : l[j]? = some s) : p.tm < s.tm :=
  h.mono (j - i - 1) i p s hp (by rw [show i + (j - i - 1) + 1 = j by omega]; exact hs)
theorem SmOk.nonneg {start : Int} {l : List Sm} (h : SmOk start l) {i : Nat} {s : Sm} (hs : l[i]? = some s) : 0 ≤ s.tm := by
  obtain ⟨z, hz⟩ : ∃ z, l[0]? = some z := ⟨_, List.getElem?_eq_getElem (by have := (List.getElem?_eq_some_iff.1 hs).1; omega)⟩
  have h0 := h.first z hz
  by_cases hi : i = 0
  · subst hi
    rw [hz] at hs
    injection hs with hs
    subst hs
    omega
  · have := h.lt (i := 0) (j := i) (by omega) hz hs
    omega
/-! ### where somebody is -/
/-- the first place whose time is not before a second -/
def lbS : List Sm → Int → Nat
  | [], _ => 0
  | s :: l, n => if s.tm < n then lbS l n + 1 else 0
theorem lbS_unique : ∀ {l : List Sm} {n : Int} {k : Nat}, k ≤ l.length → (∀ i s, i < k → l[i]? = some s → s.tm < n) → (∀ s, l[k]? = some s → n ≤ s.tm) → lbS l n = k
  | [], n, k, hk, _, _ => by
    have : k = 0 := by simpa using hk
    rw [this]; rfl
  | s :: l, n, 0, _, _, h2 => by
    have := h2 s rfl
    rw [lbS, if_neg (by omega)]
  | s :: l, n, k + 1, hk, h1, h2 => by
    have := h1 0 s (by omega) rfl
    rw [lbS, if_pos this]
    rw [lbS_unique (k := k) (by simpa using hk) (fun i z hi hz => h1 (i + 1) z (by omega) (by simpa using hz)) (fun z hz => h2 z (by simpa using hz))]
theorem lbS_le : ∀ (l : List Sm) (n : Int), lbS l n ≤ l.length
  | [], _ => Nat.le_refl _
  | s :: l, n => by
    rw [lbS, List.length_cons]
    have := lbS_le l n
    split <;> omega
theorem lbS_before : ∀ (l : List Sm) (n : Int) (i : Nat) (s : Sm), i < lbS l n → l[i]? = some s → s.tm < n
  | [], _, i, s, h, _ => by simp [lbS] at h
  | z :: l, n, i, s, h, hs => by
    rw [lbS] at h
    split at h
    · rename_i hz
      cases i with
      | zero =>
        injection hs with hs
        subst hs
        exact hz
      | succ i => exact lbS_before l n i s (by omega) (by simpa using hs)
    · omega
theorem lbS_at : ∀ (l : List Sm) (n : Int) (s : Sm), l[lbS l n]? = some s → n ≤ s.tm
  | [], _, s, h => by simp at h
  | z :: l, n, s, h => by
    rw [lbS] at h
    split at h
    · exact lbS_at l n s (by simpa using h)
    · rename_i hz
      injection h with h
      subst h
      omega
/-- found by halving: i .. j -/
theorem lbS_halved {start : Int} {l : List Sm} (h : SmOk start l) {n : Int} {i : Nat} (hi : i ≤ l.length) (h1 : ∀ s, 0 < i → l[i - 1]? = some s → s.tm < n) (h2 : ∀ s, l[i]? = some s → n ≤ s.tm) : lbS l n = i := by
  refine lbS_unique hi (fun k s hk hs => ?_) h2
  obtain ⟨z, hz⟩ : ∃ z, l[i - 1]? = some z := ⟨_, List.getElem?_eq_getElem (by omega)⟩
  have := h1 z (by omega) hz
  by_cases e : k = i - 1
  · subst e
    rw [hs] at hz
    injection hz with hz
    subst hz
    exact this
  · have := h.lt (i := k) (j := i - 1) (by omega) hs hz
    omega
def betw (p q part whole : Int) : Int := p + (Sc.sc (q - p) part whole 4).1
def amidS (p q : Sm) (n : Int) : Sm := { p with tm := n, x := betw p.x q.x (n - p.tm) (q.tm - p.tm), y := betw p.y q.y (n - p.tm) (q.tm - p.tm), z := betw p.z q.z (n - p.tm) (q.tm - p.tm) }
def sm0 : Sm := ⟨0, 0, 0, 0, 0, 0, 0⟩
def whereS (l : List Sm) (n : Int) : Sm := match l[lbS l n]? with
  | none => sm0
  | some q => if q.tm = n then q else match l[lbS l n - 1]? with
    | none => sm0
    | some p => amidS p q n
end Go.Proofs.Ytkejjlghelnfjaa

/- Contracts of small functions of rounding: outside, size, more, ways and its functions, IndexFunc over the ways, Compare. -/
namespace Go.Proofs.Ytkejjlghelnfjaa
open Go.RowKit

theorem ret_int {k : IntKind} {a b : Int} (h : a = b) : Ending.returned (.int k a) = .returned (.int k b) := by rw [h]
theorem ret_bool {a b : Bool} (h : a = b) : Ending.returned (.bool a) = .returned (.bool b) := by rw [h]

def cmpF (a b : Int) : Int := if a < b then -1 else if b < a then 1 else 0

theorem compare_any (a b : Int) (w : World) :
    Calls Try.prog 47 #[.int .u64 a, .int .u64 b] w fun e w' => e = .returned (.int .i64 (cmpF a b)) ∧ w = w' := by
  go_enter Try.func47, Try.ntmps47
  go_wp2
  all_goals go_ret
  all_goals refine ⟨ret_int ?_, rfl⟩
  all_goals (unfold cmpF; split <;> (try split) <;> first | rfl | (exfalso; omega))

/-! ### the functions of the table -/
theorem way1 (b : Bool) (q h : Int) (w : World) : Calls Try.prog 69 #[.bool b, .int .u64 q, .int .i64 h] w fun e w' => e = .returned (.bool b) ∧ w = w' := by
  go_enter Try.func69, Try.ntmps69
  go_wp2
  go_ret
  exact ⟨rfl, rfl⟩
theorem way2 (b : Bool) (q h : Int) (w : World) : Calls Try.prog 70 #[.bool b, .int .u64 q, .int .i64 h] w fun e w' => e = .returned (.bool (!b)) ∧ w = w' := by
  go_enter Try.func70, Try.ntmps70
  go_wp2
  go_ret
  exact ⟨rfl, rfl⟩
theorem way3 (b : Bool) (q h : Int) (w : World) : Calls Try.prog 71 #[.bool b, .int .u64 q, .int .i64 h] w fun e w' => e = .returned (.bool false) ∧ w = w' := by
  go_enter Try.func71, Try.ntmps71
  go_wp2
  go_ret
  exact ⟨rfl, rfl⟩
theorem way4 (b : Bool) (q h : Int) (w : World) : Calls Try.prog 72 #[.bool b, .int .u64 q, .int .i64 h] w fun e w' => e = .returned (.bool (decide (0 < h) || (h == 0 && !b))) ∧ w = w' := by
  by_cases h1 : 0 < h
  · go_enter Try.func72, Try.ntmps72
    go_wp2
    go_ret
    exact ⟨by simp [h1], rfl⟩
  · have h2 : decide (0 < h) = false := by simpa using h1
    cases h3 : (h == 0)
    all_goals
      go_enter Try.func72, Try.ntmps72
      go_wp2
      go_ret
      exact ⟨by simp, rfl⟩
theorem way5 (b : Bool) (q h : Int) (w : World) (hq : 0 ≤ q) : Calls Try.prog 73 #[.bool b, .int .u64 q, .int .i64 h] w fun e w' => e = .returned (.bool (decide (0 < h) || (h == 0 && (q % 2 == 1)))) ∧ w = w' := by
  by_cases h1 : 0 < h
  · go_enter Try.func73, Try.ntmps73
    go_wp2
    go_ret
    exact ⟨by simp [h1], rfl⟩
  · have h2 : decide (0 < h) = false := by simpa using h1
    cases h3 : (h == 0)
    all_goals
      go_enter Try.func73, Try.ntmps73
      go_wp2
      go_ret
      exact ⟨by simp, rfl⟩

def fnv (k : Nat) : Value := .func (.func k) #[] #[]
/-- the row of the table in memory -/
def wayRow : Array Value := #[.int .i64 1, fnv 69, .int .i64 2, fnv 70, .int .i64 3, fnv 71, .int .i64 4, fnv 72, .int .i64 5, fnv 73]
theorem ways_any (w : World) : Calls Try.prog 42 #[] w fun e w' => e = .returned (.slice (some ⟨w.heap.size, 0, none⟩) 5 5) ∧ w' = w.alloc (.cells wayRow 87) := by
  go_enter Try.func42, Try.ntmps42
  go_wp2
  go_ret
  exact ⟨rfl, rfl⟩

/-- the closure that looks for a way -/
theorem has_any (k h : Int) (f : Value) (a : Addr) (w : World) (ha : w.cell? a = some (.int .i64 h)) (hb : a.block < w.heap.size) :
    Calls Try.prog 44 #[.agg #[.int .i64 k, f], .pointer (some a)] w fun e w' => e = .returned (.bool (k == h)) ∧ Below w.heap.size w w' := by
  go_enter Try.func44, Try.ntmps44
  go_wp2
  go_ret
  exact ⟨rfl, (Below.refl _ _).alloc (Nat.le_refl _) _⟩
/-- what 'more' returns -/
def moreF (q r d : Int) (m : Bool) (how : Int) : Bool :=
  if r = 0 then false else if how = 1 then m else if how = 2 then !m else if how = 3 then false else if r ≠ d - r then decide (d - r < r) else if how = 4 then !m else q % 2 == 1
end Go.Proofs.Ytkejjlghelnfjaa

/- math/bits.Div64: the contract, for all arguments whose quotient fits. -/
namespace Go.Proofs.Ytkejjlghelnfjaa
open Go.RowKit

/-- the high part is 0 -/
theorem div64_low (lo y : Int) (w : World) (h0 : 0 ≤ lo) (hy : 1 ≤ y) (hL : lo ≤ 18446744073709551615) :
    Calls Try.prog 46 #[.int .u64 0, .int .u64 lo, .int .u64 y] w fun e w' => e = .returned (.tuple #[.int .u64 (lo / y), .int .u64 (lo % y)]) ∧ ∃ n, w' = w.drewN n := by
  have b1 : (y == 0) = false := by rw [beq_eq_false_iff_ne]; omega
  have b2 : decide (y ≤ 0) = false := by simp; omega
  go_enter Try.func46, Try.ntmps46
  go_wp2
  go_quiet (fail)
  go_wp2
  go_ret2
  exact ⟨rfl, _, rfl⟩

end Go.Proofs.Ytkejjlghelnfjaa

/- math/bits.Div64: the contract, for all arguments whose quotient fits: the exact quotient and the rest. -/
namespace Go.Proofs.Ytkejjlghelnfjaa
open Go.RowKit

theorem bitLen_spec : ∀ (n x : Nat), x ≤ n → x ≠ 0 → x < 2 ^ 64 → 1 ≤ Lib.bitLen x ∧ 2 ^ (Lib.bitLen x - 1) ≤ x ∧ x < 2 ^ Lib.bitLen x
  | 0, x, h, h0, _ => absurd (Nat.le_zero.1 h) h0
  | n + 1, x, h, h0, hx => by
    rw [Lib.bitLen_half x h0 hx]
    by_cases h1 : x / 2 = 0
    · have : x = 1 := by omega
      subst this
      decide
    · have ⟨i1, i2, i3⟩ := bitLen_spec n (x / 2) (by omega) h1 (by omega)
      refine ⟨by omega, ?_, ?_⟩
      · obtain ⟨k, hk⟩ : ∃ k, Lib.bitLen (x / 2) = k + 1 := ⟨Lib.bitLen (x / 2) - 1, by omega⟩
        rw [hk] at i2 ⊢
        rw [show 1 + (k + 1) - 1 = k + 1 by omega, Nat.pow_succ]
        rw [Nat.add_sub_cancel] at i2
        omega
      · rw [Nat.add_comm, Nat.pow_succ]; omega
theorem bitLen_le {x : Nat} (h0 : x ≠ 0) (hx : x < 2 ^ 64) : Lib.bitLen x ≤ 64 := by
  have ⟨_, h2, _⟩ := bitLen_spec x x (Nat.le_refl _) h0 hx
  rcases Nat.lt_or_ge 64 (Lib.bitLen x) with h | h
  · have : 2 ^ 64 ≤ 2 ^ (Lib.bitLen x - 1) := Nat.pow_le_pow_right (by omega) (by omega)
    omega
  · exact h

theorem wrap_nat {n : Nat} (h : n < 18446744073709551616) : IntKind.u64.wrap (n : Int) = n := by rw [IntKind.wrap_u64]; omega

theorem cast_pow2 (s : Nat) : ((2 ^ s : Nat) : Int) = (2 : Int) ^ s := by rw [Int.natCast_pow]; rfl

/-- the rest of a digit's step, as the walk reckons it -/
theorem step_rest {u d q Y r : Nat} (h : Y * q + r = u * 4294967296 + d) (hr : r < 18446744073709551616) :
    IntKind.u64.wrap (IntKind.u64.wrap (IntKind.u64.wrap ((u : Int) * 4294967296) + d) - IntKind.u64.wrap ((q : Int) * Y)) = r := by
  have h' : (q : Int) * Y + r = u * 4294967296 + d := by
    have := congrArg (fun n : Nat => (n : Int)) h
    simp only [Int.natCast_add, Int.natCast_mul] at this
    rw [Int.mul_comm]; exact this
  generalize (q : Int) * Y = C at *
  simp only [IntKind.wrap_u64]; omega

theorem rest_wrap {u a : Nat} (hu : u < 18446744073709551616) : IntKind.u64.wrap (u - IntKind.u64.wrap (((u / a : Nat) : Int) * a)) = (u % a : Nat) := by
  have h := Nat.div_add_mod u a
  rw [← Int.natCast_mul]
  have hm : u / a * a ≤ u := Nat.div_mul_le_self u a
  rw [wrap_nat (show u / a * a < _ by omega), IntKind.wrap_u64]
  rw [Nat.mul_comm] at h
  omega

end Go.Proofs.Ytkejjlghelnfjaa

/- Scale: of the program and of the reference: both return 'Sc.sc'. -/
namespace Go.Proofs.Ytkejjlghelnfjaa
open Go.RowKit

/-- where a way of rounding stands in the table -/
def wayAt (how : Int) : Int := if 1 ≤ how ∧ how ≤ 5 then how - 1 else -1
def HasRow (w : World) (R : Nat) : Prop := ∀ j, j < 10 → w.cell? ⟨R, j, none⟩ = some (wayRow.getD j undef)
theorem HasRow.at {w w' : World} {R B : Nat} (h : HasRow w R) (hb : Below B w w') (hR : R < B) : HasRow w' R := fun j hj => (hb.cell (p := ⟨R, j, none⟩) hR).trans (h j hj)

set_option maxHeartbeats 400000 in
theorem index_any (R H : Nat) (how : Int) (w : World) (hr : HasRow w R) (hh : w.cell? ⟨H, 0, none⟩ = some (.int .i64 how)) (hR : R < w.heap.size) (hH : H < w.heap.size) :
    Calls Try.prog 43 #[.slice (some ⟨R, 0, none⟩) 5 5, .func (.func 44) #[] #[.pointer (some ⟨H, 0, none⟩)]] w fun e w' => e = .returned (.int .i64 (wayAt how)) ∧ Below w.heap.size w w' := by
  go_enter Try.func43, Try.ntmps43
  go_wp2_with fail
  go_loopw [8] (fun i wr => ∃ k : Nat, k ≤ 5 ∧ i = .int .i64 k ∧ (∀ j : Nat, j < k → (j : Int) + 1 ≠ how) ∧ Below w.heap.size w wr) (fun i _ => 5 - (intOf i).toNat)
  case atStart => exact ⟨0, by omega, rfl, fun j hj => by omega, Below.refl _ _⟩
  case round =>
    obtain ⟨k, hk, rfl, hno, hb⟩ := hrel
    have Hno := Lib.hid hno
    clear hno
    by_cases h5 : k = 5
    · subst h5
      go_wp2
      go_ret
      refine ⟨ret_int ?_, hb⟩
      unfold wayAt; rw [if_neg]
      intro ⟨h1, h2⟩
      exact Hno.out (how - 1).toNat (by omega) (by omega)
    · have hr' := hr.at hb hR
      have hh' := (hb.cell (p := ⟨H, 0, none⟩) hH).trans hh
      have hsz := hb.size
      have c0 := hr' (k * 2) (by omega)
      have c1 := hr' (k * 2 + 1) (by omega)
      clear hr' hr
      obtain ⟨f, e0, e1⟩ : ∃ f, wayRow.getD (k * 2) undef = .int .i64 ((k : Int) + 1) ∧ wayRow.getD (k * 2 + 1) undef = fnv f := by
        rcases (show k = 0 ∨ k = 1 ∨ k = 2 ∨ k = 3 ∨ k = 4 by omega) with rfl | rfl | rfl | rfl | rfl
        all_goals exact ⟨_, rfl, rfl⟩
      rw [e0] at c0; rw [e1] at c1
      unfold fnv at c1
      clear e0 e1
      go_wp2_with fail
      refine (has_any _ how _ _ wr hh' (by exact Nat.lt_of_lt_of_le hH hsz)).mono ?_
      rintro e w1 ⟨rfl, hb1⟩
      have hb2 := hb.trans (hb1.mono hsz)
      by_cases hd : (k : Int) + 1 = how
      · have hd' : ((k : Int) + 1 == how) = true := by simpa using hd
        have Hd := Lib.hid hd
        clear hd
        go_wp2
        go_ret
        refine ⟨ret_int ?_, hb2⟩
        have := Hd.out
        unfold wayAt; rw [if_pos (by omega)]; show (k : Int) = _; omega
      · have hd' : ((k : Int) + 1 == how) = false := by simpa using hd
        have Hd := Lib.hid hd
        clear hd
        go_wp2
        go_roundw
        case rel =>
          refine ⟨k + 1, by omega, by go_num, fun j hj => ?_, hb2⟩
          rcases Nat.lt_or_ge j k with h | h
          · exact Hno.out j h
          · rw [show j = k by omega]; exact Hd.out
        case measure => simp [intOf]; omega

/-- what the functions of the table return -/
def wayF (how : Int) (b : Bool) (q h : Int) : Bool :=
  if how = 1 then b else if how = 2 then !b else if how = 3 then false else if how = 4 then decide (0 < h) || (h == 0 && !b) else decide (0 < h) || (h == 0 && (q % 2 == 1))
theorem wayF_away (how : Int) (b : Bool) (q r d : Nat) : wayF how b q (cmpF r ((d : Int) - r)) = Sc.away how b q r d := by
  have e1 : (0 < cmpF (r : Int) ((d : Int) - r)) ↔ d < 2 * r := by unfold cmpF; split <;> (try split) <;> omega
  have e2 : (cmpF (r : Int) ((d : Int) - r) = 0) ↔ 2 * r = d := by unfold cmpF; split <;> (try split) <;> omega
  have e3 : ((q : Int) % 2 = 1) ↔ q % 2 = 1 := by omega
  have e4 : (cmpF (r : Int) ((d : Int) - r) == 0) = decide (2 * r = d) := by rw [Bool.eq_iff_iff, beq_iff_eq, decide_eq_true_eq]; exact e2
  have e5 : ((q : Int) % 2 == 1) = decide (q % 2 = 1) := by rw [Bool.eq_iff_iff, beq_iff_eq, decide_eq_true_eq]; exact e3
  unfold wayF Sc.away
  rw [decide_eq_decide.2 e1, e4, e5]
theorem way_any (k : Nat) (hk : k < 5) : ∃ f, wayRow.getD (k * 2) undef = .int .i64 ((k : Int) + 1) ∧ wayRow.getD (k * 2 + 1) undef = fnv f ∧ (∀ args w, Sem.run Try.prog (callFunc f args) w = .ok (.enter f args) w) ∧
    ∀ (b : Bool) (q h : Int) (w : World), 0 ≤ q → Calls Try.prog f #[.bool b, .int .u64 q, .int .i64 h] w fun e w' => e = .returned (.bool (wayF ((k : Int) + 1) b q h)) ∧ w = w' := by
  rcases (show k = 0 ∨ k = 1 ∨ k = 2 ∨ k = 3 ∨ k = 4 by omega) with rfl | rfl | rfl | rfl | rfl
  · exact ⟨_, rfl, rfl, fun _ _ => by kernel_rfl, fun b q h w _ => way1 b q h w⟩
  · exact ⟨_, rfl, rfl, fun _ _ => by kernel_rfl, fun b q h w _ => way2 b q h w⟩
  · exact ⟨_, rfl, rfl, fun _ _ => by kernel_rfl, fun b q h w _ => way3 b q h w⟩
  · exact ⟨_, rfl, rfl, fun _ _ => by kernel_rfl, fun b q h w _ => way4 b q h w⟩
  · exact ⟨_, rfl, rfl, fun _ _ => by kernel_rfl, fun b q h w hq => way5 b q h w hq⟩
theorem quiet_eq {P : Program} {f : FuncId} {args : Array Value} {w : World} {n : Nat} {v : Value}
    (h : Calls P f args (w.drewN n) fun e w' => e = .returned v ∧ w.drewN n = w') : Calls P f args (w.drewN n) fun e w'' => e = .returned v ∧ ∃ m, w'' = w.drewN m :=
  h.mono fun _ _ ⟨he, hm⟩ => ⟨he, n, hm.symm⟩
theorem below_drewN {B : Nat} {a w : World} (h : Below B a w) (n : Nat) : Below B a (w.drewN n) := h.trans ⟨rfl, rfl, rfl, Nat.le_refl _, fun _ _ => rfl⟩
end Go.Proofs.Ytkejjlghelnfjaa

/- Small lemmas on memory: what a world keeps. -/
namespace Go.Proofs.Ytkejjlghelnfjaa
open Go.RowKit

theorem below_cell {w w' : World} {p : Addr} {v : Value} (hb : Below w.heap.size w w') (h : w.cell? p = some v) : w'.cell? p = some v :=
  (hb.cell (World.block_lt_of_cell? w p h)).trans h
theorem below_al (w : World) (o : Obj) : Below w.heap.size w (w.alloc o) := (Below.refl _ _).alloc (Nat.le_refl _) _
theorem below_ad (w : World) (o : Obj) (n : Nat) : Below w.heap.size w ((w.alloc o).drewN n) := below_drewN (below_al w o) n
/-- two steps, each of which keeps all that was there -/
theorem below_tr {B : Nat} {a b c : World} (h : Below B a b) (hB : B ≤ b.heap.size) (k : Below b.heap.size b c) : Below B a c := h.trans (k.mono hB)
theorem below_step {a b c : World} (h : Below a.heap.size a b) (k : Below b.heap.size b c) : Below a.heap.size a c := h.trans (k.mono h.size)
end Go.Proofs.Ytkejjlghelnfjaa

/- A region that draws its order, whose operations only read, but whose callees may make memory: one walk in the order of the text (the kit's law wp_region_quiet at the class 'all that was there is as it was'). -/
namespace Go.Proofs.Ytkejjlghelnfjaa
open Go.RowKit Go.BigFrame

/-- a world in which all that was there is as it was -/
def Ext (W : World) : Type := { w : World // Below W.heap.size W w }
instance (W : World) : Nonempty (Ext W) := ⟨⟨W, Below.refl _ _⟩⟩
theorem Ext.ex {W : World} {p : Addr} {v : Value} (h : W.cell? p = some v) : ∀ X : Ext W, X.1.cell? p = some v := fun X => below_cell X.2 h
theorem Ext.exa {W : World} {p : Addr} {v : Value} (e : ∀ X : Ext W, X.1.cell? p = some v) : ∀ (X : Ext W) (o : Obj), (X.1.alloc o).cell? p = some v := fun X o => below_cell (below_al _ o) (e X)
theorem Ext.calls {P : Program} {W : World} {f : FuncId} {args : Array Value} {v : Value} (X : Ext W) (h : Calls P f args X.1 fun e w' => e = .returned v ∧ Below X.1.heap.size X.1 w') : Calls P f args X.1 fun e w'' => e = .returned v ∧ ∃ Y : Ext W, w'' = Y.1 :=
  h.mono fun _ w'' ⟨he, hb⟩ => ⟨he, ⟨w'', below_step X.2 hb⟩, rfl⟩
theorem Ext.same {P : Program} {W : World} {f : FuncId} {args : Array Value} {v : Value} (X : Ext W) (h : Calls P f args X.1 fun e w' => e = .returned v ∧ X.1 = w') : Calls P f args X.1 fun e w'' => e = .returned v ∧ ∃ Y : Ext W, w'' = Y.1 :=
  h.mono fun _ _ ⟨he, hb⟩ => ⟨he, X, hb.symm⟩
theorem wp_region_ext {P : Program} {id : Nat} {Q : Exit → Act → World → Prop} {a : Act} {W : World} (X : Ext W) {l : List Oper} (hm : P.follows .mixedOrders = true) (hB : Region.lexB .any l.toArray = true)
    (h : wpQuiet P l.toArray (fun w' => ∃ Y : Ext W, w' = Y.1) (fun a' => ∀ w', (∃ Y : Ext W, w' = Y.1) → Q .normal a' w') l a) : (Code.region id l.toArray true).wp P Q a X.1 :=
  wp_region_quiet (C := fun w' => ∃ Y : Ext W, w' = Y.1) hm hB ⟨⟨{ X.1 with drawn := X.1.drawn + 1 }, below_step X.2 ⟨rfl, rfl, rfl, Nat.le_refl _, fun _ _ => rfl⟩⟩, rfl⟩ (by simpa using h)
/-- the world behind an allocation of cells, under one name -/
theorem alloc_cells (w : World) (cs : Array Value) (T : TypeId) : ∃ W, w.alloc (.cells cs T) = W ∧ Below w.heap.size w W ∧ W.heap.size = w.heap.size + 1 ∧ ∀ i v, cs[i]? = some v → W.cell? ⟨w.heap.size, i, none⟩ = some v :=
  ⟨_, rfl, below_al _ _, by simp, fun i v h => by rw [World.cell?_alloc_at _ _ _ _ rfl, h]⟩
/-- go on in an arbitrary later world -/
theorem ext_wp {P : Program} {c : Code} {Q : Exit → Act → World → Prop} {a : Act} {W : World} (h : ∀ X : Ext W, c.wp P Q a X.1) : c.wp P Q a W := h ⟨W, Below.refl _ _⟩
theorem ext_calls {P : Program} {f : FuncId} {args : Array Value} {R : Ending → World → Prop} {W : World} (h : ∀ X : Ext W, Calls P f args X.1 R) : Calls P f args W R := h ⟨W, Below.refl _ _⟩
theorem Ext.down {W : World} (X : Ext W) {B : Nat} {w : World} (h : Below B w W) (hB : B ≤ W.heap.size) : Below B w X.1 := h.trans (X.2.mono hB)
/-- a later base -/
theorem Ext.re {W W' : World} (h : Below W.heap.size W W') {p : Addr} {v : Value} (e : ∀ X : Ext W, X.1.cell? p = some v) : ∀ X : Ext W', X.1.cell? p = some v := fun X => e ⟨X.1, below_step h X.2⟩
end Go.Proofs.Ytkejjlghelnfjaa

/- Slices of structs of one-cell fields that came in: how they read (any program). -/
namespace Go.Proofs.Ytkejjlghelnfjaa
open Go.RowKit Go.ChangeShapes Go.WideShapes Go.Deep

/-- a slice of structs of k one-cell fields, as it lies in memory: element i has the cells V i -/
structure RowK (w : World) (a : Option Addr) (len k : Nat) (V : Nat → List Value) : Prop where
  here : 0 < len → ∃ b off, a = some ⟨b, off, none⟩ ∧ b < w.heap.size ∧ ∀ i, i < len → ∀ j, j < k → w.cell? ⟨b, off + i * k + j, none⟩ = (V i)[j]?
theorem RowK.below {w w' : World} {a : Option Addr} {len k B : Nat} {V : Nat → List Value} (h : RowK w a len k V) (hb : Below B w w') (hB : w.heap.size ≤ B) : RowK w' a len k V := by
  refine ⟨fun hl => ?_⟩
  obtain ⟨b, off, rfl, hlt, hc⟩ := h.here hl
  exact ⟨b, off, rfl, Nat.lt_of_lt_of_le hlt hb.size, fun i hi j hj => (hb.cell (p := ⟨b, off + i * k + j, none⟩) (Nat.lt_of_lt_of_le hlt hB)).trans (hc i hi j hj)⟩

theorem RowK.at {w : World} {b off len k : Nat} {V : Nat → List Value} (h : RowK w (some ⟨b, off, none⟩) len k V) {i j : Nat} (hi : i < len) (hj : j < k) : w.cell? ⟨b, off + i * k + j, none⟩ = (V i)[j]? := by
  obtain ⟨b', off', he, _, hc⟩ := h.here (by omega)
  injection he with he
  injection he with h1 h2
  subst h1
  subst h2
  exact hc i hi j hj

section
variable {H : Type} {enc : TypeId × Value → H} {P : Program} {w : World} {base : Nat}
theorem open_rowK {t e : TypeId} {fs : Array Field} {fuel : Nat} {v : Value} {x : DataW H × List MemPlace} (ht : P.underlying t = some (.slice e)) (he : P.underlying e = some (.struct fs)) (hC : P.cellsOf e = fs.size) (hfs : 0 < fs.size)
    (hone : ∀ (i : Nat) (f : Field), fs[i]? = some f → f.offset = i ∧ P.cellsOf f.type = 1) (h : DataW.trod enc P w base (fun _ => true) true fuel t [v] = some x) :
    ∃ (a : Option Addr) (len cap : Nat) (V : Nat → List Value), v = .slice a len cap ∧ len ≤ cap ∧ cap ≤ maxLen ∧ RowK w a len fs.size V ∧
      ∀ i, i < len → (V i).length = fs.size ∧ ∀ (j : Nat) (f : Field), fs[j]? = some f → ∃ u n y, (V i)[j]? = some u ∧ DataW.trod enc P w base (fun _ => true) true n f.type [u] = some y := by
  rcases open_slice ht h with ⟨hc, _⟩ | ⟨a, len, cap, m, n, D, Pl, hc, _, hl, hm, hmm, _, hx⟩
  · simp only [List.cons.injEq, and_true] at hc
    exact ⟨none, 0, 0, fun _ => [], hc, Nat.le_refl _, Nat.zero_le _, ⟨fun h => absurd h (by omega)⟩, fun i hi => absurd hi (by omega)⟩
  · simp only [List.cons.injEq, and_true] at hc
    simp only [if_true] at hmm
    subst hmm
    have each : ∀ i, i < m → ∃ cs : List Value, cs.length = fs.size ∧ (∀ j, j < fs.size → w.cell? (a.add (i * fs.size + j)) = cs[j]?) ∧ ∀ (j : Nat) (f : Field), fs[j]? = some f → ∃ u n y, cs[j]? = some u ∧ DataW.trod enc P w base (fun _ => true) true n f.type [u] = some y := by
      intro i hi
      obtain ⟨cs, h1, h2⟩ := hx i hi
      rw [hC] at h1
      obtain ⟨_, hlen, hcell⟩ := World.cells?_some h1
      obtain ⟨xs, k, _, _, _, hxl, hf⟩ := DataW.trod_struct he h2
      refine ⟨cs, hlen, fun j hj => by rw [← add_add]; exact hcell j (by omega), fun j f hj => ?_⟩
      obtain ⟨o1, o2⟩ := hone j f hj
      have g := hf j f hj
      rw [o1, o2] at g
      have hjl : j < cs.length := by
        rw [hlen]
        exact (Array.getElem?_eq_some_iff.1 hj).1
      have hjx : j < xs.length := by rw [hxl]; rw [hlen] at hjl; exact hjl
      have e1 : (cs.drop j).take 1 = [cs[j]] := by rw [List.drop_eq_getElem_cons hjl]; rfl
      rw [e1, List.getElem?_eq_getElem hjx] at g
      exact ⟨cs[j], k, xs[j], List.getElem?_eq_getElem hjl, g⟩
    obtain ⟨V, hV⟩ := choose_lt each
    refine ⟨some a, len, m, V, hc, hl, hm, ⟨fun hl0 => ?_⟩, fun i hi => ⟨(hV i (by omega)).1, (hV i (by omega)).2.2⟩⟩
    obtain ⟨b, o, sp⟩ := a
    have hc0 : ∃ u, w.cell? ((⟨b, o, sp⟩ : Addr).add (0 * fs.size + 0)) = some u := by
      obtain ⟨g1, g2, g3⟩ := hV 0 (by omega)
      exact ⟨(V 0)[0]'(by omega), by rw [g2 0 hfs, List.getElem?_eq_getElem]⟩
    obtain ⟨u, hu⟩ := hc0
    have hspot : sp = none := by simpa [Addr.add] using World.cell?_spot hu
    subst hspot
    rw [Nat.zero_mul, add_plain] at hu
    refine ⟨b, o, rfl, World.block_lt_of_cell? w _ hu, fun i hi j hj => ?_⟩
    have := (hV i (by omega)).2.1 j hj
    rw [add_plain, ← Nat.add_assoc] at this
    exact this
end
end Go.Proofs.Ytkejjlghelnfjaa

/- Worlds in which all that was there is as it was, but for some blocks of the call's own; and drawn regions walked in an order of one's own: quiet operations as soon as they may come up, the others one by one. -/
namespace Go.Proofs.Ytkejjlghelnfjaa
open Go.RowKit Go.BigFrame

/-- all blocks but those in O are as they were -/
structure Kept (O : Nat → Prop) (w w' : World) : Prop where
  os : w'.os = w.os
  tape : w'.tape = w.tape
  output : w'.output = w.output
  size : w.heap.size ≤ w'.heap.size
  block : ∀ k, k < w.heap.size → ¬ O k → w'.heap[k]? = w.heap[k]?
theorem Kept.refl (O : Nat → Prop) (w : World) : Kept O w w := ⟨rfl, rfl, rfl, Nat.le_refl _, fun _ _ _ => rfl⟩
theorem Kept.trans {O : Nat → Prop} {a b c : World} (h : Kept O a b) (k : Kept O b c) : Kept O a c :=
  ⟨k.os.trans h.os, k.tape.trans h.tape, k.output.trans h.output, Nat.le_trans h.size k.size, fun i hi ho => (k.block i (Nat.lt_of_lt_of_le hi h.size) ho).trans (h.block i hi ho)⟩
theorem Kept.of_below {O : Nat → Prop} {a b : World} (h : Below a.heap.size a b) : Kept O a b := ⟨h.os, h.tape, h.output, h.size, fun k hk _ => h.block k hk⟩
theorem Kept.of_grown {O : Nat → Prop} {a b : World} {row : Option Nat} (h : a.grownBy b row) (hr : ∀ g, row = some g → g < a.heap.size → O g) : Kept O a b :=
  ⟨h.os, h.tape, h.output, h.size, fun k hk ho => h.block k hk (fun e => ho (hr k e.symm hk))⟩
theorem Kept.cell {O : Nat → Prop} {w w' : World} {p : Addr} {v : Value} (h : Kept O w w') (ho : ¬ O p.block) (hc : w.cell? p = some v) : w'.cell? p = some v :=
  (World.cell?_of_block (h.block p.block (World.block_lt_of_cell? w p hc) ho)).trans hc
theorem Kept.grown {O : Nat → Prop} {a b c : World} (h : Kept O a b) {row : Option Nat} (hg : b.grownBy c row) (hr : ∀ g, row = some g → g < a.heap.size → O g) : Kept O a c :=
  ⟨hg.os.trans h.os, hg.tape.trans h.tape, hg.output.trans h.output, Nat.le_trans h.size hg.size, fun k hk ho => (hg.block k (Nat.lt_of_lt_of_le hk h.size) (fun e => ho (hr k e.symm hk))).trans (h.block k hk ho)⟩
/-- below the base of the call, nothing has turned -/
theorem Kept.below {O : Nat → Prop} {B : Nat} {w a b : World} (hb : Below B w a) (h : Kept O a b) (hB : B ≤ a.heap.size) (hO : ∀ k, k < B → ¬ O k) : Below B w b :=
  hb.trans ⟨h.os, h.tape, h.output, h.size, fun k hk => h.block k (Nat.lt_of_lt_of_le hk hB) (hO k hk)⟩
theorem Kept.row {O : Nat → Prop} {w w' : World} {a : Option Addr} {len k : Nat} {V : Nat → List Value} (h : RowK w a len k V) (hk : Kept O w w') (hO : ∀ b off, a = some ⟨b, off, none⟩ → ¬ O b) : RowK w' a len k V := by
  refine ⟨fun hl => ?_⟩
  obtain ⟨b, off, rfl, hlt, hc⟩ := h.here hl
  exact ⟨b, off, rfl, Nat.lt_of_lt_of_le hlt hk.size, fun i hi j hj => (World.cell?_of_block (hk.block b hlt (hO _ _ rfl))).trans (hc i hi j hj)⟩
def ExtO (O : Nat → Prop) (W : World) : Type := { w : World // Kept O W w }
instance (O : Nat → Prop) (W : World) : Nonempty (ExtO O W) := ⟨⟨W, Kept.refl _ _⟩⟩
section
variable {O : Nat → Prop} {W : World}
theorem ExtO.ex {p : Addr} {v : Value} (ho : ¬ O p.block) (h : W.cell? p = some v) : ∀ X : ExtO O W, X.1.cell? p = some v := fun X => X.2.cell ho h
theorem ExtO.exa {p : Addr} {v : Value} (e : ∀ X : ExtO O W, X.1.cell? p = some v) : ∀ (X : ExtO O W) (o : Obj), (X.1.alloc o).cell? p = some v := fun X o => below_cell (below_al _ o) (e X)
theorem ExtO.re {W' : World} (h : Kept O W W') {p : Addr} {v : Value} (e : ∀ X : ExtO O W, X.1.cell? p = some v) : ∀ X : ExtO O W', X.1.cell? p = some v := fun X => e ⟨X.1, h.trans X.2⟩
theorem ExtO.calls {P : Program} {f : FuncId} {args : Array Value} {v : Value} (X : ExtO O W) (h : Calls P f args X.1 fun e w' => e = .returned v ∧ Below X.1.heap.size X.1 w') : Calls P f args X.1 fun e w'' => e = .returned v ∧ ∃ Y : ExtO O W, w'' = Y.1 :=
  h.mono fun _ w' ⟨he, hb⟩ => ⟨he, ⟨w', X.2.trans (Kept.of_below hb)⟩, rfl⟩
theorem ExtO.same {P : Program} {f : FuncId} {args : Array Value} {v : Value} (X : ExtO O W) (h : Calls P f args X.1 fun e w' => e = .returned v ∧ X.1 = w') : Calls P f args X.1 fun e w'' => e = .returned v ∧ ∃ Y : ExtO O W, w'' = Y.1 :=
  h.mono fun _ _ ⟨he, hb⟩ => ⟨he, X, hb.symm⟩
/-- go on in an arbitrary later world -/
theorem extO_wp {P : Program} {c : Code} {Q : Exit → Act → World → Prop} {a : Act} (h : ∀ X : ExtO O W, c.wp P Q a X.1) : c.wp P Q a W := h ⟨W, Kept.refl _ _⟩
theorem extO_calls {P : Program} {f : FuncId} {args : Array Value} {R : Ending → World → Prop} (h : ∀ X : ExtO O W, Calls P f args X.1 R) : Calls P f args W R := h ⟨W, Kept.refl _ _⟩
theorem ExtO.down (X : ExtO O W) {B : Nat} {w : World} (h : Below B w W) (hB : B ≤ W.heap.size) (hO : ∀ k, k < B → ¬ O k) : Below B w X.1 := Kept.below h X.2 hB hO
theorem wp_region_extO {P : Program} {id : Nat} {Q : Exit → Act → World → Prop} {a : Act} (X : ExtO O W) {l : List Oper} (hm : P.follows .mixedOrders = true) (hB : Region.lexB .any l.toArray = true)
    (h : wpQuiet P l.toArray (fun w' => ∃ Y : ExtO O W, w' = Y.1) (fun a' => ∀ w', (∃ Y : ExtO O W, w' = Y.1) → Q .normal a' w') l a) : (Code.region id l.toArray true).wp P Q a X.1 :=
  wp_region_quiet (C := fun w' => ∃ Y : ExtO O W, w' = Y.1) hm hB ⟨⟨{ X.1 with drawn := X.1.drawn + 1 }, X.2.trans ⟨rfl, rfl, rfl, Nat.le_refl _, fun _ _ _ => rfl⟩⟩, rfl⟩ (by simpa using h)
end

/-- operations that yield a value and do nothing else -/
def isCalm : Op → Bool
  | .move _ | .assign _ | .pick .. | .build .. | .load .. | .binOp .. | .unOp .. | .fieldAddr .. | .field .. | .indexAddr .. | .index .. | .lookup .. | .extract .. | .slice .. => true
  | _ => false
theorem run_val {α : Type} {P : Program} {s : Sem α} (f : α → Value) {w w' : World} {n : Next} (h : (do pure (Next.value (f (← s))) : Sem Next).run P w = .ok n w') : ∃ x, n = .value x := by
  rw [Sem.run_bind] at h
  cases hs : s.run P w with
  | ok x w1 => rw [hs] at h; simp at h; exact ⟨f x, h.1.symm⟩
  | halt e w1 => rw [hs] at h; simp at h
theorem calm_value {P : Program} {o : Oper} {ρ : Operand → Value} {w w' : World} {n : Next} (hc : isCalm o.op = true) (h : (execOp ρ o).run P w = .ok n w') : ∃ x, n = .value x := by
  obtain ⟨dst, op, type, pos, after, guard⟩ := o
  cases op <;> first | (simp [isCalm] at hc; done) | (simp only [execOp] at h; first | exact run_val (fun x => x) h | exact run_val (fun b : Bool => if b then _ else _) h | (simp at h; exact ⟨_, h.1.symm⟩))
section
variable {P : Program} {ops : Array Oper} {Q : Exit → Act → World → Prop} {C : World → Prop}
theorem yieldsIf_of_quiet {o : Oper} {a : Act} {v : Value} (hc : isCalm o.op = true) (hw : Region.wanted o (yielded ops a.tmps) = true) (h : ∀ w, C w → o.quietAt P a C w v) : YieldsIf P ops C o v a := by
  refine Or.inl ⟨hw, fun w hC => ?_⟩
  have h1 := h w hC
  unfold Oper.quietAt at h1
  cases hr : (execOp a.eval o).run P w with
  | ok n w' =>
    rw [hr] at h1
    obtain ⟨x, rfl⟩ := calm_value hc hr
    simp only [Oper.quietUpon] at h1
    rw [h1.1, h1.2]
  | halt e w' => rw [hr] at h1; simp [Oper.quietUpon] at h1
/-- may these come up now, one behind the other, and is each apart from all that could come before it? -/
def calmB (ops : Array Oper) : List Nat → Array Bool → Bool
  | [], _ => true
  | i :: is, listed => ((ops[i]?).map fun o => isCalm o.op).getD false && Region.free .any ops listed i && (Region.ready .any ops listed).contains i && calmB ops is (listed.setIfInBounds i true)
def listAll (is : List Nat) (listed : Array Bool) : Array Bool := is.foldl (fun l i => l.setIfInBounds i true) listed
theorem held_calm (hsel : Region.noSelect ops = true) (hQ : ∀ c a d v w, Q (.panic c) (Act.put a d v) w → Q (.panic c) a w) {w : World} (hC : C w) : ∀ (is : List Nat) (fuel : Nat) (listed : Array Bool) (a : Act),
    calmB ops is listed = true → wpQuiet P ops C (fun a' => wpAnyH P .any ops Q C fuel (listAll is listed) a' w) (is.filterMap fun i => ops[i]?) a → wpAnyH P .any ops Q C (fuel + is.length) listed a w
  | [], _, _, _, _, h => h
  | i :: is, fuel, listed, a, hB, h => by
    simp only [calmB, Bool.and_eq_true] at hB
    obtain ⟨⟨⟨h1, h2⟩, h3⟩, h4⟩ := hB
    cases ho : ops[i]? with
    | none => rw [ho] at h1; simp at h1
    | some o =>
      rw [ho] at h1
      simp only [Option.map_some, Option.getD_some] at h1
      rw [List.filterMap_cons, ho] at h
      simp only [wpQuiet] at h
      have e : fuel + (i :: is).length = (fuel + is.length) + 1 := by simp; omega
      rw [e]
      by_cases hw : Region.wanted o (yielded ops a.tmps) = true
      · rw [if_pos hw] at h
        obtain ⟨v, hv, hn⟩ := h
        exact wpAnyH_take ho hsel h2 h3 (fun c a w => hQ c a _ _ w) (yieldsIf_of_quiet h1 hw hv) hC (held_calm hsel hQ hC is fuel _ _ h4 hn)
      · rw [if_neg hw] at h
        exact wpAnyH_take ho hsel h2 h3 (fun c a w => hQ c a _ _ w) (Or.inr ⟨by simpa using hw, rfl⟩) hC (held_calm hsel hQ hC is fuel _ _ h4 h)
/-- the i-th of a list, by looking -/
def nth : List Oper → Nat → Option Oper
  | [], _ => none
  | o :: _, 0 => some o
  | _ :: l, i + 1 => nth l i
theorem nth_eq : ∀ (l : List Oper) (i : Nat), nth l i = l.toArray[i]?
  | [], i => by simp [nth]
  | o :: l, 0 => by simp [nth]
  | o :: l, i + 1 => by
    rw [nth, nth_eq l i]
    simp
theorem held_quiet {l : List Oper} (hsel : Region.noSelect l.toArray = true) (hQ : ∀ c a d v w, Q (.panic c) (Act.put a d v) w → Q (.panic c) a w) {w : World} (hC : C w) (is : List Nat) (fuel : Nat) (listed : Array Bool) (a : Act)
    (hB : calmB l.toArray is listed = true) (h : wpQuiet P l.toArray C (fun a' => wpAnyH P .any l.toArray Q C fuel (listAll is listed) a' w) (is.filterMap (nth l)) a) : wpAnyH P .any l.toArray Q C (fuel + is.length) listed a w :=
  held_calm hsel hQ hC is fuel listed a hB (by rw [show (fun i => l.toArray[i]?) = nth l from funext fun i => (nth_eq l i).symm]; exact h)
/-- one operation that alone may come up -/
theorem held_do {l : List Oper} {i fuel : Nat} {listed : Array Bool} {a : Act} {w : World} (o : Oper) (hi : nth l i = some o) (hr : Region.ready .any l.toArray listed = [i]) (hw : Region.wanted o (yielded l.toArray a.tmps) = true)
    (h : ∀ K : Act → World → Prop, (∀ a' w', C w' → wpAnyH P .any l.toArray Q C fuel (listed.setIfInBounds i true) a' w' → K a' w') → o.wp P a w K Q) : wpAnyH P .any l.toArray Q C (fuel + 1) listed a w := by
  rw [nth_eq] at hi
  refine wpAnyH_all hr (by simp) fun j hj => ?_
  simp only [List.mem_singleton] at hj
  subst hj
  unfold wpOp
  simp only [hi, hw, if_true]
  exact Or.inl (h _ fun a' w' h1 h2 => ⟨h1, h2⟩)
theorem held_start {id : Nat} {a : Act} {w : World} {l : List Oper} (hm : P.follows .mixedOrders = true)
    (h : wpAnyH P .any l.toArray Q C l.length (Array.replicate l.length false) a { w with drawn := w.drawn + 1 }) : (Code.region id l.toArray true).wp P Q a w :=
  wp_region_held hm (by simpa using h)
end
end Go.Proofs.Ytkejjlghelnfjaa

/- An append to a row of the call's own: where the new row lies (the old block, or a new one). -/
namespace Go.Proofs.Ytkejjlghelnfjaa
open Go.RowKit

theorem append_where {P : Program} (w : World) (base : Nat) (t ty e : TypeId) (i : TypeInfo) (z : Value) (size bytes : Nat) (ht : P.underlying t = some (.slice e)) (hi : P.info? e = some i) (hz : i.zero = some z)
    (hsize : i.size = size) (hby : i.bytes = bytes) (hsz : 0 < size) (v : Value) (n : Nat) (xs : List Value) (hown : w.ownsRow base e size v n xs)
    (a : Addr) (m c : Nat) (news : List Value) (hl : news.length = m * size) (hnews : ∀ j u, news[j]? = some u → w.cell? (a.add j) = some u) (h1 : ∀ u ∈ news, u.oneCell' = true) (hm : 0 < m)
    (h63 : n + m ≤ maxLen) (hbytes : (n + m) * bytes ≤ 140737488355328) :
    ∃ v' w', (Builtin.append_ #[t, t] ty #[v, .slice (some a) m c]).run P w = .ok v' w' ∧ (v'.ownBlock = v.ownBlock ∨ v'.ownBlock = some w.heap.size) := by
  subst hsize
  subst hby
  have hsmall : n + m ≤ 9223372036854775807 := by simp only [maxLen] at h63; omega
  rcases hown.2 with ⟨rfl, rfl⟩ | ⟨g, cap, cur, rfl, _, hg, hnc, _, hcs, _⟩
  · exact ⟨_, _, run_append_nil w t ty e i z ht hi hz a m c news hl hnews hm (by omega) (by have hb := hbytes; simp only [Nat.zero_add] at hb; omega), Or.inr rfl⟩
  · by_cases hroom : n + m ≤ cap
    · have hfit : n * i.size + news.length ≤ cur.size := by rw [hl, hcs, ← Nat.add_mul]; exact Nat.mul_le_mul_right _ hroom
      exact ⟨_, _, run_append_room w t ty e i ht hi g n cap cur hg a m c news hl hnews h1 hroom hfit, Or.inl rfl⟩
    · have holds : ∀ j u, xs[j]? = some u → w.cell? ((⟨g, 0, none⟩ : Addr).add j) = some u := hown.cells (g := g) rfl
      exact ⟨_, _, run_append_grow w t ty e i z ht hi hz ⟨g, 0, none⟩ n cap xs hown.1 holds a m c news hl hnews (by omega) (by omega) (growslice_fits (by omega) hbytes), Or.inr rfl⟩
theorem wpList_append_where {P : Program} (w : World) {ops : Array Oper} {rest : List Oper} {o : Oper} {a : Act} {Q : Exit → Act → World → Prop} (hgd : o.guard = none) (s x : Operand) (t : TypeId)
    (ho : o.op = .call { callee := .builtin .append, args := #[s, x], argTypes := #[t, t] })
    (base : Nat) (e : TypeId) (i : TypeInfo) (z : Value) (size bytes : Nat) (ht : P.underlying t = some (.slice e)) (hi : P.info? e = some i) (hz : i.zero = some z)
    (hsize : i.size = size) (hby : i.bytes = bytes) (hzs : z.cells.size = size) (hsz : 0 < size)
    (v : Value) (n : Nat) (xs : List Value) (hs : a.eval s = v) (hown : w.ownsRow base e size v n xs)
    (ad : Addr) (m c : Nat) (news : List Value) (hx : a.eval x = .slice (some ad) m c) (hm : 0 < m) (hl : news.length = m * size) (hnews : ∀ j u, news[j]? = some u → w.cell? (ad.add j) = some u) (h1 : ∀ u ∈ news, u.oneCell' = true)
    (h63 : n + m ≤ maxLen) (hbytes : (n + m) * bytes ≤ 140737488355328) (hbase : base ≤ w.heap.size)
    (h : ∀ v' w', w'.ownsRow base e size v' (n + m) (xs ++ news) → w.grownBy w' v.ownBlock → (v'.ownBlock = v.ownBlock ∨ v'.ownBlock = some w.heap.size) → wpList P ops Q rest (a.put o.dst v') w') : wpList P ops Q (o :: rest) a w := by
  refine wpList_plain hgd fun K hK => ?_
  obtain ⟨v', w', hr, h2, h3, _⟩ := run_append_own (P := P) w base t o.type e i z size bytes ht hi hz hsize hby hzs hsz v n xs hown ad m c news hl hnews h1 h63 hbytes hbase
  obtain ⟨v2, w2, hr2, h4⟩ := append_where (P := P) w base t o.type e i z size bytes ht hi hz hsize hby hsz v n xs hown ad m c news hl hnews h1 hm h63 hbytes
  rw [hr] at hr2
  injection hr2 with e1 e2
  subst e1
  unfold Oper.wp execOp
  simp only [ho, resolve, invoke, builtin, Sem.run_bind, Sem.run_pure, Result.andThen_ok, List.map_toArray, List.map_cons, List.map_nil, hs, hx, hr]
  exact hK _ _ (h v' w' h2 h3 h4)
end Go.Proofs.Ytkejjlghelnfjaa

/- A row of a call's own in a loop that appends to it: what is kept (tools). -/
namespace Go.Proofs.Ytkejjlghelnfjaa
open Go.RowKit Go.BigFrame

theorem ownsRow_below {W W' : World} {base e k n : Nat} {v : Value} {xs : List Value} (h : W.ownsRow base e k v n xs) (hb : Below W.heap.size W W') : W'.ownsRow base e k v n xs :=
  h.kept (row := none) ⟨hb.os, hb.tape, hb.output, hb.size, fun k hk _ => hb.block k hk⟩ (by cases v.ownBlock <;> simp)
/-- the row v, which began as v0 in the world V: whatever else was there is kept -/
structure OwnR (V wr : World) (base e k : Nat) (v0 v : Value) (n : Nat) (xs : List Value) : Prop where
  own : wr.ownsRow base e k v n xs
  kept : Kept (fun b => v0.ownBlock = some b) V wr
  lies : ∀ b, v.ownBlock = some b → v0.ownBlock = some b ∨ V.heap.size ≤ b
section
variable {V wr wr' : World} {base e k n : Nat} {v0 v : Value} {xs : List Value}
theorem OwnR.start (h : V.ownsRow base e k v n xs) : OwnR V V base e k v v n xs := ⟨h, Kept.refl _ _, fun _ h => Or.inl h⟩
theorem OwnR.below (h : OwnR V wr base e k v0 v n xs) (hb : Below wr.heap.size wr wr') : OwnR V wr' base e k v0 v n xs := ⟨ownsRow_below h.own hb, h.kept.trans (Kept.of_below hb), h.lies⟩
theorem OwnR.back {V' : World} {n' : Nat} {v' : Value} {xs' : List Value} (h : OwnR V wr base e k v0 v n xs) (hb : Below wr.heap.size wr V') (h' : OwnR V' wr' base e k v v' n' xs') : OwnR V wr' base e k v0 v' n' xs' := by
  have hs : V.heap.size ≤ V'.heap.size := Nat.le_trans h.kept.size hb.size
  refine ⟨h'.own, ⟨h'.kept.os.trans (hb.os.trans h.kept.os), h'.kept.tape.trans (hb.tape.trans h.kept.tape), h'.kept.output.trans (hb.output.trans h.kept.output), Nat.le_trans hs h'.kept.size, fun b hb1 ho => ?_⟩, fun b hb' => ?_⟩
  · have hn : ¬ v.ownBlock = some b := fun e => (h.lies b e).elim ho (fun h => by omega)
    exact (h'.kept.block b (by omega) hn).trans ((hb.block b (Nat.lt_of_lt_of_le hb1 h.kept.size)).trans (h.kept.block b hb1 ho))
  · rcases h'.lies b hb' with e | e
    · exact h.lies b e
    · exact Or.inr (by omega)
theorem OwnR.append {W2 w' : World} {v' : Value} {n' : Nat} {xs' : List Value} (h : OwnR V wr base e k v0 v n xs) (hb : Below wr.heap.size wr W2) (ho : w'.ownsRow base e k v' n' xs') (hg : W2.grownBy w' v.ownBlock) (hw : v'.ownBlock = v.ownBlock ∨ v'.ownBlock = some W2.heap.size) :
    OwnR V w' base e k v0 v' n' xs' := by
  refine ⟨ho, (h.kept.trans (Kept.of_below hb)).grown hg (fun q hq hl => (h.lies q hq).elim id (fun h => by omega)), fun b hb' => ?_⟩
  rcases hw with e | e
  · exact h.lies b (by rw [← e]; exact hb')
  · rw [e] at hb'
    injection hb' with hb'
    exact Or.inr (by have := h.kept.size; have := hb.size; omega)
theorem OwnR.down {n0 B : Nat} {xs0 : List Value} (h : OwnR V wr base e k v0 v n xs) {w : World} (hb : Below B w V) (hB : B ≤ V.heap.size) (hBb : B ≤ base) (ho : V.ownsRow base e k v0 n0 xs0) : Below B w wr :=
  Kept.below hb h.kept hB (fun b hb1 e => by have := (ho.lt b e).1; omega)
theorem OwnR.row (h : OwnR V wr base e k v0 v n xs) {a : Option Addr} {len kk : Nat} {R : Nat → List Value} (hr : RowK V a len kk R) (hn : ∀ b off, a = some ⟨b, off, none⟩ → ¬ v0.ownBlock = some b) : RowK wr a len kk R := Kept.row hr h.kept hn
theorem OwnR.cell (h : OwnR V wr base e k v0 v n xs) {p : Addr} {u : Value} (hn : ¬ v0.ownBlock = some p.block) (hc : V.cell? p = some u) : wr.cell? p = some u := h.kept.cell hn hc
end
end Go.Proofs.Ytkejjlghelnfjaa

/- Edits as they lie in memory: rows that came in, rows of a call's own. -/
namespace Go.Proofs.Ytkejjlghelnfjaa
open Go.RowKit Go.BigFrame
open Tr (Ed)

def edC (x : Ed) : List Value := [.int .i64 x.k, .int .i64 x.n, .int .i64 x.f, .int .i64 x.t, .string x.s]
def edV (x : Ed) : Value := .agg #[.int .i64 x.k, .int .i64 x.n, .int .i64 x.f, .int .i64 x.t, .string x.s]
theorem edC_len (x : Ed) : (edC x).length = 5 := rfl
theorem flatEd_len (l : List Ed) : (l.flatMap edC).length = l.length * 5 := by
  induction l with
  | nil => rfl
  | cons t l ih => rw [List.flatMap_cons, List.length_append, ih]; show 5 + l.length * 5 = (l.length + 1) * 5; omega
theorem flatEd_get : ∀ (l : List Ed) (i : Nat) (x : Ed), l[i]? = some x → ∀ j v, (edC x)[j]? = some v → (l.flatMap edC)[i * 5 + j]? = some v
  | [], i, x, h, _, _, _ => by simp at h
  | y :: l, 0, x, h, j, v, hv => by
    injection h with h
    subst h
    rw [List.flatMap_cons, Nat.zero_mul, Nat.zero_add, List.getElem?_append_left (by have := (List.getElem?_eq_some_iff.1 hv).1; exact this)]
    exact hv
  | y :: l, i + 1, x, h, j, v, hv => by
    have ih := flatEd_get l i x (by simpa using h) j v hv
    rw [List.flatMap_cons, List.getElem?_append_right (by rw [edC_len]; omega), edC_len, show (i + 1) * 5 + j - 5 = i * 5 + j by omega]
    exact ih
/-- a row of edits that is read -/
structure ERow (w : World) (a : Option Addr) (l : List Ed) : Prop where
  here : 0 < l.length → ∃ b off, a = some ⟨b, off, none⟩ ∧ b < w.heap.size ∧ ∀ i x, l[i]? = some x → ∀ j v, (edC x)[j]? = some v → w.cell? ⟨b, off + i * 5 + j, none⟩ = some v
theorem ERow.below {w w' : World} {a : Option Addr} {l : List Ed} (h : ERow w a l) (hb : Below w.heap.size w w') : ERow w' a l :=
  ⟨fun hl => by
    obtain ⟨b, off, e, hbl, hc⟩ := h.here hl
    exact ⟨b, off, e, Nat.lt_of_lt_of_le hbl hb.size, fun i x hx j v hv => (hb.cell (p := ⟨b, off + i * 5 + j, none⟩) hbl).trans (hc i x hx j v hv)⟩⟩
/-- the cells of one edit of a row -/
theorem ERow.at {w : World} {a : Option Addr} {l : List Ed} (h : ERow w a l) {i : Nat} {x : Ed} (hx : l[i]? = some x) :
    ∃ b off, a = some ⟨b, off, none⟩ ∧ b < w.heap.size ∧ w.cell? ⟨b, off + i * 5, none⟩ = some (.int .i64 x.k) ∧ w.cell? ⟨b, off + i * 5 + 1, none⟩ = some (.int .i64 x.n) ∧ w.cell? ⟨b, off + i * 5 + 2, none⟩ = some (.int .i64 x.f) ∧ w.cell? ⟨b, off + i * 5 + 3, none⟩ = some (.int .i64 x.t) ∧ w.cell? ⟨b, off + i * 5 + 4, none⟩ = some (.string x.s) := by
  obtain ⟨b, off, e, hb, hc⟩ := h.here (by have := (List.getElem?_eq_some_iff.1 hx).1; omega)
  exact ⟨b, off, e, hb, hc i x hx 0 _ rfl, hc i x hx 1 _ rfl, hc i x hx 2 _ rfl, hc i x hx 3 _ rfl, hc i x hx 4 _ rfl⟩
end Go.Proofs.Ytkejjlghelnfjaa

/- Edits: small functions of the program. -/
namespace Go.Proofs.Ytkejjlghelnfjaa
open Go.RowKit Go.BigFrame
open Tr (Ed inR)

theorem tin_any (n lo hi : Int) (w : World) : Calls Try.prog 19 #[.int .i64 n, .int .i64 lo, .int .i64 hi] w fun e w' => e = .returned (.bool (inR n lo hi)) ∧ w = w' := by
  cases h : decide (lo ≤ n)
  all_goals
    go_enter Try.func19, Try.ntmps19
    go_wp2
    go_ret
    exact ⟨ret_bool (by simp [inR, h]), rfl⟩
theorem rcin_any (n lo hi : Int) (w : World) : Calls Try.prog 11 #[.int .i64 n, .int .i64 lo, .int .i64 hi] w fun e w' => e = .returned (.bool (inR n lo hi)) ∧ w = w' := by
  cases h : decide (lo ≤ n)
  all_goals
    go_enter Try.func11, Try.ntmps11
    go_wp2
    go_ret
    exact ⟨ret_bool (by simp [inR, h]), rfl⟩
theorem tranged_any (n lo hi : Int) (w : World) : Calls Try.prog 39 #[.int .i64 n, .int .i64 lo, .int .i64 hi] w fun e w' => e = .returned (.int .i64 (rngE n lo hi)) ∧ w = w' := by
  have D := Lib.hid (tin_any n lo hi w)
  unfold rngE
  generalize inR n lo hi = b at D ⊢
  cases b
  all_goals
    go_enter Try.func39, Try.ntmps39
    go_wp2_with fail
    refine D.out.mono ?_
    rintro e _ ⟨rfl, rfl⟩
    go_wp2_with fail
    go_ret
    exact ⟨rfl, rfl⟩
theorem kinds (k : Int) : k = 1 ∨ k = 2 ∨ k = 3 ∨ k = 4 ∨ k = 5 ∨ k = 6 ∨ k = 7 ∨ k = 8 ∨ k = 9 ∨ k = 10 ∨ k = 11 ∨ k = 12 ∨ k < 1 ∨ 12 < k := by omega
end Go.Proofs.Ytkejjlghelnfjaa

/- Rows of edits: cloned, appended, compared. -/
namespace Go.Proofs.Ytkejjlghelnfjaa
open Go.RowKit Go.BigFrame
open Tr (Ed)

theorem addr_plus (b off j : Nat) : (⟨b, off, none⟩ : Addr).add j = ⟨b, off + j, none⟩ := by
  unfold Addr.add
  split <;> simp_all
theorem edC_one : ∀ (x : Ed), ∀ v ∈ edC x, v.oneCell' = true := fun x v hv => by
  simp only [edC, List.mem_cons, List.not_mem_nil, or_false] at hv
  rcases hv with rfl | rfl | rfl | rfl | rfl <;> rfl
theorem flatEd_one (l : List Ed) : ∀ u ∈ l.flatMap edC, u.oneCell' = true := fun u hu => by
  obtain ⟨y, _, hy⟩ := List.mem_flatMap.1 hu
  exact edC_one y u hy
theorem flatEd_at : ∀ (l : List Ed) (j : Nat) (u : Value), (l.flatMap edC)[j]? = some u → ∃ x, l[j / 5]? = some x ∧ (edC x)[j % 5]? = some u
  | [], j, u, h => by simp at h
  | x :: l, j, u, h => by
    rw [List.flatMap_cons] at h
    by_cases hj : j < 5
    · rw [List.getElem?_append_left (by rw [edC_len]; exact hj)] at h
      exact ⟨x, by rw [Nat.div_eq_of_lt hj]; rfl, by rw [Nat.mod_eq_of_lt hj]; exact h⟩
    · rw [List.getElem?_append_right (by rw [edC_len]; omega), edC_len] at h
      obtain ⟨y, h1, h2⟩ := flatEd_at l (j - 5) u h
      refine ⟨y, ?_, ?_⟩
      · rw [show j / 5 = (j - 5) / 5 + 1 by omega]
        exact h1
      · rw [show j % 5 = (j - 5) % 5 by omega]
        exact h2
theorem ERow.flat {w : World} {a : Addr} {l : List Ed} (h : ERow w (some a) l) : ∀ j u, (l.flatMap edC)[j]? = some u → w.cell? (a.add j) = some u := by
  intro j u hj
  obtain ⟨x, hx, hu⟩ := flatEd_at l j u hj
  obtain ⟨b, off, e, _, hc⟩ := h.here (by have := (List.getElem?_eq_some_iff.1 hx).1; omega)
  injection e with e
  subst e
  have := hc _ x hx _ u hu
  rw [addr_plus, show off + j = off + j / 5 * 5 + j % 5 by omega]
  exact this
theorem ERow.nil_of {w : World} {l : List Ed} (h : ERow w none l) : l = [] := by
  cases l with
  | nil => rfl
  | cons x l =>
    obtain ⟨b, off, e, _⟩ := h.here (by simp)
    cases e
theorem append_noneE {P : Program} {t e : TypeId} {i : TypeInfo} (ht : P.underlying t = some (.slice e)) (hi : P.info? e = some i) (ty : TypeId) (base : Option Addr) (l c : Nat) (hlc : l ≤ c) (a : Option Addr) (k : Nat) (w : World) :
    (Builtin.append_ #[t, t] ty #[.slice base l c, .slice a 0 k]).run P w = .ok (.slice base l c) w := by
  cases base <;> cases a <;> simp [Builtin.append_, run_underlying ht, sizeOf, typeInfo, hi, Builtin.lenOf, Builtin.firstCells, hlc, loadCells, loadCellsFrom, storeCells]
theorem grown_self (w : World) (r : Option Nat) : w.grownBy w r := ⟨rfl, rfl, rfl, Nat.le_refl _, fun _ _ _ => rfl⟩
/-! ### compared -/
def eqE (x y : Ed) : Bool := decide (x.k = y.k) && decide (x.n = y.n) && decide (x.f = y.f) && decide (x.t = y.t) && decide (x.s = y.s)
theorem eqE_iff {x y : Ed} : eqE x y = true ↔ x = y := by
  unfold eqE
  simp only [Bool.and_eq_true, decide_eq_true_eq]
  exact ⟨fun ⟨⟨⟨⟨a, b⟩, c⟩, d⟩, e⟩ => Tr.Ed.ext' a b c d e, fun h => by subst h; exact ⟨⟨⟨⟨rfl, rfl⟩, rfl⟩, rfl⟩, rfl⟩⟩
theorem strEq (a b : ByteArray) : (a.toList == b.toList) = decide (a = b) := by
  rw [ByteArray.toList_eq, ByteArray.toList_eq, Bool.eq_iff_iff, beq_iff_eq, decide_eq_true_eq]
  constructor
  · intro h
    cases a; cases b
    congr 1
    exact Array.toList_inj.1 h
  · intro h; rw [h]
/-- are these rows the same? -/
def eqEs (l m : List Ed) : Bool := decide (l.length = m.length) && (List.range l.length).all fun i => match l[i]?, m[i]? with
  | some x, some y => eqE x y
  | _, _ => true
theorem eqEs_self (l : List Ed) : eqEs l l = true := by
  unfold eqEs
  rw [decide_eq_true rfl, Bool.true_and, List.all_eq_true]
  intro i _
  cases l[i]? with
  | none => rfl
  | some x => exact eqE_iff.2 rfl
end Go.Proofs.Ytkejjlghelnfjaa

/- IsName of the program and of the reference (g/XNm, two names turned). -/
namespace Go.Proofs.Ytkejjlghelnfjaa
open Go.RowKit

/-- the first k bytes can stand in a name -/
def allN (s : ByteArray) (k : Nat) : Bool := (s.data.toList.take k).all fun c => nameC c.toNat
theorem allN_step {s : ByteArray} {k : Nat} (hk : k < s.size) (h : allN s k = true) (hc : nameC (s[k].toNat : Int) = true) : allN s (k + 1) = true := by
  unfold allN at h ⊢
  rw [List.take_succ_eq_append_getElem (by simpa using hk), List.all_append, h, Bool.true_and]
  simpa [ByteArray.getElem_eq_getElem_data] using hc
theorem allN_bad {s : ByteArray} {k : Nat} (hk : k < s.size) (hc : nameC (s[k].toNat : Int) = false) : nameB s = false := by
  unfold nameB
  have h1 : (s.data.toList.all fun c => nameC c.toNat) = false := by
    rw [List.all_eq_false]
    exact ⟨s[k], by simp [ByteArray.getElem_eq_getElem_data], by rw [hc]; simp⟩
  rw [h1, Bool.and_false]
theorem nameB_of {s : ByteArray} (h : allN s s.size = true) : nameB s = (decide (1 ≤ s.size) && decide (s.size ≤ 60)) := by
  unfold nameB
  unfold allN at h
  rw [List.take_of_length_le (by simp)] at h
  rw [h, Bool.and_true]
def digB (x : Int) : Bool := decide (48 ≤ x) && decide (x ≤ 57)
theorem ndigit_any (x : Int) (w : World) : Calls Try.prog 29 #[.int .u8 x] w fun e w' => e = .returned (.bool (digB x)) ∧ w = w' := by
  cases h : decide (48 ≤ x)
  all_goals
    go_enter Try.func29, Try.ntmps29
    go_wp2
    go_ret
    exact ⟨ret_bool (by simp [digB, h]), rfl⟩
set_option maxHeartbeats 4000000 in
set_option maxRecDepth 100000 in
theorem isName_any (s : ByteArray) (w : World) (hs : s.size ≤ maxLen) :
    Calls Try.prog 10 #[.string s] w fun e w' => e = .returned (.bool (nameB s)) ∧ w = w' := by
  unfold maxLen at hs
  go_enter Try.func10, Try.ntmps10
  go_wp2_with fail
  go_loop [8] (fun iv => ∃ (k : Nat), iv = .int .i64 k ∧ k ≤ s.size ∧ Hid (allN s k = true)) (fun iv => s.size - (intOf iv).toNat)
  case atStart => exact ⟨0, rfl, by omega, Lib.hid rfl⟩
  case round =>
    obtain ⟨k, rfl, hk, HA⟩ := hrel
    by_cases hlt : k < s.size
    · have t3 : decide ((k : Int) < (s.size : Int)) = true := by rw [decide_eq_true_eq]; omega
      have t3' : decide (k < s.size) = true := by simpa using hlt
      have hub : (s[k].toNat : Int) ≤ 255 := by have := s[k].toNat_lt; omega
      have OKN := fun (h : Hid (nameC (s[k].toNat : Int) = true)) => Lib.hid (allN_step hlt HA.out h.out)
      have BADN := fun (h : Hid (nameC (s[k].toNat : Int) = false)) => allN_bad hlt h.out
      have OKN := Lib.hid OKN
      have BADN := Lib.hid BADN
      have hnn : 0 ≤ (s[k].toNat : Int) := Int.natCast_nonneg _
      obtain ⟨x, hx⟩ : ∃ x : Int, (s[k].toNat : Int) = x := ⟨_, rfl⟩
      rw [hx] at hub hnn OKN BADN
      have hways : (0 ≤ x ∧ x ≤ 44) ∨ (45 ≤ x ∧ x ≤ 45) ∨ (46 ≤ x ∧ x ≤ 46) ∨ (47 ≤ x ∧ x ≤ 47) ∨ (48 ≤ x ∧ x ≤ 57) ∨ (58 ≤ x ∧ x ≤ 64) ∨ (65 ≤ x ∧ x ≤ 90) ∨ (91 ≤ x ∧ x ≤ 94) ∨ (95 ≤ x ∧ x ≤ 95) ∨ (96 ≤ x ∧ x ≤ 96) ∨ (97 ≤ x ∧ x ≤ 122) ∨ (123 ≤ x ∧ x ≤ 255) := by omega
      rcases hways with hways | hways | hways | hways | hways | hways | hways | hways | hways | hways | hways | hways
      · have hx0 : 0 ≤ x := by omega
        have hx1 : x ≤ 44 := by omega
        have d1 : decide ((97 : Int) ≤ x) = false := by rw [decide_eq_false_iff_not]; omega
        have d2 : decide (x ≤ (122 : Int)) = true := by rw [decide_eq_true_eq]; omega
        have d3 : decide ((65 : Int) ≤ x) = false := by rw [decide_eq_false_iff_not]; omega
        have d4 : decide (x ≤ (90 : Int)) = true := by rw [decide_eq_true_eq]; omega
        have b0 : (x != (45 : Int)) = true := by rw [bne_iff_ne]; omega
        have b1 : (x != (95 : Int)) = true := by rw [bne_iff_ne]; omega
        have b2 : (x != (46 : Int)) = true := by rw [bne_iff_ne]; omega
        have hc : nameC x = false := by unfold nameC; simp; omega
        have HC := Lib.hid hc
        have HD := Lib.hid (ndigit_any x)
        rw [show digB x = false by unfold digB; simp; omega] at HD
        clear hc hx0 hx1 hways
        go_wp2_with fail
        refine (HD.out _).mono ?_
        rintro e w1 ⟨rfl, rfl⟩
        go_wp2_with fail
        go_ret
        exact ⟨ret_bool (BADN.out HC).symm, rfl⟩
      · have hx0 : 45 ≤ x := by omega
        have hx1 : x ≤ 45 := by omega
        have d1 : decide ((97 : Int) ≤ x) = false := by rw [decide_eq_false_iff_not]; omega
        have d2 : decide (x ≤ (122 : Int)) = true := by rw [decide_eq_true_eq]; omega
        have d3 : decide ((65 : Int) ≤ x) = false := by rw [decide_eq_false_iff_not]; omega
        have d4 : decide (x ≤ (90 : Int)) = true := by rw [decide_eq_true_eq]; omega
        have b0 : (x != (45 : Int)) = false := by rw [show x = 45 by omega]; rfl
        have b1 : (x != (95 : Int)) = true := by rw [bne_iff_ne]; omega
        have b2 : (x != (46 : Int)) = true := by rw [bne_iff_ne]; omega
        have hc : nameC x = true := by unfold nameC; simp; omega
        have HC := Lib.hid hc
        have HD := Lib.hid (ndigit_any x)
        rw [show digB x = false by unfold digB; simp; omega] at HD
        clear hc hx0 hx1 hways
        go_wp2_with fail
        refine (HD.out _).mono ?_
        rintro e w1 ⟨rfl, rfl⟩
        go_wp2_with fail
        go_round
        case rel => exact ⟨k + 1, by go_num, by omega, OKN.out HC⟩
        case measure => simp [intOf]; omega
      · have hx0 : 46 ≤ x := by omega
        have hx1 : x ≤ 46 := by omega
        have d1 : decide ((97 : Int) ≤ x) = false := by rw [decide_eq_false_iff_not]; omega
        have d2 : decide (x ≤ (122 : Int)) = true := by rw [decide_eq_true_eq]; omega
        have d3 : decide ((65 : Int) ≤ x) = false := by rw [decide_eq_false_iff_not]; omega
        have d4 : decide (x ≤ (90 : Int)) = true := by rw [decide_eq_true_eq]; omega
        have b0 : (x != (45 : Int)) = true := by rw [bne_iff_ne]; omega
        have b1 : (x != (95 : Int)) = true := by rw [bne_iff_ne]; omega
        have b2 : (x != (46 : Int)) = false := by rw [show x = 46 by omega]; rfl
        have hc : nameC x = true := by unfold nameC; simp; omega
        have HC := Lib.hid hc
        have HD := Lib.hid (ndigit_any x)
        rw [show digB x = false by unfold digB; simp; omega] at HD
        clear hc hx0 hx1 hways
        go_wp2_with fail
        refine (HD.out _).mono ?_
        rintro e w1 ⟨rfl, rfl⟩
        go_wp2_with fail
        go_round
        case rel => exact ⟨k + 1, by go_num, by omega, OKN.out HC⟩
        case measure => simp [intOf]; omega
      · have hx0 : 47 ≤ x := by omega
        have hx1 : x ≤ 47 := by omega
        have d1 : decide ((97 : Int) ≤ x) = false := by rw [decide_eq_false_iff_not]; omega
        have d2 : decide (x ≤ (122 : Int)) = true := by rw [decide_eq_true_eq]; omega
        have d3 : decide ((65 : Int) ≤ x) = false := by rw [decide_eq_false_iff_not]; omega
        have d4 : decide (x ≤ (90 : Int)) = true := by rw [decide_eq_true_eq]; omega
        have b0 : (x != (45 : Int)) = true := by rw [bne_iff_ne]; omega
        have b1 : (x != (95 : Int)) = true := by rw [bne_iff_ne]; omega
        have b2 : (x != (46 : Int)) = true := by rw [bne_iff_ne]; omega
        have hc : nameC x = false := by unfold nameC; simp; omega
        have HC := Lib.hid hc
        have HD := Lib.hid (ndigit_any x)
        rw [show digB x = false by unfold digB; simp; omega] at HD
        clear hc hx0 hx1 hways
        go_wp2_with fail
        refine (HD.out _).mono ?_
        rintro e w1 ⟨rfl, rfl⟩
        go_wp2_with fail
        go_ret
        exact ⟨ret_bool (BADN.out HC).symm, rfl⟩
      · have hx0 : 48 ≤ x := by omega
        have hx1 : x ≤ 57 := by omega
        have d1 : decide ((97 : Int) ≤ x) = false := by rw [decide_eq_false_iff_not]; omega
        have d2 : decide (x ≤ (122 : Int)) = true := by rw [decide_eq_true_eq]; omega
        have d3 : decide ((65 : Int) ≤ x) = false := by rw [decide_eq_false_iff_not]; omega
        have d4 : decide (x ≤ (90 : Int)) = true := by rw [decide_eq_true_eq]; omega
        have b0 : (x != (45 : Int)) = true := by rw [bne_iff_ne]; omega
        have b1 : (x != (95 : Int)) = true := by rw [bne_iff_ne]; omega
        have b2 : (x != (46 : Int)) = true := by rw [bne_iff_ne]; omega
        have hc : nameC x = true := by unfold nameC; simp; omega
        have HC := Lib.hid hc
        have HD := Lib.hid (ndigit_any x)
        rw [show digB x = true by unfold digB; simp; omega] at HD
        clear hc hx0 hx1 hways
        go_wp2_with fail
        refine (HD.out _).mono ?_
        rintro e w1 ⟨rfl, rfl⟩
        go_wp2_with fail
        go_round
        case rel => exact ⟨k + 1, by go_num, by omega, OKN.out HC⟩
        case measure => simp [intOf]; omega
      · have hx0 : 58 ≤ x := by omega
        have hx1 : x ≤ 64 := by omega
        have d1 : decide ((97 : Int) ≤ x) = false := by rw [decide_eq_false_iff_not]; omega
        have d2 : decide (x ≤ (122 : Int)) = true := by rw [decide_eq_true_eq]; omega
        have d3 : decide ((65 : Int) ≤ x) = false := by rw [decide_eq_false_iff_not]; omega
        have d4 : decide (x ≤ (90 : Int)) = true := by rw [decide_eq_true_eq]; omega
        have b0 : (x != (45 : Int)) = true := by rw [bne_iff_ne]; omega
        have b1 : (x != (95 : Int)) = true := by rw [bne_iff_ne]; omega
        have b2 : (x != (46 : Int)) = true := by rw [bne_iff_ne]; omega
        have hc : nameC x = false := by unfold nameC; simp; omega
        have HC := Lib.hid hc
        have HD := Lib.hid (ndigit_any x)
        rw [show digB x = false by unfold digB; simp; omega] at HD
        clear hc hx0 hx1 hways
        go_wp2_with fail
        refine (HD.out _).mono ?_
        rintro e w1 ⟨rfl, rfl⟩
        go_wp2_with fail
        go_ret
        exact ⟨ret_bool (BADN.out HC).symm, rfl⟩
      · have hx0 : 65 ≤ x := by omega
        have hx1 : x ≤ 90 := by omega
        have d1 : decide ((97 : Int) ≤ x) = false := by rw [decide_eq_false_iff_not]; omega
        have d2 : decide (x ≤ (122 : Int)) = true := by rw [decide_eq_true_eq]; omega
        have d3 : decide ((65 : Int) ≤ x) = true := by rw [decide_eq_true_eq]; omega
        have d4 : decide (x ≤ (90 : Int)) = true := by rw [decide_eq_true_eq]; omega
        have b0 : (x != (45 : Int)) = true := by rw [bne_iff_ne]; omega
        have b1 : (x != (95 : Int)) = true := by rw [bne_iff_ne]; omega
        have b2 : (x != (46 : Int)) = true := by rw [bne_iff_ne]; omega
        have hc : nameC x = true := by unfold nameC; simp; omega
        have HC := Lib.hid hc
        have HD := Lib.hid (ndigit_any x)
        rw [show digB x = false by unfold digB; simp; omega] at HD
        clear hc hx0 hx1 hways
        go_wp2_with fail
        go_round
        case rel => exact ⟨k + 1, by go_num, by omega, OKN.out HC⟩
        case measure => simp [intOf]; omega
      · have hx0 : 91 ≤ x := by omega
        have hx1 : x ≤ 94 := by omega
        have d1 : decide ((97 : Int) ≤ x) = false := by rw [decide_eq_false_iff_not]; omega
        have d2 : decide (x ≤ (122 : Int)) = true := by rw [decide_eq_true_eq]; omega
        have d3 : decide ((65 : Int) ≤ x) = true := by rw [decide_eq_true_eq]; omega
        have d4 : decide (x ≤ (90 : Int)) = false := by rw [decide_eq_false_iff_not]; omega
        have b0 : (x != (45 : Int)) = true := by rw [bne_iff_ne]; omega
        have b1 : (x != (95 : Int)) = true := by rw [bne_iff_ne]; omega
        have b2 : (x != (46 : Int)) = true := by rw [bne_iff_ne]; omega
        have hc : nameC x = false := by unfold nameC; simp; omega
        have HC := Lib.hid hc
        have HD := Lib.hid (ndigit_any x)
        rw [show digB x = false by unfold digB; simp; omega] at HD
        clear hc hx0 hx1 hways
        go_wp2_with fail
        refine (HD.out _).mono ?_
        rintro e w1 ⟨rfl, rfl⟩
        go_wp2_with fail
        go_ret
        exact ⟨ret_bool (BADN.out HC).symm, rfl⟩
      · have hx0 : 95 ≤ x := by omega
        have hx1 : x ≤ 95 := by omega
        have d1 : decide ((97 : Int) ≤ x) = false := by rw [decide_eq_false_iff_not]; omega
        have d2 : decide (x ≤ (122 : Int)) = true := by rw [decide_eq_true_eq]; omega
        have d3 : decide ((65 : Int) ≤ x) = true := by rw [decide_eq_true_eq]; omega
        have d4 : decide (x ≤ (90 : Int)) = false := by rw [decide_eq_false_iff_not]; omega
        have b0 : (x != (45 : Int)) = true := by rw [bne_iff_ne]; omega
        have b1 : (x != (95 : Int)) = false := by rw [show x = 95 by omega]; rfl
        have b2 : (x != (46 : Int)) = true := by rw [bne_iff_ne]; omega
        have hc : nameC x = true := by unfold nameC; simp; omega
        have HC := Lib.hid hc
        have HD := Lib.hid (ndigit_any x)
        rw [show digB x = false by unfold digB; simp; omega] at HD
        clear hc hx0 hx1 hways
        go_wp2_with fail
        refine (HD.out _).mono ?_
        rintro e w1 ⟨rfl, rfl⟩
        go_wp2_with fail
        go_round
        case rel => exact ⟨k + 1, by go_num, by omega, OKN.out HC⟩
        case measure => simp [intOf]; omega
      · have hx0 : 96 ≤ x := by omega
        have hx1 : x ≤ 96 := by omega
        have d1 : decide ((97 : Int) ≤ x) = false := by rw [decide_eq_false_iff_not]; omega
        have d2 : decide (x ≤ (122 : Int)) = true := by rw [decide_eq_true_eq]; omega
        have d3 : decide ((65 : Int) ≤ x) = true := by rw [decide_eq_true_eq]; omega
        have d4 : decide (x ≤ (90 : Int)) = false := by rw [decide_eq_false_iff_not]; omega
        have b0 : (x != (45 : Int)) = true := by rw [bne_iff_ne]; omega
        have b1 : (x != (95 : Int)) = true := by rw [bne_iff_ne]; omega
        have b2 : (x != (46 : Int)) = true := by rw [bne_iff_ne]; omega
        have hc : nameC x = false := by unfold nameC; simp; omega
        have HC := Lib.hid hc
        have HD := Lib.hid (ndigit_any x)
        rw [show digB x = false by unfold digB; simp; omega] at HD
        clear hc hx0 hx1 hways
        go_wp2_with fail
        refine (HD.out _).mono ?_
        rintro e w1 ⟨rfl, rfl⟩
        go_wp2_with fail
        go_ret
        exact ⟨ret_bool (BADN.out HC).symm, rfl⟩
      · have hx0 : 97 ≤ x := by omega
        have hx1 : x ≤ 122 := by omega
        have d1 : decide ((97 : Int) ≤ x) = true := by rw [decide_eq_true_eq]; omega
        have d2 : decide (x ≤ (122 : Int)) = true := by rw [decide_eq_true_eq]; omega
        have d3 : decide ((65 : Int) ≤ x) = true := by rw [decide_eq_true_eq]; omega
        have d4 : decide (x ≤ (90 : Int)) = false := by rw [decide_eq_false_iff_not]; omega
        have b0 : (x != (45 : Int)) = true := by rw [bne_iff_ne]; omega
        have b1 : (x != (95 : Int)) = true := by rw [bne_iff_ne]; omega
        have b2 : (x != (46 : Int)) = true := by rw [bne_iff_ne]; omega
        have hc : nameC x = true := by unfold nameC; simp; omega
        have HC := Lib.hid hc
        have HD := Lib.hid (ndigit_any x)
        rw [show digB x = false by unfold digB; simp; omega] at HD
        clear hc hx0 hx1 hways
        go_wp2_with fail
        go_round
        case rel => exact ⟨k + 1, by go_num, by omega, OKN.out HC⟩
        case measure => simp [intOf]; omega
      · have hx0 : 123 ≤ x := by omega
        have hx1 : x ≤ 255 := by omega
        have d1 : decide ((97 : Int) ≤ x) = true := by rw [decide_eq_true_eq]; omega
        have d2 : decide (x ≤ (122 : Int)) = false := by rw [decide_eq_false_iff_not]; omega
        have d3 : decide ((65 : Int) ≤ x) = true := by rw [decide_eq_true_eq]; omega
        have d4 : decide (x ≤ (90 : Int)) = false := by rw [decide_eq_false_iff_not]; omega
        have b0 : (x != (45 : Int)) = true := by rw [bne_iff_ne]; omega
        have b1 : (x != (95 : Int)) = true := by rw [bne_iff_ne]; omega
        have b2 : (x != (46 : Int)) = true := by rw [bne_iff_ne]; omega
        have hc : nameC x = false := by unfold nameC; simp; omega
        have HC := Lib.hid hc
        have HD := Lib.hid (ndigit_any x)
        rw [show digB x = false by unfold digB; simp; omega] at HD
        clear hc hx0 hx1 hways
        go_wp2_with fail
        refine (HD.out _).mono ?_
        rintro e w1 ⟨rfl, rfl⟩
        go_wp2_with fail
        go_ret
        exact ⟨ret_bool (BADN.out HC).symm, rfl⟩
    · have t3 : decide ((k : Int) < (s.size : Int)) = false := by rw [decide_eq_false_iff_not]; omega
      have t3' : decide (k < s.size) = false := by simpa using hlt
      obtain rfl : k = s.size := by omega
      have HE := Lib.hid (nameB_of HA.out)
      clear hlt hk
      by_cases h1 : 1 ≤ s.size
      · have t4 : decide ((1 : Int) ≤ (s.size : Int)) = true := by rw [decide_eq_true_eq]; omega
        have t4' : decide (1 ≤ s.size) = true := by simpa using h1
        rw [t4', Bool.true_and] at HE
        by_cases h6 : s.size ≤ 60
        · have t5 : decide ((s.size : Int) ≤ (60 : Int)) = true := by rw [decide_eq_true_eq]; omega
          have t5' : decide (s.size ≤ 60) = true := by simpa using h6
          rw [t5'] at HE
          go_wp2_with fail
          go_ret
          exact ⟨ret_bool HE.out.symm, rfl⟩
        · have t5 : decide ((s.size : Int) ≤ (60 : Int)) = false := by rw [decide_eq_false_iff_not]; omega
          have t5' : decide (s.size ≤ 60) = false := by simpa using h6
          rw [t5'] at HE
          go_wp2_with fail
          go_ret
          exact ⟨ret_bool HE.out.symm, rfl⟩
      · have t4 : decide ((1 : Int) ≤ (s.size : Int)) = false := by rw [decide_eq_false_iff_not]; omega
        have t4' : decide (1 ≤ s.size) = false := by simpa using h1
        rw [t4', Bool.false_and] at HE
        go_wp2_with fail
        go_ret
        exact ⟨ret_bool HE.out.symm, rfl⟩

end Go.Proofs.Ytkejjlghelnfjaa

/- Edits: CheckEdit of the program. (printed by wip/t/gen_trg.py) -/
namespace Go.Proofs.Ytkejjlghelnfjaa
open Go.RowKit Go.BigFrame
open Tr (Ed inR)

def allT (s : ByteArray) (k : Nat) : Bool := (s.data.toList.take k).all fun c => decide (32 ≤ c.toNat) && decide (c.toNat ≤ 126)
theorem allT_step {s : ByteArray} {k : Nat} (hk : k < s.size) (h : allT s k = true) (h1 : 32 ≤ s[k].toNat) (h2 : s[k].toNat ≤ 126) : allT s (k + 1) = true := by
  unfold allT at h ⊢
  rw [List.take_succ_eq_append_getElem (by simpa using hk), List.all_append, h, Bool.true_and]
  simp [← ByteArray.getElem_eq_getElem_data, h1, h2]
theorem titleB_bad {s : ByteArray} {k : Nat} (hk : k < s.size) (h : ¬ (32 ≤ s[k].toNat ∧ s[k].toNat ≤ 126)) : titleB s = false := by
  unfold titleB
  have h1 : (s.data.toList.all fun c => decide (32 ≤ c.toNat) && decide (c.toNat ≤ 126)) = false := by
    rw [List.all_eq_false]
    exact ⟨s[k], by simp [ByteArray.getElem_eq_getElem_data], by simp; omega⟩
  rw [h1, Bool.and_false]
theorem titleB_of {s : ByteArray} (h : allT s s.size = true) : titleB s = decide (s.size ≤ 60) := by
  unfold titleB
  unfold allT at h
  rw [List.take_of_length_le (by simp)] at h
  rw [h, Bool.and_true]
set_option maxHeartbeats 2000000 in
set_option maxRecDepth 100000 in
theorem isTitle_any (s : ByteArray) (w : World) (hs : s.size ≤ maxLen) :
    Calls Try.prog 14 #[.string s] w fun e w' => e = .returned (.bool (titleB s)) ∧ w = w' := by
  unfold maxLen at hs
  have DI := Lib.hid (fun (n : Int) => rcin_any n 32 126)
  go_enter Try.func14, Try.ntmps14
  go_wp2_with fail
  go_loop [6] (fun iv => ∃ (k : Nat), iv = .int .i64 k ∧ k ≤ s.size ∧ Hid (allT s k = true)) (fun iv => s.size - (intOf iv).toNat)
  case atStart => exact ⟨0, rfl, by omega, Lib.hid rfl⟩
  case round =>
    obtain ⟨k, rfl, hk, HA⟩ := hrel
    by_cases hlt : k < s.size
    · have t3 : decide ((k : Int) < (s.size : Int)) = true := by rw [decide_eq_true_eq]; omega
      have t3' : decide (k < s.size) = true := by simpa using hlt
      have hub : (s[k].toNat : Int) ≤ 255 := by have := s[k].toNat_lt; omega
      have OKN := Lib.hid (fun (h1 : 32 ≤ s[k].toNat) (h2 : s[k].toNat ≤ 126) => allT_step hlt HA.out h1 h2)
      have BADN := Lib.hid (fun (h : ¬ (32 ≤ s[k].toNat ∧ s[k].toNat ≤ 126)) => titleB_bad hlt h)
      have D := DI.out (s[k].toNat : Int)
      have hi : inR (s[k].toNat : Int) 32 126 = true ↔ (32 ≤ s[k].toNat ∧ s[k].toNat ≤ 126) := by
        unfold inR
        simp only [Bool.and_eq_true, decide_eq_true_eq]
        omega
      cases hb : inR (s[k].toNat : Int) 32 126
      · rw [hb] at D hi
        have HF := Lib.hid (BADN.out (fun h => by have := hi.2 h; cases this))
        have D := Lib.hid D
        clear hi hb OKN BADN
        go_wp2_with fail
        refine (D.out _).mono ?_
        rintro e w1 ⟨rfl, rfl⟩
        go_wp2_with fail
        go_ret
        exact ⟨ret_bool HF.out.symm, rfl⟩
      · rw [hb] at D hi
        have HF := Lib.hid (OKN.out (hi.1 rfl).1 (hi.1 rfl).2)
        have D := Lib.hid D
        clear hi hb OKN BADN
        go_wp2_with fail
        refine (D.out _).mono ?_
        rintro e w1 ⟨rfl, rfl⟩
        go_wp2_with fail
        go_round
        case rel => exact ⟨k + 1, by go_num, by omega, HF⟩
        case measure => simp [intOf]; omega
    · have t3 : decide ((k : Int) < (s.size : Int)) = false := by rw [decide_eq_false_iff_not]; omega
      have t3' : decide (k < s.size) = false := by simpa using hlt
      have HF := Lib.hid (show titleB s = decide (s.size ≤ 60) from titleB_of (by have := HA.out; rwa [show k = s.size by omega] at this))
      clear hlt
      by_cases h6 : s.size ≤ 60
      · have t4 : decide ((s.size : Int) ≤ 60) = true := by rw [decide_eq_true_eq]; omega
        have HG := Lib.hid (HF.out.trans (decide_eq_true h6))
        clear h6
        go_wp2_with fail
        go_ret
        exact ⟨ret_bool HG.out.symm, rfl⟩
      · have t4 : decide ((s.size : Int) ≤ 60) = false := by rw [decide_eq_false_iff_not]; omega
        have HG := Lib.hid (HF.out.trans (decide_eq_false h6))
        clear h6
        go_wp2_with fail
        go_ret
        exact ⟨ret_bool HG.out.symm, rfl⟩
end Go.Proofs.Ytkejjlghelnfjaa

/- Edits: the methods plain and check; CheckEdit of the program. (printed by wip/t/gen_trh.py) -/
namespace Go.Proofs.Ytkejjlghelnfjaa
open Go.RowKit Go.BigFrame
open Tr (Ed inR)
/-- the empty text -/
abbrev noB : ByteArray := ⟨#[]⟩
end Go.Proofs.Ytkejjlghelnfjaa

/- CheckEdit and checkEdits of the program. -/
namespace Go.Proofs.Ytkejjlghelnfjaa
open Go.RowKit Go.BigFrame
open Tr (Ed inR)

theorem noB_iff (s : ByteArray) : decide (noB = s) = decide (s.size = 0) := by
  rw [decide_eq_decide]
  constructor
  · rintro rfl
    rfl
  · intro h
    cases s with
    | mk d =>
      have : d = #[] := Array.eq_empty_of_size_eq_zero h
      rw [this]
theorem zero_comm (n : Int) : decide ((0 : Int) = n) = decide (n = 0) := by
  rw [decide_eq_decide]
  exact eq_comm
end Go.Proofs.Ytkejjlghelnfjaa

/- checkEdits and isZero of the program. -/
namespace Go.Proofs.Ytkejjlghelnfjaa
open Go.RowKit Go.BigFrame
open Tr (Ed inR)

theorem chkEs_drop {l : List Ed} {k : Nat} {x : Ed} (hx : l[k]? = some x) (h : chkEs l = chkEs (l.drop k)) : (chkE x ≠ 0 → chkEs l = chkE x) ∧ (chkE x = 0 → chkEs l = chkEs (l.drop (k + 1))) := by
  obtain ⟨h1, e1⟩ := List.getElem?_eq_some_iff.1 hx
  rw [List.drop_eq_getElem_cons h1, e1, chkEs] at h
  exact ⟨fun h0 => by rw [h, if_neg h0], fun h0 => by rw [h, if_pos h0]⟩
end Go.Proofs.Ytkejjlghelnfjaa

/- isZero and united of the program. (printed by wip/t/gen_trk.py) -/
namespace Go.Proofs.Ytkejjlghelnfjaa
open Go.RowKit Go.BigFrame
open Tr (Ed inR isZero united)

theorem beqF {n m : Int} (h : n ≠ m) : (n == m) = false := beq_eq_false_iff_ne.2 h
theorem beqT {n m : Int} (h : n = m) : (n == m) = true := beq_iff_eq.2 h
theorem size_al2 (w : World) (A B : Obj) : w.heap.size ≤ ((w.alloc A).alloc B).heap.size := by simp; omega
theorem below_al3 (w : World) (A B C : Obj) : Below w.heap.size w (((w.alloc A).alloc B).alloc C) := ((below_al w _).alloc (by simp) _).alloc (size_al2 w _ _) _
end Go.Proofs.Ytkejjlghelnfjaa

/- Activities as they lie in memory; small functions. (printed by wip/t/gen_tfc.py) -/
namespace Go.Proofs.Ytkejjlghelnfjaa
open Go.RowKit Go.BigFrame
open Tr (inR)

theorem bneT {n m : Int} (h : n ≠ m) : (n != m) = true := by rw [bne_iff_ne]; exact h
theorem bneF {n m : Int} (h : n = m) : (n != m) = false := by rw [h]; simp
/-- a row of structs that is read -/
structure Rw {α : Type} (C : α → List Value) (k : Nat) (w : World) (a : Option Addr) (l : List α) : Prop where
  here : 0 < l.length → ∃ b off, a = some ⟨b, off, none⟩ ∧ b < w.heap.size ∧ ∀ i x, l[i]? = some x → ∀ j v, (C x)[j]? = some v → w.cell? ⟨b, off + i * k + j, none⟩ = some v
theorem Rw.below {α : Type} {C : α → List Value} {k : Nat} {w w' : World} {a : Option Addr} {l : List α} (h : Rw C k w a l) (hb : Below w.heap.size w w') : Rw C k w' a l :=
  ⟨fun hl => by
    obtain ⟨b, off, e, hbl, hc⟩ := h.here hl
    exact ⟨b, off, e, Nat.lt_of_lt_of_le hbl hb.size, fun i x hx j v hv => (hb.cell (p := ⟨b, off + i * k + j, none⟩) hbl).trans (hc i x hx j v hv)⟩⟩
theorem Rw.at {α : Type} {C : α → List Value} {k : Nat} {w : World} {a : Option Addr} {l : List α} (h : Rw C k w a l) {i : Nat} {x : α} (hx : l[i]? = some x) :
    ∃ b off, a = some ⟨b, off, none⟩ ∧ b < w.heap.size ∧ ∀ j v, (C x)[j]? = some v → w.cell? ⟨b, off + i * k + j, none⟩ = some v := by
  obtain ⟨b, off, e, hb, hc⟩ := h.here (by have := (List.getElem?_eq_some_iff.1 hx).1; omega)
  exact ⟨b, off, e, hb, hc i x hx⟩
/-- at a place that is known -/
theorem Rw.on {α : Type} {C : α → List Value} {k : Nat} {w : World} {b off : Nat} {l : List α} (h : Rw C k w (some ⟨b, off, none⟩) l) {i : Nat} {x : α} (hx : l[i]? = some x) :
    ∀ j v, (C x)[j]? = some v → w.cell? ⟨b, off + i * k + j, none⟩ = some v := by
  obtain ⟨b', off', e, _, hc⟩ := h.at hx
  injection e with e
  injection e with e1 e2
  subst e1 e2
  exact hc
def smC (s : Sm) : List Value := [.int .i64 s.tm, .int .i64 s.x, .int .i64 s.y, .int .i64 s.z, .int .i64 s.pu, .int .i64 s.po, .int .i64 s.st]
def smV (s : Sm) : Value := .agg #[.int .i64 s.tm, .int .i64 s.x, .int .i64 s.y, .int .i64 s.z, .int .i64 s.pu, .int .i64 s.po, .int .i64 s.st]
def lpC (p : Lp) : List Value := [.int .i64 p.f, .int .i64 p.t, .string p.s]
def lpV (p : Lp) : Value := .agg #[.int .i64 p.f, .int .i64 p.t, .string p.s]
def tgC (s : ByteArray) : List Value := [.string s]
/-- an activity as a value -/
def actV (A : Acv) (a b c : Option Addr) (ca cb cc : Nat) : Value := .agg #[.string A.name, .int .i64 A.sport, .int .i64 A.start, .slice a A.sm.length ca, .slice b A.lp.length cb, .slice c A.tg.length cc]
structure ActIn (w : World) (A : Acv) (a b c : Option Addr) : Prop where
  sm : Rw smC 7 w a A.sm
  lp : Rw lpC 3 w b A.lp
  tg : Rw tgC 1 w c A.tg
  name : A.name.size ≤ maxLen
  titles : ∀ p, p ∈ A.lp → p.s.size ≤ maxLen
  tags : ∀ s, s ∈ A.tg → s.size ≤ maxLen
  nsm : (A.sm.length : Int) ≤ 9223372036854775807
  nlp : (A.lp.length : Int) ≤ 9223372036854775807
  ntg : (A.tg.length : Int) ≤ 9223372036854775807
theorem ActIn.below {w w' : World} {A : Acv} {a b c : Option Addr} (h : ActIn w A a b c) (hb : Below w.heap.size w w') : ActIn w' A a b c :=
  ⟨h.sm.below hb, h.lp.below hb, h.tg.below hb, h.name, h.titles, h.tags, h.nsm, h.nlp, h.ntg⟩
set_option maxHeartbeats 4000000 in
theorem inRange_any (s : Sm) (w : World) : Calls Try.prog 12 #[smV s] w fun e w' => e = .returned (.bool (rangeS s)) ∧ Below w.heap.size w w' := by
  have D0 := Lib.hid (fun W => rcin_any s.x (-100000000) 100000000 W)
  have D1 := Lib.hid (fun W => rcin_any s.y (-100000000) 100000000 W)
  have D2 := Lib.hid (fun W => rcin_any s.z (-100000) 100000 W)
  have D3 := Lib.hid (fun W => rcin_any s.pu (-1) 300 W)
  have D4 := Lib.hid (fun W => rcin_any s.po (-1) 3000 W)
  have D5 := Lib.hid (fun W => rcin_any s.st (-1) 300 W)
  unfold rangeS smV
  generalize inR s.x (-100000000) 100000000 = b0 at *
  generalize inR s.y (-100000000) 100000000 = b1 at *
  generalize inR s.z (-100000) 100000 = b2 at *
  generalize inR s.pu (-1) 300 = b3 at *
  generalize inR s.po (-1) 3000 = b4 at *
  generalize inR s.st (-1) 300 = b5 at *
  cases b0
  · clear D1 D2 D3 D4 D5
    go_enter Try.func12, Try.ntmps12
    go_wp2_with fail
    refine (D0.out _).mono ?_
    rintro e w1 ⟨rfl, rfl⟩
    go_wp2_with fail
    go_ret
    exact ⟨ret_bool (by simp), below_al w _⟩
  · skip
    cases b1
    · clear D2 D3 D4 D5
      go_enter Try.func12, Try.ntmps12
      go_wp2_with fail
      refine (D0.out _).mono ?_
      rintro e w1 ⟨rfl, rfl⟩
      go_wp2_with fail
      refine (D1.out _).mono ?_
      rintro e w1 ⟨rfl, rfl⟩
      go_wp2_with fail
      go_ret
      exact ⟨ret_bool (by simp), below_al w _⟩
    · skip
      cases b2
      · clear D3 D4 D5
        go_enter Try.func12, Try.ntmps12
        go_wp2_with fail
        refine (D0.out _).mono ?_
        rintro e w1 ⟨rfl, rfl⟩
        go_wp2_with fail
        refine (D1.out _).mono ?_
        rintro e w1 ⟨rfl, rfl⟩
        go_wp2_with fail
        refine (D2.out _).mono ?_
        rintro e w1 ⟨rfl, rfl⟩
        go_wp2_with fail
        go_ret
        exact ⟨ret_bool (by simp), below_al w _⟩
      · skip
        cases b3
        · clear D4 D5
          go_enter Try.func12, Try.ntmps12
          go_wp2_with fail
          refine (D0.out _).mono ?_
          rintro e w1 ⟨rfl, rfl⟩
          go_wp2_with fail
          refine (D1.out _).mono ?_
          rintro e w1 ⟨rfl, rfl⟩
          go_wp2_with fail
          refine (D2.out _).mono ?_
          rintro e w1 ⟨rfl, rfl⟩
          go_wp2_with fail
          refine (D3.out _).mono ?_
          rintro e w1 ⟨rfl, rfl⟩
          go_wp2_with fail
          go_ret
          exact ⟨ret_bool (by simp), below_al w _⟩
        · skip
          cases b4
          · clear D5
            go_enter Try.func12, Try.ntmps12
            go_wp2_with fail
            refine (D0.out _).mono ?_
            rintro e w1 ⟨rfl, rfl⟩
            go_wp2_with fail
            refine (D1.out _).mono ?_
            rintro e w1 ⟨rfl, rfl⟩
            go_wp2_with fail
            refine (D2.out _).mono ?_
            rintro e w1 ⟨rfl, rfl⟩
            go_wp2_with fail
            refine (D3.out _).mono ?_
            rintro e w1 ⟨rfl, rfl⟩
            go_wp2_with fail
            refine (D4.out _).mono ?_
            rintro e w1 ⟨rfl, rfl⟩
            go_wp2_with fail
            go_ret
            exact ⟨ret_bool (by simp), below_al w _⟩
          · skip
            cases b5
            · skip
              go_enter Try.func12, Try.ntmps12
              go_wp2_with fail
              refine (D0.out _).mono ?_
              rintro e w1 ⟨rfl, rfl⟩
              go_wp2_with fail
              refine (D1.out _).mono ?_
              rintro e w1 ⟨rfl, rfl⟩
              go_wp2_with fail
              refine (D2.out _).mono ?_
              rintro e w1 ⟨rfl, rfl⟩
              go_wp2_with fail
              refine (D3.out _).mono ?_
              rintro e w1 ⟨rfl, rfl⟩
              go_wp2_with fail
              refine (D4.out _).mono ?_
              rintro e w1 ⟨rfl, rfl⟩
              go_wp2_with fail
              refine (D5.out _).mono ?_
              rintro e w1 ⟨rfl, rfl⟩
              go_wp2_with fail
              go_ret
              exact ⟨ret_bool (by simp), below_al w _⟩
            · skip
              go_enter Try.func12, Try.ntmps12
              go_wp2_with fail
              refine (D0.out _).mono ?_
              rintro e w1 ⟨rfl, rfl⟩
              go_wp2_with fail
              refine (D1.out _).mono ?_
              rintro e w1 ⟨rfl, rfl⟩
              go_wp2_with fail
              refine (D2.out _).mono ?_
              rintro e w1 ⟨rfl, rfl⟩
              go_wp2_with fail
              refine (D3.out _).mono ?_
              rintro e w1 ⟨rfl, rfl⟩
              go_wp2_with fail
              refine (D4.out _).mono ?_
              rintro e w1 ⟨rfl, rfl⟩
              go_wp2_with fail
              refine (D5.out _).mono ?_
              rintro e w1 ⟨rfl, rfl⟩
              go_wp2_with fail
              go_ret
              exact ⟨ret_bool (by simp), below_al w _⟩
end Go.Proofs.Ytkejjlghelnfjaa

/- Check of an activity, of the program. (printed by wip/t/gen_tfd.py) -/
namespace Go.Proofs.Ytkejjlghelnfjaa
open Go.RowKit Go.BigFrame
open Tr (inR)

theorem errS_ord {start : Int} {l : List Sm} {k : Nat} {s : Sm} (hx : l[k]? = some s) (ho : ordS l k s.tm = true) : errS start l k = 10 := by
  unfold errS
  rw [hx]
  simp only
  rw [if_pos ho]
theorem errS_far {start : Int} {l : List Sm} {k : Nat} {s : Sm} (hx : l[k]? = some s) (ho : ordS l k s.tm = false) (h : 1000000 < s.tm ∨ 86399999999 < start + s.tm ∨ rangeS s = false) : errS start l k = 9 := by
  unfold errS
  rw [hx]
  simp only
  rw [if_neg (by rw [ho]; simp), if_pos h]
theorem errS_ok {start : Int} {l : List Sm} {k : Nat} {s : Sm} (hx : l[k]? = some s) (ho : ordS l k s.tm = false) (h1 : ¬ 1000000 < s.tm) (h2 : ¬ 86399999999 < start + s.tm) (h3 : rangeS s = true) : errS start l k = 0 := by
  unfold errS
  rw [hx]
  simp only
  rw [if_neg (by rw [ho]; simp), if_neg (fun h => by rcases h with h | h | h; exact h1 h; exact h2 h; rw [h3] at h; cases h)]
theorem errS_next {start : Int} {l : List Sm} {k : Nat} (h : ∀ i, i < k → errS start l i = 0) (h0 : errS start l k = 0) : ∀ i, i < k + 1 → errS start l i = 0 := fun i hi => by
  by_cases e : i = k
  · rw [e]; exact h0
  · exact h i (by omega)
theorem errS_nonneg {start : Int} {l : List Sm} {k : Nat} (h : ∀ i, i < k → errS start l i = 0) : ∀ (i : Nat) (s : Sm), i < k → l[i]? = some s → 0 ≤ s.tm
  | 0, s, hi, hs => by
    have := h 0 hi
    unfold errS at this
    rw [hs] at this
    simp only at this
    split at this
    · cases this
    · rename_i ho
      unfold ordS at ho
      simp at ho
      omega
  | i + 1, s, hi, hs => by
    obtain ⟨p, hp⟩ : ∃ p, l[i]? = some p := ⟨_, List.getElem?_eq_getElem (by have := (List.getElem?_eq_some_iff.1 hs).1; omega)⟩
    have hp0 := errS_nonneg h i p (by omega) hp
    have := h (i + 1) hi
    unfold errS at this
    rw [hs] at this
    simp only at this
    split at this
    · cases this
    · rename_i ho
      unfold ordS at ho
      rw [if_neg (by omega), Nat.add_sub_cancel, hp] at ho
      simp at ho
      omega
theorem ordS_succ {l : List Sm} {j : Nat} {p : Sm} {t : Int} (hp : l[j]? = some p) : ordS l (j + 1) t = decide (t ≤ p.tm) := by
  unfold ordS
  rw [if_neg (by omega), Nat.add_sub_cancel, hp]
theorem errL_9 {span : Int} {l : List Lp} {k : Nat} {p : Lp} (hx : l[k]? = some p) (h : p.f < 0 ∨ p.t ≤ p.f ∨ span < p.t) : errL span l k = 9 := by
  unfold errL
  rw [hx]
  simp only
  rw [if_pos h]
theorem errL_ord {span : Int} {l : List Lp} {k : Nat} {p : Lp} (hx : l[k]? = some p) (h : ¬ (p.f < 0 ∨ p.t ≤ p.f ∨ span < p.t)) (ho : ordL l k p.f = true) : errL span l k = 10 := by
  unfold errL
  rw [hx]
  simp only
  rw [if_neg h, if_pos ho]
theorem errL_title {span : Int} {l : List Lp} {k : Nat} {p : Lp} {b : Bool} (hx : l[k]? = some p) (h : ¬ (p.f < 0 ∨ p.t ≤ p.f ∨ span < p.t)) (ho : ordL l k p.f = false) (hb : titleB p.s = b) : errL span l k = if b = true then 0 else 8 := by
  unfold errL
  rw [hx]
  simp only
  rw [if_neg h, if_neg (by rw [ho]; simp), hb]
theorem ordL_succ {l : List Lp} {j : Nat} {p : Lp} {t : Int} (hp : l[j]? = some p) : ordL l (j + 1) t = decide (t < p.t) := by
  unfold ordL
  rw [if_neg (by omega), Nat.add_sub_cancel, hp]
theorem errT_name {l : List ByteArray} {k : Nat} {s : ByteArray} (hx : l[k]? = some s) (h : nameB s = false) : errT l k = 8 := by
  unfold errT
  rw [hx]
  simp only
  rw [if_pos h]
theorem errT_ord {l : List ByteArray} {k : Nat} {s : ByteArray} {b : Bool} (hx : l[k]? = some s) (h : nameB s = true) (ho : ordT l k s = b) : errT l k = if b = true then 10 else 0 := by
  unfold errT
  rw [hx]
  simp only
  rw [if_neg (by rw [h]; simp), ho]
theorem ordT_succ {l : List ByteArray} {j : Nat} {p s : ByteArray} (hp : l[j]? = some p) : ordT l (j + 1) s = !Op.bytesLess p.toList s.toList := by
  unfold ordT
  rw [if_neg (by omega), Nat.add_sub_cancel, hp]
theorem bytesLe : ∀ a b : List UInt8, (Op.bytesLess a b || (a == b)) = !Op.bytesLess b a
  | [], [] => rfl
  | [], _ :: _ => rfl
  | _ :: _, [] => rfl
  | x :: a, y :: b => by
    have ih := bytesLe a b
    rw [Op.bytesLess, Op.bytesLess, List.cons_beq_cons]
    by_cases h1 : x < y
    · have h2 : ¬ y < x := fun h2 => by
        rw [UInt8.lt_iff_toNat_lt] at h1 h2
        omega
      have h3 : (y == x) = false := by
        rw [beq_eq_false_iff_ne]
        rintro rfl
        exact h2 h1
      simp [h1, h2, h3]
    · by_cases h2 : y < x
      · have h3 : (x == y) = false := by
          rw [beq_eq_false_iff_ne]
          rintro rfl
          exact h1 h2
        simp [h1, h2, h3]
      · have h3 : x = y := by
          rw [← UInt8.toNat_inj]
          rw [UInt8.lt_iff_toNat_lt] at h1 h2
          omega
        subst h3
        simp [h1, ih]
theorem chkR_1 {A : Acv} {e : Int} (h : chkSs A = e) (he : e ≠ 0) : chkR A = e := by
  unfold chkR
  rw [h, if_neg he]
theorem chkR_2 {A : Acv} {e : Int} (h0 : chkSs A = 0) (h : chkLs A = e) (he : e ≠ 0) : chkR A = e := by
  unfold chkR
  rw [h0, if_pos rfl, h, if_neg he]
theorem chkR_3 {A : Acv} {e : Int} (h0 : chkSs A = 0) (h1 : chkLs A = 0) (h : chkTs A = e) : chkR A = e := by
  unfold chkR
  rw [h0, if_pos rfl, h1, if_pos rfl, h]
/-- Span of an activity -/
theorem spanS_at {l : List Sm} {j : Nat} {s : Sm} (hn : l.length = j + 1) (hs : l[j]? = some s) : spanS l = s.tm := by
  unfold spanS
  rw [hn, Nat.add_sub_cancel, hs]
set_option maxHeartbeats 1000000 in
theorem span_any (A : Acv) (a b c : Option Addr) (ca cb cc : Nat) (w : World) (h : Rw smC 7 w a A.sm) (hl : (A.sm.length : Int) ≤ 9223372036854775807) :
    Calls Try.prog 13 #[actV A a b c ca cb cc] w fun e w' => e = .returned (.int .i64 (spanS A.sm)) ∧ Below w.heap.size w w' := by
  unfold actV
  obtain ⟨n, hn⟩ : ∃ n, A.sm.length = n := ⟨_, rfl⟩
  rw [hn] at hl ⊢
  generalize A.lp.length = m
  generalize A.tg.length = t
  cases n with
  | zero =>
    have HV := Lib.hid (show spanS A.sm = 0 by unfold spanS; rw [List.length_eq_zero_iff.1 hn]; rfl)
    clear hn
    go_enter Try.func13, Try.ntmps13
    go_wp2_with fail
    go_ret
    exact ⟨ret_int HV.out.symm, below_al w _⟩
  | succ j =>
    obtain ⟨s, hs⟩ : ∃ s, A.sm[j]? = some s := ⟨_, List.getElem?_eq_getElem (by omega)⟩
    obtain ⟨ba, oa, rfl, hba, hc⟩ := h.at hs
    have c0 : w.cell? ⟨ba, oa + j * 7, none⟩ = some (.int .i64 s.tm) := hc 0 _ rfl
    have HV := Lib.hid (spanS_at hn hs)
    have hl' : (j : Int) ≤ 9223372036854775806 := by omega
    clear hl
    have hwr : IntKind.i64.wrap ((j : Int) + 1 - 1) = (j : Int) := by rw [IntKind.wrap_i64]; omega
    have hsub : (j : Int) + 1 - 1 = (j : Int) := by omega
    obtain ⟨V0, hV0, hb0, hs0, hl0⟩ := alloc_cells w #[.string A.name, .int .i64 A.sport, .int .i64 A.start, .slice (some ⟨ba, oa, none⟩) (j + 1) ca, .slice b m cb, .slice c t cc] 26
    have B3 := Ext.ex (hl0 3 _ rfl)
    have C0 := Ext.ex (below_cell hb0 c0)
    have HV0 := Lib.hid hV0
    have HB0 := Lib.hid hb0
    have HS0 := Lib.hid (show w.heap.size ≤ V0.heap.size by omega)
    clear hs hc c0 hV0 hb0 hs0 hl0 hn h
    go_enter Try.func13, Try.ntmps13
    go_upto_region 1 with (fail)
    rw [HV0.out]
    refine ext_wp fun X => ?_
    go_wp2_with fail
    go_ret
    exact ⟨ret_int HV.out.symm, X.down HB0.out HS0.out⟩
/-- Check, but the rows -/
def ChkG (A : Acv) (a b c : Option Addr) (ca cb cc : Nat) (w : World) : Prop := Calls Try.prog 4 #[actV A a b c ca cb cc] w fun e w' => e = .returned (.int .i64 (chkA A)) ∧ Below w.heap.size w w'
set_option maxHeartbeats 8000000 in
set_option maxRecDepth 100000 in
theorem check_any (A : Acv) (a b c : Option Addr) (ca cb cc : Nat) (w : World) (h : ActIn w A a b c) : ChkG A a b c ca cb cc w := by
  have DN := Lib.hid (fun W => isName_any A.name W h.name)
  have D1 := Lib.hid (fun W => rcin_any A.sport 1 5 W)
  have D2 := Lib.hid (fun W => rcin_any A.start 0 86399999999 W)
  have HS := Lib.hid h.sm
  have HL := Lib.hid h.lp
  have HT := Lib.hid h.tg
  have HTI := Lib.hid h.titles
  have HTA := Lib.hid h.tags
  have hn1 := h.nsm
  have hm1 := h.nlp
  have ht1 := h.ntg
  unfold ChkG
  have DSP := Lib.hid (fun (W : World) (h : Rw smC 7 W a A.sm) => span_any A a b c ca cb cc W h hn1)
  unfold actV at *
  have HV : Hid (chkA A = if nameB A.name = false then 8 else if inR A.sport 1 5 = false then 7 else if inR A.start 0 86399999999 = false then 9
    else if 20000 < A.sm.length ∨ 200 < A.lp.length ∨ 20 < A.tg.length then 3 else chkR A) := Lib.hid rfl
  obtain ⟨n, hn⟩ : ∃ n, A.sm.length = n := ⟨_, rfl⟩
  obtain ⟨m, hm⟩ : ∃ n, A.lp.length = n := ⟨_, rfl⟩
  obtain ⟨t, ht⟩ : ∃ n, A.tg.length = n := ⟨_, rfl⟩
  have HN := Lib.hid (And.intro hn (And.intro hm ht))
  rw [hn, hm, ht] at HV DSP ⊢
  rw [hn] at hn1
  rw [hm] at hm1
  rw [ht] at ht1
  have HST := Lib.hid (fun (h : inR A.start 0 86399999999 = true) => inR_iff.1 h)
  generalize nameB A.name = bn at *
  generalize inR A.sport 1 5 = b1 at *
  generalize inR A.start 0 86399999999 = b2 at *
  obtain ⟨V0, hV0, hb0, hs0, hl0⟩ := alloc_cells w #[.string A.name, .int .i64 A.sport, .int .i64 A.start, .slice a n ca, .slice b m cb, .slice c t cc] 26
  have B0 := Ext.ex (hl0 0 _ rfl)
  have B1 := Ext.ex (hl0 1 _ rfl)
  have B2 := Ext.ex (hl0 2 _ rfl)
  have B3 := Ext.ex (hl0 3 _ rfl)
  have B4 := Ext.ex (hl0 4 _ rfl)
  have B5 := Ext.ex (hl0 5 _ rfl)
  have HV0 := Lib.hid hV0
  have HB0 := Lib.hid hb0
  have HS0 := Lib.hid (show w.heap.size ≤ V0.heap.size by omega)
  clear hV0 hb0 hs0 hl0 h hn hm ht
  cases bn
  · clear HS HL HT HTI HTA D1 D2 DSP HST
    have HF := Lib.hid (HV.out.trans (if_pos rfl))
    go_enter Try.func4, Try.ntmps4
    go_upto_region 1 with (fail)
    rw [HV0.out]
    refine ext_wp fun X => ?_
    go_wp2_with fail
    refine (DN.out _).mono ?_
    rintro e w1 ⟨rfl, rfl⟩
    go_wp2_with fail
    go_ret
    exact ⟨ret_int (HF.out).symm, X.down HB0.out HS0.out⟩
  have HV := Lib.hid (HV.out.trans (if_neg (by simp)))
  cases b1
  · clear HS HL HT HTI HTA D2 DSP HST
    have HF := Lib.hid (HV.out.trans (if_pos rfl))
    go_enter Try.func4, Try.ntmps4
    go_upto_region 1 with (fail)
    rw [HV0.out]
    refine ext_wp fun X => ?_
    go_wp2_with fail
    refine (DN.out _).mono ?_
    rintro e w1 ⟨rfl, rfl⟩
    go_wp2_with fail
    refine (D1.out _).mono ?_
    rintro e w1 ⟨rfl, rfl⟩
    go_wp2_with fail
    go_ret
    exact ⟨ret_int (HF.out).symm, X.down HB0.out HS0.out⟩
  have HV := Lib.hid (HV.out.trans (if_neg (by simp)))
  cases b2
  · clear HS HL HT HTI HTA DSP HST
    have HF := Lib.hid (HV.out.trans (if_pos rfl))
    go_enter Try.func4, Try.ntmps4
    go_upto_region 1 with (fail)
    rw [HV0.out]
    refine ext_wp fun X => ?_
    go_wp2_with fail
    refine (DN.out _).mono ?_
    rintro e w1 ⟨rfl, rfl⟩
    go_wp2_with fail
    refine (D1.out _).mono ?_
    rintro e w1 ⟨rfl, rfl⟩
    go_wp2_with fail
    refine (D2.out _).mono ?_
    rintro e w1 ⟨rfl, rfl⟩
    go_wp2_with fail
    go_ret
    exact ⟨ret_int (HF.out).symm, X.down HB0.out HS0.out⟩
  have HV := Lib.hid (HV.out.trans (if_neg (by simp)))
  obtain ⟨hst1, hst2⟩ := HST.out rfl
  clear HST
  by_cases h0 : 20000 < n
  case pos =>
    have q0 : decide ((20000 : Int) < (n : Int)) = true := by rw [decide_eq_true_eq]; omega
    have q0' : decide (20000 < n) = true := by rw [decide_eq_true_eq]; omega
    have HF := Lib.hid (HV.out.trans (if_pos (by omega)))
    clear h0 HS HL HT HTI HTA DSP
    go_enter Try.func4, Try.ntmps4
    go_upto_region 1 with (fail)
    rw [HV0.out]
    refine ext_wp fun X => ?_
    go_wp2_with fail
    refine (DN.out _).mono ?_
    rintro e w1 ⟨rfl, rfl⟩
    go_wp2_with fail
    refine (D1.out _).mono ?_
    rintro e w1 ⟨rfl, rfl⟩
    go_wp2_with fail
    refine (D2.out _).mono ?_
    rintro e w1 ⟨rfl, rfl⟩
    go_wp2_with fail
    go_ret
    exact ⟨ret_int (HF.out).symm, X.down HB0.out HS0.out⟩
  have q0 : decide ((20000 : Int) < (n : Int)) = false := by rw [decide_eq_false_iff_not]; omega
  have q0' : decide (20000 < n) = false := by rw [decide_eq_false_iff_not]; omega
  by_cases h1 : 200 < m
  case pos =>
    have q1 : decide ((200 : Int) < (m : Int)) = true := by rw [decide_eq_true_eq]; omega
    have q1' : decide (200 < m) = true := by rw [decide_eq_true_eq]; omega
    have HF := Lib.hid (HV.out.trans (if_pos (by omega)))
    clear h0 h1 HS HL HT HTI HTA DSP
    go_enter Try.func4, Try.ntmps4
    go_upto_region 1 with (fail)
    rw [HV0.out]
    refine ext_wp fun X => ?_
    go_wp2_with fail
    refine (DN.out _).mono ?_
    rintro e w1 ⟨rfl, rfl⟩
    go_wp2_with fail
    refine (D1.out _).mono ?_
    rintro e w1 ⟨rfl, rfl⟩
    go_wp2_with fail
    refine (D2.out _).mono ?_
    rintro e w1 ⟨rfl, rfl⟩
    go_wp2_with fail
    go_ret
    exact ⟨ret_int (HF.out).symm, X.down HB0.out HS0.out⟩
  have q1 : decide ((200 : Int) < (m : Int)) = false := by rw [decide_eq_false_iff_not]; omega
  have q1' : decide (200 < m) = false := by rw [decide_eq_false_iff_not]; omega
  by_cases h2 : 20 < t
  case pos =>
    have q2 : decide ((20 : Int) < (t : Int)) = true := by rw [decide_eq_true_eq]; omega
    have q2' : decide (20 < t) = true := by rw [decide_eq_true_eq]; omega
    have HF := Lib.hid (HV.out.trans (if_pos (by omega)))
    clear h0 h1 h2 HS HL HT HTI HTA DSP
    go_enter Try.func4, Try.ntmps4
    go_upto_region 1 with (fail)
    rw [HV0.out]
    refine ext_wp fun X => ?_
    go_wp2_with fail
    refine (DN.out _).mono ?_
    rintro e w1 ⟨rfl, rfl⟩
    go_wp2_with fail
    refine (D1.out _).mono ?_
    rintro e w1 ⟨rfl, rfl⟩
    go_wp2_with fail
    refine (D2.out _).mono ?_
    rintro e w1 ⟨rfl, rfl⟩
    go_wp2_with fail
    go_ret
    exact ⟨ret_int (HF.out).symm, X.down HB0.out HS0.out⟩
  have q2 : decide ((20 : Int) < (t : Int)) = false := by rw [decide_eq_false_iff_not]; omega
  have q2' : decide (20 < t) = false := by rw [decide_eq_false_iff_not]; omega
  have HV := Lib.hid (HV.out.trans (if_neg (by omega)))
  go_enter Try.func4, Try.ntmps4
  go_upto_region 1 with (fail)
  rw [HV0.out]
  refine ext_wp fun X => ?_
  go_wp2_with fail
  refine (DN.out _).mono ?_
  rintro e w1 ⟨rfl, rfl⟩
  go_wp2_with fail
  refine (D1.out _).mono ?_
  rintro e w1 ⟨rfl, rfl⟩
  go_wp2_with fail
  refine (D2.out _).mono ?_
  rintro e w1 ⟨rfl, rfl⟩
  go_wp2_with fail
  clear DN D1 D2 q0 q1 q2 q0' q1' q2'
  go_loopw [45] (fun iv wr => ∃ (k : Nat), iv = .int .i64 k ∧ k ≤ n ∧ Hid ((chkSs A = firstE (errS A.start A.sm) (n - k) k) ∧ ∀ i, i < k → errS A.start A.sm i = 0) ∧ ∃ X : Ext V0, wr = X.1) (fun iv _ => n - (intOf iv).toNat)
  case atStart => exact ⟨0, rfl, by omega, Lib.hid ⟨by unfold chkSs; rw [HN.out.1]; rfl, fun i hi => by omega⟩, X, rfl⟩
  case round =>
    obtain ⟨k, rfl, hk, HE, X, rfl⟩ := hrel
    by_cases hlt : k < n
    · have t2 : decide ((k : Int) < (n : Int)) = true := by rw [decide_eq_true_eq]; omega
      have t2' : decide (k < n) = true := by simpa using hlt
      obtain ⟨s, hx⟩ : ∃ s, A.sm[k]? = some s := ⟨_, List.getElem?_eq_getElem (by rw [HN.out.1]; exact hlt)⟩
      have HX := Lib.hid (HS.out.below (below_step HB0.out X.2))
      obtain ⟨ba, oa, rfl, hba, hc⟩ := HX.out.at hx
      have c0 : X.1.cell? ⟨ba, oa + k * 7, none⟩ = some (.int .i64 s.tm) := hc 0 _ rfl
      have c1 := hc 1 _ rfl
      have c2 := hc 2 _ rfl
      have c3 := hc 3 _ rfl
      have c4 := hc 4 _ rfl
      have c5 := hc 5 _ rfl
      have c6 := hc 6 _ rfl
      obtain ⟨V1, hV1, hvb, hvs, hvl⟩ := alloc_cells X.1 #[.int .i64 s.tm, .int .i64 s.x, .int .i64 s.y, .int .i64 s.z, .int .i64 s.pu, .int .i64 s.po, .int .i64 s.st] 37
      have u0 := hvl 0 _ rfl
      have u1 := hvl 1 _ rfl
      have u2 := hvl 2 _ rfl
      have u3 := hvl 3 _ rfl
      have u4 := hvl 4 _ rfl
      have u5 := hvl 5 _ rfl
      have u6 := hvl 6 _ rfl
      obtain ⟨Z, rfl⟩ : ∃ Z : Ext V0, V1 = Z.1 := ⟨⟨V1, below_step X.2 hvb⟩, rfl⟩
      have HV1 := Lib.hid hV1
      have HG := Lib.hid (firstE_go hlt HE.out.1)
      have HP := Lib.hid HE.out.2
      have HHX := Lib.hid hx
      have DR := Lib.hid (fun W => inRange_any s W)
      unfold smV at DR
      clear hV1 hvs hvl HE hc hx
      have hk20 : n ≤ 20000 := by omega
      obtain rfl | ⟨j, rfl⟩ : k = 0 ∨ ∃ j, k = j + 1 := by cases k; exact Or.inl rfl; exact Or.inr ⟨_, rfl⟩
      · skip
        simp only [Nat.zero_mul, Nat.add_zero] at c0 c1 c2 c3 c4 c5 c6
        have U0 := Ext.ex u0
        have U1 := Ext.ex u1
        have U2 := Ext.ex u2
        have U3 := Ext.ex u3
        have U4 := Ext.ex u4
        have U5 := Ext.ex u5
        have U6 := Ext.ex u6
        have B2' := Ext.re Z.2 B2
        have HO : Hid (ordS A.sm 0 s.tm = decide (s.tm ≠ 0)) := Lib.hid rfl
        by_cases ho : s.tm = 0
        case neg =>
          have b0 := bneT ho
          have b0' := beqF ho
          have HF := Lib.hid (HV.out.trans (chkR_1 ((HG.out.1 (by rw [errS_ord HHX.out (HO.out.trans (by simpa using ho))]; decide)).trans (errS_ord HHX.out (HO.out.trans (by simpa using ho)))) (by decide)))
          clear ho HG HO HHX DR HS HL HT HTI HTA DSP
          go_wp2_with fail
          rw [HV1.out]
          go_wp2_with fail
          go_ret
          exact ⟨ret_int HF.out.symm, Z.down HB0.out HS0.out⟩
        have b0 := bneF ho
        have b0' := beqT ho
        have HO : Hid (ordS A.sm 0 s.tm = false) := Lib.hid (HO.out.trans (by simpa using ho))
        by_cases f1 : 1000000 < s.tm
        case pos =>
          have d1 : decide ((1000000 : Int) < s.tm) = true := decide_eq_true f1
          have HF := Lib.hid (HV.out.trans (chkR_1 ((HG.out.1 (by rw [errS_far HHX.out HO.out (Or.inl f1)]; decide)).trans (errS_far HHX.out HO.out (Or.inl f1))) (by decide)))
          clear f1 ho HG HO HHX DR HS HL HT HTI HTA DSP
          go_wp2_with fail
          rw [HV1.out]
          go_wp2_with fail
          refine wp_region_ext (W := Z.1) ⟨Z.1, Below.refl _ _⟩ (by kernel_rfl) (by kernel_rfl) ?_
          repeat go_big_quiet_step (fail)
          refine wpQuiet_nil ?_
          rintro _ ⟨Y, rfl⟩
          go_wp2_with fail
          go_ret
          exact ⟨ret_int HF.out.symm, below_step (below_step HB0.out Z.2) Y.2⟩
        have d1 : decide ((1000000 : Int) < s.tm) = false := decide_eq_false f1
        have hs1 : 0 ≤ s.tm := by omega
        have hs2 : s.tm ≤ 1000000 := by omega
        by_cases f2 : 86399999999 < A.start + s.tm
        case pos =>
          have d2 : decide ((86399999999 : Int) < A.start + s.tm) = true := decide_eq_true f2
          have HF := Lib.hid (HV.out.trans (chkR_1 ((HG.out.1 (by rw [errS_far HHX.out HO.out (Or.inr (Or.inl f2))]; decide)).trans (errS_far HHX.out HO.out (Or.inr (Or.inl f2)))) (by decide)))
          clear f1 f2 ho HG HO HHX DR HS HL HT HTI HTA DSP
          go_wp2_with fail
          rw [HV1.out]
          go_wp2_with fail
          refine wp_region_ext (W := Z.1) ⟨Z.1, Below.refl _ _⟩ (by kernel_rfl) (by kernel_rfl) ?_
          repeat go_big_quiet_step (fail)
          refine wpQuiet_nil ?_
          rintro _ ⟨Y, rfl⟩
          go_wp2_with fail
          go_ret
          exact ⟨ret_int HF.out.symm, below_step (below_step HB0.out Z.2) Y.2⟩
        have d2 : decide ((86399999999 : Int) < A.start + s.tm) = false := decide_eq_false f2
        have HRG := Lib.hid (fun (h : rangeS s = false) => errS_far (start := A.start) HHX.out HO.out (Or.inr (Or.inr h)))
        have HOK := Lib.hid (fun (h : rangeS s = true) => errS_ok HHX.out HO.out f1 f2 h)
        generalize rangeS s = br at *
        cases br
        · have HF := Lib.hid (HV.out.trans (chkR_1 ((HG.out.1 (by rw [HRG.out rfl]; decide)).trans (HRG.out rfl)) (by decide)))
          clear f1 f2 ho HG HO HHX HOK HRG HS HL HT HTI HTA DSP
          go_wp2_with fail
          rw [HV1.out]
          go_wp2_with fail
          refine wp_region_ext (W := Z.1) ⟨Z.1, Below.refl _ _⟩ (by kernel_rfl) (by kernel_rfl) ?_
          repeat go_big_quiet_step (fail)
          refine wpQuiet_nil ?_
          rintro _ ⟨Y, rfl⟩
          go_wp2_with fail
          refine (DR.out _).mono ?_
          rintro e w1 ⟨rfl, hbw⟩
          have HBW := Lib.hid (below_step (below_step (below_step HB0.out Z.2) Y.2) hbw)
          clear hbw
          go_wp2_with fail
          go_ret
          exact ⟨ret_int HF.out.symm, HBW.out⟩
        · have HF := Lib.hid (And.intro (HG.out.2 (HOK.out rfl)) (errS_next HP.out (HOK.out rfl)))
          clear f1 f2 ho HG HO HHX HOK HRG
          go_wp2_with fail
          rw [HV1.out]
          go_wp2_with fail
          refine wp_region_ext (W := Z.1) ⟨Z.1, Below.refl _ _⟩ (by kernel_rfl) (by kernel_rfl) ?_
          repeat go_big_quiet_step (fail)
          refine wpQuiet_nil ?_
          rintro _ ⟨Y, rfl⟩
          go_wp2_with fail
          refine (DR.out _).mono ?_
          rintro e w1 ⟨rfl, hbw⟩
          obtain ⟨Q, rfl⟩ : ∃ Q : Ext V0, w1 = Q.1 := ⟨⟨w1, below_step (below_step Z.2 Y.2) hbw⟩, rfl⟩
          clear hbw
          go_wp2_with fail
          go_roundw
          case rel => exact ⟨1, by go_num, by omega, HF, Q, rfl⟩
          case measure => simp [intOf]; omega
      · skip
        obtain ⟨p, hp⟩ : ∃ p, A.sm[j]? = some p := ⟨_, List.getElem?_eq_getElem (by have := HN.out.1; omega)⟩
        have P0 : ∀ Y : Ext Z.1, Y.1.cell? ⟨ba, oa + j * 7, none⟩ = some (.int .i64 p.tm) := Ext.ex (below_cell hvb (HX.out.on hp 0 _ rfl))
        have U0 := Ext.ex u0
        have U1 := Ext.ex u1
        have U2 := Ext.ex u2
        have U3 := Ext.ex u3
        have U4 := Ext.ex u4
        have U5 := Ext.ex u5
        have U6 := Ext.ex u6
        have B2' := Ext.re Z.2 B2
        have B3' := Ext.re Z.2 B3
        have HO := Lib.hid (ordS_succ (t := s.tm) hp)
        have e0 : (((j + 1 : Nat) : Int) == 0) = false := by rw [beq_eq_false_iff_ne]; omega
        have e0' : ((j : Int) + 1 == 0) = false := by rw [beq_eq_false_iff_ne]; omega
        have e1 : decide ((0 : Int) < (j : Int) + 1) = true := by rw [decide_eq_true_eq]; omega
        have hwr : IntKind.i64.wrap ((j : Int) + 1 - 1) = (j : Int) := by rw [IntKind.wrap_i64]; omega
        have hsub : (j : Int) + 1 - 1 = (j : Int) := by omega
        have hjn : j < n := by omega
        have HP2 := Lib.hid hp
        clear hp
        by_cases ho : s.tm ≤ p.tm
        case pos =>
          have b0 : decide (s.tm ≤ p.tm) = true := decide_eq_true ho
          have HF := Lib.hid (HV.out.trans (chkR_1 ((HG.out.1 (by rw [errS_ord HHX.out (HO.out.trans (by exact decide_eq_true ho))]; decide)).trans (errS_ord HHX.out (HO.out.trans (by exact decide_eq_true ho)))) (by decide)))
          clear ho HG HO HHX DR HS HL HT HTI HTA DSP
          go_wp2_with fail
          rw [HV1.out]
          go_wp2_with fail
          refine wp_region_ext (W := Z.1) ⟨Z.1, Below.refl _ _⟩ (by kernel_rfl) (by kernel_rfl) ?_
          repeat go_big_quiet_step (fail)
          refine wpQuiet_nil ?_
          rintro _ ⟨Y, rfl⟩
          go_wp2_with fail
          go_ret
          exact ⟨ret_int HF.out.symm, below_step (below_step HB0.out Z.2) Y.2⟩
        have b0 : decide (s.tm ≤ p.tm) = false := decide_eq_false ho
        have HO := Lib.hid (HO.out.trans (decide_eq_false ho))
        by_cases f1 : 1000000 < s.tm
        case pos =>
          have d1 : decide ((1000000 : Int) < s.tm) = true := decide_eq_true f1
          have HF := Lib.hid (HV.out.trans (chkR_1 ((HG.out.1 (by rw [errS_far HHX.out HO.out (Or.inl f1)]; decide)).trans (errS_far HHX.out HO.out (Or.inl f1))) (by decide)))
          clear f1 ho HG HO HHX DR HS HL HT HTI HTA DSP
          go_wp2_with fail
          rw [HV1.out]
          go_wp2_with fail
          refine wp_region_ext (W := Z.1) ⟨Z.1, Below.refl _ _⟩ (by kernel_rfl) (by kernel_rfl) ?_
          repeat go_big_quiet_step (fail)
          refine wpQuiet_nil ?_
          rintro _ ⟨Y, rfl⟩
          go_wp2_with fail
          go_ret
          exact ⟨ret_int HF.out.symm, below_step (below_step HB0.out Z.2) Y.2⟩
        have d1 : decide ((1000000 : Int) < s.tm) = false := decide_eq_false f1
        have hs1 : 0 ≤ s.tm := by have := errS_nonneg HP.out j p (by omega) HP2.out; omega
        have hs2 : s.tm ≤ 1000000 := by omega
        by_cases f2 : 86399999999 < A.start + s.tm
        case pos =>
          have d2 : decide ((86399999999 : Int) < A.start + s.tm) = true := decide_eq_true f2
          have HF := Lib.hid (HV.out.trans (chkR_1 ((HG.out.1 (by rw [errS_far HHX.out HO.out (Or.inr (Or.inl f2))]; decide)).trans (errS_far HHX.out HO.out (Or.inr (Or.inl f2)))) (by decide)))
          clear f1 f2 ho HG HO HHX DR HS HL HT HTI HTA DSP
          go_wp2_with fail
          rw [HV1.out]
          go_wp2_with fail
          refine wp_region_ext (W := Z.1) ⟨Z.1, Below.refl _ _⟩ (by kernel_rfl) (by kernel_rfl) ?_
          repeat go_big_quiet_step (fail)
          refine wpQuiet_nil ?_
          rintro _ ⟨Y, rfl⟩
          go_wp2_with fail
          go_ret
          exact ⟨ret_int HF.out.symm, below_step (below_step HB0.out Z.2) Y.2⟩
        have d2 : decide ((86399999999 : Int) < A.start + s.tm) = false := decide_eq_false f2
        have HRG := Lib.hid (fun (h : rangeS s = false) => errS_far (start := A.start) HHX.out HO.out (Or.inr (Or.inr h)))
        have HOK := Lib.hid (fun (h : rangeS s = true) => errS_ok HHX.out HO.out f1 f2 h)
        generalize rangeS s = br at *
        cases br
        · have HF := Lib.hid (HV.out.trans (chkR_1 ((HG.out.1 (by rw [HRG.out rfl]; decide)).trans (HRG.out rfl)) (by decide)))
          clear f1 f2 ho HG HO HHX HOK HRG HS HL HT HTI HTA DSP
          go_wp2_with fail
          rw [HV1.out]
          go_wp2_with fail
          refine wp_region_ext (W := Z.1) ⟨Z.1, Below.refl _ _⟩ (by kernel_rfl) (by kernel_rfl) ?_
          repeat go_big_quiet_step (fail)
          refine wpQuiet_nil ?_
          rintro _ ⟨Y, rfl⟩
          go_wp2_with fail
          refine (DR.out _).mono ?_
          rintro e w1 ⟨rfl, hbw⟩
          have HBW := Lib.hid (below_step (below_step (below_step HB0.out Z.2) Y.2) hbw)
          clear hbw
          go_wp2_with fail
          go_ret
          exact ⟨ret_int HF.out.symm, HBW.out⟩
        · have HF := Lib.hid (And.intro (HG.out.2 (HOK.out rfl)) (errS_next HP.out (HOK.out rfl)))
          clear f1 f2 ho HG HO HHX HOK HRG
          go_wp2_with fail
          rw [HV1.out]
          go_wp2_with fail
          refine wp_region_ext (W := Z.1) ⟨Z.1, Below.refl _ _⟩ (by kernel_rfl) (by kernel_rfl) ?_
          repeat go_big_quiet_step (fail)
          refine wpQuiet_nil ?_
          rintro _ ⟨Y, rfl⟩
          go_wp2_with fail
          refine (DR.out _).mono ?_
          rintro e w1 ⟨rfl, hbw⟩
          obtain ⟨Q, rfl⟩ : ∃ Q : Ext V0, w1 = Q.1 := ⟨⟨w1, below_step (below_step Z.2 Y.2) hbw⟩, rfl⟩
          clear hbw
          go_wp2_with fail
          go_roundw
          case rel => exact ⟨j + 1 + 1, by go_num, by omega, HF, Q, rfl⟩
          case measure => simp [intOf]; omega
    · have t2 : decide ((k : Int) < (n : Int)) = false := by rw [decide_eq_false_iff_not]; omega
      have t2' : decide (k < n) = false := by simpa using hlt
      have HSS := Lib.hid (firstE_end (by omega) HE.out.1)
      have HXX := Lib.hid (HS.out.below (below_step HB0.out X.2))
      clear HE hlt hk HS
      go_wp2_with fail
      refine (DSP.out _ HXX.out).mono ?_
      rintro e w1 ⟨rfl, hbw⟩
      obtain ⟨X, rfl⟩ : ∃ Q : Ext V0, w1 = Q.1 := ⟨⟨w1, below_step X.2 hbw⟩, rfl⟩
      clear hbw DSP HXX t2 t2'
      obtain ⟨sp, hsp⟩ : ∃ sp, spanS A.sm = sp := ⟨_, rfl⟩
      have HSP := Lib.hid hsp
      rw [hsp]
      clear hsp
      go_wp2_with fail
      go_loopw [95] (fun iv wr => ∃ (k : Nat), iv = .int .i64 k ∧ k ≤ m ∧ Hid (chkLs A = firstE (errL sp A.lp) (m - k) k) ∧ ∃ X : Ext V0, wr = X.1) (fun iv _ => m - (intOf iv).toNat)
      case atStart => exact ⟨0, rfl, by omega, Lib.hid (by unfold chkLs; rw [HN.out.2.1, HSP.out]; rfl), X, rfl⟩
      case round =>
        obtain ⟨k, rfl, hk, HE, X, rfl⟩ := hrel
        by_cases hlt : k < m
        · have t2 : decide ((k : Int) < (m : Int)) = true := by rw [decide_eq_true_eq]; omega
          have t2' : decide (k < m) = true := by simpa using hlt
          obtain ⟨s, hx⟩ : ∃ s, A.lp[k]? = some s := ⟨_, List.getElem?_eq_getElem (by rw [HN.out.2.1]; exact hlt)⟩
          have HX := Lib.hid (HL.out.below (below_step HB0.out X.2))
          obtain ⟨ba, oa, rfl, hba, hc⟩ := HX.out.at hx
          have c0 : X.1.cell? ⟨ba, oa + k * 3, none⟩ = some (.int .i64 s.f) := hc 0 _ rfl
          have c1 := hc 1 _ rfl
          have c2 := hc 2 _ rfl
          obtain ⟨V1, hV1, hvb, hvs, hvl⟩ := alloc_cells X.1 #[.int .i64 s.f, .int .i64 s.t, .string s.s] 48
          have u0 := hvl 0 _ rfl
          have u1 := hvl 1 _ rfl
          have u2 := hvl 2 _ rfl
          obtain ⟨Z, rfl⟩ : ∃ Z : Ext V0, V1 = Z.1 := ⟨⟨V1, below_step X.2 hvb⟩, rfl⟩
          have HV1 := Lib.hid hV1
          have HG := Lib.hid (firstE_go hlt HE.out)
          have HHX := Lib.hid hx
          have DTI := Lib.hid (fun W => isTitle_any s.s W (HTI.out s (List.mem_of_getElem? hx)))
          clear hV1 hvs hvl HE hc hx
          have hk20 : m ≤ 200 := by omega
          have U0 := Ext.ex u0
          have U1 := Ext.ex u1
          have U2 := Ext.ex u2
          have B4' := Ext.re Z.2 B4
          obtain rfl | ⟨j, rfl⟩ : k = 0 ∨ ∃ j, k = j + 1 := by cases k; exact Or.inl rfl; exact Or.inr ⟨_, rfl⟩
          · simp only [Nat.zero_mul, Nat.add_zero] at c0 c1 c2
            have HO : Hid (ordL A.lp 0 s.f = false) := Lib.hid rfl
            by_cases g0 : s.f < 0
            case pos =>
              have d0 : decide (s.f < 0) = true := decide_eq_true g0
              have HF := Lib.hid (HV.out.trans (chkR_2 HSS.out ((HG.out.1 (by rw [errL_9 HHX.out (Or.inl g0)]; decide)).trans (errL_9 HHX.out (Or.inl g0))) (by decide)))
              clear g0 HG HHX DTI HL HT HTI HTA
              go_wp2_with fail
              rw [HV1.out]
              go_wp2_with fail
              go_ret
              exact ⟨ret_int HF.out.symm, Z.down HB0.out HS0.out⟩
            have d0 : decide (s.f < 0) = false := decide_eq_false g0
            by_cases g1 : s.t ≤ s.f
            case pos =>
              have d1 : decide (s.t ≤ s.f) = true := decide_eq_true g1
              have HF := Lib.hid (HV.out.trans (chkR_2 HSS.out ((HG.out.1 (by rw [errL_9 HHX.out (Or.inr (Or.inl g1))]; decide)).trans (errL_9 HHX.out (Or.inr (Or.inl g1)))) (by decide)))
              clear g0 g1 HG HHX DTI HL HT HTI HTA
              go_wp2_with fail
              rw [HV1.out]
              go_wp2_with fail
              go_ret
              exact ⟨ret_int HF.out.symm, Z.down HB0.out HS0.out⟩
            have d1 : decide (s.t ≤ s.f) = false := decide_eq_false g1
            by_cases g2 : sp < s.t
            case pos =>
              have d2 : decide (sp < s.t) = true := decide_eq_true g2
              have HF := Lib.hid (HV.out.trans (chkR_2 HSS.out ((HG.out.1 (by rw [errL_9 HHX.out (Or.inr (Or.inr g2))]; decide)).trans (errL_9 HHX.out (Or.inr (Or.inr g2)))) (by decide)))
              clear g0 g1 g2 HG HHX DTI HL HT HTI HTA
              go_wp2_with fail
              rw [HV1.out]
              go_wp2_with fail
              go_ret
              exact ⟨ret_int HF.out.symm, Z.down HB0.out HS0.out⟩
            have d2 : decide (sp < s.t) = false := decide_eq_false g2
            have HET := Lib.hid (fun (b : Bool) (hb : titleB s.s = b) => errL_title (span := sp) HHX.out (fun h => by omega) HO.out hb)
            generalize titleB s.s = bt at *
            cases bt
            · have HF := Lib.hid (HV.out.trans (chkR_2 HSS.out ((HG.out.1 (by rw [HET.out false rfl]; decide)).trans (HET.out false rfl)) (by decide)))
              clear g0 g1 g2 HG HHX HL HT HTI HTA HET
              go_wp2_with fail
              rw [HV1.out]
              go_wp2_with fail
              refine wp_region_ext (W := Z.1) ⟨Z.1, Below.refl _ _⟩ (by kernel_rfl) (by kernel_rfl) ?_
              repeat go_big_quiet_step (fail)
              refine wpQuiet_nil ?_
              rintro _ ⟨Y, rfl⟩
              go_wp2_with fail
              refine (DTI.out _).mono ?_
              rintro e w1 ⟨rfl, rfl⟩
              go_wp2_with fail
              go_ret
              exact ⟨ret_int HF.out.symm, below_step (below_step HB0.out Z.2) Y.2⟩
            · have HF := Lib.hid (HG.out.2 (HET.out true rfl))
              clear g0 g1 g2 HG HHX HET
              go_wp2_with fail
              rw [HV1.out]
              go_wp2_with fail
              refine wp_region_ext (W := Z.1) ⟨Z.1, Below.refl _ _⟩ (by kernel_rfl) (by kernel_rfl) ?_
              repeat go_big_quiet_step (fail)
              refine wpQuiet_nil ?_
              rintro _ ⟨Y, rfl⟩
              go_wp2_with fail
              refine (DTI.out _).mono ?_
              rintro e w1 ⟨rfl, rfl⟩
              go_wp2_with fail
              go_roundw
              case rel => exact ⟨1, by go_num, by omega, HF, ⟨Y.1, below_step Z.2 Y.2⟩, rfl⟩
              case measure => simp [intOf]; omega
          · obtain ⟨p, hp⟩ : ∃ p, A.lp[j]? = some p := ⟨_, List.getElem?_eq_getElem (by have := HN.out.2.1; omega)⟩
            have P1 : ∀ Y : Ext Z.1, Y.1.cell? ⟨ba, oa + j * 3 + 1, none⟩ = some (.int .i64 p.t) := Ext.ex (below_cell hvb (HX.out.on hp 1 _ rfl))
            have HO1 := Lib.hid (ordL_succ (t := s.f) hp)
            have e0 : (((j + 1 : Nat) : Int) == 0) = false := by rw [beq_eq_false_iff_ne]; omega
            have e0' : ((j : Int) + 1 == 0) = false := by rw [beq_eq_false_iff_ne]; omega
            have e1 : decide ((0 : Int) < (j : Int) + 1) = true := by rw [decide_eq_true_eq]; omega
            have hwr : IntKind.i64.wrap ((j : Int) + 1 - 1) = (j : Int) := by rw [IntKind.wrap_i64]; omega
            have hsub : (j : Int) + 1 - 1 = (j : Int) := by omega
            have hjn : j < m := by omega
            clear hp
            by_cases g0 : s.f < 0
            case pos =>
              have d0 : decide (s.f < 0) = true := decide_eq_true g0
              have HF := Lib.hid (HV.out.trans (chkR_2 HSS.out ((HG.out.1 (by rw [errL_9 HHX.out (Or.inl g0)]; decide)).trans (errL_9 HHX.out (Or.inl g0))) (by decide)))
              clear g0 HG HHX DTI HL HT HTI HTA
              go_wp2_with fail
              rw [HV1.out]
              go_wp2_with fail
              go_ret
              exact ⟨ret_int HF.out.symm, Z.down HB0.out HS0.out⟩
            have d0 : decide (s.f < 0) = false := decide_eq_false g0
            by_cases g1 : s.t ≤ s.f
            case pos =>
              have d1 : decide (s.t ≤ s.f) = true := decide_eq_true g1
              have HF := Lib.hid (HV.out.trans (chkR_2 HSS.out ((HG.out.1 (by rw [errL_9 HHX.out (Or.inr (Or.inl g1))]; decide)).trans (errL_9 HHX.out (Or.inr (Or.inl g1)))) (by decide)))
              clear g0 g1 HG HHX DTI HL HT HTI HTA
              go_wp2_with fail
              rw [HV1.out]
              go_wp2_with fail
              go_ret
              exact ⟨ret_int HF.out.symm, Z.down HB0.out HS0.out⟩
            have d1 : decide (s.t ≤ s.f) = false := decide_eq_false g1
            by_cases g2 : sp < s.t
            case pos =>
              have d2 : decide (sp < s.t) = true := decide_eq_true g2
              have HF := Lib.hid (HV.out.trans (chkR_2 HSS.out ((HG.out.1 (by rw [errL_9 HHX.out (Or.inr (Or.inr g2))]; decide)).trans (errL_9 HHX.out (Or.inr (Or.inr g2)))) (by decide)))
              clear g0 g1 g2 HG HHX DTI HL HT HTI HTA
              go_wp2_with fail
              rw [HV1.out]
              go_wp2_with fail
              go_ret
              exact ⟨ret_int HF.out.symm, Z.down HB0.out HS0.out⟩
            have d2 : decide (sp < s.t) = false := decide_eq_false g2
            by_cases ho : s.f < p.t
            case pos =>
              have b0 : decide (s.f < p.t) = true := decide_eq_true ho
              have HEO := Lib.hid (errL_ord (span := sp) HHX.out (fun h => by omega) (HO1.out.trans b0))
              have HF := Lib.hid (HV.out.trans (chkR_2 HSS.out ((HG.out.1 (by rw [HEO.out]; decide)).trans HEO.out) (by decide)))
              clear g0 g1 g2 ho HG HHX DTI HL HT HTI HTA HEO
              go_wp2_with fail
              rw [HV1.out]
              go_wp2_with fail
              refine wp_region_ext (W := Z.1) ⟨Z.1, Below.refl _ _⟩ (by kernel_rfl) (by kernel_rfl) ?_
              repeat go_big_quiet_step (fail)
              refine wpQuiet_nil ?_
              rintro _ ⟨Y, rfl⟩
              go_wp2_with fail
              go_ret
              exact ⟨ret_int HF.out.symm, below_step (below_step HB0.out Z.2) Y.2⟩
            have b0 : decide (s.f < p.t) = false := decide_eq_false ho
            have HO := Lib.hid (HO1.out.trans b0)
            have HET := Lib.hid (fun (b : Bool) (hb : titleB s.s = b) => errL_title (span := sp) HHX.out (fun h => by omega) HO.out hb)
            generalize titleB s.s = bt at *
            cases bt
            · have HF := Lib.hid (HV.out.trans (chkR_2 HSS.out ((HG.out.1 (by rw [HET.out false rfl]; decide)).trans (HET.out false rfl)) (by decide)))
              clear g0 g1 g2 HG HHX HL HT HTI HTA HET
              go_wp2_with fail
              rw [HV1.out]
              go_wp2_with fail
              refine wp_region_ext (W := Z.1) ⟨Z.1, Below.refl _ _⟩ (by kernel_rfl) (by kernel_rfl) ?_
              repeat go_big_quiet_step (fail)
              refine wpQuiet_nil ?_
              rintro _ ⟨Y, rfl⟩
              go_wp2_with fail
              refine (DTI.out _).mono ?_
              rintro e w1 ⟨rfl, rfl⟩
              go_wp2_with fail
              go_ret
              exact ⟨ret_int HF.out.symm, below_step (below_step HB0.out Z.2) Y.2⟩
            · have HF := Lib.hid (HG.out.2 (HET.out true rfl))
              clear g0 g1 g2 HG HHX HET
              go_wp2_with fail
              rw [HV1.out]
              go_wp2_with fail
              refine wp_region_ext (W := Z.1) ⟨Z.1, Below.refl _ _⟩ (by kernel_rfl) (by kernel_rfl) ?_
              repeat go_big_quiet_step (fail)
              refine wpQuiet_nil ?_
              rintro _ ⟨Y, rfl⟩
              go_wp2_with fail
              refine (DTI.out _).mono ?_
              rintro e w1 ⟨rfl, rfl⟩
              go_wp2_with fail
              go_roundw
              case rel => exact ⟨j + 1 + 1, by go_num, by omega, HF, ⟨Y.1, below_step Z.2 Y.2⟩, rfl⟩
              case measure => simp [intOf]; omega
        · have t2 : decide ((k : Int) < (m : Int)) = false := by rw [decide_eq_false_iff_not]; omega
          have t2' : decide (k < m) = false := by simpa using hlt
          have HLL := Lib.hid (firstE_end (by omega) HE.out)
          clear HE hlt hk HL HTI
          go_wp2_with fail
          clear t2 t2'
          go_loopw [141] (fun iv wr => ∃ (k : Nat), iv = .int .i64 k ∧ k ≤ t ∧ Hid (chkTs A = firstE (errT A.tg) (t - k) k) ∧ ∃ X : Ext V0, wr = X.1) (fun iv _ => t - (intOf iv).toNat)
          case atStart => exact ⟨0, rfl, by omega, Lib.hid (by unfold chkTs; rw [HN.out.2.2]; rfl), X, rfl⟩
          case round =>
            obtain ⟨k, rfl, hk, HE, X, rfl⟩ := hrel
            by_cases hlt : k < t
            · have t2 : decide ((k : Int) < (t : Int)) = true := by rw [decide_eq_true_eq]; omega
              have t2' : decide (k < t) = true := by simpa using hlt
              obtain ⟨s, hx⟩ : ∃ s, A.tg[k]? = some s := ⟨_, List.getElem?_eq_getElem (by rw [HN.out.2.2]; exact hlt)⟩
              have HX := Lib.hid (HT.out.below (below_step HB0.out X.2))
              obtain ⟨ba, oa, rfl, hba, hc⟩ := HX.out.at hx
              have c0 : X.1.cell? ⟨ba, oa + k, none⟩ = some (.string s) := by
                have := hc 0 _ rfl
                rwa [Nat.mul_one, Nat.add_zero] at this
              have HG := Lib.hid (firstE_go hlt HE.out)
              have HHX := Lib.hid hx
              have DNM := Lib.hid (fun W => isName_any s W (HTA.out s (List.mem_of_getElem? hx)))
              have HNA := Lib.hid (fun (h : nameB s = false) => errT_name HHX.out h)
              have HNO := Lib.hid (fun (h : nameB s = true) (b : Bool) (hb : ordT A.tg k s = b) => errT_ord HHX.out h hb)
              generalize nameB s = bn at *
              clear HE hc hx
              have hk20 : t ≤ 20 := by omega
              cases bn
              · have HF := Lib.hid (HV.out.trans (chkR_3 HSS.out HLL.out ((HG.out.1 (by rw [HNA.out rfl]; decide)).trans (HNA.out rfl))))
                clear HG HHX HNA HNO HT HTA
                go_wp2_with fail
                refine (DNM.out _).mono ?_
                rintro e w1 ⟨rfl, rfl⟩
                go_wp2_with fail
                go_ret
                exact ⟨ret_int HF.out.symm, X.down HB0.out HS0.out⟩
              · obtain rfl | ⟨j, rfl⟩ : k = 0 ∨ ∃ j, k = j + 1 := by cases k; exact Or.inl rfl; exact Or.inr ⟨_, rfl⟩
                · have HF := Lib.hid (HG.out.2 (HNO.out rfl false rfl))
                  rw [Nat.add_zero] at c0
                  clear HG HHX HNA HNO
                  go_wp2_with fail
                  refine (DNM.out _).mono ?_
                  rintro e w1 ⟨rfl, rfl⟩
                  go_wp2_with fail
                  go_roundw
                  case rel => exact ⟨1, by go_num, by omega, HF, X, rfl⟩
                  case measure => simp [intOf]; omega
                · obtain ⟨p, hp⟩ : ∃ p, A.tg[j]? = some p := ⟨_, List.getElem?_eq_getElem (by have := HN.out.2.2; omega)⟩
                  have P0 : X.1.cell? ⟨ba, oa + j, none⟩ = some (.string p) := by
                    have := HX.out.on hp 0 _ rfl
                    rwa [Nat.mul_one, Nat.add_zero] at this
                  have HO := Lib.hid (ordT_succ (s := s) hp)
                  have e0 : decide ((0 : Int) < (j : Int) + 1) = true := by rw [decide_eq_true_eq]; omega
                  have hwr : IntKind.i64.wrap ((j : Int) + 1 - 1) = (j : Int) := by rw [IntKind.wrap_i64]; omega
                  have hsub : (j : Int) + 1 - 1 = (j : Int) := by omega
                  have hjn : j < t := by omega
                  clear hp
                  have HNO := Lib.hid (fun (b : Bool) (hb : Op.bytesLess p.toList s.toList = b) => HNO.out rfl (!b) (HO.out.trans (by rw [hb])))
                  have hle := bytesLe s.toList p.toList
                  generalize hb1 : Op.bytesLess s.toList p.toList = b1 at hle
                  generalize hb2 : (s.toList == p.toList) = b2 at hle
                  cases b1
                  · cases b2
                    · have hbl : Op.bytesLess p.toList s.toList = true := by simpa using hle.symm
                      have HF := Lib.hid (HG.out.2 (HNO.out true hbl))
                      clear HG HHX HNA HNO HO hle hbl
                      go_wp2_with fail
                      refine (DNM.out _).mono ?_
                      rintro e w1 ⟨rfl, rfl⟩
                      go_wp2_with fail
                      go_roundw
                      case rel => exact ⟨j + 1 + 1, by go_num, by omega, HF, X, rfl⟩
                      case measure => simp [intOf]; omega
                    · have hbl : Op.bytesLess p.toList s.toList = false := by simpa using hle.symm
                      have HF := Lib.hid (HV.out.trans (chkR_3 HSS.out HLL.out ((HG.out.1 (by rw [HNO.out false hbl]; decide)).trans (HNO.out false hbl))))
                      clear HG HHX HNA HNO HO HT HTA hle hbl
                      go_wp2_with fail
                      refine (DNM.out _).mono ?_
                      rintro e w1 ⟨rfl, rfl⟩
                      go_wp2_with fail
                      go_ret
                      exact ⟨ret_int HF.out.symm, X.down HB0.out HS0.out⟩
                  · have hbl : Op.bytesLess p.toList s.toList = false := by simpa using hle.symm
                    have HF := Lib.hid (HV.out.trans (chkR_3 HSS.out HLL.out ((HG.out.1 (by rw [HNO.out false hbl]; decide)).trans (HNO.out false hbl))))
                    clear HG HHX HNA HNO HO HT HTA hle hbl
                    go_wp2_with fail
                    refine (DNM.out _).mono ?_
                    rintro e w1 ⟨rfl, rfl⟩
                    go_wp2_with fail
                    go_ret
                    exact ⟨ret_int HF.out.symm, X.down HB0.out HS0.out⟩
            · have t2 : decide ((k : Int) < (t : Int)) = false := by rw [decide_eq_false_iff_not]; omega
              have t2' : decide (k < t) = false := by simpa using hlt
              have HF := Lib.hid (HV.out.trans (chkR_3 HSS.out HLL.out (firstE_end (by omega) HE.out)))
              clear HE hlt hk HT HTA
              go_wp2_with fail
              go_ret
              exact ⟨ret_int HF.out.symm, X.down HB0.out HS0.out⟩
end Go.Proofs.Ytkejjlghelnfjaa

/- Check of an activity, of the reference. (printed by wip/t/gen_tfe.py) -/
namespace Go.Proofs.Ytkejjlghelnfjaa
open Go.RowKit Go.BigFrame
open Tr (inR)

end Go.Proofs.Ytkejjlghelnfjaa

/- Scale of the program returns 'Sc.sc'. -/
namespace Go.Proofs.Ytkejjlghelnfjaa
open Go.RowKit Go.BigFrame

def scRet (p : Int × Int) : Ending := .returned (.tuple #[.int .i64 p.1, .int .i64 p.2])
theorem hasRow_new (w : World) (o : Obj) : HasRow ((w.alloc o).alloc (.cells wayRow 87)) (w.heap.size + 1) := by
  intro j hj
  rw [World.cell?_alloc_at _ _ _ _ (by simp)]
  rcases (show j = 0 ∨ j = 1 ∨ j = 2 ∨ j = 3 ∨ j = 4 ∨ j = 5 ∨ j = 6 ∨ j = 7 ∨ j = 8 ∨ j = 9 by omega) with rfl | rfl | rfl | rfl | rfl | rfl | rfl | rfl | rfl | rfl <;> rfl
theorem how_new (w : World) (how : Int) (o : Obj) : ((w.alloc (.cells #[.int .i64 how] 3)).alloc o).cell? ⟨w.heap.size, 0, none⟩ = some (.int .i64 how) := by
  rw [World.cell?_alloc_past _ _ _ (by simp), World.cell?_alloc_at _ _ _ _ rfl]; rfl
theorem below_two (w : World) (o o' : Obj) : Below w.heap.size w ((w.alloc o).alloc o') := ((Below.refl _ _).alloc (Nat.le_refl _) o).alloc (by simp) o'

set_option maxHeartbeats 400000 in
theorem scale_kind (a num den how : Int) (w : World) (h : how < 1 ∨ 5 < how) :
    Calls Try.prog 30 #[.int .i64 a, .int .i64 num, .int .i64 den, .int .i64 how] w fun e w' => e = scRet (0, 7) ∧ Below w.heap.size w w' := by
  have hw : wayAt how = -1 := by unfold wayAt; rw [if_neg (by omega)]
  have hmf : ∀ (fn : Fn) (first cap : Array Value) (w : World), (Instr.makeFunc fn first cap).run Try.prog w = .ok (.func fn first cap) w := fun _ _ _ _ => rfl
  go_enter Try.func30, Try.ntmps30
  go_wp2_with fail
  refine (ways_any _).mono ?_
  rintro e w1 ⟨rfl, rfl⟩
  go_wp2_with fail
  refine (index_any _ _ how _ (hasRow_new w _) (how_new w how _) (by simp) (by simp; omega)).mono ?_
  rintro e w1 ⟨rfl, hb⟩
  rw [hw]
  have hb' := (below_two w _ _).trans (hb.mono (by simp; omega))
  clear hb
  go_wp2
  go_ret2
  exact ⟨rfl, hb'⟩
set_option maxHeartbeats 400000 in
theorem scale_arg (a num den how : Int) (w : World) (h1 : 1 ≤ how) (h5 : how ≤ 5) (h : den ≤ 0 ∨ num < 0) :
    Calls Try.prog 30 #[.int .i64 a, .int .i64 num, .int .i64 den, .int .i64 how] w fun e w' => e = scRet (0, 1) ∧ Below w.heap.size w w' := by
  have hw : wayAt how = how - 1 := by unfold wayAt; rw [if_pos ⟨h1, h5⟩]
  have hmf : ∀ (fn : Fn) (first cap : Array Value) (w : World), (Instr.makeFunc fn first cap).run Try.prog w = .ok (.func fn first cap) w := fun _ _ _ _ => rfl
  have hk : decide (how - 1 < 0) = false := by rw [decide_eq_false_iff_not]; omega
  by_cases hd : den ≤ 0
  all_goals
    go_enter Try.func30, Try.ntmps30
    go_wp2_with fail
    refine (ways_any _).mono ?_
    rintro e w1 ⟨rfl, rfl⟩
    go_wp2_with fail
    refine (index_any _ _ how _ (hasRow_new w _) (how_new w how _) (by simp) (by simp; omega)).mono ?_
    rintro e w1 ⟨rfl, hb⟩
    rw [hw]
    have hb' := (below_two w _ _).trans (hb.mono (by simp; omega))
    clear hb hw
  · go_wp2
    go_ret2
    exact ⟨rfl, hb'⟩
  · have hd2 : decide (den ≤ 0) = false := by rw [decide_eq_false_iff_not]; omega
    have hn2 : decide (num < 0) = true := by rw [decide_eq_true_eq]; omega
    clear h hd
    go_wp2
    go_ret2
    exact ⟨rfl, hb'⟩

/-- the number without its sign, as the program makes it -/
theorem neg_wrap {a : Int} (h : a < 0) (h1 : -9223372036854775808 ≤ a) : IntKind.u64.wrap (-IntKind.u64.wrap a) = (a.natAbs : Int) := by
  simp only [IntKind.wrap_u64]; omega

theorem fin_ok {a num den how v : Int} {S : Bool} {q r d Q : Nat}
    (h : Sc.sc a num den how = if 4611686018427387904 < Sc.quo how S q r d then (0, 9) else (Sc.sgn S (Sc.quo how S q r d), 0))
    (hQ : Sc.quo how S q r d = Q) (hl : (Q : Int) ≤ 4611686018427387904) (hv : v = Sc.sgn S Q) :
    Ending.returned (.tuple #[.int .i64 v, .int .i64 0]) = scRet (Sc.sc a num den how) := by
  rw [h, hQ, if_neg (by omega), hv]; rfl
theorem fin_big {a num den how : Int} {S : Bool} {q r d Q : Nat}
    (h : Sc.sc a num den how = if 4611686018427387904 < Sc.quo how S q r d then (0, 9) else (Sc.sgn S (Sc.quo how S q r d), 0))
    (hQ : Sc.quo how S q r d = Q) (hl : 4611686018427387904 < (Q : Int)) :
    Ending.returned (.tuple #[.int .i64 0, .int .i64 9]) = scRet (Sc.sc a num den how) := by
  rw [h, hQ, if_pos (by omega)]; rfl
theorem quo_rest0 (how : Int) (S : Bool) (q d : Nat) : Sc.quo how S q 0 d = q := by simp [Sc.quo]
theorem quo_stay {how : Int} {S : Bool} {q r d : Nat} (h : Sc.away how S q r d = false) : Sc.quo how S q r d = q := by simp [Sc.quo, h]
theorem quo_up {how : Int} {S : Bool} {q r d : Nat} (h0 : 0 < r) (h : Sc.away how S q r d = true) : Sc.quo how S q r d = q + 1 := by simp [Sc.quo, h, h0]

end Go.Proofs.Ytkejjlghelnfjaa

/- Scale and Div of the program and of the reference: all return 'Sc.sc'. -/
namespace Go.Proofs.Ytkejjlghelnfjaa
open Go.RowKit Go.BigFrame

theorem word_split (n : Nat) : n / 18446744073709551616 * 18446744073709551616 + n % 18446744073709551616 = n := by omega

end Go.Proofs.Ytkejjlghelnfjaa

/- Scale and Div of the reference return 'Sc.sc'. -/
namespace Go.Proofs.Ytkejjlghelnfjaa
open Go.RowKit Go.BigFrame

theorem moreF_away {how : Int} (h1 : 1 ≤ how) (h5 : how ≤ 5) (b : Bool) (q r d : Nat) : moreF q r d b how = decide (0 < r ∧ Sc.away how b q r d = true) := by
  have e3 : ((q : Int) % 2 = 1) ↔ q % 2 = 1 := by omega
  have e5 : ((q : Int) % 2 == 1) = decide (q % 2 = 1) := by rw [Bool.eq_iff_iff, beq_iff_eq, decide_eq_true_eq]; exact e3
  unfold moreF
  by_cases h0 : r = 0
  · subst h0; simp
  rw [if_neg (by omega)]
  have hr : 0 < r := by omega
  unfold Sc.away
  by_cases a1 : how = 1
  · subst a1; cases b <;> simp [hr]
  by_cases a2 : how = 2
  · subst a2; cases b <;> simp [hr]
  by_cases a3 : how = 3
  · subst a3; simp
  simp only [a1, a2, a3, if_false]
  by_cases h6 : (r : Int) = d - r
  · rw [if_neg (by omega)]
    have h7 : 2 * r = d := by omega
    simp only [h7, hr, true_and, decide_true, Bool.true_and, e5]
    by_cases a4 : how = 4
    · subst a4; cases b <;> simp
    · simp [a4]
  · rw [if_pos h6]
    have h7 : ¬ 2 * r = d := by omega
    simp only [h7, hr, true_and, decide_false, Bool.false_and, Bool.or_false]
    have h8 : ((d : Int) - r < r) ↔ d < 2 * r := by omega
    by_cases a4 : how = 4
    · subst a4; simp [h8]
    · simp [a4, h8]

end Go.Proofs.Ytkejjlghelnfjaa

/- Where somebody is: the search by halves of the program; a number on a way, of both. -/
namespace Go.Proofs.Ytkejjlghelnfjaa
open Go.RowKit Go.BigFrame
open Tr (inR)

theorem cmpI_lt (x y : Int) : decide (Lib.compareInt x y < 0) = decide (x < y) := by
  unfold Lib.compareInt
  by_cases h : x < y
  · rw [if_pos h, decide_eq_true h]; rfl
  · rw [if_neg h, decide_eq_false h]
    split <;> rfl
theorem cmpI_eq (x y : Int) : (Lib.compareInt x y == 0) = decide (x = y) := by
  unfold Lib.compareInt
  by_cases h : x < y
  · rw [if_pos h, decide_eq_false (by omega)]; rfl
  · rw [if_neg h]
    by_cases h2 : x > y
    · rw [if_pos h2, decide_eq_false (by omega)]; rfl
    · rw [if_neg h2, decide_eq_true (by omega)]; rfl
/-- the search by halves of the program -/
def foundS (l : List Sm) (n : Int) : Bool := match l[lbS l n]? with
  | some s => decide (s.tm = n)
  | none => false
/-! ### a number on a way -/
theorem sc_near {a num den : Int} (ha : -200000000 ≤ a) (ha' : a ≤ 200000000) (hn : 0 ≤ num) (hd : num ≤ den) (hd1 : 1 ≤ den) (hd2 : den ≤ 1000000) : -200000001 ≤ (Sc.sc a num den 4).1 ∧ (Sc.sc a num den 4).1 ≤ 200000001 := by
  have hna : a.natAbs ≤ 200000000 := by omega
  have hnn : num.toNat ≤ den.toNat := by omega
  have hdn : den.toNat ≤ 1000000 := by omega
  have hmul : a.natAbs * num.toNat ≤ a.natAbs * den.toNat := Nat.mul_le_mul_left _ hnn
  have hbig : a.natAbs * num.toNat ≤ 200000000 * 1000000 := Nat.mul_le_mul hna (Nat.le_trans hnn hdn)
  rw [Sc.sc_small a num den 4 (by decide) (by decide) hd1 hn (Nat.lt_of_le_of_lt hbig (by decide))]
  have hq : a.natAbs * num.toNat / den.toNat ≤ a.natAbs := by
    have h1 : a.natAbs * num.toNat / den.toNat ≤ a.natAbs * den.toNat / den.toNat := Nat.div_le_div_right hmul
    rwa [Nat.mul_div_cancel _ (by omega)] at h1
  generalize a.natAbs * num.toNat / den.toNat = q at hq
  have hQ : ∀ b r d, Sc.quo 4 b q r d ≤ q + 1 := fun b r d => by
    unfold Sc.quo
    split <;> omega
  have := hQ (decide (a < 0)) (a.natAbs * num.toNat % den.toNat) den.toNat
  generalize Sc.quo 4 (decide (a < 0)) q (a.natAbs * num.toNat % den.toNat) den.toNat = Q at this
  unfold Sc.sgn
  split <;> simp only <;> omega
theorem betw_near {p q part whole : Int} (hp : -100000000 ≤ p ∧ p ≤ 100000000) (hq : -100000000 ≤ q ∧ q ≤ 100000000) (h0 : 0 ≤ part) (h1 : part ≤ whole) (h2 : 1 ≤ whole) (h3 : whole ≤ 1000000) : -300000001 ≤ betw p q part whole ∧ betw p q part whole ≤ 300000001 := by
  have := sc_near (a := q - p) (num := part) (den := whole) (by omega) (by omega) h0 h1 h2 h3
  unfold betw
  omega
end Go.Proofs.Ytkejjlghelnfjaa

/- Where somebody is, of both. (printed by wip/t/gen_tfg.py) -/
namespace Go.Proofs.Ytkejjlghelnfjaa
open Go.RowKit Go.BigFrame
open Tr (inR)

/-- a block that holds a sample -/
def SmB (w : World) (g : Nat) (s : Sm) : Prop := w.heap[g]? = some (.cells #[.int .i64 s.tm, .int .i64 s.x, .int .i64 s.y, .int .i64 s.z, .int .i64 s.pu, .int .i64 s.po, .int .i64 s.st] 37 (0, 0))
theorem SmB.cell {w : World} {g : Nat} {s : Sm} (h : SmB w g s) : w.cell? ⟨g, 0, none⟩ = some (.int .i64 s.tm) ∧ w.cell? ⟨g, 1, none⟩ = some (.int .i64 s.x) ∧ w.cell? ⟨g, 2, none⟩ = some (.int .i64 s.y) ∧ w.cell? ⟨g, 3, none⟩ = some (.int .i64 s.z) ∧ w.cell? ⟨g, 4, none⟩ = some (.int .i64 s.pu) ∧ w.cell? ⟨g, 5, none⟩ = some (.int .i64 s.po) ∧ w.cell? ⟨g, 6, none⟩ = some (.int .i64 s.st) := by
  unfold SmB at h
  simp [World.cell?, h]
theorem SmB.free {w : World} {g : Nat} {s : Sm} (h : SmB w g s) (i : Nat) : w.frozen? ⟨g, i, none⟩ = false := by
  unfold SmB at h
  simp [World.frozen?, h]
theorem SmB.lt {w : World} {g : Nat} {s : Sm} (h : SmB w g s) : g < w.heap.size := lt_of_block h
theorem SmB.below {w w' : World} {g : Nat} {s : Sm} (h : SmB w g s) (hb : Below w.heap.size w w') : SmB w' g s := (hb.block g h.lt).trans h
theorem SmB.kept {O : Nat → Prop} {w w' : World} {g : Nat} {s : Sm} (h : SmB w g s) (hk : Kept O w w') (ho : ¬ O g) : SmB w' g s := (hk.block g h.lt ho).trans h
theorem set_cells {w : World} {b i : Nat} {cs : Array Value} {T : TypeId} {fz : Nat × Nat} {v : Value} (h : w.heap[b]? = some (.cells cs T fz)) : (w.setCell ⟨b, i, none⟩ v).heap[b]? = some (.cells (cs.setIfInBounds i v) T fz) := by
  simp [World.setCell, Array.getElem?_modify, h]
theorem keep_set {O : Nat → Prop} {a : World} {b i : Nat} {v : Value} (ho : O b) : Kept O a (a.setCell ⟨b, i, none⟩ v) := by
  refine ⟨rfl, rfl, rfl, Nat.le_of_eq (by simp [World.setCell]), fun k _ hn => Below.heap_setCell a ⟨b, i, none⟩ v k (fun e => hn (e ▸ ho))⟩
theorem SmB.set0 {w : World} {g : Nat} {s : Sm} (h : SmB w g s) (v : Int) : SmB (w.setCell ⟨g, 0, none⟩ (.int .i64 v)) g { s with tm := v } := set_cells h
theorem SmB.set1 {w : World} {g : Nat} {s : Sm} (h : SmB w g s) (v : Int) : SmB (w.setCell ⟨g, 1, none⟩ (.int .i64 v)) g { s with x := v } := set_cells h
theorem SmB.set2 {w : World} {g : Nat} {s : Sm} (h : SmB w g s) (v : Int) : SmB (w.setCell ⟨g, 2, none⟩ (.int .i64 v)) g { s with y := v } := set_cells h
theorem SmB.set3 {w : World} {g : Nat} {s : Sm} (h : SmB w g s) (v : Int) : SmB (w.setCell ⟨g, 3, none⟩ (.int .i64 v)) g { s with z := v } := set_cells h
theorem SmB.set4 {w : World} {g : Nat} {s : Sm} (h : SmB w g s) (v : Int) : SmB (w.setCell ⟨g, 4, none⟩ (.int .i64 v)) g { s with pu := v } := set_cells h
theorem SmB.set5 {w : World} {g : Nat} {s : Sm} (h : SmB w g s) (v : Int) : SmB (w.setCell ⟨g, 5, none⟩ (.int .i64 v)) g { s with po := v } := set_cells h
theorem SmB.set6 {w : World} {g : Nat} {s : Sm} (h : SmB w g s) (v : Int) : SmB (w.setCell ⟨g, 6, none⟩ (.int .i64 v)) g { s with st := v } := set_cells h
theorem SmB.store {w : World} {g : Nat} {s : Sm} (h : SmB w g s) (u : Sm) : ∃ W, (((((((w.setCell ⟨g, 0, none⟩ (.int .i64 u.tm)).setCell ⟨g, 1, none⟩ (.int .i64 u.x)).setCell ⟨g, 2, none⟩ (.int .i64 u.y)).setCell ⟨g, 3, none⟩ (.int .i64 u.z)).setCell ⟨g, 4, none⟩ (.int .i64 u.pu)).setCell ⟨g, 5, none⟩ (.int .i64 u.po)).setCell ⟨g, 6, none⟩ (.int .i64 u.st)) = W ∧ SmB W g u ∧ ∀ O : Nat → Prop, O g → Kept O w W :=
  ⟨_, rfl, (((((((h.set0 u.tm).set1 u.x).set2 u.y).set3 u.z).set4 u.pu).set5 u.po).set6 u.st), fun _ ho => ((((((keep_set ho).trans (keep_set ho)).trans (keep_set ho)).trans (keep_set ho)).trans (keep_set ho)).trans (keep_set ho)).trans (keep_set ho)⟩
/-- the world behind an allocation of a sample -/
theorem alloc_sm (w : World) (s : Sm) : ∃ W, w.alloc (.cells #[.int .i64 s.tm, .int .i64 s.x, .int .i64 s.y, .int .i64 s.z, .int .i64 s.pu, .int .i64 s.po, .int .i64 s.st] 37) = W ∧ Below w.heap.size w W ∧ W.heap.size = w.heap.size + 1 ∧ SmB W w.heap.size s :=
  ⟨_, rfl, below_al _ _, by simp, heap_alloc_new w _⟩
theorem smSize : Hid ((Try.prog.info? 37).map (·.size) = some 7) := Lib.hid (by kernel_rfl)
/-- two samples between which one looks -/
structure Btw (p q : Sm) (n : Int) : Prop where
  rp : rangeS p = true
  rq : rangeS q = true
  h0 : p.tm ≤ n
  h1 : n ≤ q.tm
  h2 : p.tm < q.tm
  h3 : 0 ≤ p.tm
  h4 : q.tm ≤ 1000000
theorem range_xyz {s : Sm} (h : rangeS s = true) : (-100000000 ≤ s.x ∧ s.x ≤ 100000000) ∧ (-100000000 ≤ s.y ∧ s.y ≤ 100000000) ∧ (-100000000 ≤ s.z ∧ s.z ≤ 100000000) := by
  unfold rangeS at h
  simp only [Bool.and_eq_true, inR_iff] at h
  omega
end Go.Proofs.Ytkejjlghelnfjaa

/- Rows of a call's own, of elements of any kind. -/
namespace Go.Proofs.Ytkejjlghelnfjaa
open Go.RowKit Go.BigFrame

/-- how an element lies: k cells -/
structure El {α : Type} (C : α → List Value) (k : Nat) : Prop where
  len : ∀ x, (C x).length = k
  pos : 0 < k
  one : ∀ x, ∀ v ∈ C x, v.oneCell' = true
theorem smEl : El smC 7 := ⟨fun _ => rfl, by decide, fun x v hv => by
  simp only [smC, List.mem_cons, List.not_mem_nil, or_false] at hv
  rcases hv with rfl | rfl | rfl | rfl | rfl | rfl | rfl <;> rfl⟩
theorem lpEl : El lpC 3 := ⟨fun _ => rfl, by decide, fun x v hv => by
  simp only [lpC, List.mem_cons, List.not_mem_nil, or_false] at hv
  rcases hv with rfl | rfl | rfl <;> rfl⟩
theorem tgEl : El tgC 1 := ⟨fun _ => rfl, by decide, fun x v hv => by
  simp only [tgC, List.mem_cons, List.not_mem_nil, or_false] at hv
  rcases hv with rfl <;> rfl⟩
section
variable {α : Type} {C : α → List Value} {k : Nat}
theorem El.flat (E : El C k) : ∀ l : List α, (l.flatMap C).length = l.length * k
  | [] => by simp
  | x :: l => by rw [List.flatMap_cons, List.length_append, E.len, E.flat l, List.length_cons, Nat.succ_mul]; omega
theorem El.get (E : El C k) : ∀ (l : List α) (i : Nat) (x : α), l[i]? = some x → ∀ j v, (C x)[j]? = some v → (l.flatMap C)[i * k + j]? = some v
  | [], i, x, h, _, _, _ => by simp at h
  | y :: l, 0, x, h, j, v, hv => by
    injection h with h
    subst h
    rw [List.flatMap_cons, Nat.zero_mul, Nat.zero_add, List.getElem?_append_left (by have := (List.getElem?_eq_some_iff.1 hv).1; exact this)]
    exact hv
  | y :: l, i + 1, x, h, j, v, hv => by
    have ih := E.get l i x (by simpa using h) j v hv
    rw [List.flatMap_cons, List.getElem?_append_right (by rw [E.len, Nat.succ_mul]; omega), E.len, show (i + 1) * k + j - k = i * k + j by rw [Nat.succ_mul]; omega]
    exact ih
theorem El.ones (E : El C k) (l : List α) : ∀ u ∈ l.flatMap C, u.oneCell' = true := fun u hu => by
  obtain ⟨y, _, hy⟩ := List.mem_flatMap.1 hu
  exact E.one y u hy
theorem El.at (E : El C k) : ∀ (l : List α) (j : Nat) (u : Value), (l.flatMap C)[j]? = some u → ∃ x, l[j / k]? = some x ∧ (C x)[j % k]? = some u
  | [], j, u, h => by simp at h
  | x :: l, j, u, h => by
    have k0 := E.pos
    rw [List.flatMap_cons] at h
    by_cases hj : j < k
    · rw [List.getElem?_append_left (by rw [E.len]; exact hj)] at h
      exact ⟨x, by rw [Nat.div_eq_of_lt hj]; rfl, by rw [Nat.mod_eq_of_lt hj]; exact h⟩
    · rw [List.getElem?_append_right (by rw [E.len]; omega), E.len] at h
      obtain ⟨y, h1, h2⟩ := E.at l (j - k) u h
      have e1 : j / k = (j - k) / k + 1 := by
        rw [Nat.div_eq_sub_div k0 (by omega)]
      have e2 : j % k = (j - k) % k := Nat.mod_eq_sub_mod (by omega)
      exact ⟨y, by rw [e1]; exact h1, by rw [e2]; exact h2⟩
theorem Rw.flat (E : El C k) {w : World} {a : Addr} {l : List α} (h : Rw C k w (some a) l) : ∀ j u, (l.flatMap C)[j]? = some u → w.cell? (a.add j) = some u := by
  intro j u hj
  obtain ⟨x, hx, hu⟩ := E.at l j u hj
  obtain ⟨b, off, e, _, hc⟩ := h.here (Nat.lt_of_le_of_lt (Nat.zero_le _) (List.getElem?_eq_some_iff.1 hx).1)
  injection e with e
  subst e
  have := hc _ x hx _ u hu
  rw [addr_plus, show off + j = off + j / k * k + j % k by rw [Nat.add_assoc, Nat.div_add_mod']]
  exact this
theorem Rw.nil_of {w : World} {l : List α} (h : Rw C k w none l) : l = [] := by
  cases l with
  | nil => rfl
  | cons x l =>
    obtain ⟨b, off, e, _⟩ := h.here (by simp)
    cases e
theorem Rw.kept {O : Nat → Prop} {w w' : World} {a : Option Addr} {l : List α} (h : Rw C k w a l) (hk : Kept O w w') (ho : ∀ b off, a = some ⟨b, off, none⟩ → ¬ O b) : Rw C k w' a l :=
  ⟨fun hl => by
    obtain ⟨b, off, e, hb, hc⟩ := h.here hl
    exact ⟨b, off, e, by have := hk.size; omega, fun i x hx j v hv => hk.cell (p := ⟨b, off + i * k + j, none⟩) (ho b off e) (hc i x hx j v hv)⟩⟩
theorem Rw.empty (w : World) (a : Option Addr) : Rw C k w a ([] : List α) := ⟨fun h => absurd h (by simp)⟩

/-- a row of a call's own -/
def Own (C : α → List Value) (k : Nat) (e : TypeId) (w : World) (base : Nat) (v : Value) (l : List α) : Prop := w.ownsRow base e k v l.length (l.flatMap C)
variable {e : TypeId} {w w' : World} {base : Nat} {v : Value} {l : List α}
theorem Own.nil (C : α → List Value) (k : Nat) (e : TypeId) (w : World) (base : Nat) : Own C k e w base (.slice none 0 0) [] := World.ownsRow_nil _ _ _ _
theorem Own.below (h : Own C k e w base v l) (hb : Below w.heap.size w w') : Own C k e w' base v l := ownsRow_below h hb
theorem Own.keep {T : Nat} (h : Own C k e w base v l) (hk : Kept (fun b => b = T) w w') (hT : ∀ b, v.ownBlock = some b → b ≠ T) : Own C k e w' base v l := by
  refine World.ownsRow.kept (row := some T) h ⟨hk.os, hk.tape, hk.output, hk.size, fun k hk1 hk2 => hk.block k hk1 (fun e => hk2 (by rw [e]))⟩ ?_
  cases e : v.ownBlock with
  | none => exact Or.inl rfl
  | some b => exact Or.inr (fun e2 => by injection e2 with e2; exact hT b e e2)
theorem Own.keepO {O : Nat → Prop} (h : Own C k e w base v l) (hk : Kept O w w') (hO : ∀ b, v.ownBlock = some b → ¬ O b) : Own C k e w' base v l := by
  refine ⟨h.1, ?_⟩
  rcases h.2 with h0 | ⟨g, cap, cur, hv, hb, hg, h3⟩
  · exact Or.inl h0
  · exact Or.inr ⟨g, cap, cur, hv, hb, (hk.block g (lt_of_block hg) (hO g (by rw [hv]; rfl))).trans hg, h3⟩
theorem Own.lt (h : Own C k e w base v l) : ∀ b, v.ownBlock = some b → base ≤ b ∧ b < w.heap.size := fun b e => World.ownsRow.lt h b e
theorem Own.weaken {base' : Nat} (h : Own C k e w base v l) (hb : base' ≤ base) : Own C k e w base' v l := by
  refine ⟨h.1, ?_⟩
  rcases h.2 with e | ⟨g, cap, cur, h1, h2, h3⟩
  · exact Or.inl e
  · exact Or.inr ⟨g, cap, cur, h1, Nat.le_trans hb h2, h3⟩
theorem Own.snoc {x : α} (h : w'.ownsRow base e k v (l.length + 1) (l.flatMap C ++ C x)) : Own C k e w' base v (l ++ [x]) := by
  unfold Own
  rw [List.length_append, List.flatMap_append]
  rw [show ([x].flatMap C) = C x from List.append_nil _]
  exact h
theorem Own.row (E : El C k) (h : Own C k e w base v l) : ∃ a c, v = .slice a l.length c ∧ l.length ≤ c ∧ Rw C k w a l ∧ ∀ b, a = some b → base ≤ b.block ∧ v.ownBlock = some b.block ∧ b.off = 0 ∧ b.spot = none := by
  have hh := h
  rcases h.2 with ⟨e, h0⟩ | ⟨g, cap, cur, e, hb, hg, hn, hm, hs, ht⟩
  · refine ⟨none, 0, ?_, by omega, ⟨fun hl => by omega⟩, fun b hb => by cases hb⟩
    rw [e, h0]
  · refine ⟨_, cap, e, hn, ⟨fun _ => ⟨g, 0, rfl, lt_of_block hg, fun i x hx j v hv => ?_⟩⟩, fun b hb' => by injection hb' with hb'; subst hb'; exact ⟨hb, by rw [e]; rfl, rfl, rfl⟩⟩
    have hc := World.ownsRow.cells hh (g := g) (by rw [e]; rfl) (i * k + j) _ (E.get l i x hx j v hv)
    rw [addr_plus, ← Nat.add_assoc] at hc
    exact hc
theorem Own.rw_ (E : El C k) {a : Option Addr} {n c : Nat} (h : Own C k e w base (.slice a n c) l) : Rw C k w a l ∧ n = l.length ∧ ∀ b, a = some b → base ≤ b.block ∧ b.block < w.heap.size := by
  obtain ⟨a', c', he, _, hr, hb⟩ := h.row E
  injection he with e1 e2 e3
  subst e1 e2 e3
  exact ⟨hr, rfl, fun b hb' => ⟨(hb b hb').1, (h.lt b.block (hb b hb').2.1).2⟩⟩
/-- an own row that is not empty -/
theorem Own.open (h : Own C k e w base v l) (h0 : 0 < l.length) : ∃ q c, v = .slice (some ⟨q, 0, none⟩) l.length c ∧ base ≤ q ∧ q < w.heap.size := by
  rcases h.2 with ⟨_, h1⟩ | ⟨g, cap, cur, hv, hb, hg, _⟩
  · omega
  · exact ⟨g, cap, hv, hb, lt_of_block hg⟩
theorem set_flat (E : El C k) : ∀ (l : List α) (i j : Nat) (x y : α) (u : Value), l[i]? = some x → C y = (C x).set j u → j < k → (l.flatMap C).set (i * k + j) u = (l.set i y).flatMap C
  | [], i, j, x, y, u, h, _, _ => by simp at h
  | z :: l, 0, j, x, y, u, h, hy, hj => by
    injection h with h
    subst h
    rw [List.set_cons_zero, List.flatMap_cons, List.flatMap_cons, hy, Nat.zero_mul, Nat.zero_add, List.set_append_left _ _ (by rw [E.len]; exact hj)]
  | z :: l, i + 1, j, x, y, u, h, hy, hj => by
    have ih := set_flat E l i j x y u (by simpa using h) hy hj
    rw [List.set_cons_succ, List.flatMap_cons, List.flatMap_cons, ← ih, List.set_append_right _ _ (by rw [E.len, Nat.succ_mul]; omega), E.len, show (i + 1) * k + j - k = i * k + j by rw [Nat.succ_mul]; omega]
/-- one cell of an own row is stored -/
theorem Own.set (E : El C k) {q n c : Nat} (h : Own C k e w base (.slice (some ⟨q, 0, none⟩) n c) l) {i j : Nat} {x y : α} {u : Value} (hx : l[i]? = some x) (hj : j < k) (hy : C y = (C x).set j u) :
    Own C k e (w.setCell ⟨q, i * k + j, none⟩ u) base (.slice (some ⟨q, 0, none⟩) n c) (l.set i y) ∧ Kept (fun b => b = q) w (w.setCell ⟨q, i * k + j, none⟩ u) := by
  have hn : n = l.length := by
    rcases h.2 with ⟨h0, _⟩ | ⟨g, cap, cur, hv, _⟩
    · cases h0
    · injection hv
  subst hn
  have h1 := (World.ownsRow.stored h (i * k + j) u).1
  refine ⟨?_, keep_set rfl⟩
  unfold Own
  rw [List.length_set, ← set_flat E l i j x y u hx hy hj]
  exact h1
theorem Own.free {q n c : Nat} (h : Own C k e w base (.slice (some ⟨q, 0, none⟩) n c) l) (j : Nat) : w.frozen? ⟨q, j, none⟩ = false := by
  have hn : n = l.length := by
    rcases h.2 with ⟨h0, _⟩ | ⟨g, cap, cur, hv, _⟩
    · cases h0
    · injection hv
  subst hn
  have := World.ownsRow.frozenAt h j
  exact this
end
end Go.Proofs.Ytkejjlghelnfjaa

/- slices.Clone at samples, laps, tags; record.Clone. (printed by wip/t/gen_tmb.py) -/
namespace Go.Proofs.Ytkejjlghelnfjaa
open Go.RowKit Go.BigFrame
theorem infoSm : Hid ((Try.prog.info? 37).map (fun i => (i.zero, i.size, i.bytes)) = some (some (.agg #[.int .i64 0, .int .i64 0, .int .i64 0, .int .i64 0, .int .i64 0, .int .i64 0, .int .i64 0]), 7, 56)) := Lib.hid (by kernel_rfl)
theorem underSm : Hid (Try.prog.underlying 22 = some (.slice 37)) := Lib.hid (by kernel_rfl)
set_option maxHeartbeats 2000000 in
set_option maxRecDepth 100000 in
theorem cloneSm_any (a : Option Addr) (l : List Sm) (cap : Nat) (w : World) (hr : Rw smC 7 w a l) (hl : l.length ≤ 1000000) :
    Calls Try.prog 32 #[.slice a l.length cap] w fun e w' => (∃ v, e = .returned v ∧ Own smC 7 37 w' w.heap.size v l) ∧ Below w.heap.size w w' := by
  have HU := underSm
  have hq : ∀ (w : World) (a : Option Addr) (n c n' c' : Nat), (binOp .eql 22 (.slice a n c) (.slice none n' c')).run Try.prog w = .ok (.bool a.isNone) w := fun w a n c n' c' => Lib.run_eql_slice_nil w _ _ a n c n' c' HU.out
  have u22 : ∀ w, Sem.run Try.prog (underlying 22) w = .ok (TypeDesc.slice 37) w := run_underlying HU.out
  cases a with
  | none =>
    have h0 := hr.nil_of
    subst h0
    clear hr
    go_enter Try.func32, Try.ntmps32
    go_wp2_with fail
    go_ret
    exact ⟨⟨_, rfl, Own.nil _ _ _ _ _⟩, Below.refl _ _⟩
  | some a =>
    obtain ⟨i0, hi0, hz0, hz1, hz2⟩ := info_parts infoSm.out
    have HI0 := Lib.hid hi0
    have HZ0 := Lib.hid hz0
    have HZ1 := Lib.hid hz1
    have HZ2 := Lib.hid hz2
    have HC := Lib.hid (hr.flat smEl)
    have HL := Lib.hid (smEl.flat l)
    have H1 := Lib.hid (smEl.ones l)
    clear hi0 hz0 hz1 hz2 hr
    go_enter Try.func32, Try.ntmps32
    go_wp2_with (at_builtin; refine wpList_append_own _ rfl _ _ 22 rfl w.heap.size 37 i0 (.agg #[.int .i64 0, .int .i64 0, .int .i64 0, .int .i64 0, .int .i64 0, .int .i64 0, .int .i64 0]) 7 56 HU.out HI0.out HZ0.out HZ1.out HZ2.out rfl (by decide) _ _ _ rfl (World.ownsRow_made w #[] 0 (Nat.le_refl _) (Nat.zero_le _) (by simp)) a l.length cap (l.flatMap smC) rfl ?qc1 ?qc2 ?qc3 ?qc4 ?qc5 ?qc6 ?_)
    case qc1 => exact HL.out
    case qc2 =>
      intro j u hj
      exact Lib.cell?_alloc_some _ (HC.out j u hj)
    case qc3 => exact H1.out
    case qc4 => rw [Nat.zero_add]; unfold maxLen; omega
    case qc5 => rw [Nat.zero_add]; omega
    case qc6 => simp
    intro v' w1 hown hgrow hnil
    go_wp2_with fail
    go_ret
    exact ⟨⟨v', rfl, by unfold Own; simpa using hown⟩, ((Below.refl _ w).alloc (Nat.le_refl _) _).grown hgrow (by simp) (by intro k hk; simp [Value.ownBlock] at hk; omega)⟩
theorem infoLp : Hid ((Try.prog.info? 48).map (fun i => (i.zero, i.size, i.bytes)) = some (some (.agg #[.int .i64 0, .int .i64 0, .string ⟨#[]⟩]), 3, 32)) := Lib.hid (by kernel_rfl)
theorem underLp : Hid (Try.prog.underlying 23 = some (.slice 48)) := Lib.hid (by kernel_rfl)
set_option maxHeartbeats 2000000 in
set_option maxRecDepth 100000 in
theorem cloneLp_any (a : Option Addr) (l : List Lp) (cap : Nat) (w : World) (hr : Rw lpC 3 w a l) (hl : l.length ≤ 1000000) :
    Calls Try.prog 33 #[.slice a l.length cap] w fun e w' => (∃ v, e = .returned v ∧ Own lpC 3 48 w' w.heap.size v l) ∧ Below w.heap.size w w' := by
  have HU := underLp
  have hq : ∀ (w : World) (a : Option Addr) (n c n' c' : Nat), (binOp .eql 23 (.slice a n c) (.slice none n' c')).run Try.prog w = .ok (.bool a.isNone) w := fun w a n c n' c' => Lib.run_eql_slice_nil w _ _ a n c n' c' HU.out
  have u22 : ∀ w, Sem.run Try.prog (underlying 23) w = .ok (TypeDesc.slice 48) w := run_underlying HU.out
  cases a with
  | none =>
    have h0 := hr.nil_of
    subst h0
    clear hr
    go_enter Try.func33, Try.ntmps33
    go_wp2_with fail
    go_ret
    exact ⟨⟨_, rfl, Own.nil _ _ _ _ _⟩, Below.refl _ _⟩
  | some a =>
    obtain ⟨i0, hi0, hz0, hz1, hz2⟩ := info_parts infoLp.out
    have HI0 := Lib.hid hi0
    have HZ0 := Lib.hid hz0
    have HZ1 := Lib.hid hz1
    have HZ2 := Lib.hid hz2
    have HC := Lib.hid (hr.flat lpEl)
    have HL := Lib.hid (lpEl.flat l)
    have H1 := Lib.hid (lpEl.ones l)
    clear hi0 hz0 hz1 hz2 hr
    go_enter Try.func33, Try.ntmps33
    go_wp2_with (at_builtin; refine wpList_append_own _ rfl _ _ 23 rfl w.heap.size 48 i0 (.agg #[.int .i64 0, .int .i64 0, .string ⟨#[]⟩]) 3 32 HU.out HI0.out HZ0.out HZ1.out HZ2.out rfl (by decide) _ _ _ rfl (World.ownsRow_made w #[] 0 (Nat.le_refl _) (Nat.zero_le _) (by simp)) a l.length cap (l.flatMap lpC) rfl ?qc1 ?qc2 ?qc3 ?qc4 ?qc5 ?qc6 ?_)
    case qc1 => exact HL.out
    case qc2 =>
      intro j u hj
      exact Lib.cell?_alloc_some _ (HC.out j u hj)
    case qc3 => exact H1.out
    case qc4 => rw [Nat.zero_add]; unfold maxLen; omega
    case qc5 => rw [Nat.zero_add]; omega
    case qc6 => simp
    intro v' w1 hown hgrow hnil
    go_wp2_with fail
    go_ret
    exact ⟨⟨v', rfl, by unfold Own; simpa using hown⟩, ((Below.refl _ w).alloc (Nat.le_refl _) _).grown hgrow (by simp) (by intro k hk; simp [Value.ownBlock] at hk; omega)⟩
theorem infoTg : Hid ((Try.prog.info? 9).map (fun i => (i.zero, i.size, i.bytes)) = some (some (.string ⟨#[]⟩), 1, 16)) := Lib.hid (by kernel_rfl)
theorem underTg : Hid (Try.prog.underlying 24 = some (.slice 9)) := Lib.hid (by kernel_rfl)
set_option maxHeartbeats 2000000 in
set_option maxRecDepth 100000 in
theorem cloneTg_any (a : Option Addr) (l : List ByteArray) (cap : Nat) (w : World) (hr : Rw tgC 1 w a l) (hl : l.length ≤ 1000000) :
    Calls Try.prog 34 #[.slice a l.length cap] w fun e w' => (∃ v, e = .returned v ∧ Own tgC 1 9 w' w.heap.size v l) ∧ Below w.heap.size w w' := by
  have HU := underTg
  have hq : ∀ (w : World) (a : Option Addr) (n c n' c' : Nat), (binOp .eql 24 (.slice a n c) (.slice none n' c')).run Try.prog w = .ok (.bool a.isNone) w := fun w a n c n' c' => Lib.run_eql_slice_nil w _ _ a n c n' c' HU.out
  have u22 : ∀ w, Sem.run Try.prog (underlying 24) w = .ok (TypeDesc.slice 9) w := run_underlying HU.out
  cases a with
  | none =>
    have h0 := hr.nil_of
    subst h0
    clear hr
    go_enter Try.func34, Try.ntmps34
    go_wp2_with fail
    go_ret
    exact ⟨⟨_, rfl, Own.nil _ _ _ _ _⟩, Below.refl _ _⟩
  | some a =>
    obtain ⟨i0, hi0, hz0, hz1, hz2⟩ := info_parts infoTg.out
    have HI0 := Lib.hid hi0
    have HZ0 := Lib.hid hz0
    have HZ1 := Lib.hid hz1
    have HZ2 := Lib.hid hz2
    have HC := Lib.hid (hr.flat tgEl)
    have HL := Lib.hid (tgEl.flat l)
    have H1 := Lib.hid (tgEl.ones l)
    clear hi0 hz0 hz1 hz2 hr
    go_enter Try.func34, Try.ntmps34
    go_wp2_with (at_builtin; refine wpList_append_own _ rfl _ _ 24 rfl w.heap.size 9 i0 (.string ⟨#[]⟩) 1 16 HU.out HI0.out HZ0.out HZ1.out HZ2.out rfl (by decide) _ _ _ rfl (World.ownsRow_made w #[] 0 (Nat.le_refl _) (Nat.zero_le _) (by simp)) a l.length cap (l.flatMap tgC) rfl ?qc1 ?qc2 ?qc3 ?qc4 ?qc5 ?qc6 ?_)
    case qc1 => exact HL.out
    case qc2 =>
      intro j u hj
      exact Lib.cell?_alloc_some _ (HC.out j u hj)
    case qc3 => exact H1.out
    case qc4 => rw [Nat.zero_add]; unfold maxLen; omega
    case qc5 => rw [Nat.zero_add]; omega
    case qc6 => simp
    intro v' w1 hown hgrow hnil
    go_wp2_with fail
    go_ret
    exact ⟨⟨v', rfl, by unfold Own; simpa using hown⟩, ((Below.refl _ w).alloc (Nat.le_refl _) _).grown hgrow (by simp) (by intro k hk; simp [Value.ownBlock] at hk; omega)⟩
end Go.Proofs.Ytkejjlghelnfjaa

/- Where of the program and of the reference. (printed by wip/t/gen_tfh.py) -/
namespace Go.Proofs.Ytkejjlghelnfjaa
open Go.RowKit Go.BigFrame
open Tr (inR)

theorem spanS_last {l : List Sm} {s : Sm} (h : l[l.length - 1]? = some s) : spanS l = s.tm := by
  unfold spanS
  rw [h]
theorem where_cases {start n : Int} {l : List Sm} (ho : SmOk start l) (hne : 0 < l.length) (h0 : 0 ≤ n) (h1 : n ≤ spanS l) :
    ∃ q, l[lbS l n]? = some q ∧ ((q.tm = n ∧ whereS l n = q ∧ foundS l n = true) ∨ (q.tm ≠ n ∧ foundS l n = false ∧ ∃ j p, lbS l n = j + 1 ∧ l[j]? = some p ∧ Btw p q n ∧ whereS l n = amidS p q n)) := by
  obtain ⟨z, hz⟩ : ∃ z, l[l.length - 1]? = some z := ⟨_, List.getElem?_eq_getElem (by omega)⟩
  have hsp := spanS_last hz
  have hlt : lbS l n < l.length := by
    have := lbS_le l n
    by_cases e : lbS l n = l.length
    · have := lbS_before l n (l.length - 1) z (by omega) hz
      omega
    · omega
  obtain ⟨q, hq⟩ : ∃ q, l[lbS l n]? = some q := ⟨_, List.getElem?_eq_getElem hlt⟩
  refine ⟨q, hq, ?_⟩
  have hge := lbS_at l n q hq
  by_cases e : q.tm = n
  · refine Or.inl ⟨e, ?_, ?_⟩
    · unfold whereS
      rw [hq]
      simp only
      rw [if_pos e]
    · unfold foundS
      rw [hq]
      simp [e]
  · refine Or.inr ⟨e, by unfold foundS; rw [hq]; simp [e], ?_⟩
    cases hk : lbS l n with
    | zero =>
      rw [hk] at hq
      have := ho.first q hq
      omega
    | succ j =>
      obtain ⟨p, hp⟩ : ∃ p, l[j]? = some p := ⟨_, List.getElem?_eq_getElem (by omega)⟩
      have hb := lbS_before l n j p (by omega) hp
      rw [hk] at hq
      refine ⟨j, p, rfl, hp, ⟨(ho.upto j p hp).2.2, (ho.upto _ q hq).2.2, by omega, hge, ho.next j p q hp hq, ho.nonneg hp, (ho.upto _ q hq).1⟩, ?_⟩
      unfold whereS
      rw [hk, hq]
      simp only
      rw [if_neg e, Nat.add_sub_cancel, hp]
end Go.Proofs.Ytkejjlghelnfjaa
