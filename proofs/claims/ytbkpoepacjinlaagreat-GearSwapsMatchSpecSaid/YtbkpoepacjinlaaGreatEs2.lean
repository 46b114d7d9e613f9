/- Several texts of this claim in one. -/
import Derived.Test.YtbkpoepacjinlaaGreatProg
import Derived.Deep.Slices
import Derived.ChangeSame
import Derived.Below
import Derived.Lib.SmallJoins
import Derived.Test.YtbkpoepacjinlaaGreatEs1
import Derived.Deep.LoopGhost
import Derived.WalkKit
import Derived.Lib.Hide
import Derived.WalkSpells
import Derived.WalkLawsBesides
import Derived.Test.YtbkpoepacjinlaaGreatShelf
import Derived.BigFrame
import Derived.Deep.QuietTactic
import Derived.BigQuiet
import Derived.Deep.RegionHeld3
import Derived.Lib.Bytealg
import Derived.Laws.EntriesVeiled
import Derived.RegionTactic
import Derived.ChangeAlike
import Derived.Deep.Cut
/- Slices of structs of one-cell fields that came in: how they read (any program). -/
namespace Go.Proofs.YtbkpoepacjinlaaGreat
open Go.RowKit Go.ChangeShapes Go.WideShapes Go.Deep

/-- a slice of structs of k one-cell fields, as it lies in memory: element i has the cells V i -/
structure RowK (w : World) (a : Option Addr) (len k : Nat) (V : Nat → List Value) : Prop where
  here : 0 < len → ∃ b off, a = some ⟨b, off, none⟩ ∧ b < w.heap.size ∧ ∀ i, i < len → ∀ j, j < k → w.cell? ⟨b, off + i * k + j, none⟩ = (V i)[j]?
theorem RowK.below {w w' : World} {a : Option Addr} {len k B : Nat} {V : Nat → List Value} (h : RowK w a len k V) (hb : Below B w w') (hB : w.heap.size ≤ B) : RowK w' a len k V := by
  refine ⟨fun hl => ?_⟩
  obtain ⟨b, off, rfl, hlt, hc⟩ := h.here hl
  exact ⟨b, off, rfl, Nat.lt_of_lt_of_le hlt hb.size, fun i hi j hj => (hb.cell (p := ⟨b, off + i * k + j, none⟩) (Nat.lt_of_lt_of_le hlt hB)).trans (hc i hi j hj)⟩

theorem RowK.at {w : World} {b off len k : Nat} {V : Nat → List Value} (h : RowK w (some ⟨b, off, none⟩) len k V) {i j : Nat} (hi : i < len) (hj : j < k) : w.cell? ⟨b, off + i * k + j, none⟩ = (V i)[j]? := by
  obtain ⟨b', off', he, _, hc⟩ := h.here (by omega)
  injection he with he
  injection he with h1 h2
  subst h1
  subst h2
  exact hc i hi j hj

section
variable {H : Type} {enc : TypeId × Value → H} {P : Program} {w : World} {base : Nat}
theorem open_rowK {t e : TypeId} {fs : Array Field} {fuel : Nat} {v : Value} {x : DataW H × List MemPlace} (ht : P.underlying t = some (.slice e)) (he : P.underlying e = some (.struct fs)) (hC : P.cellsOf e = fs.size) (hfs : 0 < fs.size)
    (hone : ∀ (i : Nat) (f : Field), fs[i]? = some f → f.offset = i ∧ P.cellsOf f.type = 1) (h : DataW.trod enc P w base (fun _ => true) true fuel t [v] = some x) :
    ∃ (a : Option Addr) (len cap : Nat) (V : Nat → List Value), v = .slice a len cap ∧ len ≤ cap ∧ cap ≤ maxLen ∧ RowK w a len fs.size V ∧
      ∀ i, i < len → (V i).length = fs.size ∧ ∀ (j : Nat) (f : Field), fs[j]? = some f → ∃ u n y, (V i)[j]? = some u ∧ DataW.trod enc P w base (fun _ => true) true n f.type [u] = some y := by
  rcases open_slice ht h with ⟨hc, _⟩ | ⟨a, len, cap, m, n, D, Pl, hc, _, hl, hm, hmm, _, hx⟩
  · simp only [List.cons.injEq, and_true] at hc
    exact ⟨none, 0, 0, fun _ => [], hc, Nat.le_refl _, Nat.zero_le _, ⟨fun h => absurd h (by omega)⟩, fun i hi => absurd hi (by omega)⟩
  · simp only [List.cons.injEq, and_true] at hc
    simp only [if_true] at hmm
    subst hmm
    have each : ∀ i, i < m → ∃ cs : List Value, cs.length = fs.size ∧ (∀ j, j < fs.size → w.cell? (a.add (i * fs.size + j)) = cs[j]?) ∧ ∀ (j : Nat) (f : Field), fs[j]? = some f → ∃ u n y, cs[j]? = some u ∧ DataW.trod enc P w base (fun _ => true) true n f.type [u] = some y := by
      intro i hi
      obtain ⟨cs, h1, h2⟩ := hx i hi
      rw [hC] at h1
      obtain ⟨_, hlen, hcell⟩ := World.cells?_some h1
      obtain ⟨xs, k, _, _, _, hxl, hf⟩ := DataW.trod_struct he h2
      refine ⟨cs, hlen, fun j hj => by rw [← add_add]; exact hcell j (by omega), fun j f hj => ?_⟩
      obtain ⟨o1, o2⟩ := hone j f hj
      have g := hf j f hj
      rw [o1, o2] at g
      have hjl : j < cs.length := by
        rw [hlen]
        exact (Array.getElem?_eq_some_iff.1 hj).1
      have hjx : j < xs.length := by rw [hxl]; rw [hlen] at hjl; exact hjl
      have e1 : (cs.drop j).take 1 = [cs[j]] := by rw [List.drop_eq_getElem_cons hjl]; rfl
      rw [e1, List.getElem?_eq_getElem hjx] at g
      exact ⟨cs[j], k, xs[j], List.getElem?_eq_getElem hjl, g⟩
    obtain ⟨V, hV⟩ := choose_lt each
    refine ⟨some a, len, m, V, hc, hl, hm, ⟨fun hl0 => ?_⟩, fun i hi => ⟨(hV i (by omega)).1, (hV i (by omega)).2.2⟩⟩
    obtain ⟨b, o, sp⟩ := a
    have hc0 : ∃ u, w.cell? ((⟨b, o, sp⟩ : Addr).add (0 * fs.size + 0)) = some u := by
      obtain ⟨g1, g2, g3⟩ := hV 0 (by omega)
      exact ⟨(V 0)[0]'(by omega), by rw [g2 0 hfs, List.getElem?_eq_getElem]⟩
    obtain ⟨u, hu⟩ := hc0
    have hspot : sp = none := by simpa [Addr.add] using World.cell?_spot hu
    subst hspot
    rw [Nat.zero_mul, add_plain] at hu
    refine ⟨b, o, rfl, World.block_lt_of_cell? w _ hu, fun i hi j hj => ?_⟩
    have := (hV i (by omega)).2.1 j hj
    rw [add_plain, ← Nat.add_assoc] at this
    exact this
end
end Go.Proofs.YtbkpoepacjinlaaGreat

/- Gear: the search for the partner: partner of the program. -/
namespace Go.Proofs.YtbkpoepacjinlaaGreat
open Go.RowKit Go.BigFrame
open Cir (Perm it IsP Bst)

def PartR (t : Nat → Nat) (i : Nat) (e : Ending) : Prop := ∃ k : Nat, e = .returned (.int .i64 k) ∧ IsP t i k
theorem int_eq {a b : Int} (h : a = b) : Value.int .i64 a = .int .i64 b := by rw [h]
set_option maxHeartbeats 2000000 in
set_option maxRecDepth 100000 in
theorem partner_any (n : Nat) (t : Nat → Nat) (a : Option Addr) (cap i : Nat) (w : World) (hr : RowK w a n 1 (fun j => [.int .i64 (t j : Nat)])) (hp : Perm t n) (hi : i < n) (hgt : i < t i) (hn : n ≤ 20) :
    Calls Tryz.prog 11 #[.slice a n cap, .int .i64 i] w fun e w' => PartR t i e ∧ w = w' := by
  obtain ⟨b, off, rfl, _, hc0⟩ := hr.here (by omega)
  have HC := Lib.hid (fun (j : Nat) (hj : j < n) => show w.cell? ⟨b, off + j, none⟩ = some (.int .i64 (t j : Nat)) from by
    have := hc0 j hj 0 (by omega)
    rw [Nat.mul_one, Nat.add_zero] at this
    exact this)
  have HP := Lib.hid hp
  have HGT := Lib.hid hgt
  obtain ⟨r, r0, rn, rr, rmin⟩ := hp.first hi
  have HRR := Lib.hid (And.intro rr rmin)
  have c0 := HC.out i hi
  have hii : (i : Int) < (n : Int) := by omega
  obtain ⟨k1, hk1⟩ : ∃ k, t i = k := ⟨_, rfl⟩
  have HK1 := Lib.hid hk1
  rw [hk1] at c0
  clear hc0 hr hp hgt rr rmin hk1
  go_enter Tryz.func11, Tryz.ntmps11
  go_wp2_with fail
  clear c0
  go_loopg [5, 6] (r - 1) (fun g bv kv wr => w = wr ∧ ∃ s bb k : Nat, bv = .int .i64 bb ∧ kv = .int .i64 k ∧ 0 < s ∧ s ≤ r ∧ g = r - s ∧ bb ≤ n ∧ k < n ∧ Hid (it t s i = k ∧ Bst t n i s bb))
  case atStart => exact ⟨rfl, 1, n, k1, rfl, rfl, by omega, by omega, rfl, by omega, by rw [← HK1.out]; exact HP.out.lt i hi, Lib.hid ⟨HK1.out, Bst.start t n i⟩⟩
  case round =>
    obtain ⟨rfl, s, bb, k, rfl, rfl, hs0, hsr, rfl, hbn, hkn, HS⟩ := hrel
    by_cases he : k = i
    · have t1 : ((k : Int) != (i : Int)) = false := by rw [he]; simp
      have t1' : (k != i) = false := by rw [he]; simp
      have hrs : s = r := by
        rcases Nat.lt_or_eq_of_le hsr with e | e
        · exact absurd (HS.out.1.trans he) (HRR.out.2 s hs0 e)
        · exact e
      have HF : Hid (IsP t i bb) := Lib.hid (HS.out.2.done HP.out hi hs0 (HS.out.1.trans he) HGT.out)
      clear he hrs HS
      go_wp2_with fail
      go_ret
      exact ⟨⟨bb, rfl, HF.out⟩, rfl⟩
    · have t1 : ((k : Int) != (i : Int)) = true := by rw [bne_iff_ne]; omega
      have t1' : (k != i) = true := by rw [bne_iff_ne]; exact he
      have hlt : s < r := by
        rcases Nat.lt_or_eq_of_le hsr with e | e
        · exact e
        · exact absurd (HS.out.1.symm.trans (by rw [e]; exact HRR.out.1)) he
      have c1 := HC.out k hkn
      have hki : (k : Int) < (n : Int) := by omega
      have hnx : it t (s + 1) i = t k := by rw [it, HS.out.1]
      have hknx := HP.out.lt k hkn
      obtain ⟨k2, hk2⟩ : ∃ z, t k = z := ⟨_, rfl⟩
      rw [hk2] at c1 hnx hknx
      have HNX := Lib.hid hnx
      by_cases hgi : i < k
      · have t2 : decide ((i : Int) < (k : Int)) = true := by rw [decide_eq_true_eq]; omega
        have t2' : decide (i < k) = true := by simpa using hgi
        have HB : Hid (Bst t n i (s + 1) (min bb k)) := Lib.hid (by
          have := HS.out.2.more hs0 (by rw [HS.out.1]; exact hgi)
          rwa [HS.out.1] at this)
        have hmn : min bb k ≤ n := Nat.le_trans (Nat.min_le_left _ _) hbn
        clear he hnx hk2 hgi HS
        go_wp2_with fail
        all_goals
          go_roundg (r - (s + 1))
          case rel => exact ⟨rfl, s + 1, min bb k, k2, int_eq (by omega), rfl, by omega, by omega, rfl, hmn, hknx, Lib.hid ⟨HNX.out, HB.out⟩⟩
          case measure => omega
      · have t2 : decide ((i : Int) < (k : Int)) = false := by rw [decide_eq_false_iff_not]; omega
        have t2' : decide (i < k) = false := by simpa using hgi
        have HB : Hid (Bst t n i (s + 1) bb) := Lib.hid (HS.out.2.less (by rw [HS.out.1]; exact hgi))
        clear he hnx hk2 hgi HS
        go_wp2_with fail
        go_roundg (r - (s + 1))
        case rel => exact ⟨rfl, s + 1, bb, k2, rfl, rfl, by omega, by omega, rfl, hbn, hknx, Lib.hid ⟨HNX.out, HB.out⟩⟩
        case measure => omega
end Go.Proofs.YtbkpoepacjinlaaGreat

/- Gear: a garage as data, and what Check returns, in plain functions. -/
namespace Go.Proofs.YtbkpoepacjinlaaGreat
open Go

def nameC (x : Int) : Bool := (decide (97 ≤ x) && decide (x ≤ 122)) || (decide (65 ≤ x) && decide (x ≤ 90)) || (decide (48 ≤ x) && decide (x ≤ 57)) || decide (x = 45) || decide (x = 95) || decide (x = 46)
def nameB (s : ByteArray) : Bool := decide (1 ≤ s.size) && decide (s.size ≤ 60) && s.data.toList.all fun c => nameC c.toNat
/-- a stands before b -/
def strLt (a b : ByteArray) : Bool := Op.bytesLess a.toList b.toList
structure Gar where
  np : Nat
  ns : Nat
  nm : Nat
  nu : Nat
  pn : Nat → ByteArray
  pc : Nat → Int
  sn : Nat → ByteArray
  sr : Nat → ByteArray
  ms : Nat → ByteArray
  mp : Nat → ByteArray
  mf : Nat → Int
  mt : Nat → Int
  un : Nat → ByteArray
  ur : Nat → ByteArray
  uf : Nat → Int
  us : Nat → Int
  uw : Nat → Int
namespace Gar
def momG (n : Int) : Bool := decide (0 ≤ n) && decide (n ≤ 86399999999)
def endG (t : Int) : Int := if t < 0 then 4611686018427387904 else t
/-- the look at the parts from the k-th on -/
def chkP (g : Gar) : Nat → Nat → Int
  | 0, _ => 0
  | n + 1, k => if nameB (g.pn k) = false then 8 else if 0 < k ∧ strLt (g.pn (k - 1)) (g.pn k) = false then 10 else if g.pc k < 0 ∨ 1000000000 < g.pc k then 9 else chkP g n (k + 1)
def chkS (g : Gar) : Nat → Nat → Int
  | 0, _ => 0
  | n + 1, k => if nameB (g.sn k) = false then 8 else if 0 < k ∧ strLt (g.sn (k - 1)) (g.sn k) = false then 10 else if nameB (g.sr k) = false then 8 else chkS g n (k + 1)
def hasS (g : Gar) (s : ByteArray) : Bool := (List.range g.ns).any fun i => decide (g.sn i = s)
def hasP (g : Gar) (s : ByteArray) : Bool := (List.range g.np).any fun i => decide (g.pn i = s)
/-- does mount i stand before mount k? -/
def befM (g : Gar) (i k : Nat) : Bool := decide (g.mf i < g.mf k) || (decide (g.mf i = g.mf k) && strLt (g.ms i) (g.ms k))
def chkM (g : Gar) : Nat → Nat → Int
  | 0, _ => 0
  | n + 1, k => if (hasS g (g.ms k) && hasP g (g.mp k)) = false then 4
    else if (momG (g.mf k) && (decide (g.mt k = -1) || momG (g.mt k))) = false then 9
    else if (g.mt k ≠ -1 ∧ g.mt k ≤ g.mf k) ∨ (0 < k ∧ befM g (k - 1) k = false) then 10 else chkM g n (k + 1)
/-- two mounts overlap -/
def overB (g : Gar) (i k : Nat) : Bool := (decide (g.ms i = g.ms k) || decide (g.mp i = g.mp k)) && decide (max (g.mf i) (g.mf k) < min (endG (g.mt i)) (endG (g.mt k)))
def anyOver (g : Gar) : Bool := (List.range g.nm).any fun k => (List.range k).any fun i => overB g i k
def befU (g : Gar) (i k : Nat) : Bool := decide (g.uf i < g.uf k) || (decide (g.uf i = g.uf k) && strLt (g.un i) (g.un k))
/-- a use beside others; tw: one has its name -/
def chkUse (n r : ByteArray) (tw : Bool) (f s x : Int) : Int :=
  if (nameB n && nameB r) = false then 8 else if tw = true then 5 else if (momG f && decide (1 ≤ s) && decide (s ≤ 1000000) && decide (0 ≤ x) && decide (x ≤ 1000000000)) = false then 9 else 0
def chkU (g : Gar) : Nat → Nat → Int
  | 0, _ => 0
  | n + 1, k => if chkUse (g.un k) (g.ur k) ((List.range k).any fun i => decide (g.un i = g.un k)) (g.uf k) (g.us k) (g.uw k) ≠ 0 then chkUse (g.un k) (g.ur k) ((List.range k).any fun i => decide (g.un i = g.un k)) (g.uf k) (g.us k) (g.uw k)
    else if 0 < k ∧ befU g (k - 1) k = false then 10 else chkU g n (k + 1)
def chk (g : Gar) : Int :=
  if 500 < g.np ∨ 100 < g.ns ∨ 2000 < g.nm ∨ 5000 < g.nu then 3
  else if chkP g g.np 0 ≠ 0 then chkP g g.np 0
  else if chkS g g.ns 0 ≠ 0 then chkS g g.ns 0
  else if chkM g g.nm 0 ≠ 0 then chkM g g.nm 0
  else if anyOver g = true then 11
  else chkU g g.nu 0
end Gar
end Go.Proofs.YtbkpoepacjinlaaGreat

/- Contracts of small functions of rounding: outside, size, more, ways and its functions, IndexFunc over the ways, Compare. -/
namespace Go.Proofs.YtbkpoepacjinlaaGreat
open Go.RowKit

theorem ret_int {k : IntKind} {a b : Int} (h : a = b) : Ending.returned (.int k a) = .returned (.int k b) := by rw [h]
theorem ret_bool {a b : Bool} (h : a = b) : Ending.returned (.bool a) = .returned (.bool b) := by rw [h]

theorem outside_any (n lo hi : Int) (w : World) :
    Calls Tryz.prog 97 #[.int .i64 n, .int .i64 lo, .int .i64 hi] w fun e w' => e = .returned (.bool (decide (n < lo) || decide (hi < n))) ∧ w = w' := by
  by_cases h1 : n < lo
  · go_enter Tryz.func97, Tryz.ntmps97
    go_wp2
    go_ret
    exact ⟨by simp [h1], rfl⟩
  · have h2 : decide (n < lo) = false := by simpa using h1
    go_enter Tryz.func97, Tryz.ntmps97
    go_wp2
    go_ret
    exact ⟨by simp, rfl⟩

theorem size_any (a : Int) (w : World) (h1 : -9223372036854775808 ≤ a) (h2 : a ≤ 9223372036854775807) :
    Calls Tryz.prog 99 #[.int .i64 a] w fun e w' => e = .returned (.int .u64 a.natAbs) ∧ w = w' := by
  go_enter Tryz.func99, Tryz.ntmps99
  go_wp2
  all_goals go_ret
  all_goals refine ⟨ret_int ?_, rfl⟩
  · simp only [IntKind.wrap_u64]; omega
  · show a = _; omega

def cmpF (a b : Int) : Int := if a < b then -1 else if b < a then 1 else 0

def fnv (k : Nat) : Value := .func (.func k) #[] #[]
/-- what 'more' returns -/
def moreF (q r d : Int) (m : Bool) (how : Int) : Bool :=
  if r = 0 then false else if how = 1 then m else if how = 2 then !m else if how = 3 then false else if r ≠ d - r then decide (d - r < r) else if how = 4 then !m else q % 2 == 1
set_option maxRecDepth 4000 in
theorem more_any (q r d : Int) (m : Bool) (how : Int) (w : World) (hq : 0 ≤ q) (hr : 0 ≤ r) (hd : r ≤ d) (hD : d ≤ 18446744073709551615) :
    Calls Tryz.prog 101 #[.int .u64 q, .int .u64 r, .int .u64 d, .bool m, .int .i64 how] w fun e w' => e = .returned (.bool (moreF q r d m how)) ∧ w = w' := by
  have hwr : IntKind.u64.wrap (d - r) = d - r := by rw [IntKind.wrap_u64]; omega
  unfold moreF
  by_cases h0 : r = 0
  · subst h0
    rw [if_pos rfl]
    clear hwr
    go_enter Tryz.func101, Tryz.ntmps101
    go_wp2
    go_ret
    exact ⟨rfl, rfl⟩
  · have b0 : (r == 0) = false := by simpa using h0
    rw [if_neg h0]
    by_cases h1 : how = 1
    · subst h1
      rw [if_pos rfl]
      go_enter Tryz.func101, Tryz.ntmps101
      go_wp2
      go_ret
      exact ⟨rfl, rfl⟩
    by_cases h2 : how = 2
    · subst h2
      rw [if_neg h1, if_pos rfl]
      go_enter Tryz.func101, Tryz.ntmps101
      go_wp2
      go_ret
      exact ⟨rfl, rfl⟩
    by_cases h3 : how = 3
    · subst h3
      rw [if_neg h1, if_neg h2, if_pos rfl]
      go_enter Tryz.func101, Tryz.ntmps101
      go_wp2
      go_ret
      exact ⟨rfl, rfl⟩
    have b1 : (how == 1) = false := by simpa using h1
    have b2 : (how == 2) = false := by simpa using h2
    have b3 : (how == 3) = false := by simpa using h3
    rw [if_neg h1, if_neg h2, if_neg h3]
    by_cases h4 : r = d - r
    · have b4 : (r != d - r) = false := by rw [bne_eq_false_iff_eq]; exact h4
      rw [if_neg (by simpa using h4)]
      clear h4 h1 h2 h3 h0
      by_cases h5 : how = 4
      · subst h5
        rw [if_pos rfl]
        go_enter Tryz.func101, Tryz.ntmps101
        go_wp2
        go_ret
        exact ⟨rfl, rfl⟩
      · have b5 : (how == 4) = false := by simpa using h5
        rw [if_neg h5]
        clear h5
        go_enter Tryz.func101, Tryz.ntmps101
        go_wp2
        go_ret
        exact ⟨rfl, rfl⟩
    · have b4 : (r != d - r) = true := by rw [bne_iff_ne]; exact h4
      rw [if_pos (by simpa using h4)]
      clear h4 h1 h2 h3 h0
      go_enter Tryz.func101, Tryz.ntmps101
      go_wp2
      go_ret
      exact ⟨rfl, rfl⟩
end Go.Proofs.YtbkpoepacjinlaaGreat

/- IsName of the program and of the reference (printed by wip/g/gen_name.py). -/
namespace Go.Proofs.YtbkpoepacjinlaaGreat
open Go.RowKit

/-- the first k bytes can stand in a name -/
def allN (s : ByteArray) (k : Nat) : Bool := (s.data.toList.take k).all fun c => nameC c.toNat
theorem allN_step {s : ByteArray} {k : Nat} (hk : k < s.size) (h : allN s k = true) (hc : nameC (s[k].toNat : Int) = true) : allN s (k + 1) = true := by
  unfold allN at h ⊢
  rw [List.take_succ_eq_append_getElem (by simpa using hk), List.all_append, h, Bool.true_and]
  simpa [ByteArray.getElem_eq_getElem_data] using hc
theorem allN_bad {s : ByteArray} {k : Nat} (hk : k < s.size) (hc : nameC (s[k].toNat : Int) = false) : nameB s = false := by
  unfold nameB
  have h1 : (s.data.toList.all fun c => nameC c.toNat) = false := by
    rw [List.all_eq_false]
    exact ⟨s[k], by simp [ByteArray.getElem_eq_getElem_data], by rw [hc]; simp⟩
  rw [h1, Bool.and_false]
theorem nameB_of {s : ByteArray} (h : allN s s.size = true) : nameB s = (decide (1 ≤ s.size) && decide (s.size ≤ 60)) := by
  unfold nameB
  unfold allN at h
  rw [List.take_of_length_le (by simp)] at h
  rw [h, Bool.and_true]
def digB (x : Int) : Bool := decide (48 ≤ x) && decide (x ≤ 57)
theorem digit_any (x : Int) (w : World) : Calls Tryz.prog 46 #[.int .u8 x] w fun e w' => e = .returned (.bool (digB x)) ∧ w = w' := by
  cases h : decide (48 ≤ x)
  all_goals
    go_enter Tryz.func46, Tryz.ntmps46
    go_wp2
    go_ret
    exact ⟨ret_bool (by simp [digB, h]), rfl⟩
theorem rdigit_any (x : Int) (w : World) : Calls Tryz.prog 72 #[.int .u8 x] w fun e w' => e = .returned (.bool (digB x)) ∧ w = w' := by
  cases h : decide (48 ≤ x)
  all_goals
    go_enter Tryz.func72, Tryz.ntmps72
    go_wp2
    go_ret
    exact ⟨ret_bool (by simp [digB, h]), rfl⟩

set_option maxHeartbeats 4000000 in
set_option maxRecDepth 100000 in
theorem isName_any (s : ByteArray) (w : World) (hs : s.size ≤ maxLen) :
    Calls Tryz.prog 21 #[.string s] w fun e w' => e = .returned (.bool (nameB s)) ∧ w = w' := by
  unfold maxLen at hs
  go_enter Tryz.func21, Tryz.ntmps21
  go_wp2_with fail
  go_loop [8] (fun iv => ∃ (k : Nat), iv = .int .i64 k ∧ k ≤ s.size ∧ Hid (allN s k = true)) (fun iv => s.size - (intOf iv).toNat)
  case atStart => exact ⟨0, rfl, by omega, Lib.hid rfl⟩
  case round =>
    obtain ⟨k, rfl, hk, HA⟩ := hrel
    by_cases hlt : k < s.size
    · have t3 : decide ((k : Int) < (s.size : Int)) = true := by rw [decide_eq_true_eq]; omega
      have t3' : decide (k < s.size) = true := by simpa using hlt
      have hub : (s[k].toNat : Int) ≤ 255 := by have := s[k].toNat_lt; omega
      have OKN := fun (h : Hid (nameC (s[k].toNat : Int) = true)) => Lib.hid (allN_step hlt HA.out h.out)
      have BADN := fun (h : Hid (nameC (s[k].toNat : Int) = false)) => allN_bad hlt h.out
      have OKN := Lib.hid OKN
      have BADN := Lib.hid BADN
      have hnn : 0 ≤ (s[k].toNat : Int) := Int.natCast_nonneg _
      obtain ⟨x, hx⟩ : ∃ x : Int, (s[k].toNat : Int) = x := ⟨_, rfl⟩
      rw [hx] at hub hnn OKN BADN
      have hways : (0 ≤ x ∧ x ≤ 44) ∨ (45 ≤ x ∧ x ≤ 45) ∨ (46 ≤ x ∧ x ≤ 46) ∨ (47 ≤ x ∧ x ≤ 47) ∨ (48 ≤ x ∧ x ≤ 57) ∨ (58 ≤ x ∧ x ≤ 64) ∨ (65 ≤ x ∧ x ≤ 90) ∨ (91 ≤ x ∧ x ≤ 94) ∨ (95 ≤ x ∧ x ≤ 95) ∨ (96 ≤ x ∧ x ≤ 96) ∨ (97 ≤ x ∧ x ≤ 122) ∨ (123 ≤ x ∧ x ≤ 255) := by omega
      rcases hways with hways | hways | hways | hways | hways | hways | hways | hways | hways | hways | hways | hways
      · have hx0 : 0 ≤ x := by omega
        have hx1 : x ≤ 44 := by omega
        have d1 : decide ((97 : Int) ≤ x) = false := by rw [decide_eq_false_iff_not]; omega
        have d2 : decide (x ≤ (122 : Int)) = true := by rw [decide_eq_true_eq]; omega
        have d3 : decide ((65 : Int) ≤ x) = false := by rw [decide_eq_false_iff_not]; omega
        have d4 : decide (x ≤ (90 : Int)) = true := by rw [decide_eq_true_eq]; omega
        have b0 : (x != (45 : Int)) = true := by rw [bne_iff_ne]; omega
        have b1 : (x != (95 : Int)) = true := by rw [bne_iff_ne]; omega
        have b2 : (x != (46 : Int)) = true := by rw [bne_iff_ne]; omega
        have hc : nameC x = false := by unfold nameC; simp; omega
        have HC := Lib.hid hc
        have HD := Lib.hid (digit_any x)
        rw [show digB x = false by unfold digB; simp; omega] at HD
        clear hc hx0 hx1 hways
        go_wp2_with fail
        refine (HD.out _).mono ?_
        rintro e w1 ⟨rfl, rfl⟩
        go_wp2_with fail
        go_ret
        exact ⟨ret_bool (BADN.out HC).symm, rfl⟩
      · have hx0 : 45 ≤ x := by omega
        have hx1 : x ≤ 45 := by omega
        have d1 : decide ((97 : Int) ≤ x) = false := by rw [decide_eq_false_iff_not]; omega
        have d2 : decide (x ≤ (122 : Int)) = true := by rw [decide_eq_true_eq]; omega
        have d3 : decide ((65 : Int) ≤ x) = false := by rw [decide_eq_false_iff_not]; omega
        have d4 : decide (x ≤ (90 : Int)) = true := by rw [decide_eq_true_eq]; omega
        have b0 : (x != (45 : Int)) = false := by rw [show x = 45 by omega]; rfl
        have b1 : (x != (95 : Int)) = true := by rw [bne_iff_ne]; omega
        have b2 : (x != (46 : Int)) = true := by rw [bne_iff_ne]; omega
        have hc : nameC x = true := by unfold nameC; simp; omega
        have HC := Lib.hid hc
        have HD := Lib.hid (digit_any x)
        rw [show digB x = false by unfold digB; simp; omega] at HD
        clear hc hx0 hx1 hways
        go_wp2_with fail
        refine (HD.out _).mono ?_
        rintro e w1 ⟨rfl, rfl⟩
        go_wp2_with fail
        go_round
        case rel => exact ⟨k + 1, by go_num, by omega, OKN.out HC⟩
        case measure => simp [intOf]; omega
      · have hx0 : 46 ≤ x := by omega
        have hx1 : x ≤ 46 := by omega
        have d1 : decide ((97 : Int) ≤ x) = false := by rw [decide_eq_false_iff_not]; omega
        have d2 : decide (x ≤ (122 : Int)) = true := by rw [decide_eq_true_eq]; omega
        have d3 : decide ((65 : Int) ≤ x) = false := by rw [decide_eq_false_iff_not]; omega
        have d4 : decide (x ≤ (90 : Int)) = true := by rw [decide_eq_true_eq]; omega
        have b0 : (x != (45 : Int)) = true := by rw [bne_iff_ne]; omega
        have b1 : (x != (95 : Int)) = true := by rw [bne_iff_ne]; omega
        have b2 : (x != (46 : Int)) = false := by rw [show x = 46 by omega]; rfl
        have hc : nameC x = true := by unfold nameC; simp; omega
        have HC := Lib.hid hc
        have HD := Lib.hid (digit_any x)
        rw [show digB x = false by unfold digB; simp; omega] at HD
        clear hc hx0 hx1 hways
        go_wp2_with fail
        refine (HD.out _).mono ?_
        rintro e w1 ⟨rfl, rfl⟩
        go_wp2_with fail
        go_round
        case rel => exact ⟨k + 1, by go_num, by omega, OKN.out HC⟩
        case measure => simp [intOf]; omega
      · have hx0 : 47 ≤ x := by omega
        have hx1 : x ≤ 47 := by omega
        have d1 : decide ((97 : Int) ≤ x) = false := by rw [decide_eq_false_iff_not]; omega
        have d2 : decide (x ≤ (122 : Int)) = true := by rw [decide_eq_true_eq]; omega
        have d3 : decide ((65 : Int) ≤ x) = false := by rw [decide_eq_false_iff_not]; omega
        have d4 : decide (x ≤ (90 : Int)) = true := by rw [decide_eq_true_eq]; omega
        have b0 : (x != (45 : Int)) = true := by rw [bne_iff_ne]; omega
        have b1 : (x != (95 : Int)) = true := by rw [bne_iff_ne]; omega
        have b2 : (x != (46 : Int)) = true := by rw [bne_iff_ne]; omega
        have hc : nameC x = false := by unfold nameC; simp; omega
        have HC := Lib.hid hc
        have HD := Lib.hid (digit_any x)
        rw [show digB x = false by unfold digB; simp; omega] at HD
        clear hc hx0 hx1 hways
        go_wp2_with fail
        refine (HD.out _).mono ?_
        rintro e w1 ⟨rfl, rfl⟩
        go_wp2_with fail
        go_ret
        exact ⟨ret_bool (BADN.out HC).symm, rfl⟩
      · have hx0 : 48 ≤ x := by omega
        have hx1 : x ≤ 57 := by omega
        have d1 : decide ((97 : Int) ≤ x) = false := by rw [decide_eq_false_iff_not]; omega
        have d2 : decide (x ≤ (122 : Int)) = true := by rw [decide_eq_true_eq]; omega
        have d3 : decide ((65 : Int) ≤ x) = false := by rw [decide_eq_false_iff_not]; omega
        have d4 : decide (x ≤ (90 : Int)) = true := by rw [decide_eq_true_eq]; omega
        have b0 : (x != (45 : Int)) = true := by rw [bne_iff_ne]; omega
        have b1 : (x != (95 : Int)) = true := by rw [bne_iff_ne]; omega
        have b2 : (x != (46 : Int)) = true := by rw [bne_iff_ne]; omega
        have hc : nameC x = true := by unfold nameC; simp; omega
        have HC := Lib.hid hc
        have HD := Lib.hid (digit_any x)
        rw [show digB x = true by unfold digB; simp; omega] at HD
        clear hc hx0 hx1 hways
        go_wp2_with fail
        refine (HD.out _).mono ?_
        rintro e w1 ⟨rfl, rfl⟩
        go_wp2_with fail
        go_round
        case rel => exact ⟨k + 1, by go_num, by omega, OKN.out HC⟩
        case measure => simp [intOf]; omega
      · have hx0 : 58 ≤ x := by omega
        have hx1 : x ≤ 64 := by omega
        have d1 : decide ((97 : Int) ≤ x) = false := by rw [decide_eq_false_iff_not]; omega
        have d2 : decide (x ≤ (122 : Int)) = true := by rw [decide_eq_true_eq]; omega
        have d3 : decide ((65 : Int) ≤ x) = false := by rw [decide_eq_false_iff_not]; omega
        have d4 : decide (x ≤ (90 : Int)) = true := by rw [decide_eq_true_eq]; omega
        have b0 : (x != (45 : Int)) = true := by rw [bne_iff_ne]; omega
        have b1 : (x != (95 : Int)) = true := by rw [bne_iff_ne]; omega
        have b2 : (x != (46 : Int)) = true := by rw [bne_iff_ne]; omega
        have hc : nameC x = false := by unfold nameC; simp; omega
        have HC := Lib.hid hc
        have HD := Lib.hid (digit_any x)
        rw [show digB x = false by unfold digB; simp; omega] at HD
        clear hc hx0 hx1 hways
        go_wp2_with fail
        refine (HD.out _).mono ?_
        rintro e w1 ⟨rfl, rfl⟩
        go_wp2_with fail
        go_ret
        exact ⟨ret_bool (BADN.out HC).symm, rfl⟩
      · have hx0 : 65 ≤ x := by omega
        have hx1 : x ≤ 90 := by omega
        have d1 : decide ((97 : Int) ≤ x) = false := by rw [decide_eq_false_iff_not]; omega
        have d2 : decide (x ≤ (122 : Int)) = true := by rw [decide_eq_true_eq]; omega
        have d3 : decide ((65 : Int) ≤ x) = true := by rw [decide_eq_true_eq]; omega
        have d4 : decide (x ≤ (90 : Int)) = true := by rw [decide_eq_true_eq]; omega
        have b0 : (x != (45 : Int)) = true := by rw [bne_iff_ne]; omega
        have b1 : (x != (95 : Int)) = true := by rw [bne_iff_ne]; omega
        have b2 : (x != (46 : Int)) = true := by rw [bne_iff_ne]; omega
        have hc : nameC x = true := by unfold nameC; simp; omega
        have HC := Lib.hid hc
        have HD := Lib.hid (digit_any x)
        rw [show digB x = false by unfold digB; simp; omega] at HD
        clear hc hx0 hx1 hways
        go_wp2_with fail
        go_round
        case rel => exact ⟨k + 1, by go_num, by omega, OKN.out HC⟩
        case measure => simp [intOf]; omega
      · have hx0 : 91 ≤ x := by omega
        have hx1 : x ≤ 94 := by omega
        have d1 : decide ((97 : Int) ≤ x) = false := by rw [decide_eq_false_iff_not]; omega
        have d2 : decide (x ≤ (122 : Int)) = true := by rw [decide_eq_true_eq]; omega
        have d3 : decide ((65 : Int) ≤ x) = true := by rw [decide_eq_true_eq]; omega
        have d4 : decide (x ≤ (90 : Int)) = false := by rw [decide_eq_false_iff_not]; omega
        have b0 : (x != (45 : Int)) = true := by rw [bne_iff_ne]; omega
        have b1 : (x != (95 : Int)) = true := by rw [bne_iff_ne]; omega
        have b2 : (x != (46 : Int)) = true := by rw [bne_iff_ne]; omega
        have hc : nameC x = false := by unfold nameC; simp; omega
        have HC := Lib.hid hc
        have HD := Lib.hid (digit_any x)
        rw [show digB x = false by unfold digB; simp; omega] at HD
        clear hc hx0 hx1 hways
        go_wp2_with fail
        refine (HD.out _).mono ?_
        rintro e w1 ⟨rfl, rfl⟩
        go_wp2_with fail
        go_ret
        exact ⟨ret_bool (BADN.out HC).symm, rfl⟩
      · have hx0 : 95 ≤ x := by omega
        have hx1 : x ≤ 95 := by omega
        have d1 : decide ((97 : Int) ≤ x) = false := by rw [decide_eq_false_iff_not]; omega
        have d2 : decide (x ≤ (122 : Int)) = true := by rw [decide_eq_true_eq]; omega
        have d3 : decide ((65 : Int) ≤ x) = true := by rw [decide_eq_true_eq]; omega
        have d4 : decide (x ≤ (90 : Int)) = false := by rw [decide_eq_false_iff_not]; omega
        have b0 : (x != (45 : Int)) = true := by rw [bne_iff_ne]; omega
        have b1 : (x != (95 : Int)) = false := by rw [show x = 95 by omega]; rfl
        have b2 : (x != (46 : Int)) = true := by rw [bne_iff_ne]; omega
        have hc : nameC x = true := by unfold nameC; simp; omega
        have HC := Lib.hid hc
        have HD := Lib.hid (digit_any x)
        rw [show digB x = false by unfold digB; simp; omega] at HD
        clear hc hx0 hx1 hways
        go_wp2_with fail
        refine (HD.out _).mono ?_
        rintro e w1 ⟨rfl, rfl⟩
        go_wp2_with fail
        go_round
        case rel => exact ⟨k + 1, by go_num, by omega, OKN.out HC⟩
        case measure => simp [intOf]; omega
      · have hx0 : 96 ≤ x := by omega
        have hx1 : x ≤ 96 := by omega
        have d1 : decide ((97 : Int) ≤ x) = false := by rw [decide_eq_false_iff_not]; omega
        have d2 : decide (x ≤ (122 : Int)) = true := by rw [decide_eq_true_eq]; omega
        have d3 : decide ((65 : Int) ≤ x) = true := by rw [decide_eq_true_eq]; omega
        have d4 : decide (x ≤ (90 : Int)) = false := by rw [decide_eq_false_iff_not]; omega
        have b0 : (x != (45 : Int)) = true := by rw [bne_iff_ne]; omega
        have b1 : (x != (95 : Int)) = true := by rw [bne_iff_ne]; omega
        have b2 : (x != (46 : Int)) = true := by rw [bne_iff_ne]; omega
        have hc : nameC x = false := by unfold nameC; simp; omega
        have HC := Lib.hid hc
        have HD := Lib.hid (digit_any x)
        rw [show digB x = false by unfold digB; simp; omega] at HD
        clear hc hx0 hx1 hways
        go_wp2_with fail
        refine (HD.out _).mono ?_
        rintro e w1 ⟨rfl, rfl⟩
        go_wp2_with fail
        go_ret
        exact ⟨ret_bool (BADN.out HC).symm, rfl⟩
      · have hx0 : 97 ≤ x := by omega
        have hx1 : x ≤ 122 := by omega
        have d1 : decide ((97 : Int) ≤ x) = true := by rw [decide_eq_true_eq]; omega
        have d2 : decide (x ≤ (122 : Int)) = true := by rw [decide_eq_true_eq]; omega
        have d3 : decide ((65 : Int) ≤ x) = true := by rw [decide_eq_true_eq]; omega
        have d4 : decide (x ≤ (90 : Int)) = false := by rw [decide_eq_false_iff_not]; omega
        have b0 : (x != (45 : Int)) = true := by rw [bne_iff_ne]; omega
        have b1 : (x != (95 : Int)) = true := by rw [bne_iff_ne]; omega
        have b2 : (x != (46 : Int)) = true := by rw [bne_iff_ne]; omega
        have hc : nameC x = true := by unfold nameC; simp; omega
        have HC := Lib.hid hc
        have HD := Lib.hid (digit_any x)
        rw [show digB x = false by unfold digB; simp; omega] at HD
        clear hc hx0 hx1 hways
        go_wp2_with fail
        go_round
        case rel => exact ⟨k + 1, by go_num, by omega, OKN.out HC⟩
        case measure => simp [intOf]; omega
      · have hx0 : 123 ≤ x := by omega
        have hx1 : x ≤ 255 := by omega
        have d1 : decide ((97 : Int) ≤ x) = true := by rw [decide_eq_true_eq]; omega
        have d2 : decide (x ≤ (122 : Int)) = false := by rw [decide_eq_false_iff_not]; omega
        have d3 : decide ((65 : Int) ≤ x) = true := by rw [decide_eq_true_eq]; omega
        have d4 : decide (x ≤ (90 : Int)) = false := by rw [decide_eq_false_iff_not]; omega
        have b0 : (x != (45 : Int)) = true := by rw [bne_iff_ne]; omega
        have b1 : (x != (95 : Int)) = true := by rw [bne_iff_ne]; omega
        have b2 : (x != (46 : Int)) = true := by rw [bne_iff_ne]; omega
        have hc : nameC x = false := by unfold nameC; simp; omega
        have HC := Lib.hid hc
        have HD := Lib.hid (digit_any x)
        rw [show digB x = false by unfold digB; simp; omega] at HD
        clear hc hx0 hx1 hways
        go_wp2_with fail
        refine (HD.out _).mono ?_
        rintro e w1 ⟨rfl, rfl⟩
        go_wp2_with fail
        go_ret
        exact ⟨ret_bool (BADN.out HC).symm, rfl⟩
    · have t3 : decide ((k : Int) < (s.size : Int)) = false := by rw [decide_eq_false_iff_not]; omega
      have t3' : decide (k < s.size) = false := by simpa using hlt
      obtain rfl : k = s.size := by omega
      have HE := Lib.hid (nameB_of HA.out)
      clear hlt hk
      by_cases h1 : 1 ≤ s.size
      · have t4 : decide ((1 : Int) ≤ (s.size : Int)) = true := by rw [decide_eq_true_eq]; omega
        have t4' : decide (1 ≤ s.size) = true := by simpa using h1
        rw [t4', Bool.true_and] at HE
        by_cases h6 : s.size ≤ 60
        · have t5 : decide ((s.size : Int) ≤ (60 : Int)) = true := by rw [decide_eq_true_eq]; omega
          have t5' : decide (s.size ≤ 60) = true := by simpa using h6
          rw [t5'] at HE
          go_wp2_with fail
          go_ret
          exact ⟨ret_bool HE.out.symm, rfl⟩
        · have t5 : decide ((s.size : Int) ≤ (60 : Int)) = false := by rw [decide_eq_false_iff_not]; omega
          have t5' : decide (s.size ≤ 60) = false := by simpa using h6
          rw [t5'] at HE
          go_wp2_with fail
          go_ret
          exact ⟨ret_bool HE.out.symm, rfl⟩
      · have t4 : decide ((1 : Int) ≤ (s.size : Int)) = false := by rw [decide_eq_false_iff_not]; omega
        have t4' : decide (1 ≤ s.size) = false := by simpa using h1
        rw [t4', Bool.false_and] at HE
        go_wp2_with fail
        go_ret
        exact ⟨ret_bool HE.out.symm, rfl⟩

set_option maxHeartbeats 4000000 in
set_option maxRecDepth 100000 in
theorem risName_any (s : ByteArray) (w : World) (hs : s.size ≤ maxLen) :
    Calls Tryz.prog 59 #[.string s] w fun e w' => e = .returned (.bool (nameB s)) ∧ w = w' := by
  unfold maxLen at hs
  by_cases hsz : 1 ≤ s.size ∧ s.size ≤ 60
  case neg =>
    have HN := Lib.hid (show nameB s = false by unfold nameB; rw [Bool.and_eq_false_iff, Bool.and_eq_false_iff, decide_eq_false_iff_not, decide_eq_false_iff_not]; omega)
    by_cases h1 : s.size < 1
    · have t1 : decide ((s.size : Int) < 1) = true := by rw [decide_eq_true_eq]; omega
      have t1' : decide (s.size < 1) = true := by simpa using h1
      clear hsz h1
      go_enter Tryz.func59, Tryz.ntmps59
      go_wp2_with fail
      go_ret
      exact ⟨ret_bool HN.out.symm, rfl⟩
    · have t1 : decide ((s.size : Int) < 1) = false := by rw [decide_eq_false_iff_not]; omega
      have t2 : decide ((60 : Int) < (s.size : Int)) = true := by rw [decide_eq_true_eq]; omega
      have t2' : decide (60 < s.size) = true := by rw [decide_eq_true_eq]; omega
      clear hsz h1
      go_enter Tryz.func59, Tryz.ntmps59
      go_wp2_with fail
      go_ret
      exact ⟨ret_bool HN.out.symm, rfl⟩
  obtain ⟨hsz1, hsz2⟩ := hsz
  have t1 : decide ((s.size : Int) < 1) = false := by rw [decide_eq_false_iff_not]; omega
  have t2 : decide ((60 : Int) < (s.size : Int)) = false := by rw [decide_eq_false_iff_not]; omega
  go_enter Tryz.func59, Tryz.ntmps59
  go_wp2_with fail
  go_loop [3] (fun iv => ∃ (k : Nat), iv = .int .i64 k ∧ k ≤ s.size ∧ Hid (allN s k = true)) (fun iv => s.size - (intOf iv).toNat)
  case atStart => exact ⟨0, rfl, by omega, Lib.hid rfl⟩
  case round =>
    obtain ⟨k, rfl, hk, HA⟩ := hrel
    by_cases hlt : k < s.size
    · have t3 : decide ((k : Int) < (s.size : Int)) = true := by rw [decide_eq_true_eq]; omega
      have t3' : decide (k < s.size) = true := by simpa using hlt
      have hub : (s[k].toNat : Int) ≤ 255 := by have := s[k].toNat_lt; omega
      have OKN := fun (h : Hid (nameC (s[k].toNat : Int) = true)) => Lib.hid (allN_step hlt HA.out h.out)
      have BADN := fun (h : Hid (nameC (s[k].toNat : Int) = false)) => allN_bad hlt h.out
      have OKN := Lib.hid OKN
      have BADN := Lib.hid BADN
      have hnn : 0 ≤ (s[k].toNat : Int) := Int.natCast_nonneg _
      obtain ⟨x, hx⟩ : ∃ x : Int, (s[k].toNat : Int) = x := ⟨_, rfl⟩
      rw [hx] at hub hnn OKN BADN
      have hways : (0 ≤ x ∧ x ≤ 44) ∨ (45 ≤ x ∧ x ≤ 45) ∨ (46 ≤ x ∧ x ≤ 46) ∨ (47 ≤ x ∧ x ≤ 47) ∨ (48 ≤ x ∧ x ≤ 57) ∨ (58 ≤ x ∧ x ≤ 64) ∨ (65 ≤ x ∧ x ≤ 90) ∨ (91 ≤ x ∧ x ≤ 94) ∨ (95 ≤ x ∧ x ≤ 95) ∨ (96 ≤ x ∧ x ≤ 96) ∨ (97 ≤ x ∧ x ≤ 122) ∨ (123 ≤ x ∧ x ≤ 255) := by omega
      rcases hways with hways | hways | hways | hways | hways | hways | hways | hways | hways | hways | hways | hways
      · have hx0 : 0 ≤ x := by omega
        have hx1 : x ≤ 44 := by omega
        have d1 : decide ((97 : Int) ≤ x) = false := by rw [decide_eq_false_iff_not]; omega
        have d2 : decide (x ≤ (122 : Int)) = true := by rw [decide_eq_true_eq]; omega
        have d3 : decide ((65 : Int) ≤ x) = false := by rw [decide_eq_false_iff_not]; omega
        have d4 : decide (x ≤ (90 : Int)) = true := by rw [decide_eq_true_eq]; omega
        have b0 : (x != (45 : Int)) = true := by rw [bne_iff_ne]; omega
        have b1 : (x != (95 : Int)) = true := by rw [bne_iff_ne]; omega
        have b2 : (x != (46 : Int)) = true := by rw [bne_iff_ne]; omega
        have hc : nameC x = false := by unfold nameC; simp; omega
        have HC := Lib.hid hc
        have HD := Lib.hid (rdigit_any x)
        rw [show digB x = false by unfold digB; simp; omega] at HD
        clear hc hx0 hx1 hways
        go_wp2_with fail
        refine (HD.out _).mono ?_
        rintro e w1 ⟨rfl, rfl⟩
        go_wp2_with fail
        go_ret
        exact ⟨ret_bool (BADN.out HC).symm, rfl⟩
      · have hx0 : 45 ≤ x := by omega
        have hx1 : x ≤ 45 := by omega
        have d1 : decide ((97 : Int) ≤ x) = false := by rw [decide_eq_false_iff_not]; omega
        have d2 : decide (x ≤ (122 : Int)) = true := by rw [decide_eq_true_eq]; omega
        have d3 : decide ((65 : Int) ≤ x) = false := by rw [decide_eq_false_iff_not]; omega
        have d4 : decide (x ≤ (90 : Int)) = true := by rw [decide_eq_true_eq]; omega
        have b0 : (x != (45 : Int)) = false := by rw [show x = 45 by omega]; rfl
        have b1 : (x != (95 : Int)) = true := by rw [bne_iff_ne]; omega
        have b2 : (x != (46 : Int)) = true := by rw [bne_iff_ne]; omega
        have hc : nameC x = true := by unfold nameC; simp; omega
        have HC := Lib.hid hc
        have HD := Lib.hid (rdigit_any x)
        rw [show digB x = false by unfold digB; simp; omega] at HD
        clear hc hx0 hx1 hways
        go_wp2_with fail
        refine (HD.out _).mono ?_
        rintro e w1 ⟨rfl, rfl⟩
        go_wp2_with fail
        go_round
        case rel => exact ⟨k + 1, by go_num, by omega, OKN.out HC⟩
        case measure => simp [intOf]; omega
      · have hx0 : 46 ≤ x := by omega
        have hx1 : x ≤ 46 := by omega
        have d1 : decide ((97 : Int) ≤ x) = false := by rw [decide_eq_false_iff_not]; omega
        have d2 : decide (x ≤ (122 : Int)) = true := by rw [decide_eq_true_eq]; omega
        have d3 : decide ((65 : Int) ≤ x) = false := by rw [decide_eq_false_iff_not]; omega
        have d4 : decide (x ≤ (90 : Int)) = true := by rw [decide_eq_true_eq]; omega
        have b0 : (x != (45 : Int)) = true := by rw [bne_iff_ne]; omega
        have b1 : (x != (95 : Int)) = true := by rw [bne_iff_ne]; omega
        have b2 : (x != (46 : Int)) = false := by rw [show x = 46 by omega]; rfl
        have hc : nameC x = true := by unfold nameC; simp; omega
        have HC := Lib.hid hc
        have HD := Lib.hid (rdigit_any x)
        rw [show digB x = false by unfold digB; simp; omega] at HD
        clear hc hx0 hx1 hways
        go_wp2_with fail
        refine (HD.out _).mono ?_
        rintro e w1 ⟨rfl, rfl⟩
        go_wp2_with fail
        go_round
        case rel => exact ⟨k + 1, by go_num, by omega, OKN.out HC⟩
        case measure => simp [intOf]; omega
      · have hx0 : 47 ≤ x := by omega
        have hx1 : x ≤ 47 := by omega
        have d1 : decide ((97 : Int) ≤ x) = false := by rw [decide_eq_false_iff_not]; omega
        have d2 : decide (x ≤ (122 : Int)) = true := by rw [decide_eq_true_eq]; omega
        have d3 : decide ((65 : Int) ≤ x) = false := by rw [decide_eq_false_iff_not]; omega
        have d4 : decide (x ≤ (90 : Int)) = true := by rw [decide_eq_true_eq]; omega
        have b0 : (x != (45 : Int)) = true := by rw [bne_iff_ne]; omega
        have b1 : (x != (95 : Int)) = true := by rw [bne_iff_ne]; omega
        have b2 : (x != (46 : Int)) = true := by rw [bne_iff_ne]; omega
        have hc : nameC x = false := by unfold nameC; simp; omega
        have HC := Lib.hid hc
        have HD := Lib.hid (rdigit_any x)
        rw [show digB x = false by unfold digB; simp; omega] at HD
        clear hc hx0 hx1 hways
        go_wp2_with fail
        refine (HD.out _).mono ?_
        rintro e w1 ⟨rfl, rfl⟩
        go_wp2_with fail
        go_ret
        exact ⟨ret_bool (BADN.out HC).symm, rfl⟩
      · have hx0 : 48 ≤ x := by omega
        have hx1 : x ≤ 57 := by omega
        have d1 : decide ((97 : Int) ≤ x) = false := by rw [decide_eq_false_iff_not]; omega
        have d2 : decide (x ≤ (122 : Int)) = true := by rw [decide_eq_true_eq]; omega
        have d3 : decide ((65 : Int) ≤ x) = false := by rw [decide_eq_false_iff_not]; omega
        have d4 : decide (x ≤ (90 : Int)) = true := by rw [decide_eq_true_eq]; omega
        have b0 : (x != (45 : Int)) = true := by rw [bne_iff_ne]; omega
        have b1 : (x != (95 : Int)) = true := by rw [bne_iff_ne]; omega
        have b2 : (x != (46 : Int)) = true := by rw [bne_iff_ne]; omega
        have hc : nameC x = true := by unfold nameC; simp; omega
        have HC := Lib.hid hc
        have HD := Lib.hid (rdigit_any x)
        rw [show digB x = true by unfold digB; simp; omega] at HD
        clear hc hx0 hx1 hways
        go_wp2_with fail
        refine (HD.out _).mono ?_
        rintro e w1 ⟨rfl, rfl⟩
        go_wp2_with fail
        go_round
        case rel => exact ⟨k + 1, by go_num, by omega, OKN.out HC⟩
        case measure => simp [intOf]; omega
      · have hx0 : 58 ≤ x := by omega
        have hx1 : x ≤ 64 := by omega
        have d1 : decide ((97 : Int) ≤ x) = false := by rw [decide_eq_false_iff_not]; omega
        have d2 : decide (x ≤ (122 : Int)) = true := by rw [decide_eq_true_eq]; omega
        have d3 : decide ((65 : Int) ≤ x) = false := by rw [decide_eq_false_iff_not]; omega
        have d4 : decide (x ≤ (90 : Int)) = true := by rw [decide_eq_true_eq]; omega
        have b0 : (x != (45 : Int)) = true := by rw [bne_iff_ne]; omega
        have b1 : (x != (95 : Int)) = true := by rw [bne_iff_ne]; omega
        have b2 : (x != (46 : Int)) = true := by rw [bne_iff_ne]; omega
        have hc : nameC x = false := by unfold nameC; simp; omega
        have HC := Lib.hid hc
        have HD := Lib.hid (rdigit_any x)
        rw [show digB x = false by unfold digB; simp; omega] at HD
        clear hc hx0 hx1 hways
        go_wp2_with fail
        refine (HD.out _).mono ?_
        rintro e w1 ⟨rfl, rfl⟩
        go_wp2_with fail
        go_ret
        exact ⟨ret_bool (BADN.out HC).symm, rfl⟩
      · have hx0 : 65 ≤ x := by omega
        have hx1 : x ≤ 90 := by omega
        have d1 : decide ((97 : Int) ≤ x) = false := by rw [decide_eq_false_iff_not]; omega
        have d2 : decide (x ≤ (122 : Int)) = true := by rw [decide_eq_true_eq]; omega
        have d3 : decide ((65 : Int) ≤ x) = true := by rw [decide_eq_true_eq]; omega
        have d4 : decide (x ≤ (90 : Int)) = true := by rw [decide_eq_true_eq]; omega
        have b0 : (x != (45 : Int)) = true := by rw [bne_iff_ne]; omega
        have b1 : (x != (95 : Int)) = true := by rw [bne_iff_ne]; omega
        have b2 : (x != (46 : Int)) = true := by rw [bne_iff_ne]; omega
        have hc : nameC x = true := by unfold nameC; simp; omega
        have HC := Lib.hid hc
        have HD := Lib.hid (rdigit_any x)
        rw [show digB x = false by unfold digB; simp; omega] at HD
        clear hc hx0 hx1 hways
        go_wp2_with fail
        go_round
        case rel => exact ⟨k + 1, by go_num, by omega, OKN.out HC⟩
        case measure => simp [intOf]; omega
      · have hx0 : 91 ≤ x := by omega
        have hx1 : x ≤ 94 := by omega
        have d1 : decide ((97 : Int) ≤ x) = false := by rw [decide_eq_false_iff_not]; omega
        have d2 : decide (x ≤ (122 : Int)) = true := by rw [decide_eq_true_eq]; omega
        have d3 : decide ((65 : Int) ≤ x) = true := by rw [decide_eq_true_eq]; omega
        have d4 : decide (x ≤ (90 : Int)) = false := by rw [decide_eq_false_iff_not]; omega
        have b0 : (x != (45 : Int)) = true := by rw [bne_iff_ne]; omega
        have b1 : (x != (95 : Int)) = true := by rw [bne_iff_ne]; omega
        have b2 : (x != (46 : Int)) = true := by rw [bne_iff_ne]; omega
        have hc : nameC x = false := by unfold nameC; simp; omega
        have HC := Lib.hid hc
        have HD := Lib.hid (rdigit_any x)
        rw [show digB x = false by unfold digB; simp; omega] at HD
        clear hc hx0 hx1 hways
        go_wp2_with fail
        refine (HD.out _).mono ?_
        rintro e w1 ⟨rfl, rfl⟩
        go_wp2_with fail
        go_ret
        exact ⟨ret_bool (BADN.out HC).symm, rfl⟩
      · have hx0 : 95 ≤ x := by omega
        have hx1 : x ≤ 95 := by omega
        have d1 : decide ((97 : Int) ≤ x) = false := by rw [decide_eq_false_iff_not]; omega
        have d2 : decide (x ≤ (122 : Int)) = true := by rw [decide_eq_true_eq]; omega
        have d3 : decide ((65 : Int) ≤ x) = true := by rw [decide_eq_true_eq]; omega
        have d4 : decide (x ≤ (90 : Int)) = false := by rw [decide_eq_false_iff_not]; omega
        have b0 : (x != (45 : Int)) = true := by rw [bne_iff_ne]; omega
        have b1 : (x != (95 : Int)) = false := by rw [show x = 95 by omega]; rfl
        have b2 : (x != (46 : Int)) = true := by rw [bne_iff_ne]; omega
        have hc : nameC x = true := by unfold nameC; simp; omega
        have HC := Lib.hid hc
        have HD := Lib.hid (rdigit_any x)
        rw [show digB x = false by unfold digB; simp; omega] at HD
        clear hc hx0 hx1 hways
        go_wp2_with fail
        refine (HD.out _).mono ?_
        rintro e w1 ⟨rfl, rfl⟩
        go_wp2_with fail
        go_round
        case rel => exact ⟨k + 1, by go_num, by omega, OKN.out HC⟩
        case measure => simp [intOf]; omega
      · have hx0 : 96 ≤ x := by omega
        have hx1 : x ≤ 96 := by omega
        have d1 : decide ((97 : Int) ≤ x) = false := by rw [decide_eq_false_iff_not]; omega
        have d2 : decide (x ≤ (122 : Int)) = true := by rw [decide_eq_true_eq]; omega
        have d3 : decide ((65 : Int) ≤ x) = true := by rw [decide_eq_true_eq]; omega
        have d4 : decide (x ≤ (90 : Int)) = false := by rw [decide_eq_false_iff_not]; omega
        have b0 : (x != (45 : Int)) = true := by rw [bne_iff_ne]; omega
        have b1 : (x != (95 : Int)) = true := by rw [bne_iff_ne]; omega
        have b2 : (x != (46 : Int)) = true := by rw [bne_iff_ne]; omega
        have hc : nameC x = false := by unfold nameC; simp; omega
        have HC := Lib.hid hc
        have HD := Lib.hid (rdigit_any x)
        rw [show digB x = false by unfold digB; simp; omega] at HD
        clear hc hx0 hx1 hways
        go_wp2_with fail
        refine (HD.out _).mono ?_
        rintro e w1 ⟨rfl, rfl⟩
        go_wp2_with fail
        go_ret
        exact ⟨ret_bool (BADN.out HC).symm, rfl⟩
      · have hx0 : 97 ≤ x := by omega
        have hx1 : x ≤ 122 := by omega
        have d1 : decide ((97 : Int) ≤ x) = true := by rw [decide_eq_true_eq]; omega
        have d2 : decide (x ≤ (122 : Int)) = true := by rw [decide_eq_true_eq]; omega
        have d3 : decide ((65 : Int) ≤ x) = true := by rw [decide_eq_true_eq]; omega
        have d4 : decide (x ≤ (90 : Int)) = false := by rw [decide_eq_false_iff_not]; omega
        have b0 : (x != (45 : Int)) = true := by rw [bne_iff_ne]; omega
        have b1 : (x != (95 : Int)) = true := by rw [bne_iff_ne]; omega
        have b2 : (x != (46 : Int)) = true := by rw [bne_iff_ne]; omega
        have hc : nameC x = true := by unfold nameC; simp; omega
        have HC := Lib.hid hc
        have HD := Lib.hid (rdigit_any x)
        rw [show digB x = false by unfold digB; simp; omega] at HD
        clear hc hx0 hx1 hways
        go_wp2_with fail
        go_round
        case rel => exact ⟨k + 1, by go_num, by omega, OKN.out HC⟩
        case measure => simp [intOf]; omega
      · have hx0 : 123 ≤ x := by omega
        have hx1 : x ≤ 255 := by omega
        have d1 : decide ((97 : Int) ≤ x) = true := by rw [decide_eq_true_eq]; omega
        have d2 : decide (x ≤ (122 : Int)) = false := by rw [decide_eq_false_iff_not]; omega
        have d3 : decide ((65 : Int) ≤ x) = true := by rw [decide_eq_true_eq]; omega
        have d4 : decide (x ≤ (90 : Int)) = false := by rw [decide_eq_false_iff_not]; omega
        have b0 : (x != (45 : Int)) = true := by rw [bne_iff_ne]; omega
        have b1 : (x != (95 : Int)) = true := by rw [bne_iff_ne]; omega
        have b2 : (x != (46 : Int)) = true := by rw [bne_iff_ne]; omega
        have hc : nameC x = false := by unfold nameC; simp; omega
        have HC := Lib.hid hc
        have HD := Lib.hid (rdigit_any x)
        rw [show digB x = false by unfold digB; simp; omega] at HD
        clear hc hx0 hx1 hways
        go_wp2_with fail
        refine (HD.out _).mono ?_
        rintro e w1 ⟨rfl, rfl⟩
        go_wp2_with fail
        go_ret
        exact ⟨ret_bool (BADN.out HC).symm, rfl⟩
    · have t3 : decide ((k : Int) < (s.size : Int)) = false := by rw [decide_eq_false_iff_not]; omega
      have t3' : decide (k < s.size) = false := by simpa using hlt
      obtain rfl : k = s.size := by omega
      have HE := Lib.hid (nameB_of HA.out)
      clear hlt hk
      have HE2 := Lib.hid (show nameB s = true by rw [HE.out]; simp; omega)
      go_wp2_with fail
      go_ret
      exact ⟨ret_bool HE2.out.symm, rfl⟩
end Go.Proofs.YtbkpoepacjinlaaGreat

/- Gear: contracts of small functions of the program and of the reference. -/
namespace Go.Proofs.YtbkpoepacjinlaaGreat
open Go.RowKit Go.BigFrame
open Gar (momG endG)

def mountV (s p : ByteArray) (f t : Int) : Value := .agg #[.string s, .string p, .int .i64 f, .int .i64 t]
def useV (n r : ByteArray) (f s x : Int) : Value := .agg #[.string n, .string r, .int .i64 f, .int .i64 s, .int .i64 x]
def inB (n lo hi : Int) : Bool := decide (lo ≤ n) && decide (n ≤ hi)
theorem gin_any (n lo hi : Int) (w : World) : Calls Tryz.prog 22 #[.int .i64 n, .int .i64 lo, .int .i64 hi] w fun e w' => e = .returned (.bool (inB n lo hi)) ∧ w = w' := by
  cases h : decide (lo ≤ n)
  all_goals
    go_enter Tryz.func22, Tryz.ntmps22
    go_wp2
    go_ret
    exact ⟨ret_bool (by simp [inB, h]), rfl⟩
theorem gmoment_any (n : Int) (w : World) : Calls Tryz.prog 47 #[.int .i64 n] w fun e w' => e = .returned (.bool (momG n)) ∧ w = w' := by
  have h := Lib.hid (gin_any n 0 86399999999)
  rw [show inB n 0 86399999999 = momG n from rfl] at h
  go_enter Tryz.func47, Tryz.ntmps47
  go_wp2_with fail
  refine (h.out _).mono ?_
  rintro e w1 ⟨rfl, rfl⟩
  go_wp2_with fail
  go_ret
  exact ⟨rfl, rfl⟩
theorem rout_any (n lo hi : Int) (w : World) : Calls Tryz.prog 15 #[.int .i64 n, .int .i64 lo, .int .i64 hi] w fun e w' => e = .returned (.bool (!inB n lo hi)) ∧ w = w' := by
  cases h : decide (n < lo)
  all_goals
    go_enter Tryz.func15, Tryz.ntmps15
    go_wp2
    go_ret
    refine ⟨ret_bool ?_, rfl⟩
    unfold inB
    simp at h ⊢
    first
      | omega
      | (rw [Bool.eq_iff_iff]; simp; omega)
theorem rmoment_any (n : Int) (w : World) : Calls Tryz.prog 61 #[.int .i64 n] w fun e w' => e = .returned (.bool (momG n)) ∧ w = w' := by
  have h := Lib.hid (rout_any n 0 86399999999)
  rw [show inB n 0 86399999999 = momG n from rfl] at h
  go_enter Tryz.func61, Tryz.ntmps61
  go_wp2_with fail
  refine (h.out _).mono ?_
  rintro e w1 ⟨rfl, rfl⟩
  go_wp2_with fail
  go_ret
  exact ⟨ret_bool (by simp), rfl⟩
theorem gend_any (s p : ByteArray) (f t : Int) (w : World) : Calls Tryz.prog 49 #[mountV s p f t] w fun e w' => e = .returned (.int .i64 (endG t)) ∧ Below w.heap.size w w' := by
  unfold mountV endG
  by_cases h : t < 0
  · rw [if_pos h]
    have t1 : decide (t < 0) = true := by simpa using h
    clear h
    go_enter Tryz.func49, Tryz.ntmps49
    go_wp2
    go_ret
    exact ⟨rfl, (Below.refl _ _).alloc (Nat.le_refl _) _⟩
  · rw [if_neg h]
    have t1 : decide (t < 0) = false := by simpa using h
    clear h
    go_enter Tryz.func49, Tryz.ntmps49
    go_wp2
    go_ret
    exact ⟨rfl, (Below.refl _ _).alloc (Nat.le_refl _) _⟩
theorem rend_any (s p : ByteArray) (f t : Int) (w : World) : Calls Tryz.prog 62 #[mountV s p f t] w fun e w' => e = .returned (.int .i64 (endG t)) ∧ Below w.heap.size w w' := by
  unfold mountV endG
  by_cases h : t < 0
  · rw [if_pos h]
    have t1 : decide (t < 0) = true := by simpa using h
    clear h
    go_enter Tryz.func62, Tryz.ntmps62
    go_wp2
    go_ret
    exact ⟨rfl, (Below.refl _ _).alloc (Nat.le_refl _) _⟩
  · rw [if_neg h]
    have t1 : decide (t < 0) = false := by simpa using h
    clear h
    go_enter Tryz.func62, Tryz.ntmps62
    go_wp2
    go_ret
    exact ⟨rfl, (Below.refl _ _).alloc (Nat.le_refl _) _⟩
/-- a mount has a moment -/
def isG (f t a : Int) : Bool := decide (f ≤ a) && decide (a < endG t)
theorem is_any (s p : ByteArray) (f t a : Int) (w : World) : Calls Tryz.prog 53 #[mountV s p f t, .int .i64 a] w fun e w' => e = .returned (.bool (isG f t a)) ∧ Below w.heap.size w w' := by
  have he := Lib.hid (fun W => gend_any s p f t W)
  unfold mountV at he ⊢
  unfold isG
  cases h : decide (f ≤ a)
  · go_enter Tryz.func53, Tryz.ntmps53
    go_wp2_with fail
    go_ret
    exact ⟨rfl, (Below.refl _ _).alloc (Nat.le_refl _) _⟩
  · generalize endG t = en at he ⊢
    go_enter Tryz.func53, Tryz.ntmps53
    go_wp2_with fail
    refine (he.out _).mono ?_
    rintro e w1 ⟨rfl, hb⟩
    have HB := Lib.hid (((Below.refl w.heap.size w).alloc (Nat.le_refl _) (.cells #[.string s, .string p, .int .i64 f, .int .i64 t] 78)).trans (hb.mono (by simp)))
    clear hb
    cases h2 : decide (a < en)
    all_goals
      go_wp2_with fail
      go_ret
      exact ⟨ret_bool (by simpa using h2), HB.out⟩
theorem covers_any (s p : ByteArray) (f t a : Int) (w : World) : Calls Tryz.prog 41 #[mountV s p f t, .int .i64 a] w fun e w' => e = .returned (.bool (isG f t a)) ∧ Below w.heap.size w w' := by
  have he := Lib.hid (fun W => rend_any s p f t W)
  unfold mountV at he ⊢
  unfold isG
  cases h : decide (f ≤ a)
  · go_enter Tryz.func41, Tryz.ntmps41
    go_wp2_with fail
    go_ret
    exact ⟨rfl, (Below.refl _ _).alloc (Nat.le_refl _) _⟩
  · generalize endG t = en at he ⊢
    go_enter Tryz.func41, Tryz.ntmps41
    go_wp2_with fail
    refine (he.out _).mono ?_
    rintro e w1 ⟨rfl, hb⟩
    have HB := Lib.hid (((Below.refl w.heap.size w).alloc (Nat.le_refl _) (.cells #[.string s, .string p, .int .i64 f, .int .i64 t] 78)).trans (hb.mono (by simp)))
    clear hb
    cases h2 : decide (a < en)
    all_goals
      go_wp2_with fail
      go_ret
      exact ⟨ret_bool (by simpa using h2), HB.out⟩
end Go.Proofs.YtbkpoepacjinlaaGreat

/- Gear: the orders of mounts and of uses. -/
namespace Go.Proofs.YtbkpoepacjinlaaGreat
open Go.RowKit Go.BigFrame

theorem cmpB_lt : ∀ (a b : List UInt8), (Lib.compareBytes a b < 0) ↔ Op.bytesLess a b = true
  | [], [] => by decide
  | [], _ :: _ => by simp [Lib.compareBytes, Op.bytesLess]
  | _ :: _, [] => by simp [Lib.compareBytes, Op.bytesLess]
  | a :: xs, b :: ys => by
    have ih := cmpB_lt xs ys
    unfold Lib.compareBytes Op.bytesLess
    by_cases h1 : a < b
    · simp [h1]
    · by_cases h2 : b < a
      · have : a ≠ b := by rintro rfl; exact absurd h2 (by simp)
        simp [h1, h2, this]
      · have : a = b := UInt8.le_antisymm (UInt8.not_lt.1 h2) (UInt8.not_lt.1 h1)
        subst this
        simp [ih]
theorem cmpB_zero : ∀ (a b : List UInt8), (Lib.compareBytes a b = 0) ↔ a = b
  | [], [] => by decide
  | [], _ :: _ => by simp [Lib.compareBytes]
  | _ :: _, [] => by simp [Lib.compareBytes]
  | a :: xs, b :: ys => by
    have ih := cmpB_zero xs ys
    unfold Lib.compareBytes
    by_cases h1 : a < b
    · have : a ≠ b := by rintro rfl; exact absurd h1 (by simp)
      simp [h1, this]
    · by_cases h2 : b < a
      · have : a ≠ b := by rintro rfl; exact absurd h2 (by simp)
        simp [h1, h2, this]
      · have : a = b := UInt8.le_antisymm (UInt8.not_lt.1 h2) (UInt8.not_lt.1 h1)
        subst this
        simp [ih]
/-- one stands before another one: by moments, then by names -/
def befB (f f' : Int) (s s' : ByteArray) : Bool := decide (f < f') || (decide (f = f') && strLt s s')
def orI (x y : Int) : Int := if x ≠ 0 then x else y
def ordI (f f' : Int) (s s' : ByteArray) : Int := if Lib.compareInt f f' ≠ 0 then Lib.compareInt f f' else Lib.compareBytes s.data.toList s'.data.toList
theorem strLt_cmp (s s' : ByteArray) : strLt s s' = decide (Lib.compareBytes s.data.toList s'.data.toList < 0) := by
  unfold strLt
  rw [ByteArray.toList_eq, ByteArray.toList_eq, Bool.eq_iff_iff, decide_eq_true_eq]
  exact (cmpB_lt _ _).symm
theorem ord_neg (f f' : Int) (s s' : ByteArray) : decide (0 ≤ ordI f f' s s') = !befB f f' s s' := by
  unfold befB ordI
  rw [strLt_cmp]
  have h : Lib.compareInt f f' = if f < f' then -1 else if f > f' then 1 else 0 := rfl
  by_cases h1 : f < f'
  · rw [h, if_pos h1]
    simp [h1]
  · by_cases h2 : f' < f
    · rw [h, if_neg h1, if_pos h2]
      have h3 : ¬ f = f' := by omega
      simp [h1, h3]
    · have h3 : f = f' := by omega
      rw [h, if_neg h1, if_neg h2]
      simp only [ne_eq, not_true_eq_false, if_false]
      rw [Bool.eq_iff_iff]
      simp [h3]

theorem comes_any (s p s' p' : ByteArray) (f t f' t' : Int) (w : World) :
    Calls Tryz.prog 63 #[mountV s p f t, mountV s' p' f' t'] w fun e w' => e = .returned (.bool (befB f f' s s')) ∧ Below w.heap.size w w' := by
  unfold mountV befB strLt
  have HB := Lib.hid (((Below.refl w.heap.size w).alloc (Nat.le_refl _) (.cells #[.string s, .string p, .int .i64 f, .int .i64 t] 78)).alloc (by simp) (.cells #[.string s', .string p', .int .i64 f', .int .i64 t'] 78))
  by_cases h1 : f < f'
  · have t1 : decide (f < f') = true := by simpa using h1
    rw [t1, Bool.true_or]
    clear h1
    go_enter Tryz.func63, Tryz.ntmps63
    go_wp2_with fail
    go_ret
    exact ⟨rfl, HB.out⟩
  · have t1 : decide (f < f') = false := by simpa using h1
    rw [t1, Bool.false_or]
    by_cases h2 : f = f'
    · have t2 : (f == f') = true := by simpa using h2
      rw [show decide (f = f') = true by simpa using h2, Bool.true_and]
      clear h1 h2
      go_enter Tryz.func63, Tryz.ntmps63
      go_wp2_with fail
      go_ret
      exact ⟨rfl, HB.out⟩
    · have t2 : (f == f') = false := by simpa using h2
      rw [show decide (f = f') = false by simpa using h2, Bool.false_and]
      clear h1 h2
      go_enter Tryz.func63, Tryz.ntmps63
      go_wp2_with fail
      go_ret
      exact ⟨rfl, HB.out⟩
theorem first_any (n r n' r' : ByteArray) (f s x f' s' x' : Int) (w : World) :
    Calls Tryz.prog 40 #[useV n r f s x, useV n' r' f' s' x'] w fun e w' => e = .returned (.bool (befB f f' n n')) ∧ Below w.heap.size w w' := by
  unfold useV befB strLt
  have HB := Lib.hid (((Below.refl w.heap.size w).alloc (Nat.le_refl _) (.cells #[.string n, .string r, .int .i64 f, .int .i64 s, .int .i64 x] 62)).alloc (by simp) (.cells #[.string n', .string r', .int .i64 f', .int .i64 s', .int .i64 x'] 62))
  by_cases h1 : f < f'
  · have t1 : decide (f < f') = true := by simpa using h1
    rw [t1, Bool.true_or]
    clear h1
    go_enter Tryz.func40, Tryz.ntmps40
    go_wp2_with fail
    go_ret
    exact ⟨rfl, HB.out⟩
  · have t1 : decide (f < f') = false := by simpa using h1
    rw [t1, Bool.false_or]
    by_cases h2 : f = f'
    · have t2 : (f == f') = true := by simpa using h2
      rw [show decide (f = f') = true by simpa using h2, Bool.true_and]
      clear h1 h2
      go_enter Tryz.func40, Tryz.ntmps40
      go_wp2_with fail
      go_ret
      exact ⟨rfl, HB.out⟩
    · have t2 : (f == f') = false := by simpa using h2
      rw [show decide (f = f') = false by simpa using h2, Bool.false_and]
      clear h1 h2
      go_enter Tryz.func40, Tryz.ntmps40
      go_wp2_with fail
      go_ret
      exact ⟨rfl, HB.out⟩

set_option maxHeartbeats 1000000 in
/-- cmp.Or of two numbers that were just laid -/
theorem or_any (x y : Int) (b : Nat) (w : World) (hc0 : w.cell? ⟨b, 0, none⟩ = some (.int .i64 x)) (hc1 : w.cell? ⟨b, 1, none⟩ = some (.int .i64 y)) :
    Calls Tryz.prog 33 #[.slice (some ⟨b, 0, none⟩) 2 2] w fun e w' => e = .returned (.int .i64 (orI x y)) ∧ w = w' := by
  go_enter Tryz.func33, Tryz.ntmps33
  go_wp2_with fail
  go_loop [8] (fun iv => ∃ (k : Nat), iv = .int .i64 k ∧ k ≤ 2 ∧ Hid ((0 < k → x = 0) ∧ (1 < k → y = 0))) (fun iv => 2 - (intOf iv).toNat)
  case atStart => exact ⟨0, rfl, by omega, Lib.hid ⟨fun h => by omega, fun h => by omega⟩⟩
  case round =>
    obtain ⟨k, rfl, hk, HK⟩ := hrel
    have hways : k = 0 ∨ k = 1 ∨ k = 2 := by omega
    rcases hways with rfl | rfl | rfl
    · by_cases hx : x = 0
      · have t1 : (x != 0) = false := by simpa using hx
        have HX := Lib.hid hx
        clear hx
        go_wp2_with fail
        go_round
        case rel => exact ⟨1, rfl, by omega, Lib.hid ⟨fun _ => HX.out, fun h => by omega⟩⟩
        case measure => simp [intOf]
      · have t1 : (x != 0) = true := by simpa using hx
        have HX := Lib.hid (show orI x y = x by unfold orI; rw [if_pos hx])
        clear hx
        go_wp2_with fail
        go_ret
        exact ⟨ret_int HX.out.symm, rfl⟩
    · by_cases hy : y = 0
      · have t1 : (y != 0) = false := by simpa using hy
        have HY := Lib.hid hy
        clear hy
        go_wp2_with fail
        go_round
        case rel => exact ⟨2, rfl, by omega, Lib.hid ⟨fun _ => HK.out.1 (by omega), fun _ => HY.out⟩⟩
        case measure => simp [intOf]
      · have t1 : (y != 0) = true := by simpa using hy
        have HX := Lib.hid (show orI x y = y by unfold orI; rw [if_neg (fun h => h (HK.out.1 (by omega)))])
        clear hy
        go_wp2_with fail
        go_ret
        exact ⟨ret_int HX.out.symm, rfl⟩
    · have HX := Lib.hid (show orI x y = 0 by unfold orI; rw [HK.out.1 (by omega), HK.out.2 (by omega)]; simp)
      go_wp2_with fail
      go_ret
      exact ⟨ret_int HX.out.symm, rfl⟩

theorem keep4 {w2 W Wn : World} {B : Nat} {x0 x2 y0 y2 : Option Value} (hB : B + 1 < w2.heap.size)
    (h : W.cell? ⟨B, 0, none⟩ = x0 ∧ W.cell? ⟨B, 2, none⟩ = x2 ∧ W.cell? ⟨B + 1, 0, none⟩ = y0 ∧ W.cell? ⟨B + 1, 2, none⟩ = y2 ∧ Below w2.heap.size w2 W) (hb : Below W.heap.size W Wn) :
    Wn.cell? ⟨B, 0, none⟩ = x0 ∧ Wn.cell? ⟨B, 2, none⟩ = x2 ∧ Wn.cell? ⟨B + 1, 0, none⟩ = y0 ∧ Wn.cell? ⟨B + 1, 2, none⟩ = y2 ∧ Below w2.heap.size w2 Wn := by
  obtain ⟨h1, h2, h3, h4, h5⟩ := h
  have hs := h5.size
  exact ⟨(hb.cell (p := ⟨B, 0, none⟩) (by show B < W.heap.size; omega)).trans h1, (hb.cell (p := ⟨B, 2, none⟩) (by show B < W.heap.size; omega)).trans h2,
    (hb.cell (p := ⟨B + 1, 0, none⟩) (by show B + 1 < W.heap.size; omega)).trans h3, (hb.cell (p := ⟨B + 1, 2, none⟩) (by show B + 1 < W.heap.size; omega)).trans h4, h5.trans (hb.mono hs)⟩
set_option maxHeartbeats 2000000 in
set_option maxRecDepth 100000 in
theorem mountOrder_any (s p s' p' : ByteArray) (f t f' t' : Int) (w : World) :
    Calls Tryz.prog 48 #[mountV s p f t, mountV s' p' f' t'] w fun e w' => e = .returned (.int .i64 (ordI f f' s s')) ∧ Below w.heap.size w w' := by
  have D1 := Lib.hid (fun W => Tryz.cmp_Compare_int f f' W)
  have D2 := Lib.hid (fun W => Tryz.strings_Compare s s' W)
  unfold mountV
  rw [show ordI f f' s s' = orI (Lib.compareInt f f') (Lib.compareBytes s.data.toList s'.data.toList) from rfl]
  generalize Lib.compareInt f f' = ci at D1 ⊢
  generalize Lib.compareBytes s.data.toList s'.data.toList = cb at D2 ⊢
  have DO := Lib.hid (fun b W h0 h1 => or_any ci cb b W h0 h1)
  have HB := Lib.hid (((Below.refl w.heap.size w).alloc (Nat.le_refl _) (.cells #[.string s, .string p, .int .i64 f, .int .i64 t] 78)).alloc (by simp) (.cells #[.string s', .string p', .int .i64 f', .int .i64 t'] 78))
  have c0 : ∀ i, ((w.alloc (.cells #[.string s, .string p, .int .i64 f, .int .i64 t] 78)).alloc (.cells #[.string s', .string p', .int .i64 f', .int .i64 t'] 78)).cell? ⟨w.heap.size, i, none⟩ = (#[.string s, .string p, .int .i64 f, .int .i64 t] : Array Value)[i]? := by
    intro i
    rw [World.cell?_alloc_past _ _ _ (by simp), World.cell?_alloc_at _ _ _ _ rfl]
  have c1 : ∀ i, ((w.alloc (.cells #[.string s, .string p, .int .i64 f, .int .i64 t] 78)).alloc (.cells #[.string s', .string p', .int .i64 f', .int .i64 t'] 78)).cell? ⟨w.heap.size + 1, i, none⟩ = (#[.string s', .string p', .int .i64 f', .int .i64 t'] : Array Value)[i]? := by
    intro i
    rw [World.cell?_alloc_at _ _ _ _ (by simp)]
  have a0 : ((w.alloc (.cells #[.string s, .string p, .int .i64 f, .int .i64 t] 78)).alloc (.cells #[.string s', .string p', .int .i64 f', .int .i64 t'] 78)).cell? ⟨w.heap.size, 0, none⟩ = some (.string s) := c0 0
  have a2 : ((w.alloc (.cells #[.string s, .string p, .int .i64 f, .int .i64 t] 78)).alloc (.cells #[.string s', .string p', .int .i64 f', .int .i64 t'] 78)).cell? ⟨w.heap.size, 2, none⟩ = some (.int .i64 f) := c0 2
  have b0 : ((w.alloc (.cells #[.string s, .string p, .int .i64 f, .int .i64 t] 78)).alloc (.cells #[.string s', .string p', .int .i64 f', .int .i64 t'] 78)).cell? ⟨w.heap.size + 1, 0, none⟩ = some (.string s') := c1 0
  have b2 : ((w.alloc (.cells #[.string s, .string p, .int .i64 f, .int .i64 t] 78)).alloc (.cells #[.string s', .string p', .int .i64 f', .int .i64 t'] 78)).cell? ⟨w.heap.size + 1, 2, none⟩ = some (.int .i64 f') := c1 2
  clear c0 c1
  go_enter Tryz.func48, Tryz.ntmps48
  go_wp2_with fail
  have hz : w.heap.size + 1 < ((w.alloc (.cells #[.string s, .string p, .int .i64 f, .int .i64 t] 78)).alloc (.cells #[.string s', .string p', .int .i64 f', .int .i64 t'] 78)).heap.size := by simp only [World.size_alloc]; omega
  generalize ((w.alloc (.cells #[.string s, .string p, .int .i64 f, .int .i64 t] 78)).alloc (.cells #[.string s', .string p', .int .i64 f', .int .i64 t'] 78)) = w2 at HB a0 a2 b0 b2 hz ⊢
  obtain ⟨B, e1⟩ : ∃ B, w.heap.size = B := ⟨_, rfl⟩
  rw [e1] at a0 a2 b0 b2 hz ⊢
  have E1 := Lib.hid e1
  have HZ := Lib.hid hz
  have hbd : Below w2.heap.size w2 w2.drew := (Below.refl _ _).drew
  clear e1 hz
  have hkeep := keep4 (W := w2) (Wn := (w2.alloc (.cells #[.int .i64 ci, .int .i64 cb] 3)).drew) HZ.out ⟨a0, a2, b0, b2, Below.refl _ _⟩ (((Below.refl _ _).alloc (Nat.le_refl _) _).drew)
  have HF := Lib.hid ((HB.out.alloc HB.out.size (.cells #[.int .i64 ci, .int .i64 cb] 3)).drew)
  go_region_held3 (fun w' => w'.cell? ⟨B, 0, none⟩ = some (.string s) ∧ w'.cell? ⟨B, 2, none⟩ = some (.int .i64 f) ∧ w'.cell? ⟨B + 1, 0, none⟩ = some (.string s') ∧ w'.cell? ⟨B + 1, 2, none⟩ = some (.int .i64 f') ∧ Below w2.heap.size w2 w')
    (first
      | go_keep
      | assumption
      | exact keep4 (W := w2) HZ.out ⟨a0, a2, b0, b2, Below.refl _ _⟩ (((Below.refl _ _).alloc (Nat.le_refl _) _).drew)
      | exact keep4 HZ.out (by assumption) ((Below.refl _ _).alloc (Nat.le_refl _) _)
      | (go_split_ands; exact keep4 HZ.out ⟨by assumption, by assumption, by assumption, by assumption, by assumption⟩ ((Below.refl _ _).alloc (Nat.le_refl _) _)))
    (first
      | (go_at_call 34; refine (D1.out _).mono ?_; rintro e wn ⟨rfl, rfl⟩)
      | (go_at_call 36; refine (D2.out _).mono ?_; rintro e wn ⟨rfl, rfl⟩)
      | (go_at_call 33; refine (DO.out _ _ (by show (w2.alloc _).cell? _ = _; rw [World.cell?_alloc_at _ _ _ _ rfl]; rfl) (by show (w2.alloc _).cell? _ = _; rw [World.cell?_alloc_at _ _ _ _ rfl]; rfl)).mono ?_; rintro e wn ⟨rfl, rfl⟩))
  go_wp2
  go_ret
  exact ⟨rfl, HF.out⟩
set_option maxHeartbeats 2000000 in
set_option maxRecDepth 100000 in
theorem useOrder_any (s p s' p' : ByteArray) (f t x f' t' x' : Int) (w : World) :
    Calls Tryz.prog 25 #[useV s p f t x, useV s' p' f' t' x'] w fun e w' => e = .returned (.int .i64 (ordI f f' s s')) ∧ Below w.heap.size w w' := by
  have D1 := Lib.hid (fun W => Tryz.cmp_Compare_int f f' W)
  have D2 := Lib.hid (fun W => Tryz.strings_Compare s s' W)
  unfold useV
  rw [show ordI f f' s s' = orI (Lib.compareInt f f') (Lib.compareBytes s.data.toList s'.data.toList) from rfl]
  generalize Lib.compareInt f f' = ci at D1 ⊢
  generalize Lib.compareBytes s.data.toList s'.data.toList = cb at D2 ⊢
  have DO := Lib.hid (fun b W h0 h1 => or_any ci cb b W h0 h1)
  have HB := Lib.hid (((Below.refl w.heap.size w).alloc (Nat.le_refl _) (.cells #[.string s, .string p, .int .i64 f, .int .i64 t, .int .i64 x] 62)).alloc (by simp) (.cells #[.string s', .string p', .int .i64 f', .int .i64 t', .int .i64 x'] 62))
  have c0 : ∀ i, ((w.alloc (.cells #[.string s, .string p, .int .i64 f, .int .i64 t, .int .i64 x] 62)).alloc (.cells #[.string s', .string p', .int .i64 f', .int .i64 t', .int .i64 x'] 62)).cell? ⟨w.heap.size, i, none⟩ = (#[.string s, .string p, .int .i64 f, .int .i64 t, .int .i64 x] : Array Value)[i]? := by
    intro i
    rw [World.cell?_alloc_past _ _ _ (by simp), World.cell?_alloc_at _ _ _ _ rfl]
  have c1 : ∀ i, ((w.alloc (.cells #[.string s, .string p, .int .i64 f, .int .i64 t, .int .i64 x] 62)).alloc (.cells #[.string s', .string p', .int .i64 f', .int .i64 t', .int .i64 x'] 62)).cell? ⟨w.heap.size + 1, i, none⟩ = (#[.string s', .string p', .int .i64 f', .int .i64 t', .int .i64 x'] : Array Value)[i]? := by
    intro i
    rw [World.cell?_alloc_at _ _ _ _ (by simp)]
  have a0 : ((w.alloc (.cells #[.string s, .string p, .int .i64 f, .int .i64 t, .int .i64 x] 62)).alloc (.cells #[.string s', .string p', .int .i64 f', .int .i64 t', .int .i64 x'] 62)).cell? ⟨w.heap.size, 0, none⟩ = some (.string s) := c0 0
  have a2 : ((w.alloc (.cells #[.string s, .string p, .int .i64 f, .int .i64 t, .int .i64 x] 62)).alloc (.cells #[.string s', .string p', .int .i64 f', .int .i64 t', .int .i64 x'] 62)).cell? ⟨w.heap.size, 2, none⟩ = some (.int .i64 f) := c0 2
  have b0 : ((w.alloc (.cells #[.string s, .string p, .int .i64 f, .int .i64 t, .int .i64 x] 62)).alloc (.cells #[.string s', .string p', .int .i64 f', .int .i64 t', .int .i64 x'] 62)).cell? ⟨w.heap.size + 1, 0, none⟩ = some (.string s') := c1 0
  have b2 : ((w.alloc (.cells #[.string s, .string p, .int .i64 f, .int .i64 t, .int .i64 x] 62)).alloc (.cells #[.string s', .string p', .int .i64 f', .int .i64 t', .int .i64 x'] 62)).cell? ⟨w.heap.size + 1, 2, none⟩ = some (.int .i64 f') := c1 2
  clear c0 c1
  go_enter Tryz.func25, Tryz.ntmps25
  go_wp2_with fail
  have hz : w.heap.size + 1 < ((w.alloc (.cells #[.string s, .string p, .int .i64 f, .int .i64 t, .int .i64 x] 62)).alloc (.cells #[.string s', .string p', .int .i64 f', .int .i64 t', .int .i64 x'] 62)).heap.size := by simp only [World.size_alloc]; omega
  generalize ((w.alloc (.cells #[.string s, .string p, .int .i64 f, .int .i64 t, .int .i64 x] 62)).alloc (.cells #[.string s', .string p', .int .i64 f', .int .i64 t', .int .i64 x'] 62)) = w2 at HB a0 a2 b0 b2 hz ⊢
  obtain ⟨B, e1⟩ : ∃ B, w.heap.size = B := ⟨_, rfl⟩
  rw [e1] at a0 a2 b0 b2 hz ⊢
  have E1 := Lib.hid e1
  have HZ := Lib.hid hz
  have hbd : Below w2.heap.size w2 w2.drew := (Below.refl _ _).drew
  clear e1 hz
  have hkeep := keep4 (W := w2) (Wn := (w2.alloc (.cells #[.int .i64 ci, .int .i64 cb] 3)).drew) HZ.out ⟨a0, a2, b0, b2, Below.refl _ _⟩ (((Below.refl _ _).alloc (Nat.le_refl _) _).drew)
  have HF := Lib.hid ((HB.out.alloc HB.out.size (.cells #[.int .i64 ci, .int .i64 cb] 3)).drew)
  go_region_held3 (fun w' => w'.cell? ⟨B, 0, none⟩ = some (.string s) ∧ w'.cell? ⟨B, 2, none⟩ = some (.int .i64 f) ∧ w'.cell? ⟨B + 1, 0, none⟩ = some (.string s') ∧ w'.cell? ⟨B + 1, 2, none⟩ = some (.int .i64 f') ∧ Below w2.heap.size w2 w')
    (first
      | go_keep
      | assumption
      | exact keep4 (W := w2) HZ.out ⟨a0, a2, b0, b2, Below.refl _ _⟩ (((Below.refl _ _).alloc (Nat.le_refl _) _).drew)
      | exact keep4 HZ.out (by assumption) ((Below.refl _ _).alloc (Nat.le_refl _) _)
      | (go_split_ands; exact keep4 HZ.out ⟨by assumption, by assumption, by assumption, by assumption, by assumption⟩ ((Below.refl _ _).alloc (Nat.le_refl _) _)))
    (first
      | (go_at_call 34; refine (D1.out _).mono ?_; rintro e wn ⟨rfl, rfl⟩)
      | (go_at_call 36; refine (D2.out _).mono ?_; rintro e wn ⟨rfl, rfl⟩)
      | (go_at_call 33; refine (DO.out _ _ (by show (w2.alloc _).cell? _ = _; rw [World.cell?_alloc_at _ _ _ _ rfl]; rfl) (by show (w2.alloc _).cell? _ = _; rw [World.cell?_alloc_at _ _ _ _ rfl]; rfl)).mono ?_; rintro e wn ⟨rfl, rfl⟩))
  go_wp2
  go_ret
  exact ⟨rfl, HF.out⟩
end Go.Proofs.YtbkpoepacjinlaaGreat

/- Gear: a use is checked (printed by wip/g/gen_use.py). -/
namespace Go.Proofs.YtbkpoepacjinlaaGreat
open Go.RowKit Go.BigFrame
open Gar (momG endG chkUse)

set_option maxHeartbeats 2000000 in
set_option maxRecDepth 100000 in
theorem checkUse_any (n r : ByteArray) (f s x : Int) (tw : Bool) (w : World) (hn : n.size ≤ maxLen) (hr : r.size ≤ maxLen) :
    Calls Tryz.prog 24 #[useV n r f s x, .bool tw] w fun e w' => e = .returned (.int .i64 (chkUse n r tw f s x)) ∧ Below w.heap.size w w' := by
  have D1 := Lib.hid (fun W => isName_any n W hn)
  have D2 := Lib.hid (fun W => isName_any r W hr)
  have D3 := Lib.hid (fun W => gmoment_any f W)
  have D4 := Lib.hid (fun W => gin_any s 1 1000000 W)
  have D5 := Lib.hid (fun W => gin_any x 0 1000000000 W)
  have hv : chkUse n r tw f s x = if (nameB n && nameB r) = false then 8 else if tw = true then 5 else if (momG f && inB s 1 1000000 && inB x 0 1000000000) = false then 9 else 0 := by
    unfold chkUse inB
    simp only [Bool.and_assoc]
  rw [hv]
  clear hv hn hr
  unfold useV
  generalize nameB n = b1 at D1 ⊢
  generalize nameB r = b2 at D2 ⊢
  generalize momG f = b3 at D3 ⊢
  generalize inB s 1 1000000 = b4 at D4 ⊢
  generalize inB x 0 1000000000 = b5 at D5 ⊢
  have HB := Lib.hid ((Below.refl w.heap.size w).alloc (Nat.le_refl _) (.cells #[.string n, .string r, .int .i64 f, .int .i64 s, .int .i64 x] 62))
  cases b1
  · go_enter Tryz.func24, Tryz.ntmps24
    go_wp2_with fail
    refine (D1.out _).mono ?_
    rintro e w1 ⟨rfl, rfl⟩
    go_wp2_with fail
    go_ret
    exact ⟨ret_int (by simp), HB.out⟩
  · cases b2
    · go_enter Tryz.func24, Tryz.ntmps24
      go_wp2_with fail
      refine (D1.out _).mono ?_
      rintro e w1 ⟨rfl, rfl⟩
      go_wp2_with fail
      refine (D2.out _).mono ?_
      rintro e w1 ⟨rfl, rfl⟩
      go_wp2_with fail
      go_ret
      exact ⟨ret_int (by simp), HB.out⟩
    · cases tw
      · cases b3
        · go_enter Tryz.func24, Tryz.ntmps24
          go_wp2_with fail
          refine (D1.out _).mono ?_
          rintro e w1 ⟨rfl, rfl⟩
          go_wp2_with fail
          refine (D2.out _).mono ?_
          rintro e w1 ⟨rfl, rfl⟩
          go_wp2_with fail
          refine (D3.out _).mono ?_
          rintro e w1 ⟨rfl, rfl⟩
          go_wp2_with fail
          go_ret
          exact ⟨ret_int (by simp), HB.out⟩
        · cases b4
          · go_enter Tryz.func24, Tryz.ntmps24
            go_wp2_with fail
            refine (D1.out _).mono ?_
            rintro e w1 ⟨rfl, rfl⟩
            go_wp2_with fail
            refine (D2.out _).mono ?_
            rintro e w1 ⟨rfl, rfl⟩
            go_wp2_with fail
            refine (D3.out _).mono ?_
            rintro e w1 ⟨rfl, rfl⟩
            go_wp2_with fail
            refine (D4.out _).mono ?_
            rintro e w1 ⟨rfl, rfl⟩
            go_wp2_with fail
            go_ret
            exact ⟨ret_int (by simp), HB.out⟩
          · cases b5
            · go_enter Tryz.func24, Tryz.ntmps24
              go_wp2_with fail
              refine (D1.out _).mono ?_
              rintro e w1 ⟨rfl, rfl⟩
              go_wp2_with fail
              refine (D2.out _).mono ?_
              rintro e w1 ⟨rfl, rfl⟩
              go_wp2_with fail
              refine (D3.out _).mono ?_
              rintro e w1 ⟨rfl, rfl⟩
              go_wp2_with fail
              refine (D4.out _).mono ?_
              rintro e w1 ⟨rfl, rfl⟩
              go_wp2_with fail
              refine (D5.out _).mono ?_
              rintro e w1 ⟨rfl, rfl⟩
              go_wp2_with fail
              go_ret
              exact ⟨ret_int (by simp), HB.out⟩
            · go_enter Tryz.func24, Tryz.ntmps24
              go_wp2_with fail
              refine (D1.out _).mono ?_
              rintro e w1 ⟨rfl, rfl⟩
              go_wp2_with fail
              refine (D2.out _).mono ?_
              rintro e w1 ⟨rfl, rfl⟩
              go_wp2_with fail
              refine (D3.out _).mono ?_
              rintro e w1 ⟨rfl, rfl⟩
              go_wp2_with fail
              refine (D4.out _).mono ?_
              rintro e w1 ⟨rfl, rfl⟩
              go_wp2_with fail
              refine (D5.out _).mono ?_
              rintro e w1 ⟨rfl, rfl⟩
              go_wp2_with fail
              go_ret
              exact ⟨ret_int (by simp), HB.out⟩
      · go_enter Tryz.func24, Tryz.ntmps24
        go_wp2_with fail
        refine (D1.out _).mono ?_
        rintro e w1 ⟨rfl, rfl⟩
        go_wp2_with fail
        refine (D2.out _).mono ?_
        rintro e w1 ⟨rfl, rfl⟩
        go_wp2_with fail
        go_ret
        exact ⟨ret_int (by simp), HB.out⟩
end Go.Proofs.YtbkpoepacjinlaaGreat

/- Gear: a garage in memory; where a slot, or a part, is (reference). -/
namespace Go.Proofs.YtbkpoepacjinlaaGreat
open Go.RowKit Go.BigFrame

/-- a garage lies in memory -/
structure GarIn (w : World) (g : Gar) (a0 a1 a2 a3 : Option Addr) : Prop where
  r0 : RowK w a0 g.np 2 (fun i => [.string (g.pn i), .int .i64 (g.pc i)])
  r1 : RowK w a1 g.ns 2 (fun i => [.string (g.sn i), .string (g.sr i)])
  r2 : RowK w a2 g.nm 4 (fun i => [.string (g.ms i), .string (g.mp i), .int .i64 (g.mf i), .int .i64 (g.mt i)])
  r3 : RowK w a3 g.nu 5 (fun i => [.string (g.un i), .string (g.ur i), .int .i64 (g.uf i), .int .i64 (g.us i), .int .i64 (g.uw i)])
  z0 : ∀ i, i < g.np → (g.pn i).size ≤ maxLen
  z1 : ∀ i, i < g.ns → (g.sn i).size ≤ maxLen ∧ (g.sr i).size ≤ maxLen
  z2 : ∀ i, i < g.nm → (g.ms i).size ≤ maxLen ∧ (g.mp i).size ≤ maxLen
  z3 : ∀ i, i < g.nu → (g.un i).size ≤ maxLen ∧ (g.ur i).size ≤ maxLen
  l0 : (g.np : Int) ≤ 9223372036854775807
  l1 : (g.ns : Int) ≤ 9223372036854775807
  l2 : (g.nm : Int) ≤ 9223372036854775807
  l3 : (g.nu : Int) ≤ 9223372036854775807
theorem GarIn.below {w w' : World} {g : Gar} {a0 a1 a2 a3 : Option Addr} (h : GarIn w g a0 a1 a2 a3) (hb : Below w.heap.size w w') : GarIn w' g a0 a1 a2 a3 :=
  ⟨h.r0.below hb (Nat.le_refl _), h.r1.below hb (Nat.le_refl _), h.r2.below hb (Nat.le_refl _), h.r3.below hb (Nat.le_refl _), h.z0, h.z1, h.z2, h.z3, h.l0, h.l1, h.l2, h.l3⟩
def garV (g : Gar) (a0 a1 a2 a3 : Option Addr) (c0 c1 c2 c3 : Nat) : Value := .agg #[.slice a0 g.np c0, .slice a1 g.ns c1, .slice a2 g.nm c2, .slice a3 g.nu c3]
/-- the first place, from k on, at which p holds; -1: there is none -/
def idxF (p : Nat → Bool) : Nat → Nat → Int
  | 0, _ => -1
  | n + 1, k => if p k = true then (k : Int) else idxF p n (k + 1)
theorem str_eq (a b : ByteArray) : (a.toList == b.toList) = decide (a = b) := by
  rw [ByteArray.toList_eq, ByteArray.toList_eq, Bool.eq_iff_iff, beq_iff_eq, decide_eq_true_eq]
  exact ⟨fun h => Go.WideShapes.bytes_inj h, fun h => by rw [h]⟩

set_option maxHeartbeats 1000000 in
set_option maxRecDepth 100000 in
theorem slotAt_any (g : Gar) (a0 a1 a2 a3 : Option Addr) (c0 c1 c2 c3 : Nat) (name : ByteArray) (w : World) (h : GarIn w g a0 a1 a2 a3) :
    Calls Tryz.prog 13 #[garV g a0 a1 a2 a3 c0 c1 c2 c3, .string name] w fun e w' => e = .returned (.int .i64 (idxF (fun i => decide (g.sn i = name)) g.ns 0)) ∧ Below w.heap.size w w' := by
  have HG := Lib.hid h
  have hl := h.l1
  clear h
  unfold garV
  obtain ⟨z, hz⟩ : ∃ z, idxF (fun i => decide (g.sn i = name)) g.ns 0 = z := ⟨_, rfl⟩
  rw [hz]
  have HZ := Lib.hid hz
  clear hz
  go_enter Tryz.func13, Tryz.ntmps13
  go_wp2_with fail
  go_loopw [10] (fun iv wr => ∃ (k : Nat), iv = .int .i64 k ∧ k ≤ g.ns ∧ Hid (Below w.heap.size w wr) ∧ Hid (idxF (fun i => decide (g.sn i = name)) (g.ns - k) k = z)) (fun iv _ => g.ns - (intOf iv).toNat)
  case atStart => exact ⟨0, rfl, by omega, Lib.hid ((Below.refl _ _).alloc (Nat.le_refl _) _), HZ⟩
  case round =>
    obtain ⟨k, rfl, hk, HB, HX⟩ := hrel
    by_cases hlt : k < g.ns
    · have t1 : decide ((k : Int) < (g.ns : Int)) = true := by rw [decide_eq_true_eq]; omega
      obtain ⟨b, off, rfl, hbl, hc⟩ := (HG.out.r1.below HB.out (Nat.le_refl _)).here (by omega)
      have e0 : wr.cell? ⟨b, off + k * 2, none⟩ = some (.string (g.sn k)) := hc k hlt 0 (by omega)
      have e1 : wr.cell? ⟨b, off + k * 2 + 1, none⟩ = some (.string (g.sr k)) := hc k hlt 1 (by omega)
      have hx := HX.out
      rw [show g.ns - k = (g.ns - k - 1) + 1 by omega, idxF] at hx
      have HX2 := Lib.hid hx
      have hse := str_eq (g.sn k) name
      have hsz := HB.out.size
      clear hc hx HX
      by_cases he : g.sn k = name
      · rw [show decide (g.sn k = name) = true by simpa using he] at hse
        rw [show decide (g.sn k = name) = true by simpa using he, if_pos rfl] at HX2
        generalize g.sn k = s at e0 hse
        generalize g.sr k = r at e1
        clear he
        go_wp2_with fail
        go_ret
        exact ⟨ret_int HX2.out, HB.out.alloc hsz _⟩
      · rw [show decide (g.sn k = name) = false by simpa using he] at hse
        rw [show decide (g.sn k = name) = false by simpa using he, if_neg (by simp)] at HX2
        generalize g.sn k = s at e0 hse
        generalize g.sr k = r at e1
        clear he
        go_wp2_with fail
        go_roundw
        case rel => exact ⟨k + 1, by go_num, by omega, Lib.hid (HB.out.alloc hsz _), HX2⟩
        case measure => simp [intOf]; omega
    · have t1 : decide ((k : Int) < (g.ns : Int)) = false := by rw [decide_eq_false_iff_not]; omega
      have t1' : decide (k < g.ns) = false := by simpa using hlt
      have hx := HX.out
      rw [show g.ns - k = 0 by omega, idxF] at hx
      have HX2 := Lib.hid hx
      clear hx hlt
      go_wp2_with fail
      go_ret
      exact ⟨ret_int HX2.out, HB.out⟩

set_option maxHeartbeats 1000000 in
set_option maxRecDepth 100000 in
theorem partAt_any (g : Gar) (a0 a1 a2 a3 : Option Addr) (c0 c1 c2 c3 : Nat) (name : ByteArray) (w : World) (h : GarIn w g a0 a1 a2 a3) :
    Calls Tryz.prog 60 #[garV g a0 a1 a2 a3 c0 c1 c2 c3, .string name] w fun e w' => e = .returned (.int .i64 (idxF (fun i => decide (g.pn i = name)) g.np 0)) ∧ Below w.heap.size w w' := by
  have HG := Lib.hid h
  have hl := h.l0
  clear h
  unfold garV
  obtain ⟨z, hz⟩ : ∃ z, idxF (fun i => decide (g.pn i = name)) g.np 0 = z := ⟨_, rfl⟩
  rw [hz]
  have HZ := Lib.hid hz
  clear hz
  go_enter Tryz.func60, Tryz.ntmps60
  go_wp2_with fail
  go_loopw [10] (fun iv wr => ∃ (k : Nat), iv = .int .i64 k ∧ k ≤ g.np ∧ Hid (Below w.heap.size w wr) ∧ Hid (idxF (fun i => decide (g.pn i = name)) (g.np - k) k = z)) (fun iv _ => g.np - (intOf iv).toNat)
  case atStart => exact ⟨0, rfl, by omega, Lib.hid ((Below.refl _ _).alloc (Nat.le_refl _) _), HZ⟩
  case round =>
    obtain ⟨k, rfl, hk, HB, HX⟩ := hrel
    by_cases hlt : k < g.np
    · have t1 : decide ((k : Int) < (g.np : Int)) = true := by rw [decide_eq_true_eq]; omega
      obtain ⟨b, off, rfl, hbl, hc⟩ := (HG.out.r0.below HB.out (Nat.le_refl _)).here (by omega)
      have e0 : wr.cell? ⟨b, off + k * 2, none⟩ = some (.string (g.pn k)) := hc k hlt 0 (by omega)
      have e1 : wr.cell? ⟨b, off + k * 2 + 1, none⟩ = some (.int .i64 (g.pc k)) := hc k hlt 1 (by omega)
      have hx := HX.out
      rw [show g.np - k = (g.np - k - 1) + 1 by omega, idxF] at hx
      have HX2 := Lib.hid hx
      have hse := str_eq (g.pn k) name
      have hsz := HB.out.size
      clear hc hx HX
      by_cases he : g.pn k = name
      · rw [show decide (g.pn k = name) = true by simpa using he] at hse
        rw [show decide (g.pn k = name) = true by simpa using he, if_pos rfl] at HX2
        generalize g.pn k = s at e0 hse
        generalize g.pc k = r at e1
        clear he
        go_wp2_with fail
        go_ret
        exact ⟨ret_int HX2.out, HB.out.alloc hsz _⟩
      · rw [show decide (g.pn k = name) = false by simpa using he] at hse
        rw [show decide (g.pn k = name) = false by simpa using he, if_neg (by simp)] at HX2
        generalize g.pn k = s at e0 hse
        generalize g.pc k = r at e1
        clear he
        go_wp2_with fail
        go_roundw
        case rel => exact ⟨k + 1, by go_num, by omega, Lib.hid (HB.out.alloc hsz _), HX2⟩
        case measure => simp [intOf]; omega
    · have t1 : decide ((k : Int) < (g.np : Int)) = false := by rw [decide_eq_false_iff_not]; omega
      have t1' : decide (k < g.np) = false := by simpa using hlt
      have hx := HX.out
      rw [show g.np - k = 0 by omega, idxF] at hx
      have HX2 := Lib.hid hx
      clear hx hlt
      go_wp2_with fail
      go_ret
      exact ⟨ret_int HX2.out, HB.out⟩
end Go.Proofs.YtbkpoepacjinlaaGreat

/- Gear: what is in a slot at a moment (program and reference). -/
namespace Go.Proofs.YtbkpoepacjinlaaGreat
open Go.RowKit Go.BigFrame

/-- what is in a slot, from mount k on -/
def inF (g : Gar) (slot : ByteArray) (m : Int) : Nat → Nat → Option ByteArray
  | 0, _ => none
  | n + 1, k => if (decide (g.ms k = slot) && isG (g.mf k) (g.mt k) m) = true then some (g.mp k) else inF g slot m n (k + 1)
def inR : Option ByteArray → ByteArray × Bool
  | some p => (p, true)
  | none => (⟨#[]⟩, false)

set_option maxHeartbeats 2000000 in
set_option maxRecDepth 100000 in
theorem inSlot_any (g : Gar) (a0 a1 a2 a3 : Option Addr) (c0 c1 c2 c3 : Nat) (slot : ByteArray) (at' : Int) (w : World) (h : GarIn w g a0 a1 a2 a3) (o : Option ByteArray) (ho : inF g slot at' g.nm 0 = o) :
    Calls Tryz.prog 28 #[garV g a0 a1 a2 a3 c0 c1 c2 c3, .string slot, .int .i64 at'] w fun e w' => e = .returned (.string (inR o).1) ∧ Below w.heap.size w w' := by
  have HG := Lib.hid h
  have hl := h.l2
  have HZ := Lib.hid ho
  clear h ho
  unfold garV
  go_enter Tryz.func28, Tryz.ntmps28
  go_wp2_with fail
  go_loopw [12] (fun iv wr => ∃ (k : Nat), iv = .int .i64 k ∧ k ≤ g.nm ∧ Hid (Below w.heap.size w wr) ∧ Hid (inF g slot at' (g.nm - k) k = o)) (fun iv _ => g.nm - (intOf iv).toNat)
  case atStart => exact ⟨0, rfl, by omega, Lib.hid ((Below.refl _ _).alloc (Nat.le_refl _) _), HZ⟩
  case round =>
    obtain ⟨k, rfl, hk, HB, HX⟩ := hrel
    by_cases hlt : k < g.nm
    · have t1 : decide ((k : Int) < (g.nm : Int)) = true := by rw [decide_eq_true_eq]; omega
      obtain ⟨b, off, rfl, hbl, hc⟩ := (HG.out.r2.below HB.out (Nat.le_refl _)).here (by omega)
      have e0 : wr.cell? ⟨b, off + k * 4, none⟩ = some (.string (g.ms k)) := hc k hlt 0 (by omega)
      have e1 : wr.cell? ⟨b, off + k * 4 + 1, none⟩ = some (.string (g.mp k)) := hc k hlt 1 (by omega)
      have e2 : wr.cell? ⟨b, off + k * 4 + 2, none⟩ = some (.int .i64 (g.mf k)) := hc k hlt 2 (by omega)
      have e3 : wr.cell? ⟨b, off + k * 4 + 3, none⟩ = some (.int .i64 (g.mt k)) := hc k hlt 3 (by omega)
      have hx := HX.out
      rw [show g.nm - k = (g.nm - k - 1) + 1 by omega, inF] at hx
      have HX2 := Lib.hid hx
      have hse := str_eq (g.ms k) slot
      have hsz := HB.out.size
      have DI := Lib.hid (fun W => is_any (g.ms k) (g.mp k) (g.mf k) (g.mt k) at' W)
      clear hc hx HX
      by_cases he : g.ms k = slot
      · rw [show decide (g.ms k = slot) = true by simpa using he] at hse HX2
        rw [Bool.true_and] at HX2
        generalize g.ms k = s at e0 hse DI
        generalize g.mp k = p at e1 DI HX2
        generalize g.mf k = f at e2 DI HX2
        generalize g.mt k = t at e3 DI HX2
        clear he
        unfold mountV at DI
        cases hi : isG f t at'
        · rw [hi] at DI HX2
          rw [if_neg (by simp)] at HX2
          clear hi
          go_wp2_with fail
          refine (DI.out _).mono ?_
          rintro e w2 ⟨rfl, hb2⟩
          have HB2 := Lib.hid ((HB.out.alloc hsz (.cells #[.string s, .string p, .int .i64 f, .int .i64 t] 78)).trans (hb2.mono (by simp only [World.size_alloc]; omega)))
          clear hb2
          go_wp2_with fail
          go_roundw
          case rel => exact ⟨k + 1, by go_num, by omega, HB2, HX2⟩
          case measure => simp [intOf]; omega
        · rw [hi] at DI HX2
          rw [if_pos rfl] at HX2
          clear hi
          go_wp2_with fail
          refine (DI.out _).mono ?_
          rintro e w2 ⟨rfl, hb2⟩
          have HB2 := Lib.hid ((HB.out.alloc hsz (.cells #[.string s, .string p, .int .i64 f, .int .i64 t] 78)).trans (hb2.mono (by simp only [World.size_alloc]; omega)))
          have q1 : w2.cell? ⟨wr.heap.size, 1, none⟩ = some (.string p) := (hb2.cell (p := ⟨wr.heap.size, 1, none⟩) (by simp)).trans (by rw [World.cell?_alloc_at _ _ _ _ rfl]; rfl)
          clear hb2
          go_wp2_with fail
          go_ret
          exact ⟨by rw [← HX2.out]; rfl, HB2.out⟩
      · rw [show decide (g.ms k = slot) = false by simpa using he] at hse HX2
        rw [Bool.false_and, if_neg (by simp)] at HX2
        generalize g.ms k = s at e0 hse DI
        generalize g.mp k = p at e1 DI
        generalize g.mf k = f at e2 DI
        generalize g.mt k = t at e3 DI
        clear he
        go_wp2_with fail
        go_roundw
        case rel => exact ⟨k + 1, by go_num, by omega, Lib.hid (HB.out.alloc hsz _), HX2⟩
        case measure => simp [intOf]; omega
    · have t1 : decide ((k : Int) < (g.nm : Int)) = false := by rw [decide_eq_false_iff_not]; omega
      have t1' : decide (k < g.nm) = false := by simpa using hlt
      have hx := HX.out
      rw [show g.nm - k = 0 by omega, inF] at hx
      have HX2 := Lib.hid hx
      clear hx hlt
      go_wp2_with fail
      go_ret
      exact ⟨by rw [← HX2.out]; rfl, HB.out⟩

set_option maxHeartbeats 2000000 in
set_option maxRecDepth 100000 in
theorem rin_any (g : Gar) (a0 a1 a2 a3 : Option Addr) (c0 c1 c2 c3 : Nat) (slot : ByteArray) (at' : Int) (w : World) (h : GarIn w g a0 a1 a2 a3) (o : Option ByteArray) (ho : inF g slot at' g.nm 0 = o) :
    Calls Tryz.prog 14 #[garV g a0 a1 a2 a3 c0 c1 c2 c3, .string slot, .int .i64 at'] w fun e w' => e = .returned (.tuple #[.string (inR o).1, .bool (inR o).2]) ∧ Below w.heap.size w w' := by
  have HG := Lib.hid h
  have hl := h.l2
  have HZ := Lib.hid ho
  clear h ho
  unfold garV
  go_enter Tryz.func14, Tryz.ntmps14
  go_wp2_with fail
  go_loopw [13] (fun iv wr => ∃ (k : Nat), iv = .int .i64 k ∧ k ≤ g.nm ∧ Hid (Below w.heap.size w wr) ∧ Hid (inF g slot at' (g.nm - k) k = o)) (fun iv _ => g.nm - (intOf iv).toNat)
  case atStart => exact ⟨0, rfl, by omega, Lib.hid ((Below.refl _ _).alloc (Nat.le_refl _) _), HZ⟩
  case round =>
    obtain ⟨k, rfl, hk, HB, HX⟩ := hrel
    by_cases hlt : k < g.nm
    · have t1 : decide ((k : Int) < (g.nm : Int)) = true := by rw [decide_eq_true_eq]; omega
      obtain ⟨b, off, rfl, hbl, hc⟩ := (HG.out.r2.below HB.out (Nat.le_refl _)).here (by omega)
      have e0 : wr.cell? ⟨b, off + k * 4, none⟩ = some (.string (g.ms k)) := hc k hlt 0 (by omega)
      have e1 : wr.cell? ⟨b, off + k * 4 + 1, none⟩ = some (.string (g.mp k)) := hc k hlt 1 (by omega)
      have e2 : wr.cell? ⟨b, off + k * 4 + 2, none⟩ = some (.int .i64 (g.mf k)) := hc k hlt 2 (by omega)
      have e3 : wr.cell? ⟨b, off + k * 4 + 3, none⟩ = some (.int .i64 (g.mt k)) := hc k hlt 3 (by omega)
      have hx := HX.out
      rw [show g.nm - k = (g.nm - k - 1) + 1 by omega, inF] at hx
      have HX2 := Lib.hid hx
      have hse := str_eq (g.ms k) slot
      have hsz := HB.out.size
      have DI := Lib.hid (fun W => covers_any (g.ms k) (g.mp k) (g.mf k) (g.mt k) at' W)
      clear hc hx HX
      by_cases he : g.ms k = slot
      · rw [show decide (g.ms k = slot) = true by simpa using he] at hse HX2
        rw [Bool.true_and] at HX2
        generalize g.ms k = s at e0 hse DI
        generalize g.mp k = p at e1 DI HX2
        generalize g.mf k = f at e2 DI HX2
        generalize g.mt k = t at e3 DI HX2
        clear he
        unfold mountV at DI
        cases hi : isG f t at'
        · rw [hi] at DI HX2
          rw [if_neg (by simp)] at HX2
          clear hi
          go_wp2_with fail
          refine (DI.out _).mono ?_
          rintro e w2 ⟨rfl, hb2⟩
          have HB2 := Lib.hid ((HB.out.alloc hsz (.cells #[.string s, .string p, .int .i64 f, .int .i64 t] 78)).trans (hb2.mono (by simp only [World.size_alloc]; omega)))
          clear hb2
          go_wp2_with fail
          go_roundw
          case rel => exact ⟨k + 1, by go_num, by omega, HB2, HX2⟩
          case measure => simp [intOf]; omega
        · rw [hi] at DI HX2
          rw [if_pos rfl] at HX2
          clear hi
          go_wp2_with fail
          refine (DI.out _).mono ?_
          rintro e w2 ⟨rfl, hb2⟩
          have HB2 := Lib.hid ((HB.out.alloc hsz (.cells #[.string s, .string p, .int .i64 f, .int .i64 t] 78)).trans (hb2.mono (by simp only [World.size_alloc]; omega)))
          have q1 : w2.cell? ⟨wr.heap.size, 1, none⟩ = some (.string p) := (hb2.cell (p := ⟨wr.heap.size, 1, none⟩) (by simp)).trans (by rw [World.cell?_alloc_at _ _ _ _ rfl]; rfl)
          clear hb2
          go_wp2_with fail
          go_ret2
          exact ⟨by rw [← HX2.out]; rfl, HB2.out⟩
      · rw [show decide (g.ms k = slot) = false by simpa using he] at hse HX2
        rw [Bool.false_and, if_neg (by simp)] at HX2
        generalize g.ms k = s at e0 hse DI
        generalize g.mp k = p at e1 DI
        generalize g.mf k = f at e2 DI
        generalize g.mt k = t at e3 DI
        clear he
        go_wp2_with fail
        go_roundw
        case rel => exact ⟨k + 1, by go_num, by omega, Lib.hid (HB.out.alloc hsz _), HX2⟩
        case measure => simp [intOf]; omega
    · have t1 : decide ((k : Int) < (g.nm : Int)) = false := by rw [decide_eq_false_iff_not]; omega
      have t1' : decide (k < g.nm) = false := by simpa using hlt
      have hx := HX.out
      rw [show g.nm - k = 0 by omega, inF] at hx
      have HX2 := Lib.hid hx
      clear hx hlt
      go_wp2_with fail
      go_ret2
      exact ⟨by rw [← HX2.out]; rfl, HB.out⟩
end Go.Proofs.YtbkpoepacjinlaaGreat

/- Gear: is there a slot, a part? (program; printed by wip/g/gen_has.py) -/
namespace Go.Proofs.YtbkpoepacjinlaaGreat
open Go.RowKit Go.BigFrame

set_option maxHeartbeats 1000000 in
theorem hasSCl_any (s name : ByteArray) (r : ByteArray) (p : Nat) (w : World) (hp : p < w.heap.size) (hc : w.cell? ⟨p, 0, none⟩ = some (.string name)) :
    Calls Tryz.prog 51 #[.agg #[.string s, .string r], .pointer (some ⟨p, 0, none⟩)] w fun e w' => e = .returned (.bool (decide (s = name))) ∧ Below w.heap.size w w' := by
  have hse := str_eq s name
  generalize decide (s = name) = bb at hse ⊢
  go_enter Tryz.func51, Tryz.ntmps51
  go_wp2_with fail
  go_ret
  exact ⟨rfl, (Below.refl _ _).alloc (Nat.le_refl _) _⟩

set_option maxHeartbeats 1000000 in
set_option maxRecDepth 100000 in
theorem hasSIx_any (g : Gar) (a : Option Addr) (c : Nat) (name : ByteArray) (p : Nat) (w : World) (hp : p < w.heap.size) (hcell : w.cell? ⟨p, 0, none⟩ = some (.string name)) (hr : RowK w a g.ns 2 (fun i => [.string (g.sn i), .string (g.sr i)])) (hl : (g.ns : Int) ≤ 9223372036854775807) :
    Calls Tryz.prog 66 #[.slice a g.ns c, .func (.func 51) #[] #[.pointer (some ⟨p, 0, none⟩)]] w fun e w' => e = .returned (.int .i64 (idxF (fun i => decide (g.sn i = name)) g.ns 0)) ∧ Below w.heap.size w w' := by
  have HR := Lib.hid hr
  have HC := Lib.hid hcell
  obtain ⟨z, hz⟩ : ∃ z, idxF (fun i => decide (g.sn i = name)) g.ns 0 = z := ⟨_, rfl⟩
  rw [hz]
  have HZ := Lib.hid hz
  clear hz hr hcell
  go_enter Tryz.func66, Tryz.ntmps66
  go_wp2_with fail
  go_loopw [8] (fun iv wr => ∃ (k : Nat), iv = .int .i64 k ∧ k ≤ g.ns ∧ Hid (Below w.heap.size w wr) ∧ Hid (idxF (fun i => decide (g.sn i = name)) (g.ns - k) k = z)) (fun iv _ => g.ns - (intOf iv).toNat)
  case atStart => exact ⟨0, rfl, by omega, Lib.hid (Below.refl _ _), HZ⟩
  case round =>
    obtain ⟨k, rfl, hk, HB, HX⟩ := hrel
    by_cases hlt : k < g.ns
    · have t1 : decide ((k : Int) < (g.ns : Int)) = true := by rw [decide_eq_true_eq]; omega
      obtain ⟨b, off, rfl, hbl, hc⟩ := (HR.out.below HB.out (Nat.le_refl _)).here (by omega)
      have e0 : wr.cell? ⟨b, off + k * 2, none⟩ = some (.string (g.sn k)) := hc k hlt 0 (by omega)
      have e1 : wr.cell? ⟨b, off + k * 2 + 1, none⟩ = some (.string (g.sr k)) := hc k hlt 1 (by omega)
      have hx := HX.out
      rw [show g.ns - k = (g.ns - k - 1) + 1 by omega, idxF] at hx
      have HX2 := Lib.hid hx
      have hsz := HB.out.size
      have D := Lib.hid (hasSCl_any (g.sn k) name (g.sr k) p wr (Nat.lt_of_lt_of_le hp hsz) ((HB.out.cell (p := ⟨p, 0, none⟩) hp).trans HC.out))
      clear hc hx HX
      generalize g.sn k = s at e0 D HX2
      generalize g.sr k = r at e1 D
      cases hb : decide (s = name)
      · rw [hb] at D HX2
        rw [if_neg (by simp)] at HX2
        clear hb
        go_wp2_with fail
        refine D.out.mono ?_
        rintro e w2 ⟨rfl, hb2⟩
        have HB2 := Lib.hid (HB.out.trans (hb2.mono hsz))
        clear hb2
        go_wp2_with fail
        go_roundw
        case rel => exact ⟨k + 1, by go_num, by omega, HB2, HX2⟩
        case measure => simp [intOf]; omega
      · rw [hb] at D HX2
        rw [if_pos rfl] at HX2
        clear hb
        go_wp2_with fail
        refine D.out.mono ?_
        rintro e w2 ⟨rfl, hb2⟩
        have HB2 := Lib.hid (HB.out.trans (hb2.mono hsz))
        clear hb2
        go_wp2_with fail
        go_ret
        exact ⟨ret_int HX2.out, HB2.out⟩
    · have t1 : decide ((k : Int) < (g.ns : Int)) = false := by rw [decide_eq_false_iff_not]; omega
      have t1' : decide (k < g.ns) = false := by simpa using hlt
      have hx := HX.out
      rw [show g.ns - k = 0 by omega, idxF] at hx
      have HX2 := Lib.hid hx
      clear hx hlt
      go_wp2_with fail
      go_ret
      exact ⟨ret_int HX2.out, HB.out⟩

set_option maxHeartbeats 1000000 in
set_option maxRecDepth 100000 in
theorem hasSCf_any (g : Gar) (a : Option Addr) (c : Nat) (name : ByteArray) (p : Nat) (w : World) (hp : p < w.heap.size) (hcell : w.cell? ⟨p, 0, none⟩ = some (.string name)) (hr : RowK w a g.ns 2 (fun i => [.string (g.sn i), .string (g.sr i)])) (hl : (g.ns : Int) ≤ 9223372036854775807) :
    Calls Tryz.prog 50 #[.slice a g.ns c, .func (.func 51) #[] #[.pointer (some ⟨p, 0, none⟩)]] w fun e w' => e = .returned (.bool (decide (0 ≤ idxF (fun i => decide (g.sn i = name)) g.ns 0))) ∧ Below w.heap.size w w' := by
  have D := Lib.hid (hasSIx_any g a c name p w hp hcell hr hl)
  generalize idxF (fun i => decide (g.sn i = name)) g.ns 0 = z at D ⊢
  clear hr hcell
  cases hz : decide (0 ≤ z)
  all_goals
    go_enter Tryz.func50, Tryz.ntmps50
    go_wp2_with fail
    refine D.out.mono ?_
    rintro e w1 ⟨rfl, hb⟩
    have HB := Lib.hid hb
    clear hb
    go_wp2_with fail
    go_ret
    exact ⟨ret_bool (by simp), HB.out⟩

set_option maxHeartbeats 1000000 in
set_option maxRecDepth 100000 in
theorem hasS_any (g : Gar) (a0 a1 a2 a3 : Option Addr) (c0 c1 c2 c3 : Nat) (name : ByteArray) (w : World) (h : GarIn w g a0 a1 a2 a3) :
    Calls Tryz.prog 26 #[garV g a0 a1 a2 a3 c0 c1 c2 c3, .string name] w fun e w' => e = .returned (.bool (decide (0 ≤ idxF (fun i => decide (g.sn i = name)) g.ns 0))) ∧ Below w.heap.size w w' := by
  have hmf : ∀ fn first cap w, (Instr.makeFunc fn first cap).run Tryz.prog w = .ok (.func fn first cap) w := fun _ _ _ _ => rfl
  have HB := Lib.hid (((Below.refl w.heap.size w).alloc (Nat.le_refl _) (.cells #[.slice a0 g.np c0, .slice a1 g.ns c1, .slice a2 g.nm c2, .slice a3 g.nu c3] 27)).alloc (by simp) (.cells #[.string name] 9))
  have HR := Lib.hid (h.r1.below HB.out (Nat.le_refl _))
  have hl := h.l1
  have D := Lib.hid (hasSCf_any g a1 c1 name (w.heap.size + 1) _ (by simp) (by rw [World.cell?_alloc_at _ _ _ _ (by simp)]; rfl) HR.out hl)
  generalize decide (0 ≤ idxF (fun i => decide (g.sn i = name)) g.ns 0) = z at D ⊢
  unfold garV
  go_enter Tryz.func26, Tryz.ntmps26
  go_wp2_with fail
  refine D.out.mono ?_
  rintro e w1 ⟨rfl, hb⟩
  have HF := Lib.hid (HB.out.trans (hb.mono HB.out.size))
  clear hb
  go_wp2_with fail
  go_ret
  exact ⟨rfl, HF.out⟩

end Go.Proofs.YtbkpoepacjinlaaGreat

/- Gear: '<=' of two strings is the contrary of '<' of the two exchanged. -/
namespace Go.Proofs.YtbkpoepacjinlaaGreat
theorem bl_total : ∀ a b : List UInt8, (Op.bytesLess a b || a == b) = !Op.bytesLess b a
  | [], [] => by decide
  | [], _ :: _ => by simp [Op.bytesLess]
  | _ :: _, [] => by simp [Op.bytesLess]
  | a :: xs, b :: ys => by
    have ih := bl_total xs ys
    unfold Op.bytesLess
    by_cases h1 : a < b
    · have h2 : ¬ b < a := fun h => absurd (UInt8.lt_trans h1 h) (by simp)
      have h3 : b ≠ a := by rintro rfl; exact absurd h1 (by simp)
      simp [h1, h2, h3]
    · by_cases h2 : b < a
      · have h3 : a ≠ b := by rintro rfl; exact absurd h2 (by simp)
        simp [h1, h2, h3]
      · have h3 : a = b := UInt8.le_antisymm (UInt8.not_lt.1 h2) (UInt8.not_lt.1 h1)
        subst h3
        simpa using ih
theorem str_le (a b : ByteArray) : (Op.bytesLess a.toList b.toList || a.toList == b.toList) = !strLt b a := bl_total _ _
end Go.Proofs.YtbkpoepacjinlaaGreat

/- math/bits.Div64: the contract, for all arguments whose quotient fits. -/
namespace Go.Proofs.YtbkpoepacjinlaaGreat
open Go.RowKit

/-- the high part is 0 -/
theorem div64_low (lo y : Int) (w : World) (h0 : 0 ≤ lo) (hy : 1 ≤ y) (hL : lo ≤ 18446744073709551615) :
    Calls Tryz.prog 100 #[.int .u64 0, .int .u64 lo, .int .u64 y] w fun e w' => e = .returned (.tuple #[.int .u64 (lo / y), .int .u64 (lo % y)]) ∧ ∃ n, w' = w.drewN n := by
  have b1 : (y == 0) = false := by rw [beq_eq_false_iff_ne]; omega
  have b2 : decide (y ≤ 0) = false := by simp; omega
  go_enter Tryz.func100, Tryz.ntmps100
  go_wp2
  go_quiet (fail)
  go_wp2
  go_ret2
  exact ⟨rfl, _, rfl⟩

set_option maxHeartbeats 4000000 in
set_option maxRecDepth 100000 in
theorem div64_high (hi lo y : Int) (s Y a b u l d1 d0 u2 qh rh qh2 rh2 qq rr Q1 Q0 : Nat) (w : World) (h1 : 1 ≤ hi) (hy : hi < y) (hY : y ≤ 18446744073709551615)
    (hs : Hid (64 - (Lib.bitLen y.toNat : Int) = (s : Int))) (hs63 : s ≤ 63)
    (e1 : IntKind.u64.wrap (y * 2 ^ s) = Y) (e2 : (Y : Int) / 4294967296 = a) (e3 : bits BinOp.and IntKind.u64 Y 4294967295 = b)
    (e4 : bits BinOp.or IntKind.u64 (IntKind.u64.wrap (hi * 2 ^ s)) (lo / 2 ^ (64 - s)) = u) (e5 : IntKind.u64.wrap (lo * 2 ^ s) = l) (e6 : (l : Int) / 4294967296 = d1) (e7 : bits BinOp.and IntKind.u64 l 4294967295 = d0)
    (e8 : (u : Int) / a = qh) (e9 : IntKind.u64.wrap (u - IntKind.u64.wrap (qh * a)) = rh) (hst : Hid (Knuth.Dig u d1 a b qh rh))
    (e10 : IntKind.u64.wrap (IntKind.u64.wrap (IntKind.u64.wrap ((u : Int) * 4294967296) + d1) - IntKind.u64.wrap ((Q1 : Int) * Y)) = u2)
    (e11 : (u2 : Int) / a = qh2) (e12 : IntKind.u64.wrap (u2 - IntKind.u64.wrap (qh2 * a)) = rh2) (hst2 : Hid (Knuth.Dig u2 d0 a b qh2 rh2))
    (e13 : IntKind.u64.wrap (IntKind.u64.wrap ((Q1 : Int) * 4294967296) + Q0) = qq) (e14 : IntKind.u64.wrap (IntKind.u64.wrap (IntKind.u64.wrap ((u2 : Int) * 4294967296) + d0) - IntKind.u64.wrap ((Q0 : Int) * Y)) / 2 ^ s = rr)
    (hP : Hid (Knuth.Par u d1 a b)) (hP2 : Hid (Knuth.Par u2 d0 a b))
    (hQ1 : Hid (Q1 = (u * 4294967296 + d1) / (a * 4294967296 + b))) (hQ0 : Hid (Q0 = (u2 * 4294967296 + d0) / (a * 4294967296 + b)))
    (ha : (2147483648 : Int) ≤ a) (ha' : (a : Int) < 4294967296) (hb' : Hid (b < 4294967296)) (_hb2 : (b : Int) < 4294967296) (_hu' : (u : Int) ≤ 18446744073709551615) (hd1' : (d1 : Int) < 4294967296) (hd0' : (d0 : Int) < 4294967296) (hqh : (qh : Int) ≤ 4294967297) (_hrh : (rh : Int) < 4294967296)
    (_hu2 : (u2 : Int) ≤ 18446744073709551615) (hqh2 : (qh2 : Int) ≤ 4294967297) (_hrh2 : (rh2 : Int) < 4294967296) :
    Calls Tryz.prog 100 #[.int .u64 hi, .int .u64 lo, .int .u64 y] w fun e w' => e = .returned (.tuple #[.int .u64 qq, .int .u64 rr]) ∧ w' = w := by
  have b1 : (y == 0) = false := by rw [beq_eq_false_iff_ne]; omega
  have b2 : decide (y ≤ hi) = false := by simp; omega
  have b3 : (hi == 0) = false := by rw [beq_eq_false_iff_ne]; omega
  go_enter Tryz.func100, Tryz.ntmps100
  go_wp2_with fail
  refine (Go.Proofs.Tryz.bits_LeadingZeros64 _ _ (by omega) (by omega)).mono ?_
  rintro e w' ⟨rfl, rfl⟩
  rw [hs.out]
  go_wp2_with fail
  clear e1 e2 e3 e4 e5 e6 e7 e8 e9 b1 b2 b3
  go_loop [15, 16] (fun q r => ∃ qn rn : Nat, q = .int .u64 qn ∧ r = .int .u64 rn ∧ Knuth.Dig u d1 a b qn rn) (fun q _ => (intOf q).toNat)
  case atStart => exact ⟨_, _, rfl, rfl, hst.out⟩
  case round =>
    obtain ⟨q, r, rfl, rfl, hD'⟩ := hrel
    have hD := Lib.hid hD'
    have hq1 : (q : Int) ≤ 4294967297 := by have := hD'.1; omega
    have hr1 : (r : Int) < 4294967296 := by have := hD'.2.1; omega
    clear hD'
    by_cases hq : 4294967296 ≤ q
    · have c1 : decide ((4294967296 : Int) ≤ (q : Int)) = true := by rw [decide_eq_true_eq]; omega
      have hpos := hD.out.pos hP.out (.inl hq)
      have hqi : (1 : Int) ≤ q := by omega
      by_cases hr : r + a < 4294967296
      · have c3 : decide ((4294967296 : Int) ≤ (r : Int) + (a : Int)) = false := by rw [decide_eq_false_iff_not]; omega
        have hN := Lib.hid (hD.out.less hP.out (.inl hq) hr)
        have Hp := Lib.hid hpos; clear hpos
        clear hq hr
        go_wp2
        go_round
        case rel => exact ⟨q - 1, r + a, by rw [Int.ofNat_sub Hp.out]; rfl, by go_num, hN.out⟩
        case measure => simp [intOf]; omega
      · have c3 : decide ((4294967296 : Int) ≤ (r : Int) + (a : Int)) = true := by rw [decide_eq_true_eq]; omega
        have hN := hD.out.last hP.out (.inl hq) (by omega)
        have e15 : (q : Int) - 1 = (Q1 : Nat) := by rw [hQ1.out, ← hN]; omega
        clear hN
        clear hq hr
        clear hpos
        go_wp2_with fail
        go_loop [18, 16] (fun q r => ∃ qn rn : Nat, q = .int .u64 qn ∧ r = .int .u64 rn ∧ Knuth.Dig u2 d0 a b qn rn) (fun q _ => (intOf q).toNat)
        case atStart => exact ⟨_, _, rfl, rfl, hst2.out⟩
        case round =>
          obtain ⟨q, r, rfl, rfl, hD'⟩ := hrel
          have hD := Lib.hid hD'
          have hq1 : (q : Int) ≤ 4294967297 := by have := hD'.1; omega
          have hr1 : (r : Int) < 4294967296 := by have := hD'.2.1; omega
          clear hD'
          by_cases hq : 4294967296 ≤ q
          · have c1 : decide ((4294967296 : Int) ≤ (q : Int)) = true := by rw [decide_eq_true_eq]; omega
            have hpos := hD.out.pos hP2.out (.inl hq)
            have hqi : (1 : Int) ≤ q := by omega
            by_cases hr : r + a < 4294967296
            · have c3 : decide ((4294967296 : Int) ≤ (r : Int) + (a : Int)) = false := by rw [decide_eq_false_iff_not]; omega
              have hN := Lib.hid (hD.out.less hP2.out (.inl hq) hr)
              have Hp := Lib.hid hpos; clear hpos
              clear hq hr
              go_wp2
              go_round
              case rel => exact ⟨q - 1, r + a, by rw [Int.ofNat_sub Hp.out]; rfl, by go_num, hN.out⟩
              case measure => simp [intOf]; omega
            · have c3 : decide ((4294967296 : Int) ≤ (r : Int) + (a : Int)) = true := by rw [decide_eq_true_eq]; omega
              have hN := hD.out.last hP2.out (.inl hq) (by omega)
              have e15 : (q : Int) - 1 = (Q0 : Nat) := by rw [hQ0.out, ← hN]; omega
              clear hN
              clear hq hr
              clear hpos
              go_wp2
              go_ret2
              exact ⟨rfl, rfl⟩
          · have c1 : decide ((4294967296 : Int) ≤ (q : Int)) = false := by rw [decide_eq_false_iff_not]; omega
            have hq' : q < 4294967296 := by omega
            clear hq
            obtain ⟨m, hm0⟩ : ∃ m : Nat, m = q * b := ⟨_, rfl⟩
            have hm : IntKind.u64.wrap ((q : Int) * b) = m := by
              rw [IntKind.wrap_u64]; have := Knuth.mul_half hq' hb'.out
              rw [← Int.natCast_mul, ← hm0]; omega
            have Hm := Lib.hid hm0
            clear hm0 hq'
            by_cases ht : 4294967296 * r + d0 < m
            · have c2 : decide (4294967296 * (r : Int) + (d0 : Int) < (m : Int)) = true := by rw [decide_eq_true_eq]; omega
              have hpos := hD.out.pos hP2.out (.inr (by rw [← Hm.out]; omega))
              have hqi : (1 : Int) ≤ q := by omega
              by_cases hr : r + a < 4294967296
              · have c3 : decide ((4294967296 : Int) ≤ (r : Int) + (a : Int)) = false := by rw [decide_eq_false_iff_not]; omega
                have hN := Lib.hid (hD.out.less hP2.out (.inr (by rw [← Hm.out]; omega)) hr)
                have Hp := Lib.hid hpos; clear hpos
                clear ht hr
                go_wp2
                go_round
                case rel => exact ⟨q - 1, r + a, by rw [Int.ofNat_sub Hp.out]; rfl, by go_num, hN.out⟩
                case measure => simp [intOf]; omega
              · have c3 : decide ((4294967296 : Int) ≤ (r : Int) + (a : Int)) = true := by rw [decide_eq_true_eq]; omega
                have hN := hD.out.last hP2.out (.inr (by rw [← Hm.out]; omega)) (by omega)
                have e15 : (q : Int) - 1 = (Q0 : Nat) := by rw [hQ0.out, ← hN]; omega
                clear hN
                clear ht hr
                clear hpos
                go_wp2
                go_ret2
                exact ⟨rfl, rfl⟩
            · have c2 : decide (4294967296 * (r : Int) + (d0 : Int) < (m : Int)) = false := by rw [decide_eq_false_iff_not]; omega
              have hN := hD.out.done hP2.out (by rw [← Hm.out]; omega)
              rw [← hQ0.out] at hN
              subst hN
              clear ht
              go_wp2
              go_ret2
              exact ⟨rfl, rfl⟩
    · have c1 : decide ((4294967296 : Int) ≤ (q : Int)) = false := by rw [decide_eq_false_iff_not]; omega
      have hq' : q < 4294967296 := by omega
      clear hq
      obtain ⟨m, hm0⟩ : ∃ m : Nat, m = q * b := ⟨_, rfl⟩
      have hm : IntKind.u64.wrap ((q : Int) * b) = m := by
        rw [IntKind.wrap_u64]; have := Knuth.mul_half hq' hb'.out
        rw [← Int.natCast_mul, ← hm0]; omega
      have Hm := Lib.hid hm0
      clear hm0 hq'
      by_cases ht : 4294967296 * r + d1 < m
      · have c2 : decide (4294967296 * (r : Int) + (d1 : Int) < (m : Int)) = true := by rw [decide_eq_true_eq]; omega
        have hpos := hD.out.pos hP.out (.inr (by rw [← Hm.out]; omega))
        have hqi : (1 : Int) ≤ q := by omega
        by_cases hr : r + a < 4294967296
        · have c3 : decide ((4294967296 : Int) ≤ (r : Int) + (a : Int)) = false := by rw [decide_eq_false_iff_not]; omega
          have hN := Lib.hid (hD.out.less hP.out (.inr (by rw [← Hm.out]; omega)) hr)
          have Hp := Lib.hid hpos; clear hpos
          clear ht hr
          go_wp2
          go_round
          case rel => exact ⟨q - 1, r + a, by rw [Int.ofNat_sub Hp.out]; rfl, by go_num, hN.out⟩
          case measure => simp [intOf]; omega
        · have c3 : decide ((4294967296 : Int) ≤ (r : Int) + (a : Int)) = true := by rw [decide_eq_true_eq]; omega
          have hN := hD.out.last hP.out (.inr (by rw [← Hm.out]; omega)) (by omega)
          have e15 : (q : Int) - 1 = (Q1 : Nat) := by rw [hQ1.out, ← hN]; omega
          clear hN
          clear ht hr
          clear hpos
          go_wp2_with fail
          go_loop [18, 16] (fun q r => ∃ qn rn : Nat, q = .int .u64 qn ∧ r = .int .u64 rn ∧ Knuth.Dig u2 d0 a b qn rn) (fun q _ => (intOf q).toNat)
          case atStart => exact ⟨_, _, rfl, rfl, hst2.out⟩
          case round =>
            obtain ⟨q, r, rfl, rfl, hD'⟩ := hrel
            have hD := Lib.hid hD'
            have hq1 : (q : Int) ≤ 4294967297 := by have := hD'.1; omega
            have hr1 : (r : Int) < 4294967296 := by have := hD'.2.1; omega
            clear hD'
            by_cases hq : 4294967296 ≤ q
            · have c1 : decide ((4294967296 : Int) ≤ (q : Int)) = true := by rw [decide_eq_true_eq]; omega
              have hpos := hD.out.pos hP2.out (.inl hq)
              have hqi : (1 : Int) ≤ q := by omega
              by_cases hr : r + a < 4294967296
              · have c3 : decide ((4294967296 : Int) ≤ (r : Int) + (a : Int)) = false := by rw [decide_eq_false_iff_not]; omega
                have hN := Lib.hid (hD.out.less hP2.out (.inl hq) hr)
                have Hp := Lib.hid hpos; clear hpos
                clear hq hr
                go_wp2
                go_round
                case rel => exact ⟨q - 1, r + a, by rw [Int.ofNat_sub Hp.out]; rfl, by go_num, hN.out⟩
                case measure => simp [intOf]; omega
              · have c3 : decide ((4294967296 : Int) ≤ (r : Int) + (a : Int)) = true := by rw [decide_eq_true_eq]; omega
                have hN := hD.out.last hP2.out (.inl hq) (by omega)
                have e15 : (q : Int) - 1 = (Q0 : Nat) := by rw [hQ0.out, ← hN]; omega
                clear hN
                clear hq hr
                clear hpos
                go_wp2
                go_ret2
                exact ⟨rfl, rfl⟩
            · have c1 : decide ((4294967296 : Int) ≤ (q : Int)) = false := by rw [decide_eq_false_iff_not]; omega
              have hq' : q < 4294967296 := by omega
              clear hq
              obtain ⟨m, hm0⟩ : ∃ m : Nat, m = q * b := ⟨_, rfl⟩
              have hm : IntKind.u64.wrap ((q : Int) * b) = m := by
                rw [IntKind.wrap_u64]; have := Knuth.mul_half hq' hb'.out
                rw [← Int.natCast_mul, ← hm0]; omega
              have Hm := Lib.hid hm0
              clear hm0 hq'
              by_cases ht : 4294967296 * r + d0 < m
              · have c2 : decide (4294967296 * (r : Int) + (d0 : Int) < (m : Int)) = true := by rw [decide_eq_true_eq]; omega
                have hpos := hD.out.pos hP2.out (.inr (by rw [← Hm.out]; omega))
                have hqi : (1 : Int) ≤ q := by omega
                by_cases hr : r + a < 4294967296
                · have c3 : decide ((4294967296 : Int) ≤ (r : Int) + (a : Int)) = false := by rw [decide_eq_false_iff_not]; omega
                  have hN := Lib.hid (hD.out.less hP2.out (.inr (by rw [← Hm.out]; omega)) hr)
                  have Hp := Lib.hid hpos; clear hpos
                  clear ht hr
                  go_wp2
                  go_round
                  case rel => exact ⟨q - 1, r + a, by rw [Int.ofNat_sub Hp.out]; rfl, by go_num, hN.out⟩
                  case measure => simp [intOf]; omega
                · have c3 : decide ((4294967296 : Int) ≤ (r : Int) + (a : Int)) = true := by rw [decide_eq_true_eq]; omega
                  have hN := hD.out.last hP2.out (.inr (by rw [← Hm.out]; omega)) (by omega)
                  have e15 : (q : Int) - 1 = (Q0 : Nat) := by rw [hQ0.out, ← hN]; omega
                  clear hN
                  clear ht hr
                  clear hpos
                  go_wp2
                  go_ret2
                  exact ⟨rfl, rfl⟩
              · have c2 : decide (4294967296 * (r : Int) + (d0 : Int) < (m : Int)) = false := by rw [decide_eq_false_iff_not]; omega
                have hN := hD.out.done hP2.out (by rw [← Hm.out]; omega)
                rw [← hQ0.out] at hN
                subst hN
                clear ht
                go_wp2
                go_ret2
                exact ⟨rfl, rfl⟩
      · have c2 : decide (4294967296 * (r : Int) + (d1 : Int) < (m : Int)) = false := by rw [decide_eq_false_iff_not]; omega
        have hN := hD.out.done hP.out (by rw [← Hm.out]; omega)
        rw [← hQ1.out] at hN
        subst hN
        clear ht
        go_wp2_with fail
        go_loop [18, 16] (fun q r => ∃ qn rn : Nat, q = .int .u64 qn ∧ r = .int .u64 rn ∧ Knuth.Dig u2 d0 a b qn rn) (fun q _ => (intOf q).toNat)
        case atStart => exact ⟨_, _, rfl, rfl, hst2.out⟩
        case round =>
          obtain ⟨q, r, rfl, rfl, hD'⟩ := hrel
          have hD := Lib.hid hD'
          have hq1 : (q : Int) ≤ 4294967297 := by have := hD'.1; omega
          have hr1 : (r : Int) < 4294967296 := by have := hD'.2.1; omega
          clear hD'
          by_cases hq : 4294967296 ≤ q
          · have c1 : decide ((4294967296 : Int) ≤ (q : Int)) = true := by rw [decide_eq_true_eq]; omega
            have hpos := hD.out.pos hP2.out (.inl hq)
            have hqi : (1 : Int) ≤ q := by omega
            by_cases hr : r + a < 4294967296
            · have c3 : decide ((4294967296 : Int) ≤ (r : Int) + (a : Int)) = false := by rw [decide_eq_false_iff_not]; omega
              have hN := Lib.hid (hD.out.less hP2.out (.inl hq) hr)
              have Hp := Lib.hid hpos; clear hpos
              clear hq hr
              go_wp2
              go_round
              case rel => exact ⟨q - 1, r + a, by rw [Int.ofNat_sub Hp.out]; rfl, by go_num, hN.out⟩
              case measure => simp [intOf]; omega
            · have c3 : decide ((4294967296 : Int) ≤ (r : Int) + (a : Int)) = true := by rw [decide_eq_true_eq]; omega
              have hN := hD.out.last hP2.out (.inl hq) (by omega)
              have e15 : (q : Int) - 1 = (Q0 : Nat) := by rw [hQ0.out, ← hN]; omega
              clear hN
              clear hq hr
              clear hpos
              go_wp2
              go_ret2
              exact ⟨rfl, rfl⟩
          · have c1 : decide ((4294967296 : Int) ≤ (q : Int)) = false := by rw [decide_eq_false_iff_not]; omega
            have hq' : q < 4294967296 := by omega
            clear hq
            obtain ⟨m, hm0⟩ : ∃ m : Nat, m = q * b := ⟨_, rfl⟩
            have hm : IntKind.u64.wrap ((q : Int) * b) = m := by
              rw [IntKind.wrap_u64]; have := Knuth.mul_half hq' hb'.out
              rw [← Int.natCast_mul, ← hm0]; omega
            have Hm := Lib.hid hm0
            clear hm0 hq'
            by_cases ht : 4294967296 * r + d0 < m
            · have c2 : decide (4294967296 * (r : Int) + (d0 : Int) < (m : Int)) = true := by rw [decide_eq_true_eq]; omega
              have hpos := hD.out.pos hP2.out (.inr (by rw [← Hm.out]; omega))
              have hqi : (1 : Int) ≤ q := by omega
              by_cases hr : r + a < 4294967296
              · have c3 : decide ((4294967296 : Int) ≤ (r : Int) + (a : Int)) = false := by rw [decide_eq_false_iff_not]; omega
                have hN := Lib.hid (hD.out.less hP2.out (.inr (by rw [← Hm.out]; omega)) hr)
                have Hp := Lib.hid hpos; clear hpos
                clear ht hr
                go_wp2
                go_round
                case rel => exact ⟨q - 1, r + a, by rw [Int.ofNat_sub Hp.out]; rfl, by go_num, hN.out⟩
                case measure => simp [intOf]; omega
              · have c3 : decide ((4294967296 : Int) ≤ (r : Int) + (a : Int)) = true := by rw [decide_eq_true_eq]; omega
                have hN := hD.out.last hP2.out (.inr (by rw [← Hm.out]; omega)) (by omega)
                have e15 : (q : Int) - 1 = (Q0 : Nat) := by rw [hQ0.out, ← hN]; omega
                clear hN
                clear ht hr
                clear hpos
                go_wp2
                go_ret2
                exact ⟨rfl, rfl⟩
            · have c2 : decide (4294967296 * (r : Int) + (d0 : Int) < (m : Int)) = false := by rw [decide_eq_false_iff_not]; omega
              have hN := hD.out.done hP2.out (by rw [← Hm.out]; omega)
              rw [← hQ0.out] at hN
              subst hN
              clear ht
              go_wp2
              go_ret2
              exact ⟨rfl, rfl⟩
end Go.Proofs.YtbkpoepacjinlaaGreat

/- math/bits.Div64: the contract, for all arguments whose quotient fits: the exact quotient and the rest. -/
namespace Go.Proofs.YtbkpoepacjinlaaGreat
open Go.RowKit

theorem bitLen_spec : ∀ (n x : Nat), x ≤ n → x ≠ 0 → x < 2 ^ 64 → 1 ≤ Lib.bitLen x ∧ 2 ^ (Lib.bitLen x - 1) ≤ x ∧ x < 2 ^ Lib.bitLen x
  | 0, x, h, h0, _ => absurd (Nat.le_zero.1 h) h0
  | n + 1, x, h, h0, hx => by
    rw [Lib.bitLen_half x h0 hx]
    by_cases h1 : x / 2 = 0
    · have : x = 1 := by omega
      subst this
      decide
    · have ⟨i1, i2, i3⟩ := bitLen_spec n (x / 2) (by omega) h1 (by omega)
      refine ⟨by omega, ?_, ?_⟩
      · obtain ⟨k, hk⟩ : ∃ k, Lib.bitLen (x / 2) = k + 1 := ⟨Lib.bitLen (x / 2) - 1, by omega⟩
        rw [hk] at i2 ⊢
        rw [show 1 + (k + 1) - 1 = k + 1 by omega, Nat.pow_succ]
        rw [Nat.add_sub_cancel] at i2
        omega
      · rw [Nat.add_comm, Nat.pow_succ]; omega
theorem bitLen_le {x : Nat} (h0 : x ≠ 0) (hx : x < 2 ^ 64) : Lib.bitLen x ≤ 64 := by
  have ⟨_, h2, _⟩ := bitLen_spec x x (Nat.le_refl _) h0 hx
  rcases Nat.lt_or_ge 64 (Lib.bitLen x) with h | h
  · have : 2 ^ 64 ≤ 2 ^ (Lib.bitLen x - 1) := Nat.pow_le_pow_right (by omega) (by omega)
    omega
  · exact h

theorem wrap_nat {n : Nat} (h : n < 18446744073709551616) : IntKind.u64.wrap (n : Int) = n := by rw [IntKind.wrap_u64]; omega

theorem cast_pow2 (s : Nat) : ((2 ^ s : Nat) : Int) = (2 : Int) ^ s := by rw [Int.natCast_pow]; rfl

/-- the rest of a digit's step, as the walk reckons it -/
theorem step_rest {u d q Y r : Nat} (h : Y * q + r = u * 4294967296 + d) (hr : r < 18446744073709551616) :
    IntKind.u64.wrap (IntKind.u64.wrap (IntKind.u64.wrap ((u : Int) * 4294967296) + d) - IntKind.u64.wrap ((q : Int) * Y)) = r := by
  have h' : (q : Int) * Y + r = u * 4294967296 + d := by
    have := congrArg (fun n : Nat => (n : Int)) h
    simp only [Int.natCast_add, Int.natCast_mul] at this
    rw [Int.mul_comm]; exact this
  generalize (q : Int) * Y = C at *
  simp only [IntKind.wrap_u64]; omega

theorem rest_wrap {u a : Nat} (hu : u < 18446744073709551616) : IntKind.u64.wrap (u - IntKind.u64.wrap (((u / a : Nat) : Int) * a)) = (u % a : Nat) := by
  have h := Nat.div_add_mod u a
  rw [← Int.natCast_mul]
  have hm : u / a * a ≤ u := Nat.div_mul_le_self u a
  rw [wrap_nat (show u / a * a < _ by omega), IntKind.wrap_u64]
  rw [Nat.mul_comm] at h
  omega

theorem div64_nat (hi lo y : Nat) (w : World) (h1 : 1 ≤ hi) (hy : hi < y) (hL : lo < 18446744073709551616) (hY : y < 18446744073709551616) :
    Calls Tryz.prog 100 #[.int .u64 hi, .int .u64 lo, .int .u64 y] w fun e w' =>
      e = .returned (.tuple #[.int .u64 ((hi * 18446744073709551616 + lo) / y : Nat), .int .u64 ((hi * 18446744073709551616 + lo) % y : Nat)]) ∧ w' = w := by
  obtain ⟨hB1, hB2, hB3⟩ := bitLen_spec y y (Nat.le_refl _) (by omega) hY
  have hB4 := bitLen_le (x := y) (by omega) hY
  obtain ⟨s, hs⟩ : ∃ s, s = 64 - Lib.bitLen y := ⟨_, rfl⟩
  have hP : 0 < 2 ^ s := Nat.two_pow_pos s
  have hPP : 2 ^ (64 - s) * 2 ^ s = 18446744073709551616 := by rw [← Nat.pow_add, show 64 - s + s = 64 by omega]
  -- the divisor
  have hY1 : 9223372036854775808 ≤ y * 2 ^ s := by
    have : 2 ^ (Lib.bitLen y - 1) * 2 ^ s ≤ y * 2 ^ s := Nat.mul_le_mul_right _ hB2
    rw [← Nat.pow_add, show Lib.bitLen y - 1 + s = 63 by omega] at this
    omega
  have hY2 : y * 2 ^ s < 18446744073709551616 := by
    have : y * 2 ^ s < 2 ^ Lib.bitLen y * 2 ^ s := Nat.mul_lt_mul_of_pos_right hB3 hP
    rw [← Nat.pow_add, show Lib.bitLen y + s = 64 by omega] at this
    omega
  generalize hYe : y * 2 ^ s = Y at *
  have hhi : hi * 2 ^ s < 18446744073709551616 := by
    have : hi * 2 ^ s ≤ y * 2 ^ s := Nat.mul_le_mul_right _ (Nat.le_of_lt hy)
    omega
  have hlo : lo / 2 ^ (64 - s) < 2 ^ s := by
    rw [Nat.div_lt_iff_lt_mul (Nat.two_pow_pos _), Nat.mul_comm, hPP]; exact hL
  -- the dividend
  have hsplit : lo * 2 ^ s = lo / 2 ^ (64 - s) * 18446744073709551616 + lo * 2 ^ s % 18446744073709551616 := by
    have h := Nat.div_add_mod (lo * 2 ^ s) 18446744073709551616
    have e : lo * 2 ^ s / 18446744073709551616 = lo / 2 ^ (64 - s) := by
      rw [← hPP, Nat.mul_div_mul_right _ _ hP]
    rw [e] at h
    omega
  generalize hl : lo * 2 ^ s % 18446744073709551616 = l at *
  have hl2 : l < 18446744073709551616 := by rw [← hl]; exact Nat.mod_lt _ (by omega)
  obtain ⟨u, hu⟩ : ∃ u, u = hi * 2 ^ s + lo / 2 ^ (64 - s) := ⟨_, rfl⟩
  have hN : (hi * 18446744073709551616 + lo) * 2 ^ s = (u * 4294967296 + l / 4294967296) * 4294967296 + l % 4294967296 := by
    rw [Nat.add_mul, hsplit, hu]
    have : hi * 18446744073709551616 * 2 ^ s = hi * 2 ^ s * 18446744073709551616 := by rw [Nat.mul_right_comm]
    omega
  have huY : u < Y := by
    have h2 : (hi * 18446744073709551616 + lo) * 2 ^ s < Y * 18446744073709551616 := by
      have h3 : hi * 18446744073709551616 + lo < y * 18446744073709551616 := by omega
      have h4 := Nat.mul_lt_mul_of_pos_right h3 hP
      rw [Nat.mul_right_comm y, hYe] at h4
      exact h4
    omega
  have hl3 : l / 4294967296 < 4294967296 := by omega
  generalize hd1 : l / 4294967296 = d1 at *
  generalize hd0 : l % 4294967296 = d0 at *
  have hd0' : d0 < 4294967296 := by omega
  generalize ha : Y / 4294967296 = a at *
  generalize hb : Y % 4294967296 = b at *
  have hb' : b < 4294967296 := by omega
  have hYab : a * 4294967296 + b = Y := by omega
  have ha1 : 2147483648 ≤ a := by omega
  have ha2 : a < 4294967296 := by omega
  have hPar : Knuth.Par u d1 a b := ⟨by omega, hl3, ha1, ha2, hb'⟩
  obtain ⟨Q1, u2, Q0, r2, hQ1, hQ0, c1, c2, hu2, hr2, hq, hr⟩ := Knuth.digits hYe (by omega) hN
  rw [hq, hr]
  have hlt := Knuth.dig_lt hPar
  rw [hYab, ← hQ1] at hlt
  have hPar2 : Knuth.Par u2 d0 a b := ⟨by omega, hd0', ha1, ha2, hb'⟩
  have hlt2 := Knuth.dig_lt hPar2
  rw [hYab, ← hQ0] at hlt2
  obtain ⟨qh, rh, g1, g2, f1, m1, hD⟩ := Knuth.start hPar
  obtain ⟨qh2, rh2, g3, g4, f2, m2, hD2⟩ := Knuth.start hPar2
  have w1 := rest_wrap (u := u) (a := a) (by omega)
  have w2 := rest_wrap (u := u2) (a := a) (by omega)
  have v1 := (Int.natCast_ediv u a).symm
  have v2 := (Int.natCast_ediv u2 a).symm
  rw [← g1] at v1 w1
  rw [← g2] at w1
  rw [← g3] at v2 w2
  rw [← g4] at w2
  have s1 := step_rest c1 (by omega)
  have s2 := step_rest c2 (by omega)
  refine div64_high hi lo y s Y a b u l d1 d0 u2 qh rh qh2 rh2 _ _ Q1 Q0 w
    (by omega) (by omega) (by omega) (Lib.hid (by rw [Int.toNat_natCast]; omega)) (by omega)
    ?e1 (by omega) ?e3 ?e4 ?e5 (by omega) ?e7 v1 w1 (Lib.hid hD)
    s1 v2 w2 (Lib.hid hD2) ?e13 ?e14 (Lib.hid hPar) (Lib.hid hPar2) (Lib.hid (by rw [hYab]; exact hQ1)) (Lib.hid (by rw [hYab]; exact hQ0))
    (by omega) (by omega) (Lib.hid hb') (by omega) (by omega) (by omega) (by omega) (by omega) (by omega) (by omega) (by omega) (by omega)
  case e1 => rw [← cast_pow2, ← Int.natCast_mul, hYe]; exact wrap_nat hY2
  case e3 => rw [show (4294967295 : Int) = ((4294967295 : Nat) : Int) from rfl, bits_and_u64_nat _ _ hY2 (by omega), show (4294967295 : Nat) = 2 ^ 32 - 1 from rfl, Nat.and_two_pow_sub_one_eq_mod]; omega
  case e4 =>
    rw [← cast_pow2, ← cast_pow2, ← Int.natCast_mul, wrap_nat hhi, ← Int.natCast_ediv, bits_or_u64_nat _ _ hhi (by omega), hu, Nat.mul_comm hi, Nat.two_pow_add_eq_or_of_lt hlo]
  case e5 => rw [← cast_pow2, ← Int.natCast_mul, IntKind.wrap_u64]; omega
  case e7 => rw [show (4294967295 : Int) = ((4294967295 : Nat) : Int) from rfl, bits_and_u64_nat _ _ hl2 (by omega), show (4294967295 : Nat) = 2 ^ 32 - 1 from rfl, Nat.and_two_pow_sub_one_eq_mod]; omega
  case e13 => rw [IntKind.wrap_u64, IntKind.wrap_u64]; omega
  case e14 => rw [s2, ← cast_pow2, ← Int.natCast_ediv]
end Go.Proofs.YtbkpoepacjinlaaGreat

/- Scale: of the program and of the reference: both return 'Sc.sc'. -/
namespace Go.Proofs.YtbkpoepacjinlaaGreat
open Go.RowKit

theorem div64_any (hi lo y : Nat) (w : World) (hy : hi < y) (hL : lo < 18446744073709551616) (hY : y < 18446744073709551616) :
    Calls Tryz.prog 100 #[.int .u64 hi, .int .u64 lo, .int .u64 y] w fun e w' =>
      e = .returned (.tuple #[.int .u64 ((hi * 18446744073709551616 + lo) / y : Nat), .int .u64 ((hi * 18446744073709551616 + lo) % y : Nat)]) ∧ ∃ n, w' = w.drewN n := by
  by_cases h : hi = 0
  · subst h
    refine (div64_low lo y w (by omega) (by omega) (by omega)).mono ?_
    rintro e w' ⟨rfl, h⟩
    refine ⟨?_, h⟩
    simp only [Nat.zero_mul, Nat.zero_add, Int.natCast_ediv, Int.natCast_emod]
  · refine (div64_nat hi lo y w (by omega) hy hL hY).mono ?_
    rintro e w' ⟨rfl, rfl⟩
    exact ⟨rfl, 0, rfl⟩

/-- where a way of rounding stands in the table -/
def wayAt (how : Int) : Int := if 1 ≤ how ∧ how ≤ 5 then how - 1 else -1
/-- what the functions of the table return -/
def wayF (how : Int) (b : Bool) (q h : Int) : Bool :=
  if how = 1 then b else if how = 2 then !b else if how = 3 then false else if how = 4 then decide (0 < h) || (h == 0 && !b) else decide (0 < h) || (h == 0 && (q % 2 == 1))
theorem wayF_away (how : Int) (b : Bool) (q r d : Nat) : wayF how b q (cmpF r ((d : Int) - r)) = Sc.away how b q r d := by
  have e1 : (0 < cmpF (r : Int) ((d : Int) - r)) ↔ d < 2 * r := by unfold cmpF; split <;> (try split) <;> omega
  have e2 : (cmpF (r : Int) ((d : Int) - r) = 0) ↔ 2 * r = d := by unfold cmpF; split <;> (try split) <;> omega
  have e3 : ((q : Int) % 2 = 1) ↔ q % 2 = 1 := by omega
  have e4 : (cmpF (r : Int) ((d : Int) - r) == 0) = decide (2 * r = d) := by rw [Bool.eq_iff_iff, beq_iff_eq, decide_eq_true_eq]; exact e2
  have e5 : ((q : Int) % 2 == 1) = decide (q % 2 = 1) := by rw [Bool.eq_iff_iff, beq_iff_eq, decide_eq_true_eq]; exact e3
  unfold wayF Sc.away
  rw [decide_eq_decide.2 e1, e4, e5]
theorem quiet_eq {P : Program} {f : FuncId} {args : Array Value} {w : World} {n : Nat} {v : Value}
    (h : Calls P f args (w.drewN n) fun e w' => e = .returned v ∧ w.drewN n = w') : Calls P f args (w.drewN n) fun e w'' => e = .returned v ∧ ∃ m, w'' = w.drewN m :=
  h.mono fun _ _ ⟨he, hm⟩ => ⟨he, n, hm.symm⟩
theorem below_drewN {B : Nat} {a w : World} (h : Below B a w) (n : Nat) : Below B a (w.drewN n) := h.trans ⟨rfl, rfl, rfl, Nat.le_refl _, fun _ _ => rfl⟩
end Go.Proofs.YtbkpoepacjinlaaGreat

/- Small lemmas on memory: what a world keeps. -/
namespace Go.Proofs.YtbkpoepacjinlaaGreat
open Go.RowKit

theorem below_cell {w w' : World} {p : Addr} {v : Value} (hb : Below w.heap.size w w') (h : w.cell? p = some v) : w'.cell? p = some v :=
  (hb.cell (World.block_lt_of_cell? w p h)).trans h
theorem below_al (w : World) (o : Obj) : Below w.heap.size w (w.alloc o) := (Below.refl _ _).alloc (Nat.le_refl _) _
theorem below_ad (w : World) (o : Obj) (n : Nat) : Below w.heap.size w ((w.alloc o).drewN n) := below_drewN (below_al w o) n
/-- two steps, each of which keeps all that was there -/
theorem below_tr {B : Nat} {a b c : World} (h : Below B a b) (hB : B ≤ b.heap.size) (k : Below b.heap.size b c) : Below B a c := h.trans (k.mono hB)
theorem below_step {a b c : World} (h : Below a.heap.size a b) (k : Below b.heap.size b c) : Below a.heap.size a c := h.trans (k.mono h.size)
end Go.Proofs.YtbkpoepacjinlaaGreat

/- Gear: the reference's look at the parts and slots (printed by wip/g/gen_parts.py). -/
namespace Go.Proofs.YtbkpoepacjinlaaGreat
open Go.RowKit Go.BigFrame
open Gar (chkP chkS)

set_option maxHeartbeats 4000000 in
set_option maxRecDepth 100000 in
theorem rcheckParts_any (g : Gar) (a0 a1 a2 a3 : Option Addr) (c0 c1 c2 c3 : Nat) (w : World) (h : GarIn w g a0 a1 a2 a3) :
    Calls Tryz.prog 37 #[garV g a0 a1 a2 a3 c0 c1 c2 c3] w fun e w' => e = .returned (.int .i64 (if chkP g g.np 0 ≠ 0 then chkP g g.np 0 else chkS g g.ns 0)) ∧ Below w.heap.size w w' := by
  have HG := Lib.hid h
  have hl0 := h.l0
  have hl1 := h.l1
  clear h
  unfold garV
  obtain ⟨z0, hz0⟩ : ∃ z, chkP g g.np 0 = z := ⟨_, rfl⟩
  obtain ⟨z1, hz1⟩ : ∃ z, chkS g g.ns 0 = z := ⟨_, rfl⟩
  obtain ⟨zz, hzz⟩ : ∃ zz, (if z0 ≠ 0 then z0 else z1) = zz := ⟨_, rfl⟩
  rw [hz0, hz1, hzz]
  have HZ0 := Lib.hid hz0
  have HZ1 := Lib.hid hz1
  have HZZ := Lib.hid hzz
  clear hz0 hz1 hzz
  go_enter Tryz.func37, Tryz.ntmps37
  go_wp2_with fail
  go_loopw [10] (fun iv wr => ∃ (k : Nat), iv = .int .i64 k ∧ k ≤ g.np ∧ Hid (Below w.heap.size w wr) ∧ wr.cell? ⟨w.heap.size, 0, none⟩ = some (.slice a0 g.np c0) ∧ wr.cell? ⟨w.heap.size, 1, none⟩ = some (.slice a1 g.ns c1) ∧ Hid (w.heap.size < wr.heap.size) ∧ Hid (chkP g (g.np - k) k = z0)) (fun iv _ => g.np - (intOf iv).toNat)
  case atStart => exact ⟨0, rfl, by omega, Lib.hid ((Below.refl _ _).alloc (Nat.le_refl _) _), by rw [World.cell?_alloc_at _ _ _ _ rfl]; rfl, by rw [World.cell?_alloc_at _ _ _ _ rfl]; rfl, Lib.hid (by simp), HZ0⟩
  case round =>
    obtain ⟨k, rfl, hk, HB, b0, b1, HS, HX⟩ := hrel
    have hs := HS.out
    by_cases hlt : k < g.np
    · have t1 : decide ((k : Int) < (g.np : Int)) = true := by rw [decide_eq_true_eq]; omega
      obtain ⟨b, off, rfl, hbl, hc⟩ := (HG.out.r0.below HB.out (Nat.le_refl _)).here (by omega)
      have e0 : wr.cell? ⟨b, off + k * 2, none⟩ = some (.string (g.pn k)) := hc k hlt 0 (by omega)
      have e1 : wr.cell? ⟨b, off + k * 2 + 1, none⟩ = some (.int .i64 (g.pc k)) := hc k hlt 1 (by omega)
      have hx := HX.out
      rw [show g.np - k = (g.np - k - 1) + 1 by omega, chkP] at hx
      have HX2 := Lib.hid hx
      have hsz := HB.out.size
      have DN := Lib.hid (fun W => risName_any (g.pn k) W (HG.out.z0 k hlt))
      clear hx HX
      cases hnm : nameB (g.pn k)
      · rw [hnm] at DN HX2
        rw [if_pos rfl] at HX2
        generalize g.pn k = s at e0 DN
        clear hnm hc
        go_wp2_with fail
        refine (DN.out _).mono ?_
        rintro e w2 ⟨rfl, rfl⟩
        go_wp2_with fail
        go_ret
        exact ⟨ret_int (by rw [← HZZ.out, ← HX2.out] <;> simp), HB.out.alloc hsz _⟩
      · rw [hnm] at DN HX2
        rw [if_neg (by simp)] at HX2

        by_cases hk0 : 0 < k
        · obtain ⟨q, rfl⟩ : ∃ q, k = q + 1 := ⟨k - 1, by omega⟩
          have p0 : wr.cell? ⟨b, off + q * 2, none⟩ = some (.string (g.pn q)) := hc q (by omega) 0 (by omega)
          have hle := str_le (g.pn (q + 1)) (g.pn q)
          rw [show q + 1 - 1 = q from rfl] at HX2
          have g0 : decide ((0 : Int) < ((q + 1 : Nat) : Int)) = true := by rw [decide_eq_true_eq]; omega
          have g0' : decide (0 < q + 1) = true := by simp
          generalize g.pn (q + 1) = s at e0 DN hle HX2
          generalize g.pn q = s' at p0 hle HX2
          generalize g.pc (q + 1) = c at e1 HX2 
          clear hnm hc hk0
          cases hlt2 : strLt s' s
          · rw [hlt2] at hle HX2
            rw [if_pos ⟨by omega, rfl⟩] at HX2
            clear hlt2
            go_wp2_with fail
            refine (DN.out _).mono ?_
            rintro e w2 ⟨rfl, rfl⟩
            go_wp2_with fail
            go_quiet (fail)
            go_wp2_with fail
            go_ret
            exact ⟨ret_int (by rw [← HZZ.out, ← HX2.out] <;> simp), below_drewN (HB.out.alloc hsz _) _⟩
          · rw [hlt2] at hle HX2
            rw [if_neg (by simp)] at HX2
            clear hlt2
            have D := Lib.hid (fun W => rout_any c 0 1000000000 W)
            cases hb : inB c 0 1000000000
            · rw [hb] at D
              rw [if_pos (by unfold inB at hb; simp at hb; omega)] at HX2
              clear hb
              go_wp2_with fail
              refine (DN.out _).mono ?_
              rintro e w2 ⟨rfl, rfl⟩
              go_wp2_with fail
              go_quiet (fail)
              go_wp2_with fail
              refine (D.out _).mono ?_
              rintro e w2 ⟨rfl, rfl⟩
              go_wp2_with fail
              go_ret
              exact ⟨ret_int (by rw [← HZZ.out, ← HX2.out] <;> simp), below_drewN (HB.out.alloc hsz _) _⟩
            · rw [hb] at D
              rw [if_neg (by unfold inB at hb; simp at hb; omega)] at HX2
              clear hb
              go_wp2_with fail
              refine (DN.out _).mono ?_
              rintro e w2 ⟨rfl, rfl⟩
              go_wp2_with fail
              go_quiet (fail)
              go_wp2_with fail
              refine (D.out _).mono ?_
              rintro e w2 ⟨rfl, rfl⟩
              go_wp2_with fail
              go_roundw
              case rel => exact ⟨q + 1 + 1, by go_num, by omega, Lib.hid (below_drewN (HB.out.alloc hsz _) _), below_cell (below_ad _ _ _) b0, below_cell (below_ad _ _ _) b1, Lib.hid (by simp; omega), HX2⟩
              case measure => simp [intOf]; omega
        · obtain rfl : k = 0 := by omega
          rw [if_neg (by omega)] at HX2
          have g0 : decide ((0 : Int) < ((0 : Nat) : Int)) = false := by simp
          have g0' : decide ((0 : Int) < (0 : Int)) = false := by simp
          simp only [Nat.zero_mul, Nat.add_zero] at e0 e1
          generalize g.pn 0 = s at e0 DN
          generalize g.pc 0 = c at e1 HX2 
          clear hnm hc hk0
          have D := Lib.hid (fun W => rout_any c 0 1000000000 W)
          cases hb : inB c 0 1000000000
          · rw [hb] at D
            rw [if_pos (by unfold inB at hb; simp at hb; omega)] at HX2
            clear hb
            go_wp2_with fail
            refine (DN.out _).mono ?_
            rintro e w2 ⟨rfl, rfl⟩
            go_wp2_with fail
            go_quiet (fail)
            go_wp2_with fail
            refine (D.out _).mono ?_
            rintro e w2 ⟨rfl, rfl⟩
            go_wp2_with fail
            go_ret
            exact ⟨ret_int (by rw [← HZZ.out, ← HX2.out] <;> simp), below_drewN (HB.out.alloc hsz _) _⟩
          · rw [hb] at D
            rw [if_neg (by unfold inB at hb; simp at hb; omega)] at HX2
            clear hb
            go_wp2_with fail
            refine (DN.out _).mono ?_
            rintro e w2 ⟨rfl, rfl⟩
            go_wp2_with fail
            go_quiet (fail)
            go_wp2_with fail
            refine (D.out _).mono ?_
            rintro e w2 ⟨rfl, rfl⟩
            go_wp2_with fail
            go_roundw
            case rel => exact ⟨0 + 1, by go_num, by omega, Lib.hid (below_drewN (HB.out.alloc hsz _) _), below_cell (below_ad _ _ _) b0, below_cell (below_ad _ _ _) b1, Lib.hid (by simp; omega), HX2⟩
            case measure => simp [intOf]; omega
    · have t1 : decide ((k : Int) < (g.np : Int)) = false := by rw [decide_eq_false_iff_not]; omega
      have t1' : decide (k < g.np) = false := by simpa using hlt
      have hx := HX.out
      rw [show g.np - k = 0 by omega, chkP] at hx
      have HX2 := Lib.hid hx
      clear hx hlt HX
      have HZ : Hid (z0 = 0) := Lib.hid HX2.out.symm
      clear HX2 HZ0
      go_wp2_with fail
      obtain ⟨wo, rfl⟩ : ∃ wo : World, wo = wr := ⟨_, rfl⟩
      have HBo := HB
      have HSo := HS
      clear HB HS hs
      go_loopw [40] (fun iv wr => ∃ (k : Nat), iv = .int .i64 k ∧ k ≤ g.ns ∧ Hid (Below w.heap.size w wr) ∧ wr.cell? ⟨w.heap.size, 0, none⟩ = some (.slice a0 g.np c0) ∧ wr.cell? ⟨w.heap.size, 1, none⟩ = some (.slice a1 g.ns c1) ∧ Hid (w.heap.size < wr.heap.size) ∧ Hid (chkS g (g.ns - k) k = z1)) (fun iv _ => g.ns - (intOf iv).toNat)
      case atStart => exact ⟨0, rfl, by omega, HBo, by assumption, by assumption, HSo, HZ1⟩
      case round =>
        obtain ⟨k, rfl, hk, HB, b0, b1, HS, HX⟩ := hrel
        have hs := HS.out
        by_cases hlt : k < g.ns
        · have t1 : decide ((k : Int) < (g.ns : Int)) = true := by rw [decide_eq_true_eq]; omega
          obtain ⟨b, off, rfl, hbl, hc⟩ := (HG.out.r1.below HB.out (Nat.le_refl _)).here (by omega)
          have e0 : wr.cell? ⟨b, off + k * 2, none⟩ = some (.string (g.sn k)) := hc k hlt 0 (by omega)
          have e1 : wr.cell? ⟨b, off + k * 2 + 1, none⟩ = some (.string (g.sr k)) := hc k hlt 1 (by omega)
          have hx := HX.out
          rw [show g.ns - k = (g.ns - k - 1) + 1 by omega, chkS] at hx
          have HX2 := Lib.hid hx
          have hsz := HB.out.size
          have DN := Lib.hid (fun W => risName_any (g.sn k) W ((HG.out.z1 k hlt).1))
          clear hx HX
          cases hnm : nameB (g.sn k)
          · rw [hnm] at DN HX2
            rw [if_pos rfl] at HX2
            generalize g.sn k = s at e0 DN
            clear hnm hc
            go_wp2_with fail
            refine (DN.out _).mono ?_
            rintro e w2 ⟨rfl, rfl⟩
            go_wp2_with fail
            go_ret
            exact ⟨ret_int (by rw [← HZZ.out, if_neg (fun h => h HZ.out), ← HX2.out] <;> simp), HB.out.alloc hsz _⟩
          · rw [hnm] at DN HX2
            rw [if_neg (by simp)] at HX2
            have hrs := (HG.out.z1 k hlt).2
            by_cases hk0 : 0 < k
            · obtain ⟨q, rfl⟩ : ∃ q, k = q + 1 := ⟨k - 1, by omega⟩
              have p0 : wr.cell? ⟨b, off + q * 2, none⟩ = some (.string (g.sn q)) := hc q (by omega) 0 (by omega)
              have hle := str_le (g.sn (q + 1)) (g.sn q)
              rw [show q + 1 - 1 = q from rfl] at HX2
              have g0 : decide ((0 : Int) < ((q + 1 : Nat) : Int)) = true := by rw [decide_eq_true_eq]; omega
              have g0' : decide (0 < q + 1) = true := by simp
              generalize g.sn (q + 1) = s at e0 DN hle HX2
              generalize g.sn q = s' at p0 hle HX2
              generalize g.sr (q + 1) = c at e1 HX2 hrs
              clear hnm hc hk0
              cases hlt2 : strLt s' s
              · rw [hlt2] at hle HX2
                rw [if_pos ⟨by omega, rfl⟩] at HX2
                clear hlt2
                go_wp2_with fail
                refine (DN.out _).mono ?_
                rintro e w2 ⟨rfl, rfl⟩
                go_wp2_with fail
                go_quiet (fail)
                go_wp2_with fail
                go_ret
                exact ⟨ret_int (by rw [← HZZ.out, if_neg (fun h => h HZ.out), ← HX2.out] <;> simp), below_drewN (HB.out.alloc hsz _) _⟩
              · rw [hlt2] at hle HX2
                rw [if_neg (by simp)] at HX2
                clear hlt2
                have D := Lib.hid (fun W => risName_any c W hrs)
                cases hb : nameB c
                · rw [hb] at D
                  rw [if_pos (hb)] at HX2
                  clear hb
                  go_wp2_with fail
                  refine (DN.out _).mono ?_
                  rintro e w2 ⟨rfl, rfl⟩
                  go_wp2_with fail
                  go_quiet (fail)
                  go_wp2_with fail
                  refine (D.out _).mono ?_
                  rintro e w2 ⟨rfl, rfl⟩
                  go_wp2_with fail
                  go_ret
                  exact ⟨ret_int (by rw [← HZZ.out, if_neg (fun h => h HZ.out), ← HX2.out] <;> simp), below_drewN (HB.out.alloc hsz _) _⟩
                · rw [hb] at D
                  rw [if_neg (by rw [hb]; simp)] at HX2
                  clear hb
                  go_wp2_with fail
                  refine (DN.out _).mono ?_
                  rintro e w2 ⟨rfl, rfl⟩
                  go_wp2_with fail
                  go_quiet (fail)
                  go_wp2_with fail
                  refine (D.out _).mono ?_
                  rintro e w2 ⟨rfl, rfl⟩
                  go_wp2_with fail
                  go_roundw
                  case rel => exact ⟨q + 1 + 1, by go_num, by omega, Lib.hid (below_drewN (HB.out.alloc hsz _) _), below_cell (below_ad _ _ _) b0, below_cell (below_ad _ _ _) b1, Lib.hid (by simp; omega), HX2⟩
                  case measure => simp [intOf]; omega
            · obtain rfl : k = 0 := by omega
              rw [if_neg (by omega)] at HX2
              have g0 : decide ((0 : Int) < ((0 : Nat) : Int)) = false := by simp
              have g0' : decide ((0 : Int) < (0 : Int)) = false := by simp
              simp only [Nat.zero_mul, Nat.add_zero] at e0 e1
              generalize g.sn 0 = s at e0 DN
              generalize g.sr 0 = c at e1 HX2 hrs
              clear hnm hc hk0
              have D := Lib.hid (fun W => risName_any c W hrs)
              cases hb : nameB c
              · rw [hb] at D
                rw [if_pos (hb)] at HX2
                clear hb
                go_wp2_with fail
                refine (DN.out _).mono ?_
                rintro e w2 ⟨rfl, rfl⟩
                go_wp2_with fail
                go_quiet (fail)
                go_wp2_with fail
                refine (D.out _).mono ?_
                rintro e w2 ⟨rfl, rfl⟩
                go_wp2_with fail
                go_ret
                exact ⟨ret_int (by rw [← HZZ.out, if_neg (fun h => h HZ.out), ← HX2.out] <;> simp), below_drewN (HB.out.alloc hsz _) _⟩
              · rw [hb] at D
                rw [if_neg (by rw [hb]; simp)] at HX2
                clear hb
                go_wp2_with fail
                refine (DN.out _).mono ?_
                rintro e w2 ⟨rfl, rfl⟩
                go_wp2_with fail
                go_quiet (fail)
                go_wp2_with fail
                refine (D.out _).mono ?_
                rintro e w2 ⟨rfl, rfl⟩
                go_wp2_with fail
                go_roundw
                case rel => exact ⟨0 + 1, by go_num, by omega, Lib.hid (below_drewN (HB.out.alloc hsz _) _), below_cell (below_ad _ _ _) b0, below_cell (below_ad _ _ _) b1, Lib.hid (by simp; omega), HX2⟩
                case measure => simp [intOf]; omega
        · have t1 : decide ((k : Int) < (g.ns : Int)) = false := by rw [decide_eq_false_iff_not]; omega
          have t1' : decide (k < g.ns) = false := by simpa using hlt
          have hx := HX.out
          rw [show g.ns - k = 0 by omega, chkS] at hx
          have HX2 := Lib.hid hx
          clear hx hlt HX
          go_wp2_with fail
          go_ret
          exact ⟨ret_int (by rw [← HZZ.out, if_neg (fun h => h HZ.out), ← HX2.out]), HB.out⟩
end Go.Proofs.YtbkpoepacjinlaaGreat

/- A region that draws its order, whose operations only read, but whose callees may make memory: one walk in the order of the text (the kit's law wp_region_quiet at the class 'all that was there is as it was'). -/
namespace Go.Proofs.YtbkpoepacjinlaaGreat
open Go.RowKit Go.BigFrame

/-- a world in which all that was there is as it was -/
def Ext (W : World) : Type := { w : World // Below W.heap.size W w }
instance (W : World) : Nonempty (Ext W) := ⟨⟨W, Below.refl _ _⟩⟩
theorem Ext.ex {W : World} {p : Addr} {v : Value} (h : W.cell? p = some v) : ∀ X : Ext W, X.1.cell? p = some v := fun X => below_cell X.2 h
theorem Ext.exa {W : World} {p : Addr} {v : Value} (e : ∀ X : Ext W, X.1.cell? p = some v) : ∀ (X : Ext W) (o : Obj), (X.1.alloc o).cell? p = some v := fun X o => below_cell (below_al _ o) (e X)
theorem Ext.calls {P : Program} {W : World} {f : FuncId} {args : Array Value} {v : Value} (X : Ext W) (h : Calls P f args X.1 fun e w' => e = .returned v ∧ Below X.1.heap.size X.1 w') : Calls P f args X.1 fun e w'' => e = .returned v ∧ ∃ Y : Ext W, w'' = Y.1 :=
  h.mono fun _ w'' ⟨he, hb⟩ => ⟨he, ⟨w'', below_step X.2 hb⟩, rfl⟩
theorem Ext.same {P : Program} {W : World} {f : FuncId} {args : Array Value} {v : Value} (X : Ext W) (h : Calls P f args X.1 fun e w' => e = .returned v ∧ X.1 = w') : Calls P f args X.1 fun e w'' => e = .returned v ∧ ∃ Y : Ext W, w'' = Y.1 :=
  h.mono fun _ _ ⟨he, hb⟩ => ⟨he, X, hb.symm⟩
theorem wp_region_ext {P : Program} {id : Nat} {Q : Exit → Act → World → Prop} {a : Act} {W : World} (X : Ext W) {l : List Oper} (hm : P.follows .mixedOrders = true) (hB : Region.lexB .any l.toArray = true)
    (h : wpQuiet P l.toArray (fun w' => ∃ Y : Ext W, w' = Y.1) (fun a' => ∀ w', (∃ Y : Ext W, w' = Y.1) → Q .normal a' w') l a) : (Code.region id l.toArray true).wp P Q a X.1 :=
  wp_region_quiet (C := fun w' => ∃ Y : Ext W, w' = Y.1) hm hB ⟨⟨{ X.1 with drawn := X.1.drawn + 1 }, below_step X.2 ⟨rfl, rfl, rfl, Nat.le_refl _, fun _ _ => rfl⟩⟩, rfl⟩ (by simpa using h)
/-- the world behind an allocation of cells, under one name -/
theorem alloc_cells (w : World) (cs : Array Value) (T : TypeId) : ∃ W, w.alloc (.cells cs T) = W ∧ Below w.heap.size w W ∧ W.heap.size = w.heap.size + 1 ∧ ∀ i v, cs[i]? = some v → W.cell? ⟨w.heap.size, i, none⟩ = some v :=
  ⟨_, rfl, below_al _ _, by simp, fun i v h => by rw [World.cell?_alloc_at _ _ _ _ rfl, h]⟩
/-- go on in an arbitrary later world -/
theorem ext_wp {P : Program} {c : Code} {Q : Exit → Act → World → Prop} {a : Act} {W : World} (h : ∀ X : Ext W, c.wp P Q a X.1) : c.wp P Q a W := h ⟨W, Below.refl _ _⟩
theorem ext_calls {P : Program} {f : FuncId} {args : Array Value} {R : Ending → World → Prop} {W : World} (h : ∀ X : Ext W, Calls P f args X.1 R) : Calls P f args W R := h ⟨W, Below.refl _ _⟩
theorem Ext.down {W : World} (X : Ext W) {B : Nat} {w : World} (h : Below B w W) (hB : B ≤ W.heap.size) : Below B w X.1 := h.trans (X.2.mono hB)
/-- a later base -/
theorem Ext.re {W W' : World} (h : Below W.heap.size W W') {p : Addr} {v : Value} (e : ∀ X : Ext W, X.1.cell? p = some v) : ∀ X : Ext W', X.1.cell? p = some v := fun X => e ⟨X.1, below_step h X.2⟩
end Go.Proofs.YtbkpoepacjinlaaGreat

/- Gear: two mounts overlap (reference). -/
namespace Go.Proofs.YtbkpoepacjinlaaGreat
open Go.RowKit Go.BigFrame
open Gar (endG)

def overM (s p s' p' : ByteArray) (f t f' t' : Int) : Bool := (decide (s = s') || decide (p = p')) && decide (max f f' < min (endG t) (endG t'))
set_option maxHeartbeats 2000000 in
set_option maxRecDepth 100000 in
theorem overlap_any (s p s' p' : ByteArray) (f t f' t' : Int) (w : World) :
    Calls Tryz.prog 64 #[mountV s p f t, mountV s' p' f' t'] w fun e w' => e = .returned (.bool (overM s p s' p' f t f' t')) ∧ Below w.heap.size w w' := by
  have D1 := Lib.hid (fun W => rend_any s p f t W)
  have D2 := Lib.hid (fun W => rend_any s' p' f' t' W)
  have h1 := str_eq s s'
  have h2 := str_eq p p'
  unfold overM
  unfold mountV at D1 D2 ⊢
  generalize endG t = en at D1 ⊢
  generalize endG t' = en' at D2 ⊢
  generalize decide (s = s') = b1 at h1 ⊢
  generalize decide (p = p') = b2 at h2 ⊢
  have HB := Lib.hid (((Below.refl w.heap.size w).alloc (Nat.le_refl _) (.cells #[.string s, .string p, .int .i64 f, .int .i64 t] 78)).alloc (by simp) (.cells #[.string s', .string p', .int .i64 f', .int .i64 t'] 78))
  obtain ⟨W, hW⟩ : ∃ W, ((w.alloc (.cells #[.string s, .string p, .int .i64 f, .int .i64 t] 78)).alloc (.cells #[.string s', .string p', .int .i64 f', .int .i64 t'] 78)) = W := ⟨_, rfl⟩
  have e0 : ∀ i v, (#[.string s, .string p, .int .i64 f, .int .i64 t] : Array Value)[i]? = some v → W.cell? ⟨w.heap.size, i, none⟩ = some v := by
    intro i v h
    rw [← hW, World.cell?_alloc_past _ _ _ (by simp), World.cell?_alloc_at _ _ _ _ rfl, h]
  have e1 : ∀ i v, (#[.string s', .string p', .int .i64 f', .int .i64 t'] : Array Value)[i]? = some v → W.cell? ⟨w.heap.size + 1, i, none⟩ = some v := by
    intro i v h
    rw [← hW, World.cell?_alloc_at _ _ _ _ (by simp), h]
  have E0 := Ext.ex (e0 0 _ rfl)
  have E1 := Ext.ex (e0 1 _ rfl)
  have E2 := Ext.ex (e0 2 _ rfl)
  have E3 := Ext.ex (e0 3 _ rfl)
  have F0 := Ext.ex (e1 0 _ rfl)
  have F1 := Ext.ex (e1 1 _ rfl)
  have F2 := Ext.ex (e1 2 _ rfl)
  have F3 := Ext.ex (e1 3 _ rfl)
  rw [hW] at HB
  have HW := Lib.hid hW
  clear e0 e1 hW
  cases b1 <;> cases b2
  all_goals
    go_enter Tryz.func64, Tryz.ntmps64
    go_wp2_with fail
    rw [HW.out]
    refine ext_wp fun X0 => ?_
    refine wp_region_ext X0 (by kernel_rfl) (by kernel_rfl) ?_
    repeat (first
      | go_big_quiet_step ((first
        | (go_at_call 62; with_reducible exact Ext.calls _ (D1.out _))
        | (go_at_call 62; with_reducible exact Ext.calls _ (D2.out _)))))
    refine wpQuiet_nil ?_
    intro _ hw'
    obtain ⟨X, rfl⟩ := hw'
    go_wp2_with fail
    go_ret
    exact ⟨ret_bool (by simp), HB.out.trans (X.2.mono HB.out.size)⟩
end Go.Proofs.YtbkpoepacjinlaaGreat

/- Gear: a use is checked among others (reference; printed by wip/g/gen_ruse.py). -/
namespace Go.Proofs.YtbkpoepacjinlaaGreat
open Go.RowKit Go.BigFrame
open Gar (momG endG chkUse)

/-- is there one among the first k? -/
def anyK (p : Nat → Bool) (k : Nat) : Bool := (List.range k).any p
theorem anyK_none {p : Nat → Bool} : ∀ {k : Nat}, (∀ i, i < k → p i = false) → anyK p k = false
  | k, h => by
    unfold anyK
    rw [List.any_eq_false]
    intro i hi
    rw [h i (List.mem_range.1 hi)]
    simp
theorem anyK_some {p : Nat → Bool} {k i : Nat} (hi : i < k) (h : p i = true) : anyK p k = true := by
  unfold anyK
  rw [List.any_eq_true]
  exact ⟨i, List.mem_range.2 hi, h⟩
theorem not_inB (n lo hi : Int) : (!inB n lo hi) = !inB n lo hi := rfl
set_option maxHeartbeats 4000000 in
set_option maxRecDepth 100000 in
theorem rcheckUse_any (g : Gar) (a3 : Option Addr) (k c : Nat) (n r : ByteArray) (f s x : Int) (w : World) (hn : n.size ≤ maxLen) (hr : r.size ≤ maxLen) (hk : k ≤ g.nu) (hl : (g.nu : Int) ≤ 9223372036854775807)
    (hrow : RowK w a3 g.nu 5 (fun i => [.string (g.un i), .string (g.ur i), .int .i64 (g.uf i), .int .i64 (g.us i), .int .i64 (g.uw i)])) :
    Calls Tryz.prog 39 #[useV n r f s x, .slice a3 k c] w fun e w' => e = .returned (.int .i64 (chkUse n r (anyK (fun i => decide (g.un i = n)) k) f s x)) ∧ Below w.heap.size w w' := by
  have D1 := Lib.hid (fun W => risName_any n W hn)
  have D2 := Lib.hid (fun W => risName_any r W hr)
  have D3 := Lib.hid (fun W => rmoment_any f W)
  have D4 := Lib.hid (fun W => rout_any s 1 1000000 W)
  have D5 := Lib.hid (fun W => rout_any x 0 1000000000 W)
  have HR := Lib.hid hrow
  have hv : chkUse n r (anyK (fun i => decide (g.un i = n)) k) f s x = if (nameB n && nameB r) = false then 8 else if anyK (fun i => decide (g.un i = n)) k = true then 5 else if (momG f && inB s 1 1000000 && inB x 0 1000000000) = false then 9 else 0 := by
    unfold chkUse inB
    simp only [Bool.and_assoc]
  obtain ⟨z, hz⟩ : ∃ z, chkUse n r (anyK (fun i => decide (g.un i = n)) k) f s x = z := ⟨_, rfl⟩
  rw [hz]
  rw [hv] at hz
  have HZ := Lib.hid hz
  clear hv hn hr hz hrow
  unfold useV
  generalize nameB n = b1 at D1 HZ
  generalize nameB r = b2 at D2 HZ
  generalize momG f = b3 at D3 HZ
  generalize inB s 1 1000000 = b4 at D4 HZ
  generalize inB x 0 1000000000 = b5 at D5 HZ
  obtain ⟨W0, hW0, hb0, hz0, hl0⟩ := alloc_cells w #[.string n, .string r, .int .i64 f, .int .i64 s, .int .i64 x] 62
  have l0 := Ext.ex (hl0 0 _ rfl)
  have l0a := Ext.exa l0
  have l1 := Ext.ex (hl0 1 _ rfl)
  have l2 := Ext.ex (hl0 2 _ rfl)
  have l3 := Ext.ex (hl0 3 _ rfl)
  have l4 := Ext.ex (hl0 4 _ rfl)
  have HW0 := Lib.hid hW0
  have HB0 := Lib.hid hb0
  have hz0' : w.heap.size ≤ W0.heap.size := by omega
  have HZ0 := Lib.hid hz0
  clear hl0 hW0 hb0 hz0
  cases b1
  · go_enter Tryz.func39, Tryz.ntmps39
    go_wp2_with fail
    rw [HW0.out]
    refine ext_calls fun X => ?_
    refine (D1.out _).mono ?_
    rintro e w1 ⟨rfl, rfl⟩
    go_wp2_with fail
    go_ret
    exact ⟨ret_int (by rw [← HZ.out]; rfl), X.down HB0.out hz0'⟩
  cases b2
  · go_enter Tryz.func39, Tryz.ntmps39
    go_wp2_with fail
    rw [HW0.out]
    refine ext_calls fun X => ?_
    refine (D1.out _).mono ?_
    rintro e w1 ⟨rfl, rfl⟩
    go_wp2_with fail
    refine (D2.out _).mono ?_
    rintro e w1 ⟨rfl, rfl⟩
    go_wp2_with fail
    go_ret
    exact ⟨ret_int (by rw [← HZ.out]; rfl), X.down HB0.out hz0'⟩
  go_enter Tryz.func39, Tryz.ntmps39
  go_wp2_with fail
  rw [HW0.out]
  refine ext_calls fun X => ?_
  refine (D1.out _).mono ?_
  rintro e w1 ⟨rfl, rfl⟩
  go_wp2_with fail
  refine (D2.out _).mono ?_
  rintro e w1 ⟨rfl, rfl⟩
  go_wp2_with fail
  go_loopw [19] (fun iv wr => ∃ (j : Nat), iv = .int .i64 j ∧ j ≤ k ∧ (∃ X : Ext W0, wr = X.1) ∧ Hid (∀ i, i < j → decide (g.un i = n) = false)) (fun iv _ => k - (intOf iv).toNat)
  case atStart => exact ⟨0, rfl, by omega, ⟨X, rfl⟩, Lib.hid (fun i hi => by omega)⟩
  case round =>
    obtain ⟨j, rfl, hj, ⟨X, rfl⟩, HN⟩ := hrel
    by_cases hlt : j < k
    · have t1 : decide ((j : Int) < (k : Int)) = true := by rw [decide_eq_true_eq]; omega
      have t1' : decide (j < k) = true := by simpa using hlt
      obtain ⟨b, off, rfl, hbl, hc⟩ := (HR.out.below (X.down HB0.out hz0') (Nat.le_refl _)).here (by omega)
      have e0 : X.1.cell? ⟨b, off + j * 5, none⟩ = some (.string (g.un j)) := hc j (by omega) 0 (by omega)
      have e1 : X.1.cell? ⟨b, off + j * 5 + 1, none⟩ = some (.string (g.ur j)) := hc j (by omega) 1 (by omega)
      have e2 : X.1.cell? ⟨b, off + j * 5 + 2, none⟩ = some (.int .i64 (g.uf j)) := hc j (by omega) 2 (by omega)
      have e3 : X.1.cell? ⟨b, off + j * 5 + 3, none⟩ = some (.int .i64 (g.us j)) := hc j (by omega) 3 (by omega)
      have e4 : X.1.cell? ⟨b, off + j * 5 + 4, none⟩ = some (.int .i64 (g.uw j)) := hc j (by omega) 4 (by omega)
      have hse := str_eq n (g.un j)
      cases he : decide (n = g.un j)
      · rw [he] at hse
        have HN2 : Hid (∀ i, i < j + 1 → decide (g.un i = n) = false) := Lib.hid (fun i hi => by
          by_cases e : i = j
          · subst e
            rw [decide_eq_false_iff_not] at he ⊢
            exact fun h => he h.symm
          · exact HN.out i (by omega))
        generalize g.un j = q0 at e0 hse
        generalize g.ur j = q1 at e1
        generalize g.uf j = q2 at e2
        generalize g.us j = q3 at e3
        generalize g.uw j = q4 at e4
        clear hc he HN
        go_wp2_with fail
        go_roundw
        case rel => exact ⟨j + 1, by go_num, by omega, ⟨⟨_, below_step X.2 (below_al _ _)⟩, rfl⟩, HN2⟩
        case measure => simp [intOf]; omega
      · rw [he] at hse
        have HA := Lib.hid (anyK_some (p := fun i => decide (g.un i = n)) hlt (by rw [decide_eq_true_eq] at he ⊢; exact he.symm))
        generalize g.un j = q0 at e0 hse
        generalize g.ur j = q1 at e1
        generalize g.uf j = q2 at e2
        generalize g.us j = q3 at e3
        generalize g.uw j = q4 at e4
        clear hc he HN
        go_wp2_with fail
        go_ret
        exact ⟨ret_int (by rw [← HZ.out, HA.out]; rfl), (X.down HB0.out hz0').trans ((below_al _ _).mono (Nat.le_trans hz0' X.2.size))⟩
    · have t1 : decide ((j : Int) < (k : Int)) = false := by rw [decide_eq_false_iff_not]; omega
      have t1' : decide (j < k) = false := by simpa using hlt
      have HA := Lib.hid (anyK_none (p := fun i => decide (g.un i = n)) (k := k) (fun i hi => HN.out i (by omega)))
      clear HN hlt
      generalize anyK (fun i => decide (g.un i = n)) k = tw at HA HZ
      obtain rfl : tw = false := HA.out
      cases b3
      · go_wp2_with fail
        refine (D3.out _).mono ?_
        rintro e w1 ⟨rfl, rfl⟩
        go_wp2_with fail
        go_ret
        exact ⟨ret_int (by rw [← HZ.out]; rfl), X.down HB0.out hz0'⟩
      cases b4
      · go_wp2_with fail
        refine (D3.out _).mono ?_
        rintro e w1 ⟨rfl, rfl⟩
        go_wp2_with fail
        refine (D4.out _).mono ?_
        rintro e w1 ⟨rfl, rfl⟩
        go_wp2_with fail
        go_ret
        exact ⟨ret_int (by rw [← HZ.out]; rfl), X.down HB0.out hz0'⟩
      cases b5
      all_goals
        go_wp2_with fail
        refine (D3.out _).mono ?_
        rintro e w1 ⟨rfl, rfl⟩
        go_wp2_with fail
        refine (D4.out _).mono ?_
        rintro e w1 ⟨rfl, rfl⟩
        go_wp2_with fail
        refine (D5.out _).mono ?_
        rintro e w1 ⟨rfl, rfl⟩
        go_wp2_with fail
        go_ret
        exact ⟨ret_int (by rw [← HZ.out]; rfl), X.down HB0.out hz0'⟩
end Go.Proofs.YtbkpoepacjinlaaGreat

/- Gear: what a right garage means for its mounts and uses, in plain lists. -/
namespace Go.Proofs.YtbkpoepacjinlaaGreat
open Go
open Gar (endG momG chkP chkS chkM chkU chk anyOver overB hasS hasP befM befU chkUse)
namespace Gar
def mnt (g : Gar) (i : Nat) : Pcs.Mnt := ⟨g.ms i, g.mp i, g.mf i, g.mt i⟩
theorem en_mnt (g : Gar) (i : Nat) : Pcs.en (g.mnt i) = endG (g.mt i) := rfl
/-- the mounts of a slot among the first k, in order -/
def mountsK (g : Gar) (s : ByteArray) : Nat → List Pcs.Mnt
  | 0 => []
  | k + 1 => if g.ms k = s then mountsK g s k ++ [g.mnt k] else mountsK g s k
def mounts (g : Gar) (s : ByteArray) : List Pcs.Mnt := mountsK g s g.nm
theorem chkM_each {g : Gar} : ∀ (n k : Nat), chkM g n k = 0 → ∀ i, k ≤ i → i < k + n →
    (hasS g (g.ms i) = true ∧ hasP g (g.mp i) = true) ∧ (momG (g.mf i) = true ∧ (g.mt i = -1 ∨ momG (g.mt i) = true)) ∧ ¬ (g.mt i ≠ -1 ∧ g.mt i ≤ g.mf i) ∧ (0 < i → befM g (i - 1) i = true)
  | 0, k, _, i, h1, h2 => by omega
  | n + 1, k, h, i, h1, h2 => by
    rw [chkM] at h
    split at h
    · omega
    · split at h
      · omega
      · split at h
        · omega
        · rename_i a b c
          by_cases e : i = k
          · subst e
            refine ⟨?_, ?_, fun hh => c (Or.inl hh), fun hp => ?_⟩
            · simpa using a
            · simp at b
              refine ⟨b.1, ?_⟩
              by_cases e1 : g.mt i = -1
              · exact Or.inl e1
              · exact Or.inr (b.2 e1)
            · cases hb : befM g (i - 1) i
              · exact absurd (Or.inr ⟨hp, hb⟩) c
              · rfl
          · exact chkM_each n (k + 1) h i (by omega) (by omega)
theorem mf_step {g : Gar} (h : chkM g g.nm 0 = 0) (i : Nat) (hi : i + 1 < g.nm) : g.mf i ≤ g.mf (i + 1) := by
  have := (chkM_each g.nm 0 h (i + 1) (by omega) (by omega)).2.2.2 (by omega)
  simp [befM] at this
  omega
theorem mf_mono {g : Gar} (h : chkM g g.nm 0 = 0) : ∀ (j i : Nat), i ≤ j → j < g.nm → g.mf i ≤ g.mf j
  | 0, i, h1, _ => by rw [Nat.le_zero.1 h1]; exact Int.le_refl _
  | j + 1, i, h1, h2 => by
    by_cases e : i = j + 1
    · subst e; exact Int.le_refl _
    · exact Int.le_trans (mf_mono h j i (by omega) (by omega)) (mf_step h j h2)
theorem mt_cases {g : Gar} (h : chkM g g.nm 0 = 0) (i : Nat) (hi : i < g.nm) : 0 ≤ g.mf i ∧ g.mf i ≤ 86399999999 ∧ g.mf i < endG (g.mt i) := by
  obtain ⟨_, ⟨h1, h2⟩, h3, _⟩ := chkM_each g.nm 0 h i (by omega) (by omega)
  simp [momG] at h1
  refine ⟨h1.1, h1.2, ?_⟩
  unfold endG
  split
  · omega
  · rename_i hn
    rcases h2 with h2 | h2
    · omega
    · by_cases e : g.mt i = -1
      · omega
      · rcases Int.lt_or_le (g.mf i) (g.mt i) with h4 | h4
        · exact h4
        · exact absurd ⟨e, h4⟩ h3
theorem over_none {g : Gar} (h : anyOver g = false) {i k : Nat} (hik : i < k) (hk : k < g.nm) : overB g i k = false := by
  cases ho : overB g i k
  · rfl
  · rw [← h]
    unfold anyOver
    symm
    rw [List.any_eq_true]
    exact ⟨k, List.mem_range.2 hk, by rw [List.any_eq_true]; exact ⟨i, List.mem_range.2 hik, ho⟩⟩
theorem apart {g : Gar} (h : chkM g g.nm 0 = 0) (ho : anyOver g = false) {i k : Nat} (hik : i < k) (hk : k < g.nm) (hs : g.ms i = g.ms k ∨ g.mp i = g.mp k) : endG (g.mt i) ≤ g.mf k := by
  have h1 := over_none ho hik hk
  have h2 := mf_mono h k i (by omega) hk
  have h3 := mt_cases h i (by omega)
  have h4 := mt_cases h k hk
  unfold overB at h1
  rw [show (decide (g.ms i = g.ms k) || decide (g.mp i = g.mp k)) = true by simpa using hs, Bool.true_and, decide_eq_false_iff_not] at h1
  omega
theorem mem_mountsK {g : Gar} {s : ByteArray} {m : Pcs.Mnt} : ∀ {k : Nat}, m ∈ mountsK g s k → ∃ i, i < k ∧ g.ms i = s ∧ m = g.mnt i
  | 0, h => by simp [mountsK] at h
  | k + 1, h => by
    rw [mountsK] at h
    split at h
    · rename_i e
      rcases List.mem_append.1 h with h | h
      · obtain ⟨i, h1, h2⟩ := mem_mountsK h
        exact ⟨i, by omega, h2⟩
      · simp at h
        exact ⟨k, by omega, e, h⟩
    · obtain ⟨i, h1, h2⟩ := mem_mountsK h
      exact ⟨i, by omega, h2⟩
theorem ord_append {ms : List Pcs.Mnt} {m : Pcs.Mnt} (h : Pcs.Ord ms) (hm : m.f < Pcs.en m) (hx : ∀ x, x ∈ ms → Pcs.en x ≤ m.f) : Pcs.Ord (ms ++ [m]) := by
  induction h with
  | nil => exact .cons m [] hm (by simp) .nil
  | cons a l h1 h2 h3 ih =>
    refine .cons a _ h1 (fun x hx' => ?_) (ih fun x hx' => hx x (by simp [hx']))
    rcases List.mem_append.1 hx' with h4 | h4
    · exact h2 x h4
    · simp at h4
      subst h4
      exact hx a (by simp)
theorem ord_mounts {g : Gar} (h : chkM g g.nm 0 = 0) (ho : anyOver g = false) (s : ByteArray) : ∀ k, k ≤ g.nm → Pcs.Ord (mountsK g s k)
  | 0, _ => .nil
  | k + 1, hk => by
    rw [mountsK]
    split
    · rename_i e
      refine ord_append (ord_mounts h ho s k (by omega)) (mt_cases h k (by omega)).2.2 fun x hx => ?_
      obtain ⟨i, h1, h2, rfl⟩ := mem_mountsK hx
      exact apart h ho h1 (by omega) (Or.inl (h2.trans e.symm))
    · exact ord_mounts h ho s k (by omega)
theorem chk_parts {g : Gar} (h : chk g = 0) : g.np ≤ 500 ∧ g.ns ≤ 100 ∧ g.nm ≤ 2000 ∧ g.nu ≤ 5000 ∧ chkP g g.np 0 = 0 ∧ chkS g g.ns 0 = 0 ∧ chkM g g.nm 0 = 0 ∧ anyOver g = false ∧ chkU g g.nu 0 = 0 := by
  unfold chk at h
  split at h
  · omega
  · rename_i hsz
    split at h
    · rename_i h1; exact absurd h h1
    · split at h
      · rename_i h1; exact absurd h h1
      · split at h
        · rename_i h1; exact absurd h h1
        · split at h
          · omega
          · rename_i h1 h2 h3 h4
            exact ⟨by omega, by omega, by omega, by omega, by simpa using h1, by simpa using h2, by simpa using h3, by simpa using h4, h⟩
theorem chkU_each {g : Gar} : ∀ (n k : Nat), chkU g n k = 0 → ∀ i, k ≤ i → i < k + n →
    chkUse (g.un i) (g.ur i) ((List.range i).any fun j => decide (g.un j = g.un i)) (g.uf i) (g.us i) (g.uw i) = 0 ∧ (0 < i → befU g (i - 1) i = true)
  | 0, k, _, i, h1, h2 => by omega
  | n + 1, k, h, i, h1, h2 => by
    rw [chkU] at h
    split at h
    · rename_i a; exact absurd h a
    · split at h
      · omega
      · rename_i a b
        by_cases e : i = k
        · subst e
          refine ⟨by simpa using a, fun hp => ?_⟩
          cases hb : befU g (i - 1) i
          · exact absurd ⟨hp, hb⟩ b
          · rfl
        · exact chkU_each n (k + 1) h i (by omega) (by omega)
theorem use_right {g : Gar} (h : chkU g g.nu 0 = 0) {i : Nat} (hi : i < g.nu) :
    (nameB (g.un i) = true ∧ nameB (g.ur i) = true) ∧ (∀ j, j < i → g.un j ≠ g.un i) ∧ 0 ≤ g.uf i ∧ g.uf i ≤ 86399999999 ∧ 1 ≤ g.us i ∧ g.us i ≤ 1000000 ∧ 0 ≤ g.uw i ∧ g.uw i ≤ 1000000000 := by
  have h1 := (chkU_each g.nu 0 h i (by omega) (by omega)).1
  unfold chkUse at h1
  split at h1
  · omega
  · split at h1
    · omega
    · split at h1
      · omega
      · rename_i a b c
        simp [momG] at a b c
        exact ⟨a, fun j hj => b j hj, by omega⟩
end Gar
end Go.Proofs.YtbkpoepacjinlaaGreat
