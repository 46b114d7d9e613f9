/- Several texts of this claim in one. -/
import Derived.Lib.Split
import Derived.Lib.ItoaMem
import Derived.Lib.AtoiTie
import Derived.Test.YthdmceeipmmhjaaGreatDoorProg
import Derived.Test.YthdmceeipmmhjaaGreatDoorFt1
import Derived.WalkKit
import Derived.WalkSpells
import Derived.WalkLawsBesides
import Derived.Lib.Hide
import Derived.Test.YthdmceeipmmhjaaGreatDoorShelf
import Derived.RegionTactic
import Derived.ChangeAlike
import Derived.Deep.QuietTactic
import Derived.BigQuiet
import Derived.Deep.Cut
import Derived.Deep.Slices
import Derived.ChangeSame
import Derived.Below
import Derived.Lib.SmallJoins
import Derived.OrdersHeld
import Derived.Lib.LaidTab
import Derived.BigFrame
import Derived.Deep.RegionHeld3
import Derived.Lib.Bytealg
import Derived.Laws.EntriesVeiled
/- Gear: texts, in plain lists: cutting and splitting at one byte; numbers. -/
namespace Go.Proofs.YthdmceeipmmhjaaGreatDoor
namespace Txt
open Go.Lib (index indexB cut count countFrom split splitK splitB atoi itoa decDigits decNat decFrom digitVal)

theorem index1_hit (l r : List UInt8) (c : UInt8) (h : c ∉ l) : index (l ++ c :: r) [c] = l.length := by
  apply Lib.index_first (by simp)
  · unfold Lib.occAt
    rw [List.drop_left' rfl]
    simp [List.isPrefixOf]
  · intro j hj
    unfold Lib.occAt
    have hl : (l ++ c :: r).drop j = l.drop j ++ c :: r := by rw [List.drop_append_of_le_length (by omega)]
    rw [hl]
    cases hd : l.drop j with
    | nil =>
      have := congrArg List.length hd
      simp at this
      omega
    | cons a t =>
      have hm : a ∈ l := List.mem_of_mem_drop (by rw [hd]; simp)
      have hne : c ≠ a := fun e => h (e ▸ hm)
      simp [List.isPrefixOf, hne]
theorem index1_miss (l : List UInt8) (c : UInt8) (h : c ∉ l) : index l [c] = -1 := by
  apply Lib.index_none
  intro j hj
  unfold Lib.occAt
  cases hd : l.drop j with
  | nil => simp [List.isPrefixOf]
  | cons a t =>
    have hm : a ∈ l := List.mem_of_mem_drop (by rw [hd]; simp)
    have hne : c ≠ a := fun e => h (e ▸ hm)
    simp [List.isPrefixOf, hne]
theorem cut1_hit (l r : List UInt8) (c : UInt8) (h : c ∉ l) : cut (l ++ c :: r) [c] = (l, r, true) := by
  unfold cut
  rw [index1_hit l r c h, if_pos (by omega)]
  simp
theorem cut1_miss (l : List UInt8) (c : UInt8) (h : c ∉ l) : cut l [c] = (l, [], false) := by
  unfold cut
  rw [index1_miss l c h, if_neg (by omega)]
theorem cut_len (s sep : List UInt8) (h1 : 1 ≤ sep.length) : (cut s sep).1.length ≤ s.length ∧ (cut s sep).2.1.length ≤ s.length ∧ (s ≠ [] → (cut s sep).2.1.length < s.length) := by
  unfold cut
  split
  · rename_i h
    have := Lib.index_room s sep h
    simp only [List.length_take, List.length_drop]
    refine ⟨by omega, by omega, fun _ => by omega⟩
  · refine ⟨Nat.le_refl _, by simp, fun h => ?_⟩
    cases s with
    | nil => exact absurd rfl h
    | cons a t => simp
/-- words with a byte between each two -/
def joinL (c : UInt8) : List (List UInt8) → List UInt8
  | [] => []
  | [w] => w
  | w :: v :: ws => w ++ c :: joinL c (v :: ws)
theorem countFrom_join (c : UInt8) : ∀ (ws : List (List UInt8)) (w : List UInt8) (fuel : Nat), (∀ x, x ∈ w :: ws → c ∉ x) → (joinL c (w :: ws)).length < fuel → countFrom [c] fuel (joinL c (w :: ws)) = ws.length
  | [], w, fuel, h, hf => by
    cases fuel with
    | zero => omega
    | succ f =>
      show countFrom [c] (f + 1) w = 0
      rw [countFrom, index1_miss w c (h w (by simp))]
      rfl
  | v :: ws, w, fuel, h, hf => by
    cases fuel with
    | zero => omega
    | succ f =>
      show countFrom [c] (f + 1) (w ++ c :: joinL c (v :: ws)) = ws.length + 1
      have e : joinL c (w :: v :: ws) = w ++ c :: joinL c (v :: ws) := rfl
      rw [e] at hf
      simp only [List.length_append, List.length_cons] at hf
      rw [countFrom, index1_hit w _ c (h w (by simp)), if_neg (by simp)]
      have e2 : (w ++ c :: joinL c (v :: ws)).drop ((w.length : Int).toNat + [c].length) = joinL c (v :: ws) := by
        rw [show ((w.length : Int).toNat + [c].length) = (w ++ [c]).length by simp, show w ++ c :: joinL c (v :: ws) = (w ++ [c]) ++ joinL c (v :: ws) by simp, List.drop_left' rfl]
      rw [e2, countFrom_join c ws v f (fun x hx => h x (by simp at hx ⊢; exact Or.inr hx)) (by omega)]
      omega
theorem splitK_join (c : UInt8) : ∀ (ws : List (List UInt8)) (w : List UInt8), (∀ x, x ∈ w :: ws → c ∉ x) → splitK [c] 0 ws.length (joinL c (w :: ws)) = w :: ws
  | [], w, h => rfl
  | v :: ws, w, h => by
    show splitK [c] 0 (ws.length + 1) (w ++ c :: joinL c (v :: ws)) = _
    rw [splitK, index1_hit w _ c (h w (by simp)), if_neg (by simp)]
    have e2 : (w ++ c :: joinL c (v :: ws)).drop ((w.length : Int).toNat + [c].length) = joinL c (v :: ws) := by
      rw [show ((w.length : Int).toNat + [c].length) = (w ++ [c]).length by simp, show w ++ c :: joinL c (v :: ws) = (w ++ [c]) ++ joinL c (v :: ws) by simp, List.drop_left' rfl]
    rw [e2, splitK_join c ws v (fun x hx => h x (by simp at hx ⊢; exact Or.inr hx))]
    simp
theorem split_join (c : UInt8) (ws : List (List UInt8)) (hne : ws ≠ []) (h : ∀ x, x ∈ ws → c ∉ x) : split (joinL c ws) [c] = ws := by
  cases ws with
  | nil => exact absurd rfl hne
  | cons w ws =>
    unfold split count
    rw [countFrom_join c ws w _ h (by omega), splitK_join c ws w h]

/-! numbers -/
def isD (b : UInt8) : Bool := decide (48 ≤ b.toNat) && decide (b.toNat ≤ 57)
/-- a numeral without superfluous zeros -/
def canon (l : List UInt8) : Bool := !l.isEmpty && l.all isD && !(decide (1 < l.length) && decide (l.head? = some 48))
theorem digitVal_of {b : UInt8} (h : isD b = true) : digitVal b = some (b.toNat - 48) := by
  unfold isD at h
  simp only [Bool.and_eq_true, decide_eq_true_eq] at h
  unfold digitVal
  rw [if_pos h]
theorem isD_of {b : UInt8} {d : Nat} (h : digitVal b = some d) : isD b = true ∧ d = b.toNat - 48 := by
  unfold digitVal at h
  split at h
  · rename_i h1
    injection h with h
    exact ⟨by unfold isD; simp [h1], h.symm⟩
  · cases h
theorem decFrom_some : ∀ (l : List UInt8) (acc : Nat), l.all isD = true → ∃ n, decFrom acc l = some n ∧ acc * 10 ^ l.length ≤ n
  | [], acc, _ => ⟨acc, rfl, by simp⟩
  | b :: l, acc, h => by
    rw [List.all_cons, Bool.and_eq_true] at h
    obtain ⟨n, h1, h2⟩ := decFrom_some l (acc * 10 + (b.toNat - 48)) h.2
    refine ⟨n, ?_, ?_⟩
    · rw [decFrom, digitVal_of h.1]
      exact h1
    · have e : acc * 10 ^ (b :: l).length ≤ (acc * 10 + (b.toNat - 48)) * 10 ^ l.length := by
        rw [List.length_cons, Nat.pow_succ, Nat.add_mul, Nat.mul_comm (10 ^ l.length) 10, ← Nat.mul_assoc]
        exact Nat.le_add_right _ _
      omega
theorem decFrom_snoc : ∀ (l : List UInt8) (acc n : Nat) (b : UInt8), decFrom acc l = some n → isD b = true → decFrom acc (l ++ [b]) = some (n * 10 + (b.toNat - 48))
  | [], acc, n, b, h, hb => by
    simp only [decFrom, Option.some.injEq] at h
    subst h
    rw [List.nil_append, decFrom, digitVal_of hb]
    rfl
  | a :: l, acc, n, b, h, hb => by
    rw [List.cons_append, decFrom]
    rw [decFrom] at h
    cases ha : digitVal a with
    | none => rw [ha] at h; cases h
    | some e =>
      rw [ha] at h
      exact decFrom_snoc l _ n b h hb
theorem ofNat_d {k : Nat} (h : k < 10) : isD (UInt8.ofNat (48 + k)) = true ∧ (UInt8.ofNat (48 + k)).toNat - 48 = k := by
  have e : (UInt8.ofNat (48 + k)).toNat = 48 + k := by
    rw [UInt8.toNat_ofNat']
    omega
  unfold isD
  rw [e]
  simp
  omega
/-- a number's text is a numeral, and it is read as this number -/
theorem dec_back (n : Nat) : (decDigits n).all isD = true ∧ decDigits n ≠ [] ∧ decFrom 0 (decDigits n) = some n ∧ (1 < (decDigits n).length → (decDigits n).head? ≠ some 48) := by
  induction n using Nat.strongRecOn with
  | ind n ih =>
    by_cases h : n < 10
    · rw [decDigits, dif_pos h]
      have := ofNat_d h
      refine ⟨by rw [List.all_cons, this.1]; rfl, by simp, ?_, by simp⟩
      rw [decFrom, digitVal_of this.1, this.2]
      show decFrom (0 * 10 + n) [] = some n
      rw [Nat.zero_mul, Nat.zero_add]
      rfl
    · rw [decDigits, dif_neg h]
      obtain ⟨h1, h2, h3, h4⟩ := ih (n / 10) (by omega)
      have hd := ofNat_d (k := n % 10) (by omega)
      refine ⟨by rw [List.all_append, h1, List.all_cons, hd.1]; rfl, by simp, ?_, fun _ => ?_⟩
      · rw [decFrom_snoc _ _ _ _ h3 hd.1, hd.2]
        congr 1
        omega
      · have hh : (decDigits (n / 10) ++ [UInt8.ofNat (48 + n % 10)]).head? = (decDigits (n / 10)).head? := by
          cases hx : decDigits (n / 10) with
          | nil => exact absurd hx h2
          | cons a t => rfl
        rw [hh]
        by_cases hl : 1 < (decDigits (n / 10)).length
        · exact h4 hl
        · have hl1 : n / 10 < 10 := by
            apply Classical.byContradiction
            intro hge
            rw [decDigits, dif_neg hge] at hl
            have := (ih (n / 10 / 10) (by omega)).2.1
            cases hx : decDigits (n / 10 / 10) with
            | nil => exact this hx
            | cons a t => rw [hx] at hl; simp at hl
          rw [decDigits, dif_pos hl1]
          simp only [List.head?_cons]
          intro e
          injection e with e
          have := congrArg UInt8.toNat e
          rw [UInt8.toNat_ofNat'] at this
          simp at this
          omega
/-- a numeral without superfluous zeros is its number's text -/
theorem dec_canon : ∀ (m : Nat) (l : List UInt8) (n : Nat), l.length = m → canon l = true → decFrom 0 l = some n → decDigits n = l := by
  intro m
  induction m with
  | zero =>
    intro l n hl hc _
    have : l = [] := List.eq_nil_of_length_eq_zero hl
    subst this
    simp [canon] at hc
  | succ m ih =>
    intro l n hl hc hn
    obtain ⟨t, b, rfl⟩ : ∃ t b, l = t ++ [b] := by
      refine ⟨l.dropLast, l.getLast (by intro e; rw [e] at hl; simp at hl), ?_⟩
      exact (List.dropLast_concat_getLast _).symm
    simp only [List.length_append, List.length_cons, List.length_nil, Nat.zero_add, Nat.add_right_cancel_iff] at hl
    simp only [canon, Bool.and_eq_true, List.all_append, List.all_cons, List.all_nil, Bool.and_true, Bool.not_eq_true'] at hc
    obtain ⟨⟨_, ht, hb⟩, hz⟩ := hc
    obtain ⟨k, hk, _⟩ := decFrom_some t 0 ht
    have e := decFrom_snoc t 0 k b hk hb
    rw [e] at hn
    injection hn with hn
    have hb2 := hb
    unfold isD at hb2
    simp only [Bool.and_eq_true, decide_eq_true_eq] at hb2
    have hbo : UInt8.ofNat (48 + (b.toNat - 48)) = b := by
      rw [show 48 + (b.toNat - 48) = b.toNat by omega]
      simp
    cases t with
    | nil =>
      simp only [decFrom, Option.some.injEq] at hk
      subst hk
      rw [decDigits, dif_pos (by omega), ← hn]
      simp only [Nat.zero_mul, Nat.zero_add, List.nil_append]
      rw [hbo]
    | cons a t =>
      have hz2 : a ≠ 48 := fun ea => by
        rw [ea] at hz
        simp at hz
      have hct : canon (a :: t) = true := by
        simp only [canon, Bool.and_eq_true, Bool.not_eq_true']
        refine ⟨⟨by simp, ht⟩, ?_⟩
        simp [hz2]
      have ek := ih (a :: t) k hl hct hk
      have hk10 : 1 ≤ k := by
        rw [decFrom] at hk
        rw [List.all_cons, Bool.and_eq_true] at ht
        rw [digitVal_of ht.1] at hk
        have hk : decFrom (0 * 10 + (a.toNat - 48)) t = some k := hk
        obtain ⟨k2, h1, h2⟩ := decFrom_some t (0 * 10 + (a.toNat - 48)) ht.2
        rw [h1] at hk
        injection hk with hk
        have ha := ht.1
        unfold isD at ha
        simp only [Bool.and_eq_true, decide_eq_true_eq] at ha
        have ha2 : a.toNat ≠ 48 := fun ea => hz2 (by rw [← UInt8.toNat_inj, ea]; rfl)
        have hp : 1 ≤ 10 ^ t.length := Nat.one_le_pow _ _ (by omega)
        have : 1 * 1 ≤ (0 * 10 + (a.toNat - 48)) * 10 ^ t.length := Nat.mul_le_mul (by omega) hp
        omega
      rw [decDigits, dif_neg (by omega), show n / 10 = k by omega, show n % 10 = b.toNat - 48 by omega, ek, hbo]
/-- the numbers that the texts bear -/
def numL (l : List UInt8) : Option Int := if decide (l.length ≤ 12) && canon l then atoi l else none
theorem atoi_canon {l : List UInt8} (h : canon l = true) : ∃ n : Nat, atoi l = some (n : Int) ∧ decDigits n = l ∧ decFrom 0 l = some n := by
  have hc := h
  simp only [canon, Bool.and_eq_true, Bool.not_eq_true'] at h
  obtain ⟨n, hn, _⟩ := decFrom_some l 0 h.1.2
  refine ⟨n, ?_, dec_canon _ l n rfl hc hn, hn⟩
  cases l with
  | nil => simp at h
  | cons a t =>
    have ha := h.1.2
    rw [List.all_cons, Bool.and_eq_true] at ha
    have ha1 := ha.1
    unfold isD at ha1
    simp only [Bool.and_eq_true, decide_eq_true_eq] at ha1
    rw [atoi, if_neg (by simp; intro e; rw [e] at ha1; simp at ha1), if_neg (by simp; intro e; rw [e] at ha1; simp at ha1), decNat, if_neg (by simp), hn]
    rfl
theorem canon_dec (n : Nat) : canon (decDigits n) = true := by
  obtain ⟨h1, h2, _, h4⟩ := dec_back n
  simp only [canon, Bool.and_eq_true, Bool.not_eq_true', h1, and_true]
  refine ⟨by simpa using h2, ?_⟩
  rw [Bool.and_eq_false_iff, decide_eq_false_iff_not, decide_eq_false_iff_not]
  by_cases hl : 1 < (decDigits n).length
  · exact Or.inr (h4 hl)
  · exact Or.inl hl
theorem numL_dec {n : Nat} (h : (decDigits n).length ≤ 12) : numL (decDigits n) = some (n : Int) := by
  unfold numL
  rw [canon_dec n, if_pos (by simpa using h)]
  obtain ⟨m, h1, _, h3⟩ := atoi_canon (canon_dec n)
  rw [(dec_back n).2.2.1] at h3
  injection h3 with h3
  rw [h1, h3]
/-- as the program asks it -/
theorem numL_prog (l : List UInt8) (h : l.length ≤ 12) : numL l = match atoi l with | some n => if 0 ≤ n ∧ itoa n = l then some n else none | none => none := by
  unfold numL
  by_cases hc : canon l = true
  · obtain ⟨n, h1, h2, _⟩ := atoi_canon hc
    rw [hc, if_pos (by simpa using h), h1]
    simp only
    rw [if_pos ⟨by omega, by rw [Lib.itoa_nonneg, h2]⟩]
  · rw [if_neg (by simp [hc])]
    cases ha : atoi l with
    | none => rfl
    | some n =>
      simp only
      rw [if_neg]
      rintro ⟨h1, h2⟩
      obtain ⟨m, rfl⟩ : ∃ m : Nat, n = m := ⟨n.toNat, by omega⟩
      rw [Lib.itoa_nonneg] at h2
      exact hc (by rw [← h2]; exact canon_dec m)
end Txt
end Go.Proofs.YthdmceeipmmhjaaGreatDoor

/- Gear: a garage as data, and what Check returns, in plain functions. -/
namespace Go.Proofs.YthdmceeipmmhjaaGreatDoor
open Go

def nameC (x : Int) : Bool := (decide (97 ≤ x) && decide (x ≤ 122)) || (decide (65 ≤ x) && decide (x ≤ 90)) || (decide (48 ≤ x) && decide (x ≤ 57)) || decide (x = 45) || decide (x = 95) || decide (x = 46)
def nameB (s : ByteArray) : Bool := decide (1 ≤ s.size) && decide (s.size ≤ 60) && s.data.toList.all fun c => nameC c.toNat
/-- a stands before b -/
def strLt (a b : ByteArray) : Bool := Op.bytesLess a.toList b.toList
structure Gar where
  np : Nat
  ns : Nat
  nm : Nat
  nu : Nat
  pn : Nat → ByteArray
  pc : Nat → Int
  sn : Nat → ByteArray
  sr : Nat → ByteArray
  ms : Nat → ByteArray
  mp : Nat → ByteArray
  mf : Nat → Int
  mt : Nat → Int
  un : Nat → ByteArray
  ur : Nat → ByteArray
  uf : Nat → Int
  us : Nat → Int
  uw : Nat → Int
namespace Gar
def momG (n : Int) : Bool := decide (0 ≤ n) && decide (n ≤ 86399999999)
def endG (t : Int) : Int := if t < 0 then 4611686018427387904 else t
/-- the look at the parts from the k-th on -/
def chkP (g : Gar) : Nat → Nat → Int
  | 0, _ => 0
  | n + 1, k => if nameB (g.pn k) = false then 8 else if 0 < k ∧ strLt (g.pn (k - 1)) (g.pn k) = false then 10 else if g.pc k < 0 ∨ 1000000000 < g.pc k then 9 else chkP g n (k + 1)
def chkS (g : Gar) : Nat → Nat → Int
  | 0, _ => 0
  | n + 1, k => if nameB (g.sn k) = false then 8 else if 0 < k ∧ strLt (g.sn (k - 1)) (g.sn k) = false then 10 else if nameB (g.sr k) = false then 8 else chkS g n (k + 1)
def hasS (g : Gar) (s : ByteArray) : Bool := (List.range g.ns).any fun i => decide (g.sn i = s)
def hasP (g : Gar) (s : ByteArray) : Bool := (List.range g.np).any fun i => decide (g.pn i = s)
/-- does mount i stand before mount k? -/
def befM (g : Gar) (i k : Nat) : Bool := decide (g.mf i < g.mf k) || (decide (g.mf i = g.mf k) && strLt (g.ms i) (g.ms k))
def chkM (g : Gar) : Nat → Nat → Int
  | 0, _ => 0
  | n + 1, k => if (hasS g (g.ms k) && hasP g (g.mp k)) = false then 4
    else if (momG (g.mf k) && (decide (g.mt k = -1) || momG (g.mt k))) = false then 9
    else if (g.mt k ≠ -1 ∧ g.mt k ≤ g.mf k) ∨ (0 < k ∧ befM g (k - 1) k = false) then 10 else chkM g n (k + 1)
/-- two mounts overlap -/
def overB (g : Gar) (i k : Nat) : Bool := (decide (g.ms i = g.ms k) || decide (g.mp i = g.mp k)) && decide (max (g.mf i) (g.mf k) < min (endG (g.mt i)) (endG (g.mt k)))
def anyOver (g : Gar) : Bool := (List.range g.nm).any fun k => (List.range k).any fun i => overB g i k
def befU (g : Gar) (i k : Nat) : Bool := decide (g.uf i < g.uf k) || (decide (g.uf i = g.uf k) && strLt (g.un i) (g.un k))
/-- a use beside others; tw: one has its name -/
def chkUse (n r : ByteArray) (tw : Bool) (f s x : Int) : Int :=
  if (nameB n && nameB r) = false then 8 else if tw = true then 5 else if (momG f && decide (1 ≤ s) && decide (s ≤ 1000000) && decide (0 ≤ x) && decide (x ≤ 1000000000)) = false then 9 else 0
def chkU (g : Gar) : Nat → Nat → Int
  | 0, _ => 0
  | n + 1, k => if chkUse (g.un k) (g.ur k) ((List.range k).any fun i => decide (g.un i = g.un k)) (g.uf k) (g.us k) (g.uw k) ≠ 0 then chkUse (g.un k) (g.ur k) ((List.range k).any fun i => decide (g.un i = g.un k)) (g.uf k) (g.us k) (g.uw k)
    else if 0 < k ∧ befU g (k - 1) k = false then 10 else chkU g n (k + 1)
def chk (g : Gar) : Int :=
  if 500 < g.np ∨ 100 < g.ns ∨ 2000 < g.nm ∨ 5000 < g.nu then 3
  else if chkP g g.np 0 ≠ 0 then chkP g g.np 0
  else if chkS g g.ns 0 ≠ 0 then chkS g g.ns 0
  else if chkM g g.nm 0 ≠ 0 then chkM g g.nm 0
  else if anyOver g = true then 11
  else chkU g g.nu 0
end Gar
end Go.Proofs.YthdmceeipmmhjaaGreatDoor

/- Gear: what a right garage means for its mounts and uses, in plain lists. -/
namespace Go.Proofs.YthdmceeipmmhjaaGreatDoor
open Go
open Gar (endG momG chkP chkS chkM chkU chk anyOver overB hasS hasP befM befU chkUse)
namespace Gar
def mnt (g : Gar) (i : Nat) : Pcs.Mnt := ⟨g.ms i, g.mp i, g.mf i, g.mt i⟩
theorem en_mnt (g : Gar) (i : Nat) : Pcs.en (g.mnt i) = endG (g.mt i) := rfl
/-- the mounts of a slot among the first k, in order -/
def mountsK (g : Gar) (s : ByteArray) : Nat → List Pcs.Mnt
  | 0 => []
  | k + 1 => if g.ms k = s then mountsK g s k ++ [g.mnt k] else mountsK g s k
def mounts (g : Gar) (s : ByteArray) : List Pcs.Mnt := mountsK g s g.nm
theorem chkM_each {g : Gar} : ∀ (n k : Nat), chkM g n k = 0 → ∀ i, k ≤ i → i < k + n →
    (hasS g (g.ms i) = true ∧ hasP g (g.mp i) = true) ∧ (momG (g.mf i) = true ∧ (g.mt i = -1 ∨ momG (g.mt i) = true)) ∧ ¬ (g.mt i ≠ -1 ∧ g.mt i ≤ g.mf i) ∧ (0 < i → befM g (i - 1) i = true)
  | 0, k, _, i, h1, h2 => by omega
  | n + 1, k, h, i, h1, h2 => by
    rw [chkM] at h
    split at h
    · omega
    · split at h
      · omega
      · split at h
        · omega
        · rename_i a b c
          by_cases e : i = k
          · subst e
            refine ⟨?_, ?_, fun hh => c (Or.inl hh), fun hp => ?_⟩
            · simpa using a
            · simp at b
              refine ⟨b.1, ?_⟩
              by_cases e1 : g.mt i = -1
              · exact Or.inl e1
              · exact Or.inr (b.2 e1)
            · cases hb : befM g (i - 1) i
              · exact absurd (Or.inr ⟨hp, hb⟩) c
              · rfl
          · exact chkM_each n (k + 1) h i (by omega) (by omega)
theorem mf_step {g : Gar} (h : chkM g g.nm 0 = 0) (i : Nat) (hi : i + 1 < g.nm) : g.mf i ≤ g.mf (i + 1) := by
  have := (chkM_each g.nm 0 h (i + 1) (by omega) (by omega)).2.2.2 (by omega)
  simp [befM] at this
  omega
theorem mf_mono {g : Gar} (h : chkM g g.nm 0 = 0) : ∀ (j i : Nat), i ≤ j → j < g.nm → g.mf i ≤ g.mf j
  | 0, i, h1, _ => by rw [Nat.le_zero.1 h1]; exact Int.le_refl _
  | j + 1, i, h1, h2 => by
    by_cases e : i = j + 1
    · subst e; exact Int.le_refl _
    · exact Int.le_trans (mf_mono h j i (by omega) (by omega)) (mf_step h j h2)
theorem mt_cases {g : Gar} (h : chkM g g.nm 0 = 0) (i : Nat) (hi : i < g.nm) : 0 ≤ g.mf i ∧ g.mf i ≤ 86399999999 ∧ g.mf i < endG (g.mt i) := by
  obtain ⟨_, ⟨h1, h2⟩, h3, _⟩ := chkM_each g.nm 0 h i (by omega) (by omega)
  simp [momG] at h1
  refine ⟨h1.1, h1.2, ?_⟩
  unfold endG
  split
  · omega
  · rename_i hn
    rcases h2 with h2 | h2
    · omega
    · by_cases e : g.mt i = -1
      · omega
      · rcases Int.lt_or_le (g.mf i) (g.mt i) with h4 | h4
        · exact h4
        · exact absurd ⟨e, h4⟩ h3
theorem over_none {g : Gar} (h : anyOver g = false) {i k : Nat} (hik : i < k) (hk : k < g.nm) : overB g i k = false := by
  cases ho : overB g i k
  · rfl
  · rw [← h]
    unfold anyOver
    symm
    rw [List.any_eq_true]
    exact ⟨k, List.mem_range.2 hk, by rw [List.any_eq_true]; exact ⟨i, List.mem_range.2 hik, ho⟩⟩
theorem apart {g : Gar} (h : chkM g g.nm 0 = 0) (ho : anyOver g = false) {i k : Nat} (hik : i < k) (hk : k < g.nm) (hs : g.ms i = g.ms k ∨ g.mp i = g.mp k) : endG (g.mt i) ≤ g.mf k := by
  have h1 := over_none ho hik hk
  have h2 := mf_mono h k i (by omega) hk
  have h3 := mt_cases h i (by omega)
  have h4 := mt_cases h k hk
  unfold overB at h1
  rw [show (decide (g.ms i = g.ms k) || decide (g.mp i = g.mp k)) = true by simpa using hs, Bool.true_and, decide_eq_false_iff_not] at h1
  omega
theorem mem_mountsK {g : Gar} {s : ByteArray} {m : Pcs.Mnt} : ∀ {k : Nat}, m ∈ mountsK g s k → ∃ i, i < k ∧ g.ms i = s ∧ m = g.mnt i
  | 0, h => by simp [mountsK] at h
  | k + 1, h => by
    rw [mountsK] at h
    split at h
    · rename_i e
      rcases List.mem_append.1 h with h | h
      · obtain ⟨i, h1, h2⟩ := mem_mountsK h
        exact ⟨i, by omega, h2⟩
      · simp at h
        exact ⟨k, by omega, e, h⟩
    · obtain ⟨i, h1, h2⟩ := mem_mountsK h
      exact ⟨i, by omega, h2⟩
theorem ord_append {ms : List Pcs.Mnt} {m : Pcs.Mnt} (h : Pcs.Ord ms) (hm : m.f < Pcs.en m) (hx : ∀ x, x ∈ ms → Pcs.en x ≤ m.f) : Pcs.Ord (ms ++ [m]) := by
  induction h with
  | nil => exact .cons m [] hm (by simp) .nil
  | cons a l h1 h2 h3 ih =>
    refine .cons a _ h1 (fun x hx' => ?_) (ih fun x hx' => hx x (by simp [hx']))
    rcases List.mem_append.1 hx' with h4 | h4
    · exact h2 x h4
    · simp at h4
      subst h4
      exact hx a (by simp)
theorem ord_mounts {g : Gar} (h : chkM g g.nm 0 = 0) (ho : anyOver g = false) (s : ByteArray) : ∀ k, k ≤ g.nm → Pcs.Ord (mountsK g s k)
  | 0, _ => .nil
  | k + 1, hk => by
    rw [mountsK]
    split
    · rename_i e
      refine ord_append (ord_mounts h ho s k (by omega)) (mt_cases h k (by omega)).2.2 fun x hx => ?_
      obtain ⟨i, h1, h2, rfl⟩ := mem_mountsK hx
      exact apart h ho h1 (by omega) (Or.inl (h2.trans e.symm))
    · exact ord_mounts h ho s k (by omega)
theorem chk_parts {g : Gar} (h : chk g = 0) : g.np ≤ 500 ∧ g.ns ≤ 100 ∧ g.nm ≤ 2000 ∧ g.nu ≤ 5000 ∧ chkP g g.np 0 = 0 ∧ chkS g g.ns 0 = 0 ∧ chkM g g.nm 0 = 0 ∧ anyOver g = false ∧ chkU g g.nu 0 = 0 := by
  unfold chk at h
  split at h
  · omega
  · rename_i hsz
    split at h
    · rename_i h1; exact absurd h h1
    · split at h
      · rename_i h1; exact absurd h h1
      · split at h
        · rename_i h1; exact absurd h h1
        · split at h
          · omega
          · rename_i h1 h2 h3 h4
            exact ⟨by omega, by omega, by omega, by omega, by simpa using h1, by simpa using h2, by simpa using h3, by simpa using h4, h⟩
theorem chkU_each {g : Gar} : ∀ (n k : Nat), chkU g n k = 0 → ∀ i, k ≤ i → i < k + n →
    chkUse (g.un i) (g.ur i) ((List.range i).any fun j => decide (g.un j = g.un i)) (g.uf i) (g.us i) (g.uw i) = 0 ∧ (0 < i → befU g (i - 1) i = true)
  | 0, k, _, i, h1, h2 => by omega
  | n + 1, k, h, i, h1, h2 => by
    rw [chkU] at h
    split at h
    · rename_i a; exact absurd h a
    · split at h
      · omega
      · rename_i a b
        by_cases e : i = k
        · subst e
          refine ⟨by simpa using a, fun hp => ?_⟩
          cases hb : befU g (i - 1) i
          · exact absurd ⟨hp, hb⟩ b
          · rfl
        · exact chkU_each n (k + 1) h i (by omega) (by omega)
theorem use_right {g : Gar} (h : chkU g g.nu 0 = 0) {i : Nat} (hi : i < g.nu) :
    (nameB (g.un i) = true ∧ nameB (g.ur i) = true) ∧ (∀ j, j < i → g.un j ≠ g.un i) ∧ 0 ≤ g.uf i ∧ g.uf i ≤ 86399999999 ∧ 1 ≤ g.us i ∧ g.us i ≤ 1000000 ∧ 0 ≤ g.uw i ∧ g.uw i ≤ 1000000000 := by
  have h1 := (chkU_each g.nu 0 h i (by omega) (by omega)).1
  unfold chkUse at h1
  split at h1
  · omega
  · split at h1
    · omega
    · split at h1
      · omega
      · rename_i a b c
        simp [momG] at a b c
        exact ⟨a, fun j hj => b j hj, by omega⟩
end Gar
end Go.Proofs.YthdmceeipmmhjaaGreatDoor

/- Gear: the text of a garage, in plain lists: what is written is read as it was. -/
namespace Go.Proofs.YthdmceeipmmhjaaGreatDoor
namespace Txt
open Go.Lib (index indexB countB cut count split splitK splitB atoi itoa decDigits)
open Gar (chk)

def sB (s : ByteArray) : List UInt8 := s.data.toList
theorem sB_inj {a b : ByteArray} (h : sB a = sB b) : a = b := by
  unfold sB at h
  cases a; cases b
  congr 1
  exact Array.toList_inj.1 h
def bt (l : List UInt8) : ByteArray := ⟨l.toArray⟩
theorem sB_bs (l : List UInt8) : sB (bt l) = l := rfl
theorem bs_sB (s : ByteArray) : bt (sB s) = s := sB_inj (sB_bs _)
def kPart : ByteArray := ⟨#[112, 97, 114, 116]⟩
def kSlot : ByteArray := ⟨#[115, 108, 111, 116]⟩
def kMount : ByteArray := ⟨#[109, 111, 117, 110, 116]⟩
def kUse : ByteArray := ⟨#[117, 115, 101]⟩
def dashB : ByteArray := ⟨#[45]⟩
def itoaB (n : Int) : ByteArray := bt (itoa n)
def toB (t : Int) : ByteArray := if 0 ≤ t then itoaB t else dashB
/-- a line of a text -/
inductive Ln where
  | part (n : ByteArray) (c : Int)
  | slot (n r : ByteArray)
  | mnt (s p : ByteArray) (f t : Int)
  | use (n r : ByteArray) (f s w : Int)
namespace Ln
def words : Ln → List ByteArray
  | part n c => [kPart, n, itoaB c]
  | slot n r => [kSlot, n, r]
  | mnt s p f t => [kMount, s, p, itoaB f, toB t]
  | use n r f s w => [kUse, n, r, itoaB f, itoaB s, itoaB w]
def text (l : Ln) : List UInt8 := joinL 32 (l.words.map sB) ++ [10]
def kind : Ln → Nat
  | part _ _ => 1
  | slot _ _ => 2
  | mnt _ _ _ _ => 3
  | use _ _ _ _ _ => 4
def part? : Ln → Option (ByteArray × Int)
  | part n c => some (n, c)
  | _ => none
def slot? : Ln → Option (ByteArray × ByteArray)
  | slot n r => some (n, r)
  | _ => none
def mnt? : Ln → Option (ByteArray × ByteArray × Int × Int)
  | mnt s p f t => some (s, p, f, t)
  | _ => none
def use? : Ln → Option (ByteArray × ByteArray × Int × Int × Int)
  | use n r f s w => some (n, r, f, s, w)
  | _ => none
end Ln
def numG (s : ByteArray) : Option Int := numL (sB s)
def toG (s : ByteArray) : Option Int := if s = dashB then some (-1) else numG s
def recOf : List ByteArray → Option Ln
  | [k, a, b] => if k = kPart then (numG b).map (.part a) else if k = kSlot then some (.slot a b) else none
  | [k, a, b, c, d] => if k = kMount then (numG c).bind fun f => (toG d).map fun t => .mnt a b f t else none
  | [k, a, b, c, d, e] => if k = kUse then (numG c).bind fun f => (numG d).bind fun s => (numG e).map fun w => .use a b f s w else none
  | _ => none
def anyE (ws : List ByteArray) : Bool := ws.any fun w => decide (w = ⟨#[]⟩)
def lineOf (ws : List ByteArray) : Option Ln := if anyE ws = true then none else recOf ws
def wordsB (s : ByteArray) : List ByteArray := splitB ⟨#[32]⟩ 0 (countB s ⟨#[32]⟩) s
inductive RR where
  | bad (n : Nat)
  | good (l : List Ln)
/-- reading line after line: with so many lines read, the last one's kind, and what was read -/
def readF : Nat → List UInt8 → Nat → Nat → List Ln → RR
  | 0, _, n, _, _ => .bad n
  | fuel + 1, s, n, last, acc =>
    if s = [] then .good acc else
    match lineOf (wordsB (bt (cut s [10]).1)) with
    | some ln => if (cut s [10]).2.2 = true ∧ last ≤ ln.kind then readF fuel (cut s [10]).2.1 (n + 1) ln.kind (acc ++ [ln]) else .bad n
    | none => .bad n
/-- more fuel changes nothing -/
theorem readF_fuel : ∀ (f f' : Nat) (s : List UInt8) (n last : Nat) (acc : List Ln), s.length < f → s.length < f' → readF f s n last acc = readF f' s n last acc := by
  intro f
  induction f with
  | zero => intro f' s n last acc h; omega
  | succ f ih =>
    intro f' s n last acc h h'
    cases f' with
    | zero => omega
    | succ f' =>
      rw [readF, readF]
      by_cases hs : s = []
      · rw [if_pos hs, if_pos hs]
      · rw [if_neg hs, if_neg hs]
        have hl := (cut_len s [10] (by simp)).2.2 hs
        cases lineOf (wordsB (bt (cut s [10]).1)) with
        | none => rfl
        | some ln =>
          simp only
          split
          · exact ih f' _ _ _ _ (by omega) (by omega)
          · rfl
theorem words_split (s : ByteArray) : (wordsB s).map sB = split (sB s) [32] := by
  unfold wordsB split
  exact Lib.splitB_data _ _ _ _
theorem map_sB_inj : ∀ {a b : List ByteArray}, a.map sB = b.map sB → a = b
  | [], [], _ => rfl
  | [], _ :: _, h => by simp at h
  | _ :: _, [], h => by simp at h
  | x :: a, y :: b, h => by
    simp only [List.map_cons, List.cons.injEq] at h
    rw [sB_inj h.1, map_sB_inj h.2]
theorem wordsB_join {ws : List ByteArray} (hne : ws ≠ []) (h : ∀ w, w ∈ ws → (32 : UInt8) ∉ sB w) : wordsB (bt (joinL 32 (ws.map sB))) = ws := by
  apply map_sB_inj
  rw [words_split, sB_bs, split_join 32 (ws.map sB) (by simpa using hne)]
  intro x hx
  obtain ⟨w, hw, rfl⟩ := List.mem_map.1 hx
  exact h w hw
theorem joinL_mem (c b : UInt8) : ∀ (ws : List (List UInt8)), b ∈ joinL c ws → b = c ∨ ∃ w, w ∈ ws ∧ b ∈ w
  | [], h => by simp [joinL] at h
  | [w], h => Or.inr ⟨w, by simp, h⟩
  | w :: v :: ws, h => by
    rw [joinL] at h
    simp only [List.mem_append, List.mem_cons] at h
    rcases h with h | h | h
    · exact Or.inr ⟨w, by simp, h⟩
    · exact Or.inl h
    · rcases joinL_mem c b (v :: ws) h with e | ⟨x, hx, hb⟩
      · exact Or.inl e
      · exact Or.inr ⟨x, by simp only [List.mem_cons] at hx ⊢; exact Or.inr hx, hb⟩
/-- what a word of a right line is -/
def okW (s : ByteArray) : Prop := (32 : UInt8) ∉ sB s ∧ (10 : UInt8) ∉ sB s ∧ s ≠ ⟨#[]⟩
def okN (n : Int) : Prop := 0 ≤ n ∧ n < 1000000000000
theorem okW_name {s : ByteArray} (h : nameB s = true) : okW s := by
  unfold nameB at h
  rw [Bool.and_eq_true, Bool.and_eq_true, decide_eq_true_eq, decide_eq_true_eq, List.all_eq_true] at h
  refine ⟨fun hm => ?_, fun hm => ?_, fun e => ?_⟩
  · have := h.2 32 hm
    simp [nameC] at this
  · have := h.2 10 hm
    simp [nameC] at this
  · rw [e] at h
    exact absurd h.1.1 (by decide)
theorem dec_len : ∀ (k n : Nat), n < 10 ^ (k + 1) → (decDigits n).length ≤ k + 1
  | 0, n, h => by rw [decDigits, dif_pos (by simpa using h)]; simp
  | k + 1, n, h => by
    by_cases h10 : n < 10
    · rw [decDigits, dif_pos h10]; simp
    · rw [decDigits, dif_neg h10]
      have := dec_len k (n / 10) (by rw [Nat.pow_succ] at h; omega)
      simp only [List.length_append, List.length_cons, List.length_nil]
      omega
theorem itoa_ok {n : Int} (h : okN n) : numG (itoaB n) = some n ∧ okW (itoaB n) ∧ itoaB n ≠ dashB := by
  obtain ⟨m, rfl⟩ : ∃ m : Nat, n = m := ⟨n.toNat, by have := h.1; omega⟩
  have hm : m < 10 ^ (11 + 1) := by have := h.2; omega
  have hl := dec_len 11 m hm
  obtain ⟨h1, h2, _, _⟩ := dec_back m
  have hd : ∀ b, b ∈ decDigits m → 48 ≤ b.toNat := fun b hb => by
    have := List.all_eq_true.1 h1 b hb
    unfold isD at this
    simp only [Bool.and_eq_true, decide_eq_true_eq] at this
    exact this.1
  unfold numG itoaB
  rw [Lib.itoa_nonneg, sB_bs]
  refine ⟨numL_dec hl, ⟨fun hm => ?_, fun hm => ?_, fun e => ?_⟩, fun e => ?_⟩
  · rw [sB_bs] at hm
    have := hd 32 hm
    simp at this
  · rw [sB_bs] at hm
    have := hd 10 hm
    simp at this
  · have e2 := congrArg sB e
    rw [sB_bs] at e2
    exact h2 e2
  · have e2 := congrArg sB e
    rw [sB_bs] at e2
    have e3 : (45 : UInt8) ∈ decDigits m := by rw [e2]; simp [sB, dashB]
    have := hd 45 e3
    simp at this
/-- a right line -/
def Ln.ok : Ln → Prop
  | .part n c => nameB n = true ∧ okN c
  | .slot n r => nameB n = true ∧ nameB r = true
  | .mnt s p f t => nameB s = true ∧ nameB p = true ∧ okN f ∧ (t = -1 ∨ okN t)
  | .use n r f s w => nameB n = true ∧ nameB r = true ∧ okN f ∧ okN s ∧ okN w
theorem okW_k : okW kPart ∧ okW kSlot ∧ okW kMount ∧ okW kUse ∧ okW dashB := by
  unfold okW sB kPart kSlot kMount kUse dashB
  refine ⟨⟨?_, ?_, ?_⟩, ⟨?_, ?_, ?_⟩, ⟨?_, ?_, ?_⟩, ⟨?_, ?_, ?_⟩, ?_, ?_, ?_⟩ <;> simp
theorem to_ok {t : Int} (h : t = -1 ∨ okN t) : toG (toB t) = some t ∧ okW (toB t) := by
  unfold toG toB
  rcases h with rfl | h
  · have e : (if (0 : Int) ≤ -1 then itoaB (-1) else dashB) = dashB := if_neg (by omega)
    rw [e, if_pos rfl]
    exact ⟨rfl, okW_k.2.2.2.2⟩
  · have e : (if 0 ≤ t then itoaB t else dashB) = itoaB t := if_pos h.1
    rw [e, if_neg (itoa_ok h).2.2]
    exact ⟨(itoa_ok h).1, (itoa_ok h).2.1⟩
theorem Ln.ok_words {l : Ln} (h : l.ok) : ∀ w, w ∈ l.words → okW w := by
  obtain ⟨k1, k2, k3, k4, _⟩ := okW_k
  intro w hw
  cases l with
  | part n c =>
    simp only [Ln.words, List.mem_cons, List.not_mem_nil, or_false] at hw
    rcases hw with rfl | rfl | rfl
    · exact k1
    · exact okW_name h.1
    · exact (itoa_ok h.2).2.1
  | slot n r =>
    simp only [Ln.words, List.mem_cons, List.not_mem_nil, or_false] at hw
    rcases hw with rfl | rfl | rfl
    · exact k2
    · exact okW_name h.1
    · exact okW_name h.2
  | mnt s p f t =>
    simp only [Ln.words, List.mem_cons, List.not_mem_nil, or_false] at hw
    rcases hw with rfl | rfl | rfl | rfl | rfl
    · exact k3
    · exact okW_name h.1
    · exact okW_name h.2.1
    · exact (itoa_ok h.2.2.1).2.1
    · exact (to_ok h.2.2.2).2
  | use n r f s w' =>
    simp only [Ln.words, List.mem_cons, List.not_mem_nil, or_false] at hw
    rcases hw with rfl | rfl | rfl | rfl | rfl | rfl
    · exact k4
    · exact okW_name h.1
    · exact okW_name h.2.1
    · exact (itoa_ok h.2.2.1).2.1
    · exact (itoa_ok h.2.2.2.1).2.1
    · exact (itoa_ok h.2.2.2.2).2.1
theorem Ln.ok_line {l : Ln} (h : l.ok) : lineOf l.words = some l := by
  have he : ¬ anyE l.words = true := fun e => by
    unfold anyE at e
    rw [List.any_eq_true] at e
    obtain ⟨w, h1, h2⟩ := e
    exact (Ln.ok_words h w h1).2.2 (by simpa using h2)
  unfold lineOf
  rw [if_neg he]
  cases l with
  | part n c => simp [Ln.words, recOf, (itoa_ok h.2).1]
  | slot n r => simp [Ln.words, recOf, kSlot, kPart]
  | mnt s p f t => simp [Ln.words, recOf, (itoa_ok h.2.2.1).1, (to_ok h.2.2.2).1]
  | use n r f s w => simp [Ln.words, recOf, (itoa_ok h.2.2.1).1, (itoa_ok h.2.2.2.1).1, (itoa_ok h.2.2.2.2).1]
theorem Ln.words_ne (l : Ln) : l.words ≠ [] := by cases l <;> simp [Ln.words]
theorem Ln.text_cut {l : Ln} (h : l.ok) (r : List UInt8) : cut (l.text ++ r) [10] = (joinL 32 (l.words.map sB), r, true) ∧ lineOf (wordsB (bt (joinL 32 (l.words.map sB)))) = some l := by
  constructor
  · unfold Ln.text
    rw [List.append_assoc]
    apply cut1_hit
    intro hm
    rcases joinL_mem 32 10 _ hm with e | ⟨w, h1, h2⟩
    · exact absurd e (by decide)
    · obtain ⟨x, hx, rfl⟩ := List.mem_map.1 h1
      exact (Ln.ok_words h x hx).2.1 h2
  · rw [wordsB_join l.words_ne (fun w hw => (Ln.ok_words h w hw).1)]
    exact Ln.ok_line h
theorem read_back : ∀ (ls : List Ln) (fuel n last : Nat) (acc : List Ln), (∀ l, l ∈ ls → l.ok) → (ls.Pairwise fun a b => a.kind ≤ b.kind) → (∀ l, l ∈ ls → last ≤ l.kind) → (ls.flatMap Ln.text).length < fuel → readF fuel (ls.flatMap Ln.text) n last acc = .good (acc ++ ls)
  | [], fuel, n, last, acc, _, _, _, hf => by
    cases fuel with
    | zero => omega
    | succ f => rw [readF, List.flatMap_nil, if_pos rfl, List.append_nil]
  | l :: ls, fuel, n, last, acc, hok, hp, hk, hf => by
    cases fuel with
    | zero => omega
    | succ f =>
      have hl := hok l (by simp)
      obtain ⟨h1, h2⟩ := Ln.text_cut hl (ls.flatMap Ln.text)
      rw [List.pairwise_cons] at hp
      have hne : l.text ++ ls.flatMap Ln.text ≠ [] := by unfold Ln.text; simp
      rw [readF, List.flatMap_cons, if_neg hne, h1]
      simp only [h2]
      rw [if_pos ⟨trivial, hk l (by simp)⟩]
      rw [read_back ls f (n + 1) l.kind (acc ++ [l]) (fun x hx => hok x (by simp [hx])) hp.2 (fun x hx => hp.1 x hx) (by
        have : 1 ≤ l.text.length := by unfold Ln.text; simp
        rw [List.flatMap_cons, List.length_append] at hf
        omega)]
      rw [List.append_assoc]
      rfl
/-- the lines of a garage -/
def lnsG (g : Gar) : List Ln :=
  (List.range g.np).map (fun i => .part (g.pn i) (g.pc i)) ++ ((List.range g.ns).map (fun i => .slot (g.sn i) (g.sr i)) ++
  ((List.range g.nm).map (fun i => .mnt (g.ms i) (g.mp i) (g.mf i) (g.mt i)) ++ (List.range g.nu).map (fun i => .use (g.un i) (g.ur i) (g.uf i) (g.us i) (g.uw i))))
def textG (g : Gar) : List UInt8 := (lnsG g).flatMap Ln.text
theorem lns_kinds (g : Gar) : (lnsG g).Pairwise (fun a b => a.kind ≤ b.kind) ∧ ∀ l, l ∈ lnsG g → 1 ≤ l.kind := by
  unfold lnsG
  constructor
  · have hc : ∀ (k : Nat) (f : Nat → Ln) (n : Nat), (∀ i, (f i).kind = k) → ((List.range n).map f).Pairwise (fun a b => a.kind ≤ b.kind) := fun k f n h => by
      rw [List.pairwise_map]
      exact List.Pairwise.imp (R := fun a b => a < b) (fun _ => by rw [h, h]; exact Nat.le_refl _) List.pairwise_lt_range
    refine List.pairwise_append.2 ⟨hc 1 _ _ (fun _ => rfl), List.pairwise_append.2 ⟨hc 2 _ _ (fun _ => rfl), List.pairwise_append.2 ⟨hc 3 _ _ (fun _ => rfl), hc 4 _ _ (fun _ => rfl), ?_⟩, ?_⟩, ?_⟩
    · intro a ha b hb
      obtain ⟨_, _, rfl⟩ := List.mem_map.1 ha
      obtain ⟨_, _, rfl⟩ := List.mem_map.1 hb
      simp [Ln.kind]
    · intro a ha b hb
      obtain ⟨_, _, rfl⟩ := List.mem_map.1 ha
      rcases List.mem_append.1 hb with hb | hb <;> obtain ⟨_, _, rfl⟩ := List.mem_map.1 hb <;> simp [Ln.kind]
    · intro a ha b hb
      obtain ⟨_, _, rfl⟩ := List.mem_map.1 ha
      rcases List.mem_append.1 hb with hb | hb
      · obtain ⟨_, _, rfl⟩ := List.mem_map.1 hb
        simp [Ln.kind]
      · rcases List.mem_append.1 hb with hb | hb <;> obtain ⟨_, _, rfl⟩ := List.mem_map.1 hb <;> simp [Ln.kind]
  · intro l _
    cases l <;> simp [Ln.kind]
/-- the garage of lines -/
def gOf (l : List Ln) : Gar where
  np := (l.filterMap Ln.part?).length
  ns := (l.filterMap Ln.slot?).length
  nm := (l.filterMap Ln.mnt?).length
  nu := (l.filterMap Ln.use?).length
  pn i := ((l.filterMap Ln.part?).getD i (⟨#[]⟩, 0)).1
  pc i := ((l.filterMap Ln.part?).getD i (⟨#[]⟩, 0)).2
  sn i := ((l.filterMap Ln.slot?).getD i (⟨#[]⟩, ⟨#[]⟩)).1
  sr i := ((l.filterMap Ln.slot?).getD i (⟨#[]⟩, ⟨#[]⟩)).2
  ms i := ((l.filterMap Ln.mnt?).getD i (⟨#[]⟩, ⟨#[]⟩, 0, 0)).1
  mp i := ((l.filterMap Ln.mnt?).getD i (⟨#[]⟩, ⟨#[]⟩, 0, 0)).2.1
  mf i := ((l.filterMap Ln.mnt?).getD i (⟨#[]⟩, ⟨#[]⟩, 0, 0)).2.2.1
  mt i := ((l.filterMap Ln.mnt?).getD i (⟨#[]⟩, ⟨#[]⟩, 0, 0)).2.2.2
  un i := ((l.filterMap Ln.use?).getD i (⟨#[]⟩, ⟨#[]⟩, 0, 0, 0)).1
  ur i := ((l.filterMap Ln.use?).getD i (⟨#[]⟩, ⟨#[]⟩, 0, 0, 0)).2.1
  uf i := ((l.filterMap Ln.use?).getD i (⟨#[]⟩, ⟨#[]⟩, 0, 0, 0)).2.2.1
  us i := ((l.filterMap Ln.use?).getD i (⟨#[]⟩, ⟨#[]⟩, 0, 0, 0)).2.2.2.1
  uw i := ((l.filterMap Ln.use?).getD i (⟨#[]⟩, ⟨#[]⟩, 0, 0, 0)).2.2.2.2
theorem fm_same {α : Type} (p : Ln → Option α) (f : Nat → Ln) (k : Nat → α) (n : Nat) (h : ∀ i, p (f i) = some (k i)) : ((List.range n).map f).filterMap p = (List.range n).map k := by
  rw [List.filterMap_map, show (p ∘ f) = (fun i => some (k i)) from funext h]
  exact List.filterMap_eq_map.trans rfl |> fun e => congrFun e _
theorem fm_none {α : Type} (p : Ln → Option α) (f : Nat → Ln) (n : Nat) (h : ∀ i, p (f i) = none) : ((List.range n).map f).filterMap p = [] := by
  rw [List.filterMap_map, show (p ∘ f) = (fun _ => none) from funext h]
  simp
theorem lns_parts (g : Gar) : (lnsG g).filterMap Ln.part? = (List.range g.np).map (fun i => (g.pn i, g.pc i)) := by
  unfold lnsG
  rw [List.filterMap_append, List.filterMap_append, List.filterMap_append, fm_same Ln.part? _ (fun i => (g.pn i, g.pc i)) _ (fun _ => rfl), fm_none Ln.part? _ _ (fun _ => rfl), fm_none Ln.part? _ _ (fun _ => rfl), fm_none Ln.part? _ _ (fun _ => rfl)]
  simp
theorem lns_slots (g : Gar) : (lnsG g).filterMap Ln.slot? = (List.range g.ns).map (fun i => (g.sn i, g.sr i)) := by
  unfold lnsG
  rw [List.filterMap_append, List.filterMap_append, List.filterMap_append, fm_none Ln.slot? _ _ (fun _ => rfl), fm_same Ln.slot? _ (fun i => (g.sn i, g.sr i)) _ (fun _ => rfl), fm_none Ln.slot? _ _ (fun _ => rfl), fm_none Ln.slot? _ _ (fun _ => rfl)]
  simp
theorem lns_mnts (g : Gar) : (lnsG g).filterMap Ln.mnt? = (List.range g.nm).map (fun i => (g.ms i, g.mp i, g.mf i, g.mt i)) := by
  unfold lnsG
  rw [List.filterMap_append, List.filterMap_append, List.filterMap_append, fm_none Ln.mnt? _ _ (fun _ => rfl), fm_none Ln.mnt? _ _ (fun _ => rfl), fm_same Ln.mnt? _ (fun i => (g.ms i, g.mp i, g.mf i, g.mt i)) _ (fun _ => rfl), fm_none Ln.mnt? _ _ (fun _ => rfl)]
  simp
theorem lns_uses (g : Gar) : (lnsG g).filterMap Ln.use? = (List.range g.nu).map (fun i => (g.un i, g.ur i, g.uf i, g.us i, g.uw i)) := by
  unfold lnsG
  rw [List.filterMap_append, List.filterMap_append, List.filterMap_append, fm_none Ln.use? _ _ (fun _ => rfl), fm_none Ln.use? _ _ (fun _ => rfl), fm_none Ln.use? _ _ (fun _ => rfl), fm_same Ln.use? _ (fun i => (g.un i, g.ur i, g.uf i, g.us i, g.uw i)) _ (fun _ => rfl)]
  simp
/-- a right garage has right lines -/
theorem chkP_num {g : Gar} : ∀ (n k : Nat), Gar.chkP g n k = 0 → ∀ i, k ≤ i → i < k + n → nameB (g.pn i) = true ∧ okN (g.pc i) := by
  intro n
  induction n with
  | zero => intro k _ i h1 h2; omega
  | succ n ih =>
    intro k h i h1 h2
    rw [Gar.chkP] at h
    repeat' split at h
    all_goals first
      | (exfalso; omega)
      | skip
    rename_i h3 h4 h5
    by_cases e : i = k
    · subst e
      exact ⟨by simpa using h3, by unfold okN; omega⟩
    · exact ih (k + 1) h i (by omega) (by omega)
theorem chkS_num {g : Gar} : ∀ (n k : Nat), Gar.chkS g n k = 0 → ∀ i, k ≤ i → i < k + n → nameB (g.sn i) = true ∧ nameB (g.sr i) = true := by
  intro n
  induction n with
  | zero => intro k _ i h1 h2; omega
  | succ n ih =>
    intro k h i h1 h2
    rw [Gar.chkS] at h
    repeat' split at h
    all_goals first
      | (exfalso; omega)
      | skip
    rename_i h3 h4 h5
    by_cases e : i = k
    · subst e
      exact ⟨by simpa using h3, by simpa using h5⟩
    · exact ih (k + 1) h i (by omega) (by omega)
theorem lns_ok {g : Gar} (h : chk g = 0) : ∀ l, l ∈ lnsG g → l.ok := by
  obtain ⟨_, _, _, _, hp, hs, hm, _, hu⟩ := Gar.chk_parts h
  have P := chkP_num g.np 0 hp
  have S := chkS_num g.ns 0 hs
  intro l hl
  unfold lnsG at hl
  rcases List.mem_append.1 hl with hl | hl
  · obtain ⟨i, hi, rfl⟩ := List.mem_map.1 hl
    exact P i (Nat.zero_le _) (by have := List.mem_range.1 hi; omega)
  rcases List.mem_append.1 hl with hl | hl
  · obtain ⟨i, hi, rfl⟩ := List.mem_map.1 hl
    exact S i (Nat.zero_le _) (by have := List.mem_range.1 hi; omega)
  rcases List.mem_append.1 hl with hl | hl
  · obtain ⟨i, hi, rfl⟩ := List.mem_map.1 hl
    have hi := List.mem_range.1 hi
    obtain ⟨⟨h1, h2⟩, ⟨h3, h4⟩, _⟩ := Gar.chkM_each g.nm 0 hm i (Nat.zero_le _) (by omega)
    refine ⟨?_, ?_, ?_, ?_⟩
    · unfold Gar.hasS at h1
      rw [List.any_eq_true] at h1
      obtain ⟨j, hj, e⟩ := h1
      rw [← of_decide_eq_true e]
      exact (S j (Nat.zero_le _) (by have := List.mem_range.1 hj; omega)).1
    · unfold Gar.hasP at h2
      rw [List.any_eq_true] at h2
      obtain ⟨j, hj, e⟩ := h2
      rw [← of_decide_eq_true e]
      exact (P j (Nat.zero_le _) (by have := List.mem_range.1 hj; omega)).1
    · unfold okN
      simp [Gar.momG] at h3
      omega
    · unfold okN
      simp [Gar.momG] at h4
      omega
  · obtain ⟨i, hi, rfl⟩ := List.mem_map.1 hl
    have hi := List.mem_range.1 hi
    have := Gar.use_right hu hi
    refine ⟨this.1.1, this.1.2, ?_, ?_, ?_⟩ <;> unfold okN <;> omega
theorem text_back {g : Gar} (h : chk g = 0) : readF ((textG g).length + 1) (textG g) 1 1 [] = .good (lnsG g) :=
  read_back (lnsG g) _ 1 1 [] (lns_ok h) (lns_kinds g).1 (lns_kinds g).2 (Nat.lt_succ_self _)
theorem okW_len {l : Ln} (h : l.ok) : l.text.length ≤ 400 := by
  have hn : ∀ s : ByteArray, nameB s = true → (sB s).length ≤ 60 := fun s hs => by
    unfold nameB at hs
    rw [Bool.and_eq_true, Bool.and_eq_true, decide_eq_true_eq, decide_eq_true_eq] at hs
    exact hs.1.2
  have hi : ∀ n : Int, okN n → (sB (itoaB n)).length ≤ 12 := fun n hn => by
    obtain ⟨m, rfl⟩ : ∃ m : Nat, n = m := ⟨n.toNat, by have := hn.1; omega⟩
    have hm : m < 10 ^ (11 + 1) := by have := hn.2; omega
    unfold itoaB
    rw [sB_bs, Lib.itoa_nonneg]
    exact dec_len 11 m hm
  have ht : ∀ t : Int, (t = -1 ∨ okN t) → (sB (toB t)).length ≤ 12 := fun t h => by
    unfold toB
    split
    · rcases h with rfl | h
      · omega
      · exact hi t h
    · decide
  have hk : (sB kPart).length ≤ 5 ∧ (sB kSlot).length ≤ 5 ∧ (sB kMount).length ≤ 5 ∧ (sB kUse).length ≤ 5 := by decide
  cases l with
  | part n c =>
    have h1 := hn _ h.1
    have h2 := hi _ h.2
    simp only [Ln.text, Ln.words, List.map_cons, List.map_nil, joinL, List.length_append, List.length_cons, List.length_nil]
    omega
  | slot n r =>
    have h1 := hn _ h.1
    have h2 := hn _ h.2
    simp only [Ln.text, Ln.words, List.map_cons, List.map_nil, joinL, List.length_append, List.length_cons, List.length_nil]
    omega
  | mnt s p f t =>
    have h1 := hn _ h.1
    have h2 := hn _ h.2.1
    have h3 := hi _ h.2.2.1
    have h4 := ht _ h.2.2.2
    simp only [Ln.text, Ln.words, List.map_cons, List.map_nil, joinL, List.length_append, List.length_cons, List.length_nil]
    omega
  | use n r f s w =>
    have h1 := hn _ h.1
    have h2 := hn _ h.2.1
    have h3 := hi _ h.2.2.1
    have h4 := hi _ h.2.2.2.1
    have h5 := hi _ h.2.2.2.2
    simp only [Ln.text, Ln.words, List.map_cons, List.map_nil, joinL, List.length_append, List.length_cons, List.length_nil]
    omega
theorem texts_len : ∀ (ls : List Ln), (∀ l, l ∈ ls → l.ok) → (ls.flatMap Ln.text).length ≤ 400 * ls.length
  | [], _ => by simp
  | l :: ls, h => by
    have h1 := okW_len (h l (by simp))
    have h2 := texts_len ls (fun x hx => h x (by simp [hx]))
    rw [List.flatMap_cons, List.length_append, List.length_cons]
    omega
end Txt
end Go.Proofs.YthdmceeipmmhjaaGreatDoor

/- Contracts of small functions of rounding: outside, size, more, ways and its functions, IndexFunc over the ways, Compare. -/
namespace Go.Proofs.YthdmceeipmmhjaaGreatDoor
open Go.RowKit

theorem ret_int {k : IntKind} {a b : Int} (h : a = b) : Ending.returned (.int k a) = .returned (.int k b) := by rw [h]
theorem ret_bool {a b : Bool} (h : a = b) : Ending.returned (.bool a) = .returned (.bool b) := by rw [h]

def cmpF (a b : Int) : Int := if a < b then -1 else if b < a then 1 else 0

def fnv (k : Nat) : Value := .func (.func k) #[] #[]
/-- what 'more' returns -/
def moreF (q r d : Int) (m : Bool) (how : Int) : Bool :=
  if r = 0 then false else if how = 1 then m else if how = 2 then !m else if how = 3 then false else if r ≠ d - r then decide (d - r < r) else if how = 4 then !m else q % 2 == 1
end Go.Proofs.YthdmceeipmmhjaaGreatDoor

/- math/bits.Div64: the contract, for all arguments whose quotient fits. -/
namespace Go.Proofs.YthdmceeipmmhjaaGreatDoor
open Go.RowKit

end Go.Proofs.YthdmceeipmmhjaaGreatDoor

/- math/bits.Div64: the contract, for all arguments whose quotient fits: the exact quotient and the rest. -/
namespace Go.Proofs.YthdmceeipmmhjaaGreatDoor
open Go.RowKit

theorem bitLen_spec : ∀ (n x : Nat), x ≤ n → x ≠ 0 → x < 2 ^ 64 → 1 ≤ Lib.bitLen x ∧ 2 ^ (Lib.bitLen x - 1) ≤ x ∧ x < 2 ^ Lib.bitLen x
  | 0, x, h, h0, _ => absurd (Nat.le_zero.1 h) h0
  | n + 1, x, h, h0, hx => by
    rw [Lib.bitLen_half x h0 hx]
    by_cases h1 : x / 2 = 0
    · have : x = 1 := by omega
      subst this
      decide
    · have ⟨i1, i2, i3⟩ := bitLen_spec n (x / 2) (by omega) h1 (by omega)
      refine ⟨by omega, ?_, ?_⟩
      · obtain ⟨k, hk⟩ : ∃ k, Lib.bitLen (x / 2) = k + 1 := ⟨Lib.bitLen (x / 2) - 1, by omega⟩
        rw [hk] at i2 ⊢
        rw [show 1 + (k + 1) - 1 = k + 1 by omega, Nat.pow_succ]
        rw [Nat.add_sub_cancel] at i2
        omega
      · rw [Nat.add_comm, Nat.pow_succ]; omega
theorem bitLen_le {x : Nat} (h0 : x ≠ 0) (hx : x < 2 ^ 64) : Lib.bitLen x ≤ 64 := by
  have ⟨_, h2, _⟩ := bitLen_spec x x (Nat.le_refl _) h0 hx
  rcases Nat.lt_or_ge 64 (Lib.bitLen x) with h | h
  · have : 2 ^ 64 ≤ 2 ^ (Lib.bitLen x - 1) := Nat.pow_le_pow_right (by omega) (by omega)
    omega
  · exact h

theorem wrap_nat {n : Nat} (h : n < 18446744073709551616) : IntKind.u64.wrap (n : Int) = n := by rw [IntKind.wrap_u64]; omega

theorem cast_pow2 (s : Nat) : ((2 ^ s : Nat) : Int) = (2 : Int) ^ s := by rw [Int.natCast_pow]; rfl

/-- the rest of a digit's step, as the walk reckons it -/
theorem step_rest {u d q Y r : Nat} (h : Y * q + r = u * 4294967296 + d) (hr : r < 18446744073709551616) :
    IntKind.u64.wrap (IntKind.u64.wrap (IntKind.u64.wrap ((u : Int) * 4294967296) + d) - IntKind.u64.wrap ((q : Int) * Y)) = r := by
  have h' : (q : Int) * Y + r = u * 4294967296 + d := by
    have := congrArg (fun n : Nat => (n : Int)) h
    simp only [Int.natCast_add, Int.natCast_mul] at this
    rw [Int.mul_comm]; exact this
  generalize (q : Int) * Y = C at *
  simp only [IntKind.wrap_u64]; omega

theorem rest_wrap {u a : Nat} (hu : u < 18446744073709551616) : IntKind.u64.wrap (u - IntKind.u64.wrap (((u / a : Nat) : Int) * a)) = (u % a : Nat) := by
  have h := Nat.div_add_mod u a
  rw [← Int.natCast_mul]
  have hm : u / a * a ≤ u := Nat.div_mul_le_self u a
  rw [wrap_nat (show u / a * a < _ by omega), IntKind.wrap_u64]
  rw [Nat.mul_comm] at h
  omega

end Go.Proofs.YthdmceeipmmhjaaGreatDoor

/- Scale: of the program and of the reference: both return 'Sc.sc'. -/
namespace Go.Proofs.YthdmceeipmmhjaaGreatDoor
open Go.RowKit

/-- where a way of rounding stands in the table -/
def wayAt (how : Int) : Int := if 1 ≤ how ∧ how ≤ 5 then how - 1 else -1
/-- what the functions of the table return -/
def wayF (how : Int) (b : Bool) (q h : Int) : Bool :=
  if how = 1 then b else if how = 2 then !b else if how = 3 then false else if how = 4 then decide (0 < h) || (h == 0 && !b) else decide (0 < h) || (h == 0 && (q % 2 == 1))
theorem wayF_away (how : Int) (b : Bool) (q r d : Nat) : wayF how b q (cmpF r ((d : Int) - r)) = Sc.away how b q r d := by
  have e1 : (0 < cmpF (r : Int) ((d : Int) - r)) ↔ d < 2 * r := by unfold cmpF; split <;> (try split) <;> omega
  have e2 : (cmpF (r : Int) ((d : Int) - r) = 0) ↔ 2 * r = d := by unfold cmpF; split <;> (try split) <;> omega
  have e3 : ((q : Int) % 2 = 1) ↔ q % 2 = 1 := by omega
  have e4 : (cmpF (r : Int) ((d : Int) - r) == 0) = decide (2 * r = d) := by rw [Bool.eq_iff_iff, beq_iff_eq, decide_eq_true_eq]; exact e2
  have e5 : ((q : Int) % 2 == 1) = decide (q % 2 = 1) := by rw [Bool.eq_iff_iff, beq_iff_eq, decide_eq_true_eq]; exact e3
  unfold wayF Sc.away
  rw [decide_eq_decide.2 e1, e4, e5]
theorem quiet_eq {P : Program} {f : FuncId} {args : Array Value} {w : World} {n : Nat} {v : Value}
    (h : Calls P f args (w.drewN n) fun e w' => e = .returned v ∧ w.drewN n = w') : Calls P f args (w.drewN n) fun e w'' => e = .returned v ∧ ∃ m, w'' = w.drewN m :=
  h.mono fun _ _ ⟨he, hm⟩ => ⟨he, n, hm.symm⟩
theorem below_drewN {B : Nat} {a w : World} (h : Below B a w) (n : Nat) : Below B a (w.drewN n) := h.trans ⟨rfl, rfl, rfl, Nat.le_refl _, fun _ _ => rfl⟩
end Go.Proofs.YthdmceeipmmhjaaGreatDoor

/- Small lemmas on memory: what a world keeps. -/
namespace Go.Proofs.YthdmceeipmmhjaaGreatDoor
open Go.RowKit

theorem below_cell {w w' : World} {p : Addr} {v : Value} (hb : Below w.heap.size w w') (h : w.cell? p = some v) : w'.cell? p = some v :=
  (hb.cell (World.block_lt_of_cell? w p h)).trans h
theorem below_al (w : World) (o : Obj) : Below w.heap.size w (w.alloc o) := (Below.refl _ _).alloc (Nat.le_refl _) _
theorem below_ad (w : World) (o : Obj) (n : Nat) : Below w.heap.size w ((w.alloc o).drewN n) := below_drewN (below_al w o) n
/-- two steps, each of which keeps all that was there -/
theorem below_tr {B : Nat} {a b c : World} (h : Below B a b) (hB : B ≤ b.heap.size) (k : Below b.heap.size b c) : Below B a c := h.trans (k.mono hB)
theorem below_step {a b c : World} (h : Below a.heap.size a b) (k : Below b.heap.size b c) : Below a.heap.size a c := h.trans (k.mono h.size)
end Go.Proofs.YthdmceeipmmhjaaGreatDoor

/- A region that draws its order, whose operations only read, but whose callees may make memory: one walk in the order of the text (the kit's law wp_region_quiet at the class 'all that was there is as it was'). -/
namespace Go.Proofs.YthdmceeipmmhjaaGreatDoor
open Go.RowKit Go.BigFrame

/-- a world in which all that was there is as it was -/
def Ext (W : World) : Type := { w : World // Below W.heap.size W w }
instance (W : World) : Nonempty (Ext W) := ⟨⟨W, Below.refl _ _⟩⟩
theorem Ext.ex {W : World} {p : Addr} {v : Value} (h : W.cell? p = some v) : ∀ X : Ext W, X.1.cell? p = some v := fun X => below_cell X.2 h
theorem Ext.exa {W : World} {p : Addr} {v : Value} (e : ∀ X : Ext W, X.1.cell? p = some v) : ∀ (X : Ext W) (o : Obj), (X.1.alloc o).cell? p = some v := fun X o => below_cell (below_al _ o) (e X)
theorem Ext.calls {P : Program} {W : World} {f : FuncId} {args : Array Value} {v : Value} (X : Ext W) (h : Calls P f args X.1 fun e w' => e = .returned v ∧ Below X.1.heap.size X.1 w') : Calls P f args X.1 fun e w'' => e = .returned v ∧ ∃ Y : Ext W, w'' = Y.1 :=
  h.mono fun _ w'' ⟨he, hb⟩ => ⟨he, ⟨w'', below_step X.2 hb⟩, rfl⟩
theorem Ext.same {P : Program} {W : World} {f : FuncId} {args : Array Value} {v : Value} (X : Ext W) (h : Calls P f args X.1 fun e w' => e = .returned v ∧ X.1 = w') : Calls P f args X.1 fun e w'' => e = .returned v ∧ ∃ Y : Ext W, w'' = Y.1 :=
  h.mono fun _ _ ⟨he, hb⟩ => ⟨he, X, hb.symm⟩
theorem wp_region_ext {P : Program} {id : Nat} {Q : Exit → Act → World → Prop} {a : Act} {W : World} (X : Ext W) {l : List Oper} (hm : P.follows .mixedOrders = true) (hB : Region.lexB .any l.toArray = true)
    (h : wpQuiet P l.toArray (fun w' => ∃ Y : Ext W, w' = Y.1) (fun a' => ∀ w', (∃ Y : Ext W, w' = Y.1) → Q .normal a' w') l a) : (Code.region id l.toArray true).wp P Q a X.1 :=
  wp_region_quiet (C := fun w' => ∃ Y : Ext W, w' = Y.1) hm hB ⟨⟨{ X.1 with drawn := X.1.drawn + 1 }, below_step X.2 ⟨rfl, rfl, rfl, Nat.le_refl _, fun _ _ => rfl⟩⟩, rfl⟩ (by simpa using h)
/-- the world behind an allocation of cells, under one name -/
theorem alloc_cells (w : World) (cs : Array Value) (T : TypeId) : ∃ W, w.alloc (.cells cs T) = W ∧ Below w.heap.size w W ∧ W.heap.size = w.heap.size + 1 ∧ ∀ i v, cs[i]? = some v → W.cell? ⟨w.heap.size, i, none⟩ = some v :=
  ⟨_, rfl, below_al _ _, by simp, fun i v h => by rw [World.cell?_alloc_at _ _ _ _ rfl, h]⟩
/-- go on in an arbitrary later world -/
theorem ext_wp {P : Program} {c : Code} {Q : Exit → Act → World → Prop} {a : Act} {W : World} (h : ∀ X : Ext W, c.wp P Q a X.1) : c.wp P Q a W := h ⟨W, Below.refl _ _⟩
theorem ext_calls {P : Program} {f : FuncId} {args : Array Value} {R : Ending → World → Prop} {W : World} (h : ∀ X : Ext W, Calls P f args X.1 R) : Calls P f args W R := h ⟨W, Below.refl _ _⟩
theorem Ext.down {W : World} (X : Ext W) {B : Nat} {w : World} (h : Below B w W) (hB : B ≤ W.heap.size) : Below B w X.1 := h.trans (X.2.mono hB)
/-- a later base -/
theorem Ext.re {W W' : World} (h : Below W.heap.size W W') {p : Addr} {v : Value} (e : ∀ X : Ext W, X.1.cell? p = some v) : ∀ X : Ext W', X.1.cell? p = some v := fun X => e ⟨X.1, below_step h X.2⟩
end Go.Proofs.YthdmceeipmmhjaaGreatDoor

/- Slices of structs of one-cell fields that came in: how they read (any program). -/
namespace Go.Proofs.YthdmceeipmmhjaaGreatDoor
open Go.RowKit Go.ChangeShapes Go.WideShapes Go.Deep

/-- a slice of structs of k one-cell fields, as it lies in memory: element i has the cells V i -/
structure RowK (w : World) (a : Option Addr) (len k : Nat) (V : Nat → List Value) : Prop where
  here : 0 < len → ∃ b off, a = some ⟨b, off, none⟩ ∧ b < w.heap.size ∧ ∀ i, i < len → ∀ j, j < k → w.cell? ⟨b, off + i * k + j, none⟩ = (V i)[j]?
theorem RowK.below {w w' : World} {a : Option Addr} {len k B : Nat} {V : Nat → List Value} (h : RowK w a len k V) (hb : Below B w w') (hB : w.heap.size ≤ B) : RowK w' a len k V := by
  refine ⟨fun hl => ?_⟩
  obtain ⟨b, off, rfl, hlt, hc⟩ := h.here hl
  exact ⟨b, off, rfl, Nat.lt_of_lt_of_le hlt hb.size, fun i hi j hj => (hb.cell (p := ⟨b, off + i * k + j, none⟩) (Nat.lt_of_lt_of_le hlt hB)).trans (hc i hi j hj)⟩

theorem RowK.at {w : World} {b off len k : Nat} {V : Nat → List Value} (h : RowK w (some ⟨b, off, none⟩) len k V) {i j : Nat} (hi : i < len) (hj : j < k) : w.cell? ⟨b, off + i * k + j, none⟩ = (V i)[j]? := by
  obtain ⟨b', off', he, _, hc⟩ := h.here (by omega)
  injection he with he
  injection he with h1 h2
  subst h1
  subst h2
  exact hc i hi j hj

section
variable {H : Type} {enc : TypeId × Value → H} {P : Program} {w : World} {base : Nat}
theorem open_rowK {t e : TypeId} {fs : Array Field} {fuel : Nat} {v : Value} {x : DataW H × List MemPlace} (ht : P.underlying t = some (.slice e)) (he : P.underlying e = some (.struct fs)) (hC : P.cellsOf e = fs.size) (hfs : 0 < fs.size)
    (hone : ∀ (i : Nat) (f : Field), fs[i]? = some f → f.offset = i ∧ P.cellsOf f.type = 1) (h : DataW.trod enc P w base (fun _ => true) true fuel t [v] = some x) :
    ∃ (a : Option Addr) (len cap : Nat) (V : Nat → List Value), v = .slice a len cap ∧ len ≤ cap ∧ cap ≤ maxLen ∧ RowK w a len fs.size V ∧
      ∀ i, i < len → (V i).length = fs.size ∧ ∀ (j : Nat) (f : Field), fs[j]? = some f → ∃ u n y, (V i)[j]? = some u ∧ DataW.trod enc P w base (fun _ => true) true n f.type [u] = some y := by
  rcases open_slice ht h with ⟨hc, _⟩ | ⟨a, len, cap, m, n, D, Pl, hc, _, hl, hm, hmm, _, hx⟩
  · simp only [List.cons.injEq, and_true] at hc
    exact ⟨none, 0, 0, fun _ => [], hc, Nat.le_refl _, Nat.zero_le _, ⟨fun h => absurd h (by omega)⟩, fun i hi => absurd hi (by omega)⟩
  · simp only [List.cons.injEq, and_true] at hc
    simp only [if_true] at hmm
    subst hmm
    have each : ∀ i, i < m → ∃ cs : List Value, cs.length = fs.size ∧ (∀ j, j < fs.size → w.cell? (a.add (i * fs.size + j)) = cs[j]?) ∧ ∀ (j : Nat) (f : Field), fs[j]? = some f → ∃ u n y, cs[j]? = some u ∧ DataW.trod enc P w base (fun _ => true) true n f.type [u] = some y := by
      intro i hi
      obtain ⟨cs, h1, h2⟩ := hx i hi
      rw [hC] at h1
      obtain ⟨_, hlen, hcell⟩ := World.cells?_some h1
      obtain ⟨xs, k, _, _, _, hxl, hf⟩ := DataW.trod_struct he h2
      refine ⟨cs, hlen, fun j hj => by rw [← add_add]; exact hcell j (by omega), fun j f hj => ?_⟩
      obtain ⟨o1, o2⟩ := hone j f hj
      have g := hf j f hj
      rw [o1, o2] at g
      have hjl : j < cs.length := by
        rw [hlen]
        exact (Array.getElem?_eq_some_iff.1 hj).1
      have hjx : j < xs.length := by rw [hxl]; rw [hlen] at hjl; exact hjl
      have e1 : (cs.drop j).take 1 = [cs[j]] := by rw [List.drop_eq_getElem_cons hjl]; rfl
      rw [e1, List.getElem?_eq_getElem hjx] at g
      exact ⟨cs[j], k, xs[j], List.getElem?_eq_getElem hjl, g⟩
    obtain ⟨V, hV⟩ := choose_lt each
    refine ⟨some a, len, m, V, hc, hl, hm, ⟨fun hl0 => ?_⟩, fun i hi => ⟨(hV i (by omega)).1, (hV i (by omega)).2.2⟩⟩
    obtain ⟨b, o, sp⟩ := a
    have hc0 : ∃ u, w.cell? ((⟨b, o, sp⟩ : Addr).add (0 * fs.size + 0)) = some u := by
      obtain ⟨g1, g2, g3⟩ := hV 0 (by omega)
      exact ⟨(V 0)[0]'(by omega), by rw [g2 0 hfs, List.getElem?_eq_getElem]⟩
    obtain ⟨u, hu⟩ := hc0
    have hspot : sp = none := by simpa [Addr.add] using World.cell?_spot hu
    subst hspot
    rw [Nat.zero_mul, add_plain] at hu
    refine ⟨b, o, rfl, World.block_lt_of_cell? w _ hu, fun i hi j hj => ?_⟩
    have := (hV i (by omega)).2.1 j hj
    rw [add_plain, ← Nat.add_assoc] at this
    exact this
end
end Go.Proofs.YthdmceeipmmhjaaGreatDoor

/- Worlds in which all that was there is as it was, but for some blocks of the call's own; and drawn regions walked in an order of one's own: quiet operations as soon as they may come up, the others one by one. -/
namespace Go.Proofs.YthdmceeipmmhjaaGreatDoor
open Go.RowKit Go.BigFrame

/-- all blocks but those in O are as they were -/
structure Kept (O : Nat → Prop) (w w' : World) : Prop where
  os : w'.os = w.os
  tape : w'.tape = w.tape
  output : w'.output = w.output
  size : w.heap.size ≤ w'.heap.size
  block : ∀ k, k < w.heap.size → ¬ O k → w'.heap[k]? = w.heap[k]?
theorem Kept.refl (O : Nat → Prop) (w : World) : Kept O w w := ⟨rfl, rfl, rfl, Nat.le_refl _, fun _ _ _ => rfl⟩
theorem Kept.trans {O : Nat → Prop} {a b c : World} (h : Kept O a b) (k : Kept O b c) : Kept O a c :=
  ⟨k.os.trans h.os, k.tape.trans h.tape, k.output.trans h.output, Nat.le_trans h.size k.size, fun i hi ho => (k.block i (Nat.lt_of_lt_of_le hi h.size) ho).trans (h.block i hi ho)⟩
theorem Kept.of_below {O : Nat → Prop} {a b : World} (h : Below a.heap.size a b) : Kept O a b := ⟨h.os, h.tape, h.output, h.size, fun k hk _ => h.block k hk⟩
theorem Kept.of_grown {O : Nat → Prop} {a b : World} {row : Option Nat} (h : a.grownBy b row) (hr : ∀ g, row = some g → g < a.heap.size → O g) : Kept O a b :=
  ⟨h.os, h.tape, h.output, h.size, fun k hk ho => h.block k hk (fun e => ho (hr k e.symm hk))⟩
theorem Kept.cell {O : Nat → Prop} {w w' : World} {p : Addr} {v : Value} (h : Kept O w w') (ho : ¬ O p.block) (hc : w.cell? p = some v) : w'.cell? p = some v :=
  (World.cell?_of_block (h.block p.block (World.block_lt_of_cell? w p hc) ho)).trans hc
theorem Kept.grown {O : Nat → Prop} {a b c : World} (h : Kept O a b) {row : Option Nat} (hg : b.grownBy c row) (hr : ∀ g, row = some g → g < a.heap.size → O g) : Kept O a c :=
  ⟨hg.os.trans h.os, hg.tape.trans h.tape, hg.output.trans h.output, Nat.le_trans h.size hg.size, fun k hk ho => (hg.block k (Nat.lt_of_lt_of_le hk h.size) (fun e => ho (hr k e.symm hk))).trans (h.block k hk ho)⟩
/-- below the base of the call, nothing has turned -/
theorem Kept.below {O : Nat → Prop} {B : Nat} {w a b : World} (hb : Below B w a) (h : Kept O a b) (hB : B ≤ a.heap.size) (hO : ∀ k, k < B → ¬ O k) : Below B w b :=
  hb.trans ⟨h.os, h.tape, h.output, h.size, fun k hk => h.block k (Nat.lt_of_lt_of_le hk hB) (hO k hk)⟩
theorem Kept.row {O : Nat → Prop} {w w' : World} {a : Option Addr} {len k : Nat} {V : Nat → List Value} (h : RowK w a len k V) (hk : Kept O w w') (hO : ∀ b off, a = some ⟨b, off, none⟩ → ¬ O b) : RowK w' a len k V := by
  refine ⟨fun hl => ?_⟩
  obtain ⟨b, off, rfl, hlt, hc⟩ := h.here hl
  exact ⟨b, off, rfl, Nat.lt_of_lt_of_le hlt hk.size, fun i hi j hj => (World.cell?_of_block (hk.block b hlt (hO _ _ rfl))).trans (hc i hi j hj)⟩
def ExtO (O : Nat → Prop) (W : World) : Type := { w : World // Kept O W w }
instance (O : Nat → Prop) (W : World) : Nonempty (ExtO O W) := ⟨⟨W, Kept.refl _ _⟩⟩
section
variable {O : Nat → Prop} {W : World}
theorem ExtO.ex {p : Addr} {v : Value} (ho : ¬ O p.block) (h : W.cell? p = some v) : ∀ X : ExtO O W, X.1.cell? p = some v := fun X => X.2.cell ho h
theorem ExtO.exa {p : Addr} {v : Value} (e : ∀ X : ExtO O W, X.1.cell? p = some v) : ∀ (X : ExtO O W) (o : Obj), (X.1.alloc o).cell? p = some v := fun X o => below_cell (below_al _ o) (e X)
theorem ExtO.re {W' : World} (h : Kept O W W') {p : Addr} {v : Value} (e : ∀ X : ExtO O W, X.1.cell? p = some v) : ∀ X : ExtO O W', X.1.cell? p = some v := fun X => e ⟨X.1, h.trans X.2⟩
theorem ExtO.calls {P : Program} {f : FuncId} {args : Array Value} {v : Value} (X : ExtO O W) (h : Calls P f args X.1 fun e w' => e = .returned v ∧ Below X.1.heap.size X.1 w') : Calls P f args X.1 fun e w'' => e = .returned v ∧ ∃ Y : ExtO O W, w'' = Y.1 :=
  h.mono fun _ w' ⟨he, hb⟩ => ⟨he, ⟨w', X.2.trans (Kept.of_below hb)⟩, rfl⟩
theorem ExtO.same {P : Program} {f : FuncId} {args : Array Value} {v : Value} (X : ExtO O W) (h : Calls P f args X.1 fun e w' => e = .returned v ∧ X.1 = w') : Calls P f args X.1 fun e w'' => e = .returned v ∧ ∃ Y : ExtO O W, w'' = Y.1 :=
  h.mono fun _ _ ⟨he, hb⟩ => ⟨he, X, hb.symm⟩
/-- go on in an arbitrary later world -/
theorem extO_wp {P : Program} {c : Code} {Q : Exit → Act → World → Prop} {a : Act} (h : ∀ X : ExtO O W, c.wp P Q a X.1) : c.wp P Q a W := h ⟨W, Kept.refl _ _⟩
theorem extO_calls {P : Program} {f : FuncId} {args : Array Value} {R : Ending → World → Prop} (h : ∀ X : ExtO O W, Calls P f args X.1 R) : Calls P f args W R := h ⟨W, Kept.refl _ _⟩
theorem ExtO.down (X : ExtO O W) {B : Nat} {w : World} (h : Below B w W) (hB : B ≤ W.heap.size) (hO : ∀ k, k < B → ¬ O k) : Below B w X.1 := Kept.below h X.2 hB hO
theorem wp_region_extO {P : Program} {id : Nat} {Q : Exit → Act → World → Prop} {a : Act} (X : ExtO O W) {l : List Oper} (hm : P.follows .mixedOrders = true) (hB : Region.lexB .any l.toArray = true)
    (h : wpQuiet P l.toArray (fun w' => ∃ Y : ExtO O W, w' = Y.1) (fun a' => ∀ w', (∃ Y : ExtO O W, w' = Y.1) → Q .normal a' w') l a) : (Code.region id l.toArray true).wp P Q a X.1 :=
  wp_region_quiet (C := fun w' => ∃ Y : ExtO O W, w' = Y.1) hm hB ⟨⟨{ X.1 with drawn := X.1.drawn + 1 }, X.2.trans ⟨rfl, rfl, rfl, Nat.le_refl _, fun _ _ _ => rfl⟩⟩, rfl⟩ (by simpa using h)
end

/-- operations that yield a value and do nothing else -/
def isCalm : Op → Bool
  | .move _ | .assign _ | .pick .. | .build .. | .load .. | .binOp .. | .unOp .. | .fieldAddr .. | .field .. | .indexAddr .. | .index .. | .lookup .. | .extract .. | .slice .. => true
  | _ => false
theorem run_val {α : Type} {P : Program} {s : Sem α} (f : α → Value) {w w' : World} {n : Next} (h : (do pure (Next.value (f (← s))) : Sem Next).run P w = .ok n w') : ∃ x, n = .value x := by
  rw [Sem.run_bind] at h
  cases hs : s.run P w with
  | ok x w1 => rw [hs] at h; simp at h; exact ⟨f x, h.1.symm⟩
  | halt e w1 => rw [hs] at h; simp at h
theorem calm_value {P : Program} {o : Oper} {ρ : Operand → Value} {w w' : World} {n : Next} (hc : isCalm o.op = true) (h : (execOp ρ o).run P w = .ok n w') : ∃ x, n = .value x := by
  obtain ⟨dst, op, type, pos, after, guard⟩ := o
  cases op <;> first | (simp [isCalm] at hc; done) | (simp only [execOp] at h; first | exact run_val (fun x => x) h | exact run_val (fun b : Bool => if b then _ else _) h | (simp at h; exact ⟨_, h.1.symm⟩))
section
variable {P : Program} {ops : Array Oper} {Q : Exit → Act → World → Prop} {C : World → Prop}
theorem yieldsIf_of_quiet {o : Oper} {a : Act} {v : Value} (hc : isCalm o.op = true) (hw : Region.wanted o (yielded ops a.tmps) = true) (h : ∀ w, C w → o.quietAt P a C w v) : YieldsIf P ops C o v a := by
  refine Or.inl ⟨hw, fun w hC => ?_⟩
  have h1 := h w hC
  unfold Oper.quietAt at h1
  cases hr : (execOp a.eval o).run P w with
  | ok n w' =>
    rw [hr] at h1
    obtain ⟨x, rfl⟩ := calm_value hc hr
    simp only [Oper.quietUpon] at h1
    rw [h1.1, h1.2]
  | halt e w' => rw [hr] at h1; simp [Oper.quietUpon] at h1
/-- may these come up now, one behind the other, and is each apart from all that could come before it? -/
def calmB (ops : Array Oper) : List Nat → Array Bool → Bool
  | [], _ => true
  | i :: is, listed => ((ops[i]?).map fun o => isCalm o.op).getD false && Region.free .any ops listed i && (Region.ready .any ops listed).contains i && calmB ops is (listed.setIfInBounds i true)
def listAll (is : List Nat) (listed : Array Bool) : Array Bool := is.foldl (fun l i => l.setIfInBounds i true) listed
theorem held_calm (hsel : Region.noSelect ops = true) (hQ : ∀ c a d v w, Q (.panic c) (Act.put a d v) w → Q (.panic c) a w) {w : World} (hC : C w) : ∀ (is : List Nat) (fuel : Nat) (listed : Array Bool) (a : Act),
    calmB ops is listed = true → wpQuiet P ops C (fun a' => wpAnyH P .any ops Q C fuel (listAll is listed) a' w) (is.filterMap fun i => ops[i]?) a → wpAnyH P .any ops Q C (fuel + is.length) listed a w
  | [], _, _, _, _, h => h
  | i :: is, fuel, listed, a, hB, h => by
    simp only [calmB, Bool.and_eq_true] at hB
    obtain ⟨⟨⟨h1, h2⟩, h3⟩, h4⟩ := hB
    cases ho : ops[i]? with
    | none => rw [ho] at h1; simp at h1
    | some o =>
      rw [ho] at h1
      simp only [Option.map_some, Option.getD_some] at h1
      rw [List.filterMap_cons, ho] at h
      simp only [wpQuiet] at h
      have e : fuel + (i :: is).length = (fuel + is.length) + 1 := by simp; omega
      rw [e]
      by_cases hw : Region.wanted o (yielded ops a.tmps) = true
      · rw [if_pos hw] at h
        obtain ⟨v, hv, hn⟩ := h
        exact wpAnyH_take ho hsel h2 h3 (fun c a w => hQ c a _ _ w) (yieldsIf_of_quiet h1 hw hv) hC (held_calm hsel hQ hC is fuel _ _ h4 hn)
      · rw [if_neg hw] at h
        exact wpAnyH_take ho hsel h2 h3 (fun c a w => hQ c a _ _ w) (Or.inr ⟨by simpa using hw, rfl⟩) hC (held_calm hsel hQ hC is fuel _ _ h4 h)
/-- the i-th of a list, by looking -/
def nth : List Oper → Nat → Option Oper
  | [], _ => none
  | o :: _, 0 => some o
  | _ :: l, i + 1 => nth l i
theorem nth_eq : ∀ (l : List Oper) (i : Nat), nth l i = l.toArray[i]?
  | [], i => by simp [nth]
  | o :: l, 0 => by simp [nth]
  | o :: l, i + 1 => by
    rw [nth, nth_eq l i]
    simp
theorem held_quiet {l : List Oper} (hsel : Region.noSelect l.toArray = true) (hQ : ∀ c a d v w, Q (.panic c) (Act.put a d v) w → Q (.panic c) a w) {w : World} (hC : C w) (is : List Nat) (fuel : Nat) (listed : Array Bool) (a : Act)
    (hB : calmB l.toArray is listed = true) (h : wpQuiet P l.toArray C (fun a' => wpAnyH P .any l.toArray Q C fuel (listAll is listed) a' w) (is.filterMap (nth l)) a) : wpAnyH P .any l.toArray Q C (fuel + is.length) listed a w :=
  held_calm hsel hQ hC is fuel listed a hB (by rw [show (fun i => l.toArray[i]?) = nth l from funext fun i => (nth_eq l i).symm]; exact h)
/-- one operation that alone may come up -/
theorem held_do {l : List Oper} {i fuel : Nat} {listed : Array Bool} {a : Act} {w : World} (o : Oper) (hi : nth l i = some o) (hr : Region.ready .any l.toArray listed = [i]) (hw : Region.wanted o (yielded l.toArray a.tmps) = true)
    (h : ∀ K : Act → World → Prop, (∀ a' w', C w' → wpAnyH P .any l.toArray Q C fuel (listed.setIfInBounds i true) a' w' → K a' w') → o.wp P a w K Q) : wpAnyH P .any l.toArray Q C (fuel + 1) listed a w := by
  rw [nth_eq] at hi
  refine wpAnyH_all hr (by simp) fun j hj => ?_
  simp only [List.mem_singleton] at hj
  subst hj
  unfold wpOp
  simp only [hi, hw, if_true]
  exact Or.inl (h _ fun a' w' h1 h2 => ⟨h1, h2⟩)
theorem held_start {id : Nat} {a : Act} {w : World} {l : List Oper} (hm : P.follows .mixedOrders = true)
    (h : wpAnyH P .any l.toArray Q C l.length (Array.replicate l.length false) a { w with drawn := w.drawn + 1 }) : (Code.region id l.toArray true).wp P Q a w :=
  wp_region_held hm (by simpa using h)
end
end Go.Proofs.YthdmceeipmmhjaaGreatDoor

/- The library's strings.Builder at this program: WriteString. (Lines of the kit's worked proof, turned to this program: there copyCheck's last statement is another one.) -/
namespace Go.Proofs.YthdmceeipmmhjaaGreatDoor
open Go.Shelf Go.RowKit

theorem bld_size : (Tryz.prog.info? 41).map (·.size) = some 2 := by kernel_rfl
set_option maxHeartbeats 1000000 in
set_option maxRecDepth 100000 in
theorem copyCheck_used (b : Nat) (w : World) (h0 : w.cell? ⟨b, 0, none⟩ = some (.pointer (some ⟨b, 0, none⟩))) :
    Calls Tryz.prog 35 #[.pointer (some ⟨b, 0, none⟩)] w fun e w' => e = .returned (.tuple #[]) ∧ w' = w := by
  obtain ⟨j, hj, _⟩ := Option.map_eq_some_iff.1 bld_size
  go_enter Tryz.func35, Tryz.ntmps35
  go_wp2
  rw [Lib.run_neq_ptr_same w _ Tryz.underlying38 hj]
  go_wp2
  go_end0
  exact ⟨rfl, rfl⟩
set_option maxHeartbeats 1000000 in
set_option maxRecDepth 100000 in
theorem copyCheck_fresh (b : Nat) (w : World) (h0 : w.cell? ⟨b, 0, none⟩ = some (.pointer none)) (hsh : w.shape? b = some (41, 2)) (hfz : w.frozen? ⟨b, 0, none⟩ = false) :
    Calls Tryz.prog 35 #[.pointer (some ⟨b, 0, none⟩)] w fun e w' => e = .returned (.tuple #[]) ∧ w' = w.setCell ⟨b, 0, none⟩ (.pointer (some ⟨b, 0, none⟩)) := by
  obtain ⟨j, hj, hjs⟩ := Option.map_eq_some_iff.1 bld_size
  go_enter Tryz.func35, Tryz.ntmps35
  go_wp2
  rw [Lib.run_to_unsafe w ⟨b, 0, none⟩ Tryz.underlying38 Tryz.underlying102 hj (by rw [hjs]; decide) hsh (Nat.zero_lt_succ 1)]
  simp only [Result.andThen]
  rw [Oper.upon_value]
  go_wp2
  rw [run_callFunc_extern Tryz.func56 (by kernel_rfl) (by kernel_rfl) (by kernel_rfl) (e := Extern.AbiNoEscape.same) (by kernel_rfl)]
  rw [Lib.run_noEscape]
  simp only [Result.andThen]
  rw [Oper.upon_value]
  go_wp2
  rw [Lib.run_from_unsafe w ⟨b, 0, none⟩ Tryz.underlying102 Tryz.underlying38 hj hsh (by kernel_rfl)]
  simp only [Result.andThen]
  rw [Oper.upon_value]
  go_wp2
  go_end0
  exact ⟨rfl, rfl⟩
theorem kept_set1 {a : World} {b i : Nat} {v : Value} : Kept (fun k => k = b) a (a.setCell ⟨b, i, none⟩ v) := by
  refine ⟨rfl, rfl, rfl, by simp [World.setCell], fun k hk hne => ?_⟩
  simp only [World.setCell]
  rw [Array.getElem?_modify, if_neg (fun e => hne e.symm)]
theorem Kept.weaken2 {O O' : Nat → Prop} {a b : World} (h : Kept O a b) (hO : ∀ q, O q → O' q) : Kept O' a b := ⟨h.os, h.tape, h.output, h.size, fun k hk ho => h.block k hk (fun e => ho (hO k e))⟩
theorem copyCheck_any (B b : Nat) (bs : List Value) (w : World) (h : Lib.IsBuilder 41 5 B b bs w) :
    Calls Tryz.prog 35 #[.pointer (some ⟨b, 0, none⟩)] w fun e w' => e = .returned (.tuple #[]) ∧ (Lib.BuilderAt 41 5 B b (.pointer (some ⟨b, 0, none⟩)) bs w' ∧ Below B w w' ∧ Kept (fun k => k = b) w w' ∧ w'.heap.size = w.heap.size) := by
  rcases h with h | h
  · refine (copyCheck_fresh b w h.cell0 h.shape h.frozen0).mono ?_
    rintro e w' ⟨rfl, rfl⟩
    exact ⟨rfl, h.used _, (Below.refl B w).setCell (p := ⟨b, 0, none⟩) h.1 _, kept_set1, by simp [World.setCell]⟩
  · refine (copyCheck_used b w h.cell0).mono ?_
    rintro e w' ⟨rfl, rfl⟩
    exact ⟨rfl, h, Below.refl B _, Kept.refl _ _, rfl⟩
set_option maxHeartbeats 2000000 in
set_option maxRecDepth 100000 in
theorem writeString_any (B b : Nat) (bs : List Value) (s : ByteArray) (w : World) (h : Lib.IsBuilder 41 5 B b bs w) (hlen : bs.length + s.size ≤ 140737488355328) (hBw : B ≤ w.heap.size) :
    Calls Tryz.prog 12 #[.pointer (some ⟨b, 0, none⟩), .string s] w fun e w' => e = .returned (.tuple #[.int .i64 s.size, .nilIface]) ∧ (Lib.BuilderAt 41 5 B b (.pointer (some ⟨b, 0, none⟩)) (bs ++ Lib.strCells s) w' ∧ Below B w w' ∧ Kept (fun k => k = b ∨ ∃ cs fz, w.heap[k]? = some (.cells cs 5 fz)) w w') := by
  obtain ⟨i0, hi, hz0, hz1, hz2⟩ := info_parts (show (Tryz.prog.info? 5).map (fun i => (i.zero, i.size, i.bytes)) = some (some (.int .u8 0), 1, 1) by kernel_rfl)
  have HU := Lib.hid (show Tryz.prog.underlying 39 = some (.slice 5) by kernel_rfl)
  go_enter Tryz.func12, Tryz.ntmps12
  go_wp2_with (go_at_call 35; refine (copyCheck_any B b bs _ h).mono ?_; rintro e w1 ⟨rfl, h1, hb1, hk1, hz1'⟩; refine Hid.out ?_)
  refine Lib.hid ?_
  obtain ⟨hB, v, hbk, hown, hne⟩ := h1
  have c0 : w1.cell? ⟨b, 0, none⟩ = some (.pointer (some ⟨b, 0, none⟩)) := by rw [Lib.cell_of_heap hbk]; rfl
  have c1 : w1.cell? ⟨b, 1, none⟩ = some v := by rw [Lib.cell_of_heap hbk]; rfl
  go_wp2_with (at_builtin; refine Lib.wpList_append_own_string _ rfl _ _ 39 9 rfl B 5 i0 HU.out Tryz.underlying9 hi hz0 hz1 hz2 _ _ _ rfl hown s rfl ?c3 ?c4 ?c5 ?_)
  case c3 => unfold maxLen; omega
  case c4 => omega
  case c5 => have := hb1.size; omega
  intro v' w2 hown' hgrow _
  have hlt : b < w1.heap.size := by
    rcases Nat.lt_or_ge b w1.heap.size with h' | h'
    · exact h'
    · simp [Array.getElem?_eq_none h'] at hbk
  have hb2 : w2.heap[b]? = some (.cells #[.pointer (some ⟨b, 0, none⟩), v] 41 (0, 0)) := by
    rw [hgrow.block b hlt (fun e => hne e.symm)]
    exact hbk
  have d0 : w2.cell? ⟨b, 0, none⟩ = some (.pointer (some ⟨b, 0, none⟩)) := by rw [Lib.cell_of_heap hb2]; rfl
  have d1 : w2.cell? ⟨b, 1, none⟩ = some v := by rw [Lib.cell_of_heap hb2]; rfl
  have f1 : w2.frozen? ⟨b, 1, none⟩ = false := Lib.frozen_of_heap hb2 1
  obtain ⟨ao, n', cap, rfl⟩ : ∃ ao n' cap, v' = .slice ao n' cap := by
    rcases hown'.2 with ⟨hv, _⟩ | ⟨g, cap, cur, hv, _⟩
    · exact ⟨_, _, _, hv⟩
    · exact ⟨_, _, _, hv⟩
  go_wp2
  go_ret2
  refine ⟨rfl, ?_, ?_, ?_⟩
  · exact Lib.BuilderAt.put (T := 41) (e := 5) hB hb2 (bs' := bs ++ Lib.strCells s) (by simpa [Lib.strCells_length] using hown') (by decide)
  · exact (hb1.grown hgrow (by have := hb1.size; omega) (fun k hk => (hown.lt k hk).1)).setCell (p := ⟨b, 1, none⟩) hB _
  · refine ((hk1.weaken2 fun k e => Or.inl e).trans (Kept.of_grown hgrow fun g hg hgl => ?_)).trans (kept_set1.weaken2 fun k e => Or.inl e)
    refine Or.inr ?_
    rcases hown.2 with ⟨e, _⟩ | ⟨g', cap', cur, e, _, hh, _⟩
    · rw [e] at hg
      simp [Value.ownBlock] at hg
    · rw [e] at hg
      simp only [Value.ownBlock, Option.some.injEq] at hg
      subst hg
      have hne2 : g' ≠ b := fun e2 => hne (by rw [e, e2]; rfl)
      have hgw : g' < w.heap.size := by omega
      exact ⟨cur, (0, 0), (hk1.block g' hgw hne2).symm.trans hh⟩
end Go.Proofs.YthdmceeipmmhjaaGreatDoor

/- Gear: what stays of the variables; numbers as texts; a line (program). -/
namespace Go.Proofs.YthdmceeipmmhjaaGreatDoor
open Go.RowKit Go.BigFrame
open Txt

/-- what the variables of the library hold -/
structure Glo (w : World) : Prop where
  m : ∃ m : Int, w.cell? ⟨0, 0, none⟩ = some (.int .i64 m)
  t : Lib.TabIs Tryz.prog w "internal/strconv.uint64pow10" .u64 Lib.pow10Tab
  s : ∃ tp p, w.var? Tryz.prog "strconv.ErrSyntax" = some #[.iface tp p]
  r : ∃ tp p, w.var? Tryz.prog "strconv.ErrRange" = some #[.iface tp p]
theorem var_below {w w' : World} {nm : String} {cs : Array Value} (h : w.var? Tryz.prog nm = some cs) (hb : Below w.heap.size w w') : w'.var? Tryz.prog nm = some cs := by
  unfold World.var? at h ⊢
  cases hg : Tryz.prog.globalNamed nm with
  | none => rw [hg] at h; cases h
  | some g =>
    rw [hg] at h
    simp only [Option.bind_some] at h ⊢
    have hl : g < w.heap.size := by
      rcases Nat.lt_or_ge g w.heap.size with h' | h'
      · exact h'
      · rw [Array.getElem?_eq_none h'] at h
        cases h
    rw [hb.block g hl]
    exact h
theorem Glo.below {w w' : World} (h : Glo w) (hb : Below w.heap.size w w') : Glo w' := by
  obtain ⟨m, hm⟩ := h.m
  obtain ⟨t1, p1, h1⟩ := h.s
  obtain ⟨t2, p2, h2⟩ := h.r
  exact ⟨⟨m, below_cell hb hm⟩, var_below h.t hb, ⟨t1, p1, var_below h1 hb⟩, ⟨t2, p2, var_below h2 hb⟩⟩
theorem below_grow (w : World) (k : Nat) (os : Array Obj) : Below w.heap.size w (Go.Sort.grow (w.drewN k) os) := by
  refine ⟨rfl, rfl, rfl, ?_, ?_⟩
  · simp [Go.Sort.grow]
  · intro i hi
    simp only [Go.Sort.grow, World.drewN]
    exact Array.getElem?_append_left hi
theorem join_eq (c : UInt8) : ∀ ws : List (List UInt8), Lib.join ws [c] = joinL c ws
  | [] => rfl
  | [w] => by simp [Lib.join, joinL]
  | w :: v :: ws => by
    rw [joinL, ← join_eq c (v :: ws)]
    simp [Lib.join, List.intercalate, List.intersperse]
theorem itoa_any (n : Int) (h0 : -9223372036854775808 ≤ n) (h1 : n ≤ 9223372036854775807) (w : World) (hg : Glo w) :
    Calls Tryz.prog 11 #[.int .i64 n] w fun e w' => e = .returned (.string (itoaB n)) ∧ Below w.heap.size w w' := by
  refine (Tryz.strconv_Itoa n h0 h1 w hg.t).mono ?_
  rintro e w' ⟨rfl, k, os, rfl⟩
  exact ⟨rfl, below_grow w k os⟩
set_option maxHeartbeats 1000000 in
theorem line_any (b o c : Nat) (ws : List ByteArray) (w : World) (hc : ∀ j x, ws[j]? = some x → w.cell? ⟨b, o + j, none⟩ = some (.string x)) (hb : b < w.heap.size) (hl : ws.length ≤ c) (hn : ws.length ≤ 10) (hsz : (joinL 32 (ws.map sB)).length ≤ 1000000) :
    Calls Tryz.prog 13 #[.slice (some ⟨b, o, none⟩) ws.length c] w fun e w' => e = .returned (.string (bt (joinL 32 (ws.map sB) ++ [10]))) ∧ Below w.heap.size w w' := by
  have DJ := Lib.hid (Tryz.strings_Join b o c ws ⟨#[32]⟩ w hc hb (by omega) hl (by
    rw [show (ByteArray.mk #[32]).data.toList = [32] from rfl, join_eq]
    show (joinL 32 (ws.map sB)).length ≤ _
    omega))
  rw [show (ByteArray.mk #[32]).data.toList = [32] from rfl, join_eq] at DJ
  have DJ := Lib.hid (show Calls _ _ _ _ fun e w' => e = .returned (.string (bt (joinL 32 (ws.map sB)))) ∧ _ from DJ.out)
  have hsz2 : (bt (joinL 32 (ws.map sB))).size ≤ 1000000 := hsz
  have hap : bt (joinL 32 (ws.map sB)) ++ ⟨#[10]⟩ = bt (joinL 32 (ws.map sB) ++ [10]) := by
    apply sB_inj
    simp [sB, bt]
  generalize bt (joinL 32 (ws.map sB)) = s at DJ hsz2 hap
  clear hc
  go_enter Tryz.func13, Tryz.ntmps13
  go_wp2_with (go_at_call 36; refine DJ.out.mono ?_; rintro e w1 ⟨rfl, hb1⟩)
  go_ret
  exact ⟨rfl, hb1⟩
end Go.Proofs.YthdmceeipmmhjaaGreatDoor

/- IsName of the program and of the reference (printed by wip/g/gen_name.py). -/
namespace Go.Proofs.YthdmceeipmmhjaaGreatDoor
open Go.RowKit

/-- the first k bytes can stand in a name -/
def allN (s : ByteArray) (k : Nat) : Bool := (s.data.toList.take k).all fun c => nameC c.toNat
theorem allN_step {s : ByteArray} {k : Nat} (hk : k < s.size) (h : allN s k = true) (hc : nameC (s[k].toNat : Int) = true) : allN s (k + 1) = true := by
  unfold allN at h ⊢
  rw [List.take_succ_eq_append_getElem (by simpa using hk), List.all_append, h, Bool.true_and]
  simpa [ByteArray.getElem_eq_getElem_data] using hc
theorem allN_bad {s : ByteArray} {k : Nat} (hk : k < s.size) (hc : nameC (s[k].toNat : Int) = false) : nameB s = false := by
  unfold nameB
  have h1 : (s.data.toList.all fun c => nameC c.toNat) = false := by
    rw [List.all_eq_false]
    exact ⟨s[k], by simp [ByteArray.getElem_eq_getElem_data], by rw [hc]; simp⟩
  rw [h1, Bool.and_false]
theorem nameB_of {s : ByteArray} (h : allN s s.size = true) : nameB s = (decide (1 ≤ s.size) && decide (s.size ≤ 60)) := by
  unfold nameB
  unfold allN at h
  rw [List.take_of_length_le (by simp)] at h
  rw [h, Bool.and_true]
def digB (x : Int) : Bool := decide (48 ≤ x) && decide (x ≤ 57)
theorem digit_any (x : Int) (w : World) : Calls Tryz.prog 48 #[.int .u8 x] w fun e w' => e = .returned (.bool (digB x)) ∧ w = w' := by
  cases h : decide (48 ≤ x)
  all_goals
    go_enter Tryz.func48, Tryz.ntmps48
    go_wp2
    go_ret
    exact ⟨ret_bool (by simp [digB, h]), rfl⟩
theorem rdigit_any (x : Int) (w : World) : Calls Tryz.prog 81 #[.int .u8 x] w fun e w' => e = .returned (.bool (digB x)) ∧ w = w' := by
  cases h : decide (48 ≤ x)
  all_goals
    go_enter Tryz.func81, Tryz.ntmps81
    go_wp2
    go_ret
    exact ⟨ret_bool (by simp [digB, h]), rfl⟩

set_option maxHeartbeats 4000000 in
set_option maxRecDepth 100000 in
theorem isName_any (s : ByteArray) (w : World) (hs : s.size ≤ maxLen) :
    Calls Tryz.prog 29 #[.string s] w fun e w' => e = .returned (.bool (nameB s)) ∧ w = w' := by
  unfold maxLen at hs
  go_enter Tryz.func29, Tryz.ntmps29
  go_wp2_with fail
  go_loop [8] (fun iv => ∃ (k : Nat), iv = .int .i64 k ∧ k ≤ s.size ∧ Hid (allN s k = true)) (fun iv => s.size - (intOf iv).toNat)
  case atStart => exact ⟨0, rfl, by omega, Lib.hid rfl⟩
  case round =>
    obtain ⟨k, rfl, hk, HA⟩ := hrel
    by_cases hlt : k < s.size
    · have t3 : decide ((k : Int) < (s.size : Int)) = true := by rw [decide_eq_true_eq]; omega
      have t3' : decide (k < s.size) = true := by simpa using hlt
      have hub : (s[k].toNat : Int) ≤ 255 := by have := s[k].toNat_lt; omega
      have OKN := fun (h : Hid (nameC (s[k].toNat : Int) = true)) => Lib.hid (allN_step hlt HA.out h.out)
      have BADN := fun (h : Hid (nameC (s[k].toNat : Int) = false)) => allN_bad hlt h.out
      have OKN := Lib.hid OKN
      have BADN := Lib.hid BADN
      have hnn : 0 ≤ (s[k].toNat : Int) := Int.natCast_nonneg _
      obtain ⟨x, hx⟩ : ∃ x : Int, (s[k].toNat : Int) = x := ⟨_, rfl⟩
      rw [hx] at hub hnn OKN BADN
      have hways : (0 ≤ x ∧ x ≤ 44) ∨ (45 ≤ x ∧ x ≤ 45) ∨ (46 ≤ x ∧ x ≤ 46) ∨ (47 ≤ x ∧ x ≤ 47) ∨ (48 ≤ x ∧ x ≤ 57) ∨ (58 ≤ x ∧ x ≤ 64) ∨ (65 ≤ x ∧ x ≤ 90) ∨ (91 ≤ x ∧ x ≤ 94) ∨ (95 ≤ x ∧ x ≤ 95) ∨ (96 ≤ x ∧ x ≤ 96) ∨ (97 ≤ x ∧ x ≤ 122) ∨ (123 ≤ x ∧ x ≤ 255) := by omega
      rcases hways with hways | hways | hways | hways | hways | hways | hways | hways | hways | hways | hways | hways
      · have hx0 : 0 ≤ x := by omega
        have hx1 : x ≤ 44 := by omega
        have d1 : decide ((97 : Int) ≤ x) = false := by rw [decide_eq_false_iff_not]; omega
        have d2 : decide (x ≤ (122 : Int)) = true := by rw [decide_eq_true_eq]; omega
        have d3 : decide ((65 : Int) ≤ x) = false := by rw [decide_eq_false_iff_not]; omega
        have d4 : decide (x ≤ (90 : Int)) = true := by rw [decide_eq_true_eq]; omega
        have b0 : (x != (45 : Int)) = true := by rw [bne_iff_ne]; omega
        have b1 : (x != (95 : Int)) = true := by rw [bne_iff_ne]; omega
        have b2 : (x != (46 : Int)) = true := by rw [bne_iff_ne]; omega
        have hc : nameC x = false := by unfold nameC; simp; omega
        have HC := Lib.hid hc
        have HD := Lib.hid (digit_any x)
        rw [show digB x = false by unfold digB; simp; omega] at HD
        clear hc hx0 hx1 hways
        go_wp2_with fail
        refine (HD.out _).mono ?_
        rintro e w1 ⟨rfl, rfl⟩
        go_wp2_with fail
        go_ret
        exact ⟨ret_bool (BADN.out HC).symm, rfl⟩
      · have hx0 : 45 ≤ x := by omega
        have hx1 : x ≤ 45 := by omega
        have d1 : decide ((97 : Int) ≤ x) = false := by rw [decide_eq_false_iff_not]; omega
        have d2 : decide (x ≤ (122 : Int)) = true := by rw [decide_eq_true_eq]; omega
        have d3 : decide ((65 : Int) ≤ x) = false := by rw [decide_eq_false_iff_not]; omega
        have d4 : decide (x ≤ (90 : Int)) = true := by rw [decide_eq_true_eq]; omega
        have b0 : (x != (45 : Int)) = false := by rw [show x = 45 by omega]; rfl
        have b1 : (x != (95 : Int)) = true := by rw [bne_iff_ne]; omega
        have b2 : (x != (46 : Int)) = true := by rw [bne_iff_ne]; omega
        have hc : nameC x = true := by unfold nameC; simp; omega
        have HC := Lib.hid hc
        have HD := Lib.hid (digit_any x)
        rw [show digB x = false by unfold digB; simp; omega] at HD
        clear hc hx0 hx1 hways
        go_wp2_with fail
        refine (HD.out _).mono ?_
        rintro e w1 ⟨rfl, rfl⟩
        go_wp2_with fail
        go_round
        case rel => exact ⟨k + 1, by go_num, by omega, OKN.out HC⟩
        case measure => simp [intOf]; omega
      · have hx0 : 46 ≤ x := by omega
        have hx1 : x ≤ 46 := by omega
        have d1 : decide ((97 : Int) ≤ x) = false := by rw [decide_eq_false_iff_not]; omega
        have d2 : decide (x ≤ (122 : Int)) = true := by rw [decide_eq_true_eq]; omega
        have d3 : decide ((65 : Int) ≤ x) = false := by rw [decide_eq_false_iff_not]; omega
        have d4 : decide (x ≤ (90 : Int)) = true := by rw [decide_eq_true_eq]; omega
        have b0 : (x != (45 : Int)) = true := by rw [bne_iff_ne]; omega
        have b1 : (x != (95 : Int)) = true := by rw [bne_iff_ne]; omega
        have b2 : (x != (46 : Int)) = false := by rw [show x = 46 by omega]; rfl
        have hc : nameC x = true := by unfold nameC; simp; omega
        have HC := Lib.hid hc
        have HD := Lib.hid (digit_any x)
        rw [show digB x = false by unfold digB; simp; omega] at HD
        clear hc hx0 hx1 hways
        go_wp2_with fail
        refine (HD.out _).mono ?_
        rintro e w1 ⟨rfl, rfl⟩
        go_wp2_with fail
        go_round
        case rel => exact ⟨k + 1, by go_num, by omega, OKN.out HC⟩
        case measure => simp [intOf]; omega
      · have hx0 : 47 ≤ x := by omega
        have hx1 : x ≤ 47 := by omega
        have d1 : decide ((97 : Int) ≤ x) = false := by rw [decide_eq_false_iff_not]; omega
        have d2 : decide (x ≤ (122 : Int)) = true := by rw [decide_eq_true_eq]; omega
        have d3 : decide ((65 : Int) ≤ x) = false := by rw [decide_eq_false_iff_not]; omega
        have d4 : decide (x ≤ (90 : Int)) = true := by rw [decide_eq_true_eq]; omega
        have b0 : (x != (45 : Int)) = true := by rw [bne_iff_ne]; omega
        have b1 : (x != (95 : Int)) = true := by rw [bne_iff_ne]; omega
        have b2 : (x != (46 : Int)) = true := by rw [bne_iff_ne]; omega
        have hc : nameC x = false := by unfold nameC; simp; omega
        have HC := Lib.hid hc
        have HD := Lib.hid (digit_any x)
        rw [show digB x = false by unfold digB; simp; omega] at HD
        clear hc hx0 hx1 hways
        go_wp2_with fail
        refine (HD.out _).mono ?_
        rintro e w1 ⟨rfl, rfl⟩
        go_wp2_with fail
        go_ret
        exact ⟨ret_bool (BADN.out HC).symm, rfl⟩
      · have hx0 : 48 ≤ x := by omega
        have hx1 : x ≤ 57 := by omega
        have d1 : decide ((97 : Int) ≤ x) = false := by rw [decide_eq_false_iff_not]; omega
        have d2 : decide (x ≤ (122 : Int)) = true := by rw [decide_eq_true_eq]; omega
        have d3 : decide ((65 : Int) ≤ x) = false := by rw [decide_eq_false_iff_not]; omega
        have d4 : decide (x ≤ (90 : Int)) = true := by rw [decide_eq_true_eq]; omega
        have b0 : (x != (45 : Int)) = true := by rw [bne_iff_ne]; omega
        have b1 : (x != (95 : Int)) = true := by rw [bne_iff_ne]; omega
        have b2 : (x != (46 : Int)) = true := by rw [bne_iff_ne]; omega
        have hc : nameC x = true := by unfold nameC; simp; omega
        have HC := Lib.hid hc
        have HD := Lib.hid (digit_any x)
        rw [show digB x = true by unfold digB; simp; omega] at HD
        clear hc hx0 hx1 hways
        go_wp2_with fail
        refine (HD.out _).mono ?_
        rintro e w1 ⟨rfl, rfl⟩
        go_wp2_with fail
        go_round
        case rel => exact ⟨k + 1, by go_num, by omega, OKN.out HC⟩
        case measure => simp [intOf]; omega
      · have hx0 : 58 ≤ x := by omega
        have hx1 : x ≤ 64 := by omega
        have d1 : decide ((97 : Int) ≤ x) = false := by rw [decide_eq_false_iff_not]; omega
        have d2 : decide (x ≤ (122 : Int)) = true := by rw [decide_eq_true_eq]; omega
        have d3 : decide ((65 : Int) ≤ x) = false := by rw [decide_eq_false_iff_not]; omega
        have d4 : decide (x ≤ (90 : Int)) = true := by rw [decide_eq_true_eq]; omega
        have b0 : (x != (45 : Int)) = true := by rw [bne_iff_ne]; omega
        have b1 : (x != (95 : Int)) = true := by rw [bne_iff_ne]; omega
        have b2 : (x != (46 : Int)) = true := by rw [bne_iff_ne]; omega
        have hc : nameC x = false := by unfold nameC; simp; omega
        have HC := Lib.hid hc
        have HD := Lib.hid (digit_any x)
        rw [show digB x = false by unfold digB; simp; omega] at HD
        clear hc hx0 hx1 hways
        go_wp2_with fail
        refine (HD.out _).mono ?_
        rintro e w1 ⟨rfl, rfl⟩
        go_wp2_with fail
        go_ret
        exact ⟨ret_bool (BADN.out HC).symm, rfl⟩
      · have hx0 : 65 ≤ x := by omega
        have hx1 : x ≤ 90 := by omega
        have d1 : decide ((97 : Int) ≤ x) = false := by rw [decide_eq_false_iff_not]; omega
        have d2 : decide (x ≤ (122 : Int)) = true := by rw [decide_eq_true_eq]; omega
        have d3 : decide ((65 : Int) ≤ x) = true := by rw [decide_eq_true_eq]; omega
        have d4 : decide (x ≤ (90 : Int)) = true := by rw [decide_eq_true_eq]; omega
        have b0 : (x != (45 : Int)) = true := by rw [bne_iff_ne]; omega
        have b1 : (x != (95 : Int)) = true := by rw [bne_iff_ne]; omega
        have b2 : (x != (46 : Int)) = true := by rw [bne_iff_ne]; omega
        have hc : nameC x = true := by unfold nameC; simp; omega
        have HC := Lib.hid hc
        have HD := Lib.hid (digit_any x)
        rw [show digB x = false by unfold digB; simp; omega] at HD
        clear hc hx0 hx1 hways
        go_wp2_with fail
        go_round
        case rel => exact ⟨k + 1, by go_num, by omega, OKN.out HC⟩
        case measure => simp [intOf]; omega
      · have hx0 : 91 ≤ x := by omega
        have hx1 : x ≤ 94 := by omega
        have d1 : decide ((97 : Int) ≤ x) = false := by rw [decide_eq_false_iff_not]; omega
        have d2 : decide (x ≤ (122 : Int)) = true := by rw [decide_eq_true_eq]; omega
        have d3 : decide ((65 : Int) ≤ x) = true := by rw [decide_eq_true_eq]; omega
        have d4 : decide (x ≤ (90 : Int)) = false := by rw [decide_eq_false_iff_not]; omega
        have b0 : (x != (45 : Int)) = true := by rw [bne_iff_ne]; omega
        have b1 : (x != (95 : Int)) = true := by rw [bne_iff_ne]; omega
        have b2 : (x != (46 : Int)) = true := by rw [bne_iff_ne]; omega
        have hc : nameC x = false := by unfold nameC; simp; omega
        have HC := Lib.hid hc
        have HD := Lib.hid (digit_any x)
        rw [show digB x = false by unfold digB; simp; omega] at HD
        clear hc hx0 hx1 hways
        go_wp2_with fail
        refine (HD.out _).mono ?_
        rintro e w1 ⟨rfl, rfl⟩
        go_wp2_with fail
        go_ret
        exact ⟨ret_bool (BADN.out HC).symm, rfl⟩
      · have hx0 : 95 ≤ x := by omega
        have hx1 : x ≤ 95 := by omega
        have d1 : decide ((97 : Int) ≤ x) = false := by rw [decide_eq_false_iff_not]; omega
        have d2 : decide (x ≤ (122 : Int)) = true := by rw [decide_eq_true_eq]; omega
        have d3 : decide ((65 : Int) ≤ x) = true := by rw [decide_eq_true_eq]; omega
        have d4 : decide (x ≤ (90 : Int)) = false := by rw [decide_eq_false_iff_not]; omega
        have b0 : (x != (45 : Int)) = true := by rw [bne_iff_ne]; omega
        have b1 : (x != (95 : Int)) = false := by rw [show x = 95 by omega]; rfl
        have b2 : (x != (46 : Int)) = true := by rw [bne_iff_ne]; omega
        have hc : nameC x = true := by unfold nameC; simp; omega
        have HC := Lib.hid hc
        have HD := Lib.hid (digit_any x)
        rw [show digB x = false by unfold digB; simp; omega] at HD
        clear hc hx0 hx1 hways
        go_wp2_with fail
        refine (HD.out _).mono ?_
        rintro e w1 ⟨rfl, rfl⟩
        go_wp2_with fail
        go_round
        case rel => exact ⟨k + 1, by go_num, by omega, OKN.out HC⟩
        case measure => simp [intOf]; omega
      · have hx0 : 96 ≤ x := by omega
        have hx1 : x ≤ 96 := by omega
        have d1 : decide ((97 : Int) ≤ x) = false := by rw [decide_eq_false_iff_not]; omega
        have d2 : decide (x ≤ (122 : Int)) = true := by rw [decide_eq_true_eq]; omega
        have d3 : decide ((65 : Int) ≤ x) = true := by rw [decide_eq_true_eq]; omega
        have d4 : decide (x ≤ (90 : Int)) = false := by rw [decide_eq_false_iff_not]; omega
        have b0 : (x != (45 : Int)) = true := by rw [bne_iff_ne]; omega
        have b1 : (x != (95 : Int)) = true := by rw [bne_iff_ne]; omega
        have b2 : (x != (46 : Int)) = true := by rw [bne_iff_ne]; omega
        have hc : nameC x = false := by unfold nameC; simp; omega
        have HC := Lib.hid hc
        have HD := Lib.hid (digit_any x)
        rw [show digB x = false by unfold digB; simp; omega] at HD
        clear hc hx0 hx1 hways
        go_wp2_with fail
        refine (HD.out _).mono ?_
        rintro e w1 ⟨rfl, rfl⟩
        go_wp2_with fail
        go_ret
        exact ⟨ret_bool (BADN.out HC).symm, rfl⟩
      · have hx0 : 97 ≤ x := by omega
        have hx1 : x ≤ 122 := by omega
        have d1 : decide ((97 : Int) ≤ x) = true := by rw [decide_eq_true_eq]; omega
        have d2 : decide (x ≤ (122 : Int)) = true := by rw [decide_eq_true_eq]; omega
        have d3 : decide ((65 : Int) ≤ x) = true := by rw [decide_eq_true_eq]; omega
        have d4 : decide (x ≤ (90 : Int)) = false := by rw [decide_eq_false_iff_not]; omega
        have b0 : (x != (45 : Int)) = true := by rw [bne_iff_ne]; omega
        have b1 : (x != (95 : Int)) = true := by rw [bne_iff_ne]; omega
        have b2 : (x != (46 : Int)) = true := by rw [bne_iff_ne]; omega
        have hc : nameC x = true := by unfold nameC; simp; omega
        have HC := Lib.hid hc
        have HD := Lib.hid (digit_any x)
        rw [show digB x = false by unfold digB; simp; omega] at HD
        clear hc hx0 hx1 hways
        go_wp2_with fail
        go_round
        case rel => exact ⟨k + 1, by go_num, by omega, OKN.out HC⟩
        case measure => simp [intOf]; omega
      · have hx0 : 123 ≤ x := by omega
        have hx1 : x ≤ 255 := by omega
        have d1 : decide ((97 : Int) ≤ x) = true := by rw [decide_eq_true_eq]; omega
        have d2 : decide (x ≤ (122 : Int)) = false := by rw [decide_eq_false_iff_not]; omega
        have d3 : decide ((65 : Int) ≤ x) = true := by rw [decide_eq_true_eq]; omega
        have d4 : decide (x ≤ (90 : Int)) = false := by rw [decide_eq_false_iff_not]; omega
        have b0 : (x != (45 : Int)) = true := by rw [bne_iff_ne]; omega
        have b1 : (x != (95 : Int)) = true := by rw [bne_iff_ne]; omega
        have b2 : (x != (46 : Int)) = true := by rw [bne_iff_ne]; omega
        have hc : nameC x = false := by unfold nameC; simp; omega
        have HC := Lib.hid hc
        have HD := Lib.hid (digit_any x)
        rw [show digB x = false by unfold digB; simp; omega] at HD
        clear hc hx0 hx1 hways
        go_wp2_with fail
        refine (HD.out _).mono ?_
        rintro e w1 ⟨rfl, rfl⟩
        go_wp2_with fail
        go_ret
        exact ⟨ret_bool (BADN.out HC).symm, rfl⟩
    · have t3 : decide ((k : Int) < (s.size : Int)) = false := by rw [decide_eq_false_iff_not]; omega
      have t3' : decide (k < s.size) = false := by simpa using hlt
      obtain rfl : k = s.size := by omega
      have HE := Lib.hid (nameB_of HA.out)
      clear hlt hk
      by_cases h1 : 1 ≤ s.size
      · have t4 : decide ((1 : Int) ≤ (s.size : Int)) = true := by rw [decide_eq_true_eq]; omega
        have t4' : decide (1 ≤ s.size) = true := by simpa using h1
        rw [t4', Bool.true_and] at HE
        by_cases h6 : s.size ≤ 60
        · have t5 : decide ((s.size : Int) ≤ (60 : Int)) = true := by rw [decide_eq_true_eq]; omega
          have t5' : decide (s.size ≤ 60) = true := by simpa using h6
          rw [t5'] at HE
          go_wp2_with fail
          go_ret
          exact ⟨ret_bool HE.out.symm, rfl⟩
        · have t5 : decide ((s.size : Int) ≤ (60 : Int)) = false := by rw [decide_eq_false_iff_not]; omega
          have t5' : decide (s.size ≤ 60) = false := by simpa using h6
          rw [t5'] at HE
          go_wp2_with fail
          go_ret
          exact ⟨ret_bool HE.out.symm, rfl⟩
      · have t4 : decide ((1 : Int) ≤ (s.size : Int)) = false := by rw [decide_eq_false_iff_not]; omega
        have t4' : decide (1 ≤ s.size) = false := by simpa using h1
        rw [t4', Bool.false_and] at HE
        go_wp2_with fail
        go_ret
        exact ⟨ret_bool HE.out.symm, rfl⟩

set_option maxHeartbeats 4000000 in
set_option maxRecDepth 100000 in
theorem risName_any (s : ByteArray) (w : World) (hs : s.size ≤ maxLen) :
    Calls Tryz.prog 58 #[.string s] w fun e w' => e = .returned (.bool (nameB s)) ∧ w = w' := by
  unfold maxLen at hs
  by_cases hsz : 1 ≤ s.size ∧ s.size ≤ 60
  case neg =>
    have HN := Lib.hid (show nameB s = false by unfold nameB; rw [Bool.and_eq_false_iff, Bool.and_eq_false_iff, decide_eq_false_iff_not, decide_eq_false_iff_not]; omega)
    by_cases h1 : s.size < 1
    · have t1 : decide ((s.size : Int) < 1) = true := by rw [decide_eq_true_eq]; omega
      have t1' : decide (s.size < 1) = true := by simpa using h1
      clear hsz h1
      go_enter Tryz.func58, Tryz.ntmps58
      go_wp2_with fail
      go_ret
      exact ⟨ret_bool HN.out.symm, rfl⟩
    · have t1 : decide ((s.size : Int) < 1) = false := by rw [decide_eq_false_iff_not]; omega
      have t2 : decide ((60 : Int) < (s.size : Int)) = true := by rw [decide_eq_true_eq]; omega
      have t2' : decide (60 < s.size) = true := by rw [decide_eq_true_eq]; omega
      clear hsz h1
      go_enter Tryz.func58, Tryz.ntmps58
      go_wp2_with fail
      go_ret
      exact ⟨ret_bool HN.out.symm, rfl⟩
  obtain ⟨hsz1, hsz2⟩ := hsz
  have t1 : decide ((s.size : Int) < 1) = false := by rw [decide_eq_false_iff_not]; omega
  have t2 : decide ((60 : Int) < (s.size : Int)) = false := by rw [decide_eq_false_iff_not]; omega
  go_enter Tryz.func58, Tryz.ntmps58
  go_wp2_with fail
  go_loop [3] (fun iv => ∃ (k : Nat), iv = .int .i64 k ∧ k ≤ s.size ∧ Hid (allN s k = true)) (fun iv => s.size - (intOf iv).toNat)
  case atStart => exact ⟨0, rfl, by omega, Lib.hid rfl⟩
  case round =>
    obtain ⟨k, rfl, hk, HA⟩ := hrel
    by_cases hlt : k < s.size
    · have t3 : decide ((k : Int) < (s.size : Int)) = true := by rw [decide_eq_true_eq]; omega
      have t3' : decide (k < s.size) = true := by simpa using hlt
      have hub : (s[k].toNat : Int) ≤ 255 := by have := s[k].toNat_lt; omega
      have OKN := fun (h : Hid (nameC (s[k].toNat : Int) = true)) => Lib.hid (allN_step hlt HA.out h.out)
      have BADN := fun (h : Hid (nameC (s[k].toNat : Int) = false)) => allN_bad hlt h.out
      have OKN := Lib.hid OKN
      have BADN := Lib.hid BADN
      have hnn : 0 ≤ (s[k].toNat : Int) := Int.natCast_nonneg _
      obtain ⟨x, hx⟩ : ∃ x : Int, (s[k].toNat : Int) = x := ⟨_, rfl⟩
      rw [hx] at hub hnn OKN BADN
      have hways : (0 ≤ x ∧ x ≤ 44) ∨ (45 ≤ x ∧ x ≤ 45) ∨ (46 ≤ x ∧ x ≤ 46) ∨ (47 ≤ x ∧ x ≤ 47) ∨ (48 ≤ x ∧ x ≤ 57) ∨ (58 ≤ x ∧ x ≤ 64) ∨ (65 ≤ x ∧ x ≤ 90) ∨ (91 ≤ x ∧ x ≤ 94) ∨ (95 ≤ x ∧ x ≤ 95) ∨ (96 ≤ x ∧ x ≤ 96) ∨ (97 ≤ x ∧ x ≤ 122) ∨ (123 ≤ x ∧ x ≤ 255) := by omega
      rcases hways with hways | hways | hways | hways | hways | hways | hways | hways | hways | hways | hways | hways
      · have hx0 : 0 ≤ x := by omega
        have hx1 : x ≤ 44 := by omega
        have d1 : decide ((97 : Int) ≤ x) = false := by rw [decide_eq_false_iff_not]; omega
        have d2 : decide (x ≤ (122 : Int)) = true := by rw [decide_eq_true_eq]; omega
        have d3 : decide ((65 : Int) ≤ x) = false := by rw [decide_eq_false_iff_not]; omega
        have d4 : decide (x ≤ (90 : Int)) = true := by rw [decide_eq_true_eq]; omega
        have b0 : (x != (45 : Int)) = true := by rw [bne_iff_ne]; omega
        have b1 : (x != (95 : Int)) = true := by rw [bne_iff_ne]; omega
        have b2 : (x != (46 : Int)) = true := by rw [bne_iff_ne]; omega
        have hc : nameC x = false := by unfold nameC; simp; omega
        have HC := Lib.hid hc
        have HD := Lib.hid (rdigit_any x)
        rw [show digB x = false by unfold digB; simp; omega] at HD
        clear hc hx0 hx1 hways
        go_wp2_with fail
        refine (HD.out _).mono ?_
        rintro e w1 ⟨rfl, rfl⟩
        go_wp2_with fail
        go_ret
        exact ⟨ret_bool (BADN.out HC).symm, rfl⟩
      · have hx0 : 45 ≤ x := by omega
        have hx1 : x ≤ 45 := by omega
        have d1 : decide ((97 : Int) ≤ x) = false := by rw [decide_eq_false_iff_not]; omega
        have d2 : decide (x ≤ (122 : Int)) = true := by rw [decide_eq_true_eq]; omega
        have d3 : decide ((65 : Int) ≤ x) = false := by rw [decide_eq_false_iff_not]; omega
        have d4 : decide (x ≤ (90 : Int)) = true := by rw [decide_eq_true_eq]; omega
        have b0 : (x != (45 : Int)) = false := by rw [show x = 45 by omega]; rfl
        have b1 : (x != (95 : Int)) = true := by rw [bne_iff_ne]; omega
        have b2 : (x != (46 : Int)) = true := by rw [bne_iff_ne]; omega
        have hc : nameC x = true := by unfold nameC; simp; omega
        have HC := Lib.hid hc
        have HD := Lib.hid (rdigit_any x)
        rw [show digB x = false by unfold digB; simp; omega] at HD
        clear hc hx0 hx1 hways
        go_wp2_with fail
        refine (HD.out _).mono ?_
        rintro e w1 ⟨rfl, rfl⟩
        go_wp2_with fail
        go_round
        case rel => exact ⟨k + 1, by go_num, by omega, OKN.out HC⟩
        case measure => simp [intOf]; omega
      · have hx0 : 46 ≤ x := by omega
        have hx1 : x ≤ 46 := by omega
        have d1 : decide ((97 : Int) ≤ x) = false := by rw [decide_eq_false_iff_not]; omega
        have d2 : decide (x ≤ (122 : Int)) = true := by rw [decide_eq_true_eq]; omega
        have d3 : decide ((65 : Int) ≤ x) = false := by rw [decide_eq_false_iff_not]; omega
        have d4 : decide (x ≤ (90 : Int)) = true := by rw [decide_eq_true_eq]; omega
        have b0 : (x != (45 : Int)) = true := by rw [bne_iff_ne]; omega
        have b1 : (x != (95 : Int)) = true := by rw [bne_iff_ne]; omega
        have b2 : (x != (46 : Int)) = false := by rw [show x = 46 by omega]; rfl
        have hc : nameC x = true := by unfold nameC; simp; omega
        have HC := Lib.hid hc
        have HD := Lib.hid (rdigit_any x)
        rw [show digB x = false by unfold digB; simp; omega] at HD
        clear hc hx0 hx1 hways
        go_wp2_with fail
        refine (HD.out _).mono ?_
        rintro e w1 ⟨rfl, rfl⟩
        go_wp2_with fail
        go_round
        case rel => exact ⟨k + 1, by go_num, by omega, OKN.out HC⟩
        case measure => simp [intOf]; omega
      · have hx0 : 47 ≤ x := by omega
        have hx1 : x ≤ 47 := by omega
        have d1 : decide ((97 : Int) ≤ x) = false := by rw [decide_eq_false_iff_not]; omega
        have d2 : decide (x ≤ (122 : Int)) = true := by rw [decide_eq_true_eq]; omega
        have d3 : decide ((65 : Int) ≤ x) = false := by rw [decide_eq_false_iff_not]; omega
        have d4 : decide (x ≤ (90 : Int)) = true := by rw [decide_eq_true_eq]; omega
        have b0 : (x != (45 : Int)) = true := by rw [bne_iff_ne]; omega
        have b1 : (x != (95 : Int)) = true := by rw [bne_iff_ne]; omega
        have b2 : (x != (46 : Int)) = true := by rw [bne_iff_ne]; omega
        have hc : nameC x = false := by unfold nameC; simp; omega
        have HC := Lib.hid hc
        have HD := Lib.hid (rdigit_any x)
        rw [show digB x = false by unfold digB; simp; omega] at HD
        clear hc hx0 hx1 hways
        go_wp2_with fail
        refine (HD.out _).mono ?_
        rintro e w1 ⟨rfl, rfl⟩
        go_wp2_with fail
        go_ret
        exact ⟨ret_bool (BADN.out HC).symm, rfl⟩
      · have hx0 : 48 ≤ x := by omega
        have hx1 : x ≤ 57 := by omega
        have d1 : decide ((97 : Int) ≤ x) = false := by rw [decide_eq_false_iff_not]; omega
        have d2 : decide (x ≤ (122 : Int)) = true := by rw [decide_eq_true_eq]; omega
        have d3 : decide ((65 : Int) ≤ x) = false := by rw [decide_eq_false_iff_not]; omega
        have d4 : decide (x ≤ (90 : Int)) = true := by rw [decide_eq_true_eq]; omega
        have b0 : (x != (45 : Int)) = true := by rw [bne_iff_ne]; omega
        have b1 : (x != (95 : Int)) = true := by rw [bne_iff_ne]; omega
        have b2 : (x != (46 : Int)) = true := by rw [bne_iff_ne]; omega
        have hc : nameC x = true := by unfold nameC; simp; omega
        have HC := Lib.hid hc
        have HD := Lib.hid (rdigit_any x)
        rw [show digB x = true by unfold digB; simp; omega] at HD
        clear hc hx0 hx1 hways
        go_wp2_with fail
        refine (HD.out _).mono ?_
        rintro e w1 ⟨rfl, rfl⟩
        go_wp2_with fail
        go_round
        case rel => exact ⟨k + 1, by go_num, by omega, OKN.out HC⟩
        case measure => simp [intOf]; omega
      · have hx0 : 58 ≤ x := by omega
        have hx1 : x ≤ 64 := by omega
        have d1 : decide ((97 : Int) ≤ x) = false := by rw [decide_eq_false_iff_not]; omega
        have d2 : decide (x ≤ (122 : Int)) = true := by rw [decide_eq_true_eq]; omega
        have d3 : decide ((65 : Int) ≤ x) = false := by rw [decide_eq_false_iff_not]; omega
        have d4 : decide (x ≤ (90 : Int)) = true := by rw [decide_eq_true_eq]; omega
        have b0 : (x != (45 : Int)) = true := by rw [bne_iff_ne]; omega
        have b1 : (x != (95 : Int)) = true := by rw [bne_iff_ne]; omega
        have b2 : (x != (46 : Int)) = true := by rw [bne_iff_ne]; omega
        have hc : nameC x = false := by unfold nameC; simp; omega
        have HC := Lib.hid hc
        have HD := Lib.hid (rdigit_any x)
        rw [show digB x = false by unfold digB; simp; omega] at HD
        clear hc hx0 hx1 hways
        go_wp2_with fail
        refine (HD.out _).mono ?_
        rintro e w1 ⟨rfl, rfl⟩
        go_wp2_with fail
        go_ret
        exact ⟨ret_bool (BADN.out HC).symm, rfl⟩
      · have hx0 : 65 ≤ x := by omega
        have hx1 : x ≤ 90 := by omega
        have d1 : decide ((97 : Int) ≤ x) = false := by rw [decide_eq_false_iff_not]; omega
        have d2 : decide (x ≤ (122 : Int)) = true := by rw [decide_eq_true_eq]; omega
        have d3 : decide ((65 : Int) ≤ x) = true := by rw [decide_eq_true_eq]; omega
        have d4 : decide (x ≤ (90 : Int)) = true := by rw [decide_eq_true_eq]; omega
        have b0 : (x != (45 : Int)) = true := by rw [bne_iff_ne]; omega
        have b1 : (x != (95 : Int)) = true := by rw [bne_iff_ne]; omega
        have b2 : (x != (46 : Int)) = true := by rw [bne_iff_ne]; omega
        have hc : nameC x = true := by unfold nameC; simp; omega
        have HC := Lib.hid hc
        have HD := Lib.hid (rdigit_any x)
        rw [show digB x = false by unfold digB; simp; omega] at HD
        clear hc hx0 hx1 hways
        go_wp2_with fail
        go_round
        case rel => exact ⟨k + 1, by go_num, by omega, OKN.out HC⟩
        case measure => simp [intOf]; omega
      · have hx0 : 91 ≤ x := by omega
        have hx1 : x ≤ 94 := by omega
        have d1 : decide ((97 : Int) ≤ x) = false := by rw [decide_eq_false_iff_not]; omega
        have d2 : decide (x ≤ (122 : Int)) = true := by rw [decide_eq_true_eq]; omega
        have d3 : decide ((65 : Int) ≤ x) = true := by rw [decide_eq_true_eq]; omega
        have d4 : decide (x ≤ (90 : Int)) = false := by rw [decide_eq_false_iff_not]; omega
        have b0 : (x != (45 : Int)) = true := by rw [bne_iff_ne]; omega
        have b1 : (x != (95 : Int)) = true := by rw [bne_iff_ne]; omega
        have b2 : (x != (46 : Int)) = true := by rw [bne_iff_ne]; omega
        have hc : nameC x = false := by unfold nameC; simp; omega
        have HC := Lib.hid hc
        have HD := Lib.hid (rdigit_any x)
        rw [show digB x = false by unfold digB; simp; omega] at HD
        clear hc hx0 hx1 hways
        go_wp2_with fail
        refine (HD.out _).mono ?_
        rintro e w1 ⟨rfl, rfl⟩
        go_wp2_with fail
        go_ret
        exact ⟨ret_bool (BADN.out HC).symm, rfl⟩
      · have hx0 : 95 ≤ x := by omega
        have hx1 : x ≤ 95 := by omega
        have d1 : decide ((97 : Int) ≤ x) = false := by rw [decide_eq_false_iff_not]; omega
        have d2 : decide (x ≤ (122 : Int)) = true := by rw [decide_eq_true_eq]; omega
        have d3 : decide ((65 : Int) ≤ x) = true := by rw [decide_eq_true_eq]; omega
        have d4 : decide (x ≤ (90 : Int)) = false := by rw [decide_eq_false_iff_not]; omega
        have b0 : (x != (45 : Int)) = true := by rw [bne_iff_ne]; omega
        have b1 : (x != (95 : Int)) = false := by rw [show x = 95 by omega]; rfl
        have b2 : (x != (46 : Int)) = true := by rw [bne_iff_ne]; omega
        have hc : nameC x = true := by unfold nameC; simp; omega
        have HC := Lib.hid hc
        have HD := Lib.hid (rdigit_any x)
        rw [show digB x = false by unfold digB; simp; omega] at HD
        clear hc hx0 hx1 hways
        go_wp2_with fail
        refine (HD.out _).mono ?_
        rintro e w1 ⟨rfl, rfl⟩
        go_wp2_with fail
        go_round
        case rel => exact ⟨k + 1, by go_num, by omega, OKN.out HC⟩
        case measure => simp [intOf]; omega
      · have hx0 : 96 ≤ x := by omega
        have hx1 : x ≤ 96 := by omega
        have d1 : decide ((97 : Int) ≤ x) = false := by rw [decide_eq_false_iff_not]; omega
        have d2 : decide (x ≤ (122 : Int)) = true := by rw [decide_eq_true_eq]; omega
        have d3 : decide ((65 : Int) ≤ x) = true := by rw [decide_eq_true_eq]; omega
        have d4 : decide (x ≤ (90 : Int)) = false := by rw [decide_eq_false_iff_not]; omega
        have b0 : (x != (45 : Int)) = true := by rw [bne_iff_ne]; omega
        have b1 : (x != (95 : Int)) = true := by rw [bne_iff_ne]; omega
        have b2 : (x != (46 : Int)) = true := by rw [bne_iff_ne]; omega
        have hc : nameC x = false := by unfold nameC; simp; omega
        have HC := Lib.hid hc
        have HD := Lib.hid (rdigit_any x)
        rw [show digB x = false by unfold digB; simp; omega] at HD
        clear hc hx0 hx1 hways
        go_wp2_with fail
        refine (HD.out _).mono ?_
        rintro e w1 ⟨rfl, rfl⟩
        go_wp2_with fail
        go_ret
        exact ⟨ret_bool (BADN.out HC).symm, rfl⟩
      · have hx0 : 97 ≤ x := by omega
        have hx1 : x ≤ 122 := by omega
        have d1 : decide ((97 : Int) ≤ x) = true := by rw [decide_eq_true_eq]; omega
        have d2 : decide (x ≤ (122 : Int)) = true := by rw [decide_eq_true_eq]; omega
        have d3 : decide ((65 : Int) ≤ x) = true := by rw [decide_eq_true_eq]; omega
        have d4 : decide (x ≤ (90 : Int)) = false := by rw [decide_eq_false_iff_not]; omega
        have b0 : (x != (45 : Int)) = true := by rw [bne_iff_ne]; omega
        have b1 : (x != (95 : Int)) = true := by rw [bne_iff_ne]; omega
        have b2 : (x != (46 : Int)) = true := by rw [bne_iff_ne]; omega
        have hc : nameC x = true := by unfold nameC; simp; omega
        have HC := Lib.hid hc
        have HD := Lib.hid (rdigit_any x)
        rw [show digB x = false by unfold digB; simp; omega] at HD
        clear hc hx0 hx1 hways
        go_wp2_with fail
        go_round
        case rel => exact ⟨k + 1, by go_num, by omega, OKN.out HC⟩
        case measure => simp [intOf]; omega
      · have hx0 : 123 ≤ x := by omega
        have hx1 : x ≤ 255 := by omega
        have d1 : decide ((97 : Int) ≤ x) = true := by rw [decide_eq_true_eq]; omega
        have d2 : decide (x ≤ (122 : Int)) = false := by rw [decide_eq_false_iff_not]; omega
        have d3 : decide ((65 : Int) ≤ x) = true := by rw [decide_eq_true_eq]; omega
        have d4 : decide (x ≤ (90 : Int)) = false := by rw [decide_eq_false_iff_not]; omega
        have b0 : (x != (45 : Int)) = true := by rw [bne_iff_ne]; omega
        have b1 : (x != (95 : Int)) = true := by rw [bne_iff_ne]; omega
        have b2 : (x != (46 : Int)) = true := by rw [bne_iff_ne]; omega
        have hc : nameC x = false := by unfold nameC; simp; omega
        have HC := Lib.hid hc
        have HD := Lib.hid (rdigit_any x)
        rw [show digB x = false by unfold digB; simp; omega] at HD
        clear hc hx0 hx1 hways
        go_wp2_with fail
        refine (HD.out _).mono ?_
        rintro e w1 ⟨rfl, rfl⟩
        go_wp2_with fail
        go_ret
        exact ⟨ret_bool (BADN.out HC).symm, rfl⟩
    · have t3 : decide ((k : Int) < (s.size : Int)) = false := by rw [decide_eq_false_iff_not]; omega
      have t3' : decide (k < s.size) = false := by simpa using hlt
      obtain rfl : k = s.size := by omega
      have HE := Lib.hid (nameB_of HA.out)
      clear hlt hk
      have HE2 := Lib.hid (show nameB s = true by rw [HE.out]; simp; omega)
      go_wp2_with fail
      go_ret
      exact ⟨ret_bool HE2.out.symm, rfl⟩
end Go.Proofs.YthdmceeipmmhjaaGreatDoor

/- Gear: contracts of small functions of the program and of the reference. -/
namespace Go.Proofs.YthdmceeipmmhjaaGreatDoor
open Go.RowKit Go.BigFrame
open Gar (momG endG)

def mountV (s p : ByteArray) (f t : Int) : Value := .agg #[.string s, .string p, .int .i64 f, .int .i64 t]
def useV (n r : ByteArray) (f s x : Int) : Value := .agg #[.string n, .string r, .int .i64 f, .int .i64 s, .int .i64 x]
def inB (n lo hi : Int) : Bool := decide (lo ≤ n) && decide (n ≤ hi)
theorem gin_any (n lo hi : Int) (w : World) : Calls Tryz.prog 30 #[.int .i64 n, .int .i64 lo, .int .i64 hi] w fun e w' => e = .returned (.bool (inB n lo hi)) ∧ w = w' := by
  cases h : decide (lo ≤ n)
  all_goals
    go_enter Tryz.func30, Tryz.ntmps30
    go_wp2
    go_ret
    exact ⟨ret_bool (by simp [inB, h]), rfl⟩
theorem gmoment_any (n : Int) (w : World) : Calls Tryz.prog 49 #[.int .i64 n] w fun e w' => e = .returned (.bool (momG n)) ∧ w = w' := by
  have h := Lib.hid (gin_any n 0 86399999999)
  rw [show inB n 0 86399999999 = momG n from rfl] at h
  go_enter Tryz.func49, Tryz.ntmps49
  go_wp2_with fail
  refine (h.out _).mono ?_
  rintro e w1 ⟨rfl, rfl⟩
  go_wp2_with fail
  go_ret
  exact ⟨rfl, rfl⟩
theorem rout_any (n lo hi : Int) (w : World) : Calls Tryz.prog 59 #[.int .i64 n, .int .i64 lo, .int .i64 hi] w fun e w' => e = .returned (.bool (!inB n lo hi)) ∧ w = w' := by
  cases h : decide (n < lo)
  all_goals
    go_enter Tryz.func59, Tryz.ntmps59
    go_wp2
    go_ret
    refine ⟨ret_bool ?_, rfl⟩
    unfold inB
    simp at h ⊢
    first
      | omega
      | (rw [Bool.eq_iff_iff]; simp; omega)
theorem rmoment_any (n : Int) (w : World) : Calls Tryz.prog 62 #[.int .i64 n] w fun e w' => e = .returned (.bool (momG n)) ∧ w = w' := by
  have h := Lib.hid (rout_any n 0 86399999999)
  rw [show inB n 0 86399999999 = momG n from rfl] at h
  go_enter Tryz.func62, Tryz.ntmps62
  go_wp2_with fail
  refine (h.out _).mono ?_
  rintro e w1 ⟨rfl, rfl⟩
  go_wp2_with fail
  go_ret
  exact ⟨ret_bool (by simp), rfl⟩
theorem gend_any (s p : ByteArray) (f t : Int) (w : World) : Calls Tryz.prog 51 #[mountV s p f t] w fun e w' => e = .returned (.int .i64 (endG t)) ∧ Below w.heap.size w w' := by
  unfold mountV endG
  by_cases h : t < 0
  · rw [if_pos h]
    have t1 : decide (t < 0) = true := by simpa using h
    clear h
    go_enter Tryz.func51, Tryz.ntmps51
    go_wp2
    go_ret
    exact ⟨rfl, (Below.refl _ _).alloc (Nat.le_refl _) _⟩
  · rw [if_neg h]
    have t1 : decide (t < 0) = false := by simpa using h
    clear h
    go_enter Tryz.func51, Tryz.ntmps51
    go_wp2
    go_ret
    exact ⟨rfl, (Below.refl _ _).alloc (Nat.le_refl _) _⟩
theorem rend_any (s p : ByteArray) (f t : Int) (w : World) : Calls Tryz.prog 63 #[mountV s p f t] w fun e w' => e = .returned (.int .i64 (endG t)) ∧ Below w.heap.size w w' := by
  unfold mountV endG
  by_cases h : t < 0
  · rw [if_pos h]
    have t1 : decide (t < 0) = true := by simpa using h
    clear h
    go_enter Tryz.func63, Tryz.ntmps63
    go_wp2
    go_ret
    exact ⟨rfl, (Below.refl _ _).alloc (Nat.le_refl _) _⟩
  · rw [if_neg h]
    have t1 : decide (t < 0) = false := by simpa using h
    clear h
    go_enter Tryz.func63, Tryz.ntmps63
    go_wp2
    go_ret
    exact ⟨rfl, (Below.refl _ _).alloc (Nat.le_refl _) _⟩
/-- a mount has a moment -/
def isG (f t a : Int) : Bool := decide (f ≤ a) && decide (a < endG t)
end Go.Proofs.YthdmceeipmmhjaaGreatDoor

/- Gear: the orders of mounts and of uses. -/
namespace Go.Proofs.YthdmceeipmmhjaaGreatDoor
open Go.RowKit Go.BigFrame

theorem cmpB_lt : ∀ (a b : List UInt8), (Lib.compareBytes a b < 0) ↔ Op.bytesLess a b = true
  | [], [] => by decide
  | [], _ :: _ => by simp [Lib.compareBytes, Op.bytesLess]
  | _ :: _, [] => by simp [Lib.compareBytes, Op.bytesLess]
  | a :: xs, b :: ys => by
    have ih := cmpB_lt xs ys
    unfold Lib.compareBytes Op.bytesLess
    by_cases h1 : a < b
    · simp [h1]
    · by_cases h2 : b < a
      · have : a ≠ b := by rintro rfl; exact absurd h2 (by simp)
        simp [h1, h2, this]
      · have : a = b := UInt8.le_antisymm (UInt8.not_lt.1 h2) (UInt8.not_lt.1 h1)
        subst this
        simp [ih]
theorem cmpB_zero : ∀ (a b : List UInt8), (Lib.compareBytes a b = 0) ↔ a = b
  | [], [] => by decide
  | [], _ :: _ => by simp [Lib.compareBytes]
  | _ :: _, [] => by simp [Lib.compareBytes]
  | a :: xs, b :: ys => by
    have ih := cmpB_zero xs ys
    unfold Lib.compareBytes
    by_cases h1 : a < b
    · have : a ≠ b := by rintro rfl; exact absurd h1 (by simp)
      simp [h1, this]
    · by_cases h2 : b < a
      · have : a ≠ b := by rintro rfl; exact absurd h2 (by simp)
        simp [h1, h2, this]
      · have : a = b := UInt8.le_antisymm (UInt8.not_lt.1 h2) (UInt8.not_lt.1 h1)
        subst this
        simp [ih]
/-- one stands before another one: by moments, then by names -/
def befB (f f' : Int) (s s' : ByteArray) : Bool := decide (f < f') || (decide (f = f') && strLt s s')
def orI (x y : Int) : Int := if x ≠ 0 then x else y
def ordI (f f' : Int) (s s' : ByteArray) : Int := if Lib.compareInt f f' ≠ 0 then Lib.compareInt f f' else Lib.compareBytes s.data.toList s'.data.toList
theorem strLt_cmp (s s' : ByteArray) : strLt s s' = decide (Lib.compareBytes s.data.toList s'.data.toList < 0) := by
  unfold strLt
  rw [ByteArray.toList_eq, ByteArray.toList_eq, Bool.eq_iff_iff, decide_eq_true_eq]
  exact (cmpB_lt _ _).symm
theorem ord_neg (f f' : Int) (s s' : ByteArray) : decide (0 ≤ ordI f f' s s') = !befB f f' s s' := by
  unfold befB ordI
  rw [strLt_cmp]
  have h : Lib.compareInt f f' = if f < f' then -1 else if f > f' then 1 else 0 := rfl
  by_cases h1 : f < f'
  · rw [h, if_pos h1]
    simp [h1]
  · by_cases h2 : f' < f
    · rw [h, if_neg h1, if_pos h2]
      have h3 : ¬ f = f' := by omega
      simp [h1, h3]
    · have h3 : f = f' := by omega
      rw [h, if_neg h1, if_neg h2]
      simp only [ne_eq, not_true_eq_false, if_false]
      rw [Bool.eq_iff_iff]
      simp [h3]

theorem comes_any (s p s' p' : ByteArray) (f t f' t' : Int) (w : World) :
    Calls Tryz.prog 64 #[mountV s p f t, mountV s' p' f' t'] w fun e w' => e = .returned (.bool (befB f f' s s')) ∧ Below w.heap.size w w' := by
  unfold mountV befB strLt
  have HB := Lib.hid (((Below.refl w.heap.size w).alloc (Nat.le_refl _) (.cells #[.string s, .string p, .int .i64 f, .int .i64 t] 52)).alloc (by simp) (.cells #[.string s', .string p', .int .i64 f', .int .i64 t'] 52))
  by_cases h1 : f < f'
  · have t1 : decide (f < f') = true := by simpa using h1
    rw [t1, Bool.true_or]
    clear h1
    go_enter Tryz.func64, Tryz.ntmps64
    go_wp2_with fail
    go_ret
    exact ⟨rfl, HB.out⟩
  · have t1 : decide (f < f') = false := by simpa using h1
    rw [t1, Bool.false_or]
    by_cases h2 : f = f'
    · have t2 : (f == f') = true := by simpa using h2
      rw [show decide (f = f') = true by simpa using h2, Bool.true_and]
      clear h1 h2
      go_enter Tryz.func64, Tryz.ntmps64
      go_wp2_with fail
      go_ret
      exact ⟨rfl, HB.out⟩
    · have t2 : (f == f') = false := by simpa using h2
      rw [show decide (f = f') = false by simpa using h2, Bool.false_and]
      clear h1 h2
      go_enter Tryz.func64, Tryz.ntmps64
      go_wp2_with fail
      go_ret
      exact ⟨rfl, HB.out⟩
theorem first_any (n r n' r' : ByteArray) (f s x f' s' x' : Int) (w : World) :
    Calls Tryz.prog 40 #[useV n r f s x, useV n' r' f' s' x'] w fun e w' => e = .returned (.bool (befB f f' n n')) ∧ Below w.heap.size w w' := by
  unfold useV befB strLt
  have HB := Lib.hid (((Below.refl w.heap.size w).alloc (Nat.le_refl _) (.cells #[.string n, .string r, .int .i64 f, .int .i64 s, .int .i64 x] 54)).alloc (by simp) (.cells #[.string n', .string r', .int .i64 f', .int .i64 s', .int .i64 x'] 54))
  by_cases h1 : f < f'
  · have t1 : decide (f < f') = true := by simpa using h1
    rw [t1, Bool.true_or]
    clear h1
    go_enter Tryz.func40, Tryz.ntmps40
    go_wp2_with fail
    go_ret
    exact ⟨rfl, HB.out⟩
  · have t1 : decide (f < f') = false := by simpa using h1
    rw [t1, Bool.false_or]
    by_cases h2 : f = f'
    · have t2 : (f == f') = true := by simpa using h2
      rw [show decide (f = f') = true by simpa using h2, Bool.true_and]
      clear h1 h2
      go_enter Tryz.func40, Tryz.ntmps40
      go_wp2_with fail
      go_ret
      exact ⟨rfl, HB.out⟩
    · have t2 : (f == f') = false := by simpa using h2
      rw [show decide (f = f') = false by simpa using h2, Bool.false_and]
      clear h1 h2
      go_enter Tryz.func40, Tryz.ntmps40
      go_wp2_with fail
      go_ret
      exact ⟨rfl, HB.out⟩

set_option maxHeartbeats 1000000 in
/-- cmp.Or of two numbers that were just laid -/
theorem or_any (x y : Int) (b : Nat) (w : World) (hc0 : w.cell? ⟨b, 0, none⟩ = some (.int .i64 x)) (hc1 : w.cell? ⟨b, 1, none⟩ = some (.int .i64 y)) :
    Calls Tryz.prog 52 #[.slice (some ⟨b, 0, none⟩) 2 2] w fun e w' => e = .returned (.int .i64 (orI x y)) ∧ w = w' := by
  go_enter Tryz.func52, Tryz.ntmps52
  go_wp2_with fail
  go_loop [8] (fun iv => ∃ (k : Nat), iv = .int .i64 k ∧ k ≤ 2 ∧ Hid ((0 < k → x = 0) ∧ (1 < k → y = 0))) (fun iv => 2 - (intOf iv).toNat)
  case atStart => exact ⟨0, rfl, by omega, Lib.hid ⟨fun h => by omega, fun h => by omega⟩⟩
  case round =>
    obtain ⟨k, rfl, hk, HK⟩ := hrel
    have hways : k = 0 ∨ k = 1 ∨ k = 2 := by omega
    rcases hways with rfl | rfl | rfl
    · by_cases hx : x = 0
      · have t1 : (x != 0) = false := by simpa using hx
        have HX := Lib.hid hx
        clear hx
        go_wp2_with fail
        go_round
        case rel => exact ⟨1, rfl, by omega, Lib.hid ⟨fun _ => HX.out, fun h => by omega⟩⟩
        case measure => simp [intOf]
      · have t1 : (x != 0) = true := by simpa using hx
        have HX := Lib.hid (show orI x y = x by unfold orI; rw [if_pos hx])
        clear hx
        go_wp2_with fail
        go_ret
        exact ⟨ret_int HX.out.symm, rfl⟩
    · by_cases hy : y = 0
      · have t1 : (y != 0) = false := by simpa using hy
        have HY := Lib.hid hy
        clear hy
        go_wp2_with fail
        go_round
        case rel => exact ⟨2, rfl, by omega, Lib.hid ⟨fun _ => HK.out.1 (by omega), fun _ => HY.out⟩⟩
        case measure => simp [intOf]
      · have t1 : (y != 0) = true := by simpa using hy
        have HX := Lib.hid (show orI x y = y by unfold orI; rw [if_neg (fun h => h (HK.out.1 (by omega)))])
        clear hy
        go_wp2_with fail
        go_ret
        exact ⟨ret_int HX.out.symm, rfl⟩
    · have HX := Lib.hid (show orI x y = 0 by unfold orI; rw [HK.out.1 (by omega), HK.out.2 (by omega)]; simp)
      go_wp2_with fail
      go_ret
      exact ⟨ret_int HX.out.symm, rfl⟩

theorem keep4 {w2 W Wn : World} {B : Nat} {x0 x2 y0 y2 : Option Value} (hB : B + 1 < w2.heap.size)
    (h : W.cell? ⟨B, 0, none⟩ = x0 ∧ W.cell? ⟨B, 2, none⟩ = x2 ∧ W.cell? ⟨B + 1, 0, none⟩ = y0 ∧ W.cell? ⟨B + 1, 2, none⟩ = y2 ∧ Below w2.heap.size w2 W) (hb : Below W.heap.size W Wn) :
    Wn.cell? ⟨B, 0, none⟩ = x0 ∧ Wn.cell? ⟨B, 2, none⟩ = x2 ∧ Wn.cell? ⟨B + 1, 0, none⟩ = y0 ∧ Wn.cell? ⟨B + 1, 2, none⟩ = y2 ∧ Below w2.heap.size w2 Wn := by
  obtain ⟨h1, h2, h3, h4, h5⟩ := h
  have hs := h5.size
  exact ⟨(hb.cell (p := ⟨B, 0, none⟩) (by show B < W.heap.size; omega)).trans h1, (hb.cell (p := ⟨B, 2, none⟩) (by show B < W.heap.size; omega)).trans h2,
    (hb.cell (p := ⟨B + 1, 0, none⟩) (by show B + 1 < W.heap.size; omega)).trans h3, (hb.cell (p := ⟨B + 1, 2, none⟩) (by show B + 1 < W.heap.size; omega)).trans h4, h5.trans (hb.mono hs)⟩
set_option maxHeartbeats 2000000 in
set_option maxRecDepth 100000 in
theorem mountOrder_any (s p s' p' : ByteArray) (f t f' t' : Int) (w : World) :
    Calls Tryz.prog 50 #[mountV s p f t, mountV s' p' f' t'] w fun e w' => e = .returned (.int .i64 (ordI f f' s s')) ∧ Below w.heap.size w w' := by
  have D1 := Lib.hid (fun W => Tryz.cmp_Compare_int f f' W)
  have D2 := Lib.hid (fun W => Tryz.strings_Compare s s' W)
  unfold mountV
  rw [show ordI f f' s s' = orI (Lib.compareInt f f') (Lib.compareBytes s.data.toList s'.data.toList) from rfl]
  generalize Lib.compareInt f f' = ci at D1 ⊢
  generalize Lib.compareBytes s.data.toList s'.data.toList = cb at D2 ⊢
  have DO := Lib.hid (fun b W h0 h1 => or_any ci cb b W h0 h1)
  have HB := Lib.hid (((Below.refl w.heap.size w).alloc (Nat.le_refl _) (.cells #[.string s, .string p, .int .i64 f, .int .i64 t] 52)).alloc (by simp) (.cells #[.string s', .string p', .int .i64 f', .int .i64 t'] 52))
  have c0 : ∀ i, ((w.alloc (.cells #[.string s, .string p, .int .i64 f, .int .i64 t] 52)).alloc (.cells #[.string s', .string p', .int .i64 f', .int .i64 t'] 52)).cell? ⟨w.heap.size, i, none⟩ = (#[.string s, .string p, .int .i64 f, .int .i64 t] : Array Value)[i]? := by
    intro i
    rw [World.cell?_alloc_past _ _ _ (by simp), World.cell?_alloc_at _ _ _ _ rfl]
  have c1 : ∀ i, ((w.alloc (.cells #[.string s, .string p, .int .i64 f, .int .i64 t] 52)).alloc (.cells #[.string s', .string p', .int .i64 f', .int .i64 t'] 52)).cell? ⟨w.heap.size + 1, i, none⟩ = (#[.string s', .string p', .int .i64 f', .int .i64 t'] : Array Value)[i]? := by
    intro i
    rw [World.cell?_alloc_at _ _ _ _ (by simp)]
  have a0 : ((w.alloc (.cells #[.string s, .string p, .int .i64 f, .int .i64 t] 52)).alloc (.cells #[.string s', .string p', .int .i64 f', .int .i64 t'] 52)).cell? ⟨w.heap.size, 0, none⟩ = some (.string s) := c0 0
  have a2 : ((w.alloc (.cells #[.string s, .string p, .int .i64 f, .int .i64 t] 52)).alloc (.cells #[.string s', .string p', .int .i64 f', .int .i64 t'] 52)).cell? ⟨w.heap.size, 2, none⟩ = some (.int .i64 f) := c0 2
  have b0 : ((w.alloc (.cells #[.string s, .string p, .int .i64 f, .int .i64 t] 52)).alloc (.cells #[.string s', .string p', .int .i64 f', .int .i64 t'] 52)).cell? ⟨w.heap.size + 1, 0, none⟩ = some (.string s') := c1 0
  have b2 : ((w.alloc (.cells #[.string s, .string p, .int .i64 f, .int .i64 t] 52)).alloc (.cells #[.string s', .string p', .int .i64 f', .int .i64 t'] 52)).cell? ⟨w.heap.size + 1, 2, none⟩ = some (.int .i64 f') := c1 2
  clear c0 c1
  go_enter Tryz.func50, Tryz.ntmps50
  go_wp2_with fail
  have hz : w.heap.size + 1 < ((w.alloc (.cells #[.string s, .string p, .int .i64 f, .int .i64 t] 52)).alloc (.cells #[.string s', .string p', .int .i64 f', .int .i64 t'] 52)).heap.size := by simp only [World.size_alloc]; omega
  generalize ((w.alloc (.cells #[.string s, .string p, .int .i64 f, .int .i64 t] 52)).alloc (.cells #[.string s', .string p', .int .i64 f', .int .i64 t'] 52)) = w2 at HB a0 a2 b0 b2 hz ⊢
  obtain ⟨B, e1⟩ : ∃ B, w.heap.size = B := ⟨_, rfl⟩
  rw [e1] at a0 a2 b0 b2 hz ⊢
  have E1 := Lib.hid e1
  have HZ := Lib.hid hz
  have hbd : Below w2.heap.size w2 w2.drew := (Below.refl _ _).drew
  clear e1 hz
  have hkeep := keep4 (W := w2) (Wn := (w2.alloc (.cells #[.int .i64 ci, .int .i64 cb] 3)).drew) HZ.out ⟨a0, a2, b0, b2, Below.refl _ _⟩ (((Below.refl _ _).alloc (Nat.le_refl _) _).drew)
  have HF := Lib.hid ((HB.out.alloc HB.out.size (.cells #[.int .i64 ci, .int .i64 cb] 3)).drew)
  go_region_held3 (fun w' => w'.cell? ⟨B, 0, none⟩ = some (.string s) ∧ w'.cell? ⟨B, 2, none⟩ = some (.int .i64 f) ∧ w'.cell? ⟨B + 1, 0, none⟩ = some (.string s') ∧ w'.cell? ⟨B + 1, 2, none⟩ = some (.int .i64 f') ∧ Below w2.heap.size w2 w')
    (first
      | go_keep
      | assumption
      | exact keep4 (W := w2) HZ.out ⟨a0, a2, b0, b2, Below.refl _ _⟩ (((Below.refl _ _).alloc (Nat.le_refl _) _).drew)
      | exact keep4 HZ.out (by assumption) ((Below.refl _ _).alloc (Nat.le_refl _) _)
      | (go_split_ands; exact keep4 HZ.out ⟨by assumption, by assumption, by assumption, by assumption, by assumption⟩ ((Below.refl _ _).alloc (Nat.le_refl _) _)))
    (first
      | (go_at_call 53; refine (D1.out _).mono ?_; rintro e wn ⟨rfl, rfl⟩)
      | (go_at_call 54; refine (D2.out _).mono ?_; rintro e wn ⟨rfl, rfl⟩)
      | (go_at_call 52; refine (DO.out _ _ (by show (w2.alloc _).cell? _ = _; rw [World.cell?_alloc_at _ _ _ _ rfl]; rfl) (by show (w2.alloc _).cell? _ = _; rw [World.cell?_alloc_at _ _ _ _ rfl]; rfl)).mono ?_; rintro e wn ⟨rfl, rfl⟩))
  go_wp2
  go_ret
  exact ⟨rfl, HF.out⟩
set_option maxHeartbeats 2000000 in
set_option maxRecDepth 100000 in
theorem useOrder_any (s p s' p' : ByteArray) (f t x f' t' x' : Int) (w : World) :
    Calls Tryz.prog 33 #[useV s p f t x, useV s' p' f' t' x'] w fun e w' => e = .returned (.int .i64 (ordI f f' s s')) ∧ Below w.heap.size w w' := by
  have D1 := Lib.hid (fun W => Tryz.cmp_Compare_int f f' W)
  have D2 := Lib.hid (fun W => Tryz.strings_Compare s s' W)
  unfold useV
  rw [show ordI f f' s s' = orI (Lib.compareInt f f') (Lib.compareBytes s.data.toList s'.data.toList) from rfl]
  generalize Lib.compareInt f f' = ci at D1 ⊢
  generalize Lib.compareBytes s.data.toList s'.data.toList = cb at D2 ⊢
  have DO := Lib.hid (fun b W h0 h1 => or_any ci cb b W h0 h1)
  have HB := Lib.hid (((Below.refl w.heap.size w).alloc (Nat.le_refl _) (.cells #[.string s, .string p, .int .i64 f, .int .i64 t, .int .i64 x] 54)).alloc (by simp) (.cells #[.string s', .string p', .int .i64 f', .int .i64 t', .int .i64 x'] 54))
  have c0 : ∀ i, ((w.alloc (.cells #[.string s, .string p, .int .i64 f, .int .i64 t, .int .i64 x] 54)).alloc (.cells #[.string s', .string p', .int .i64 f', .int .i64 t', .int .i64 x'] 54)).cell? ⟨w.heap.size, i, none⟩ = (#[.string s, .string p, .int .i64 f, .int .i64 t, .int .i64 x] : Array Value)[i]? := by
    intro i
    rw [World.cell?_alloc_past _ _ _ (by simp), World.cell?_alloc_at _ _ _ _ rfl]
  have c1 : ∀ i, ((w.alloc (.cells #[.string s, .string p, .int .i64 f, .int .i64 t, .int .i64 x] 54)).alloc (.cells #[.string s', .string p', .int .i64 f', .int .i64 t', .int .i64 x'] 54)).cell? ⟨w.heap.size + 1, i, none⟩ = (#[.string s', .string p', .int .i64 f', .int .i64 t', .int .i64 x'] : Array Value)[i]? := by
    intro i
    rw [World.cell?_alloc_at _ _ _ _ (by simp)]
  have a0 : ((w.alloc (.cells #[.string s, .string p, .int .i64 f, .int .i64 t, .int .i64 x] 54)).alloc (.cells #[.string s', .string p', .int .i64 f', .int .i64 t', .int .i64 x'] 54)).cell? ⟨w.heap.size, 0, none⟩ = some (.string s) := c0 0
  have a2 : ((w.alloc (.cells #[.string s, .string p, .int .i64 f, .int .i64 t, .int .i64 x] 54)).alloc (.cells #[.string s', .string p', .int .i64 f', .int .i64 t', .int .i64 x'] 54)).cell? ⟨w.heap.size, 2, none⟩ = some (.int .i64 f) := c0 2
  have b0 : ((w.alloc (.cells #[.string s, .string p, .int .i64 f, .int .i64 t, .int .i64 x] 54)).alloc (.cells #[.string s', .string p', .int .i64 f', .int .i64 t', .int .i64 x'] 54)).cell? ⟨w.heap.size + 1, 0, none⟩ = some (.string s') := c1 0
  have b2 : ((w.alloc (.cells #[.string s, .string p, .int .i64 f, .int .i64 t, .int .i64 x] 54)).alloc (.cells #[.string s', .string p', .int .i64 f', .int .i64 t', .int .i64 x'] 54)).cell? ⟨w.heap.size + 1, 2, none⟩ = some (.int .i64 f') := c1 2
  clear c0 c1
  go_enter Tryz.func33, Tryz.ntmps33
  go_wp2_with fail
  have hz : w.heap.size + 1 < ((w.alloc (.cells #[.string s, .string p, .int .i64 f, .int .i64 t, .int .i64 x] 54)).alloc (.cells #[.string s', .string p', .int .i64 f', .int .i64 t', .int .i64 x'] 54)).heap.size := by simp only [World.size_alloc]; omega
  generalize ((w.alloc (.cells #[.string s, .string p, .int .i64 f, .int .i64 t, .int .i64 x] 54)).alloc (.cells #[.string s', .string p', .int .i64 f', .int .i64 t', .int .i64 x'] 54)) = w2 at HB a0 a2 b0 b2 hz ⊢
  obtain ⟨B, e1⟩ : ∃ B, w.heap.size = B := ⟨_, rfl⟩
  rw [e1] at a0 a2 b0 b2 hz ⊢
  have E1 := Lib.hid e1
  have HZ := Lib.hid hz
  have hbd : Below w2.heap.size w2 w2.drew := (Below.refl _ _).drew
  clear e1 hz
  have hkeep := keep4 (W := w2) (Wn := (w2.alloc (.cells #[.int .i64 ci, .int .i64 cb] 3)).drew) HZ.out ⟨a0, a2, b0, b2, Below.refl _ _⟩ (((Below.refl _ _).alloc (Nat.le_refl _) _).drew)
  have HF := Lib.hid ((HB.out.alloc HB.out.size (.cells #[.int .i64 ci, .int .i64 cb] 3)).drew)
  go_region_held3 (fun w' => w'.cell? ⟨B, 0, none⟩ = some (.string s) ∧ w'.cell? ⟨B, 2, none⟩ = some (.int .i64 f) ∧ w'.cell? ⟨B + 1, 0, none⟩ = some (.string s') ∧ w'.cell? ⟨B + 1, 2, none⟩ = some (.int .i64 f') ∧ Below w2.heap.size w2 w')
    (first
      | go_keep
      | assumption
      | exact keep4 (W := w2) HZ.out ⟨a0, a2, b0, b2, Below.refl _ _⟩ (((Below.refl _ _).alloc (Nat.le_refl _) _).drew)
      | exact keep4 HZ.out (by assumption) ((Below.refl _ _).alloc (Nat.le_refl _) _)
      | (go_split_ands; exact keep4 HZ.out ⟨by assumption, by assumption, by assumption, by assumption, by assumption⟩ ((Below.refl _ _).alloc (Nat.le_refl _) _)))
    (first
      | (go_at_call 53; refine (D1.out _).mono ?_; rintro e wn ⟨rfl, rfl⟩)
      | (go_at_call 54; refine (D2.out _).mono ?_; rintro e wn ⟨rfl, rfl⟩)
      | (go_at_call 52; refine (DO.out _ _ (by show (w2.alloc _).cell? _ = _; rw [World.cell?_alloc_at _ _ _ _ rfl]; rfl) (by show (w2.alloc _).cell? _ = _; rw [World.cell?_alloc_at _ _ _ _ rfl]; rfl)).mono ?_; rintro e wn ⟨rfl, rfl⟩))
  go_wp2
  go_ret
  exact ⟨rfl, HF.out⟩
end Go.Proofs.YthdmceeipmmhjaaGreatDoor

/- Gear: a use is checked (printed by wip/g/gen_use.py). -/
namespace Go.Proofs.YthdmceeipmmhjaaGreatDoor
open Go.RowKit Go.BigFrame
open Gar (momG endG chkUse)

set_option maxHeartbeats 2000000 in
set_option maxRecDepth 100000 in
theorem checkUse_any (n r : ByteArray) (f s x : Int) (tw : Bool) (w : World) (hn : n.size ≤ maxLen) (hr : r.size ≤ maxLen) :
    Calls Tryz.prog 32 #[useV n r f s x, .bool tw] w fun e w' => e = .returned (.int .i64 (chkUse n r tw f s x)) ∧ Below w.heap.size w w' := by
  have D1 := Lib.hid (fun W => isName_any n W hn)
  have D2 := Lib.hid (fun W => isName_any r W hr)
  have D3 := Lib.hid (fun W => gmoment_any f W)
  have D4 := Lib.hid (fun W => gin_any s 1 1000000 W)
  have D5 := Lib.hid (fun W => gin_any x 0 1000000000 W)
  have hv : chkUse n r tw f s x = if (nameB n && nameB r) = false then 8 else if tw = true then 5 else if (momG f && inB s 1 1000000 && inB x 0 1000000000) = false then 9 else 0 := by
    unfold chkUse inB
    simp only [Bool.and_assoc]
  rw [hv]
  clear hv hn hr
  unfold useV
  generalize nameB n = b1 at D1 ⊢
  generalize nameB r = b2 at D2 ⊢
  generalize momG f = b3 at D3 ⊢
  generalize inB s 1 1000000 = b4 at D4 ⊢
  generalize inB x 0 1000000000 = b5 at D5 ⊢
  have HB := Lib.hid ((Below.refl w.heap.size w).alloc (Nat.le_refl _) (.cells #[.string n, .string r, .int .i64 f, .int .i64 s, .int .i64 x] 54))
  cases b1
  · go_enter Tryz.func32, Tryz.ntmps32
    go_wp2_with fail
    refine (D1.out _).mono ?_
    rintro e w1 ⟨rfl, rfl⟩
    go_wp2_with fail
    go_ret
    exact ⟨ret_int (by simp), HB.out⟩
  · cases b2
    · go_enter Tryz.func32, Tryz.ntmps32
      go_wp2_with fail
      refine (D1.out _).mono ?_
      rintro e w1 ⟨rfl, rfl⟩
      go_wp2_with fail
      refine (D2.out _).mono ?_
      rintro e w1 ⟨rfl, rfl⟩
      go_wp2_with fail
      go_ret
      exact ⟨ret_int (by simp), HB.out⟩
    · cases tw
      · cases b3
        · go_enter Tryz.func32, Tryz.ntmps32
          go_wp2_with fail
          refine (D1.out _).mono ?_
          rintro e w1 ⟨rfl, rfl⟩
          go_wp2_with fail
          refine (D2.out _).mono ?_
          rintro e w1 ⟨rfl, rfl⟩
          go_wp2_with fail
          refine (D3.out _).mono ?_
          rintro e w1 ⟨rfl, rfl⟩
          go_wp2_with fail
          go_ret
          exact ⟨ret_int (by simp), HB.out⟩
        · cases b4
          · go_enter Tryz.func32, Tryz.ntmps32
            go_wp2_with fail
            refine (D1.out _).mono ?_
            rintro e w1 ⟨rfl, rfl⟩
            go_wp2_with fail
            refine (D2.out _).mono ?_
            rintro e w1 ⟨rfl, rfl⟩
            go_wp2_with fail
            refine (D3.out _).mono ?_
            rintro e w1 ⟨rfl, rfl⟩
            go_wp2_with fail
            refine (D4.out _).mono ?_
            rintro e w1 ⟨rfl, rfl⟩
            go_wp2_with fail
            go_ret
            exact ⟨ret_int (by simp), HB.out⟩
          · cases b5
            · go_enter Tryz.func32, Tryz.ntmps32
              go_wp2_with fail
              refine (D1.out _).mono ?_
              rintro e w1 ⟨rfl, rfl⟩
              go_wp2_with fail
              refine (D2.out _).mono ?_
              rintro e w1 ⟨rfl, rfl⟩
              go_wp2_with fail
              refine (D3.out _).mono ?_
              rintro e w1 ⟨rfl, rfl⟩
              go_wp2_with fail
              refine (D4.out _).mono ?_
              rintro e w1 ⟨rfl, rfl⟩
              go_wp2_with fail
              refine (D5.out _).mono ?_
              rintro e w1 ⟨rfl, rfl⟩
              go_wp2_with fail
              go_ret
              exact ⟨ret_int (by simp), HB.out⟩
            · go_enter Tryz.func32, Tryz.ntmps32
              go_wp2_with fail
              refine (D1.out _).mono ?_
              rintro e w1 ⟨rfl, rfl⟩
              go_wp2_with fail
              refine (D2.out _).mono ?_
              rintro e w1 ⟨rfl, rfl⟩
              go_wp2_with fail
              refine (D3.out _).mono ?_
              rintro e w1 ⟨rfl, rfl⟩
              go_wp2_with fail
              refine (D4.out _).mono ?_
              rintro e w1 ⟨rfl, rfl⟩
              go_wp2_with fail
              refine (D5.out _).mono ?_
              rintro e w1 ⟨rfl, rfl⟩
              go_wp2_with fail
              go_ret
              exact ⟨ret_int (by simp), HB.out⟩
      · go_enter Tryz.func32, Tryz.ntmps32
        go_wp2_with fail
        refine (D1.out _).mono ?_
        rintro e w1 ⟨rfl, rfl⟩
        go_wp2_with fail
        refine (D2.out _).mono ?_
        rintro e w1 ⟨rfl, rfl⟩
        go_wp2_with fail
        go_ret
        exact ⟨ret_int (by simp), HB.out⟩
end Go.Proofs.YthdmceeipmmhjaaGreatDoor

/- Gear: a garage in memory; where a slot, or a part, is (reference). -/
namespace Go.Proofs.YthdmceeipmmhjaaGreatDoor
open Go.RowKit Go.BigFrame

/-- a garage lies in memory -/
structure GarIn (w : World) (g : Gar) (a0 a1 a2 a3 : Option Addr) : Prop where
  r0 : RowK w a0 g.np 2 (fun i => [.string (g.pn i), .int .i64 (g.pc i)])
  r1 : RowK w a1 g.ns 2 (fun i => [.string (g.sn i), .string (g.sr i)])
  r2 : RowK w a2 g.nm 4 (fun i => [.string (g.ms i), .string (g.mp i), .int .i64 (g.mf i), .int .i64 (g.mt i)])
  r3 : RowK w a3 g.nu 5 (fun i => [.string (g.un i), .string (g.ur i), .int .i64 (g.uf i), .int .i64 (g.us i), .int .i64 (g.uw i)])
  z0 : ∀ i, i < g.np → (g.pn i).size ≤ maxLen
  z1 : ∀ i, i < g.ns → (g.sn i).size ≤ maxLen ∧ (g.sr i).size ≤ maxLen
  z2 : ∀ i, i < g.nm → (g.ms i).size ≤ maxLen ∧ (g.mp i).size ≤ maxLen
  z3 : ∀ i, i < g.nu → (g.un i).size ≤ maxLen ∧ (g.ur i).size ≤ maxLen
  l0 : (g.np : Int) ≤ 9223372036854775807
  l1 : (g.ns : Int) ≤ 9223372036854775807
  l2 : (g.nm : Int) ≤ 9223372036854775807
  l3 : (g.nu : Int) ≤ 9223372036854775807
theorem GarIn.below {w w' : World} {g : Gar} {a0 a1 a2 a3 : Option Addr} (h : GarIn w g a0 a1 a2 a3) (hb : Below w.heap.size w w') : GarIn w' g a0 a1 a2 a3 :=
  ⟨h.r0.below hb (Nat.le_refl _), h.r1.below hb (Nat.le_refl _), h.r2.below hb (Nat.le_refl _), h.r3.below hb (Nat.le_refl _), h.z0, h.z1, h.z2, h.z3, h.l0, h.l1, h.l2, h.l3⟩
def garV (g : Gar) (a0 a1 a2 a3 : Option Addr) (c0 c1 c2 c3 : Nat) : Value := .agg #[.slice a0 g.np c0, .slice a1 g.ns c1, .slice a2 g.nm c2, .slice a3 g.nu c3]
/-- the first place, from k on, at which p holds; -1: there is none -/
def idxF (p : Nat → Bool) : Nat → Nat → Int
  | 0, _ => -1
  | n + 1, k => if p k = true then (k : Int) else idxF p n (k + 1)
theorem str_eq (a b : ByteArray) : (a.toList == b.toList) = decide (a = b) := by
  rw [ByteArray.toList_eq, ByteArray.toList_eq, Bool.eq_iff_iff, beq_iff_eq, decide_eq_true_eq]
  exact ⟨fun h => Go.WideShapes.bytes_inj h, fun h => by rw [h]⟩

set_option maxHeartbeats 1000000 in
set_option maxRecDepth 100000 in
theorem slotAt_any (g : Gar) (a0 a1 a2 a3 : Option Addr) (c0 c1 c2 c3 : Nat) (name : ByteArray) (w : World) (h : GarIn w g a0 a1 a2 a3) :
    Calls Tryz.prog 60 #[garV g a0 a1 a2 a3 c0 c1 c2 c3, .string name] w fun e w' => e = .returned (.int .i64 (idxF (fun i => decide (g.sn i = name)) g.ns 0)) ∧ Below w.heap.size w w' := by
  have HG := Lib.hid h
  have hl := h.l1
  clear h
  unfold garV
  obtain ⟨z, hz⟩ : ∃ z, idxF (fun i => decide (g.sn i = name)) g.ns 0 = z := ⟨_, rfl⟩
  rw [hz]
  have HZ := Lib.hid hz
  clear hz
  go_enter Tryz.func60, Tryz.ntmps60
  go_wp2_with fail
  go_loopw [10] (fun iv wr => ∃ (k : Nat), iv = .int .i64 k ∧ k ≤ g.ns ∧ Hid (Below w.heap.size w wr) ∧ Hid (idxF (fun i => decide (g.sn i = name)) (g.ns - k) k = z)) (fun iv _ => g.ns - (intOf iv).toNat)
  case atStart => exact ⟨0, rfl, by omega, Lib.hid ((Below.refl _ _).alloc (Nat.le_refl _) _), HZ⟩
  case round =>
    obtain ⟨k, rfl, hk, HB, HX⟩ := hrel
    by_cases hlt : k < g.ns
    · have t1 : decide ((k : Int) < (g.ns : Int)) = true := by rw [decide_eq_true_eq]; omega
      obtain ⟨b, off, rfl, hbl, hc⟩ := (HG.out.r1.below HB.out (Nat.le_refl _)).here (by omega)
      have e0 : wr.cell? ⟨b, off + k * 2, none⟩ = some (.string (g.sn k)) := hc k hlt 0 (by omega)
      have e1 : wr.cell? ⟨b, off + k * 2 + 1, none⟩ = some (.string (g.sr k)) := hc k hlt 1 (by omega)
      have hx := HX.out
      rw [show g.ns - k = (g.ns - k - 1) + 1 by omega, idxF] at hx
      have HX2 := Lib.hid hx
      have hse := str_eq (g.sn k) name
      have hsz := HB.out.size
      clear hc hx HX
      by_cases he : g.sn k = name
      · rw [show decide (g.sn k = name) = true by simpa using he] at hse
        rw [show decide (g.sn k = name) = true by simpa using he, if_pos rfl] at HX2
        generalize g.sn k = s at e0 hse
        generalize g.sr k = r at e1
        clear he
        go_wp2_with fail
        go_ret
        exact ⟨ret_int HX2.out, HB.out.alloc hsz _⟩
      · rw [show decide (g.sn k = name) = false by simpa using he] at hse
        rw [show decide (g.sn k = name) = false by simpa using he, if_neg (by simp)] at HX2
        generalize g.sn k = s at e0 hse
        generalize g.sr k = r at e1
        clear he
        go_wp2_with fail
        go_roundw
        case rel => exact ⟨k + 1, by go_num, by omega, Lib.hid (HB.out.alloc hsz _), HX2⟩
        case measure => simp [intOf]; omega
    · have t1 : decide ((k : Int) < (g.ns : Int)) = false := by rw [decide_eq_false_iff_not]; omega
      have t1' : decide (k < g.ns) = false := by simpa using hlt
      have hx := HX.out
      rw [show g.ns - k = 0 by omega, idxF] at hx
      have HX2 := Lib.hid hx
      clear hx hlt
      go_wp2_with fail
      go_ret
      exact ⟨ret_int HX2.out, HB.out⟩

set_option maxHeartbeats 1000000 in
set_option maxRecDepth 100000 in
theorem partAt_any (g : Gar) (a0 a1 a2 a3 : Option Addr) (c0 c1 c2 c3 : Nat) (name : ByteArray) (w : World) (h : GarIn w g a0 a1 a2 a3) :
    Calls Tryz.prog 61 #[garV g a0 a1 a2 a3 c0 c1 c2 c3, .string name] w fun e w' => e = .returned (.int .i64 (idxF (fun i => decide (g.pn i = name)) g.np 0)) ∧ Below w.heap.size w w' := by
  have HG := Lib.hid h
  have hl := h.l0
  clear h
  unfold garV
  obtain ⟨z, hz⟩ : ∃ z, idxF (fun i => decide (g.pn i = name)) g.np 0 = z := ⟨_, rfl⟩
  rw [hz]
  have HZ := Lib.hid hz
  clear hz
  go_enter Tryz.func61, Tryz.ntmps61
  go_wp2_with fail
  go_loopw [10] (fun iv wr => ∃ (k : Nat), iv = .int .i64 k ∧ k ≤ g.np ∧ Hid (Below w.heap.size w wr) ∧ Hid (idxF (fun i => decide (g.pn i = name)) (g.np - k) k = z)) (fun iv _ => g.np - (intOf iv).toNat)
  case atStart => exact ⟨0, rfl, by omega, Lib.hid ((Below.refl _ _).alloc (Nat.le_refl _) _), HZ⟩
  case round =>
    obtain ⟨k, rfl, hk, HB, HX⟩ := hrel
    by_cases hlt : k < g.np
    · have t1 : decide ((k : Int) < (g.np : Int)) = true := by rw [decide_eq_true_eq]; omega
      obtain ⟨b, off, rfl, hbl, hc⟩ := (HG.out.r0.below HB.out (Nat.le_refl _)).here (by omega)
      have e0 : wr.cell? ⟨b, off + k * 2, none⟩ = some (.string (g.pn k)) := hc k hlt 0 (by omega)
      have e1 : wr.cell? ⟨b, off + k * 2 + 1, none⟩ = some (.int .i64 (g.pc k)) := hc k hlt 1 (by omega)
      have hx := HX.out
      rw [show g.np - k = (g.np - k - 1) + 1 by omega, idxF] at hx
      have HX2 := Lib.hid hx
      have hse := str_eq (g.pn k) name
      have hsz := HB.out.size
      clear hc hx HX
      by_cases he : g.pn k = name
      · rw [show decide (g.pn k = name) = true by simpa using he] at hse
        rw [show decide (g.pn k = name) = true by simpa using he, if_pos rfl] at HX2
        generalize g.pn k = s at e0 hse
        generalize g.pc k = r at e1
        clear he
        go_wp2_with fail
        go_ret
        exact ⟨ret_int HX2.out, HB.out.alloc hsz _⟩
      · rw [show decide (g.pn k = name) = false by simpa using he] at hse
        rw [show decide (g.pn k = name) = false by simpa using he, if_neg (by simp)] at HX2
        generalize g.pn k = s at e0 hse
        generalize g.pc k = r at e1
        clear he
        go_wp2_with fail
        go_roundw
        case rel => exact ⟨k + 1, by go_num, by omega, Lib.hid (HB.out.alloc hsz _), HX2⟩
        case measure => simp [intOf]; omega
    · have t1 : decide ((k : Int) < (g.np : Int)) = false := by rw [decide_eq_false_iff_not]; omega
      have t1' : decide (k < g.np) = false := by simpa using hlt
      have hx := HX.out
      rw [show g.np - k = 0 by omega, idxF] at hx
      have HX2 := Lib.hid hx
      clear hx hlt
      go_wp2_with fail
      go_ret
      exact ⟨ret_int HX2.out, HB.out⟩
end Go.Proofs.YthdmceeipmmhjaaGreatDoor

/- Gear: what is in a slot at a moment (program and reference). -/
namespace Go.Proofs.YthdmceeipmmhjaaGreatDoor
open Go.RowKit Go.BigFrame

/-- what is in a slot, from mount k on -/
def inF (g : Gar) (slot : ByteArray) (m : Int) : Nat → Nat → Option ByteArray
  | 0, _ => none
  | n + 1, k => if (decide (g.ms k = slot) && isG (g.mf k) (g.mt k) m) = true then some (g.mp k) else inF g slot m n (k + 1)
def inR : Option ByteArray → ByteArray × Bool
  | some p => (p, true)
  | none => (⟨#[]⟩, false)

end Go.Proofs.YthdmceeipmmhjaaGreatDoor

/- Gear: is there a slot, a part? (program; printed by wip/g/gen_has.py) -/
namespace Go.Proofs.YthdmceeipmmhjaaGreatDoor
open Go.RowKit Go.BigFrame

end Go.Proofs.YthdmceeipmmhjaaGreatDoor

/- Gear: '<=' of two strings is the contrary of '<' of the two exchanged. -/
namespace Go.Proofs.YthdmceeipmmhjaaGreatDoor
theorem bl_total : ∀ a b : List UInt8, (Op.bytesLess a b || a == b) = !Op.bytesLess b a
  | [], [] => by decide
  | [], _ :: _ => by simp [Op.bytesLess]
  | _ :: _, [] => by simp [Op.bytesLess]
  | a :: xs, b :: ys => by
    have ih := bl_total xs ys
    unfold Op.bytesLess
    by_cases h1 : a < b
    · have h2 : ¬ b < a := fun h => absurd (UInt8.lt_trans h1 h) (by simp)
      have h3 : b ≠ a := by rintro rfl; exact absurd h1 (by simp)
      simp [h1, h2, h3]
    · by_cases h2 : b < a
      · have h3 : a ≠ b := by rintro rfl; exact absurd h2 (by simp)
        simp [h1, h2, h3]
      · have h3 : a = b := UInt8.le_antisymm (UInt8.not_lt.1 h2) (UInt8.not_lt.1 h1)
        subst h3
        simpa using ih
theorem str_le (a b : ByteArray) : (Op.bytesLess a.toList b.toList || a.toList == b.toList) = !strLt b a := bl_total _ _
end Go.Proofs.YthdmceeipmmhjaaGreatDoor

/- Gear: the reference's look at the parts and slots (printed by wip/g/gen_parts.py). -/
namespace Go.Proofs.YthdmceeipmmhjaaGreatDoor
open Go.RowKit Go.BigFrame
open Gar (chkP chkS)

set_option maxHeartbeats 4000000 in
set_option maxRecDepth 100000 in
theorem rcheckParts_any (g : Gar) (a0 a1 a2 a3 : Option Addr) (c0 c1 c2 c3 : Nat) (w : World) (h : GarIn w g a0 a1 a2 a3) :
    Calls Tryz.prog 37 #[garV g a0 a1 a2 a3 c0 c1 c2 c3] w fun e w' => e = .returned (.int .i64 (if chkP g g.np 0 ≠ 0 then chkP g g.np 0 else chkS g g.ns 0)) ∧ Below w.heap.size w w' := by
  have HG := Lib.hid h
  have hl0 := h.l0
  have hl1 := h.l1
  clear h
  unfold garV
  obtain ⟨z0, hz0⟩ : ∃ z, chkP g g.np 0 = z := ⟨_, rfl⟩
  obtain ⟨z1, hz1⟩ : ∃ z, chkS g g.ns 0 = z := ⟨_, rfl⟩
  obtain ⟨zz, hzz⟩ : ∃ zz, (if z0 ≠ 0 then z0 else z1) = zz := ⟨_, rfl⟩
  rw [hz0, hz1, hzz]
  have HZ0 := Lib.hid hz0
  have HZ1 := Lib.hid hz1
  have HZZ := Lib.hid hzz
  clear hz0 hz1 hzz
  go_enter Tryz.func37, Tryz.ntmps37
  go_wp2_with fail
  go_loopw [10] (fun iv wr => ∃ (k : Nat), iv = .int .i64 k ∧ k ≤ g.np ∧ Hid (Below w.heap.size w wr) ∧ wr.cell? ⟨w.heap.size, 0, none⟩ = some (.slice a0 g.np c0) ∧ wr.cell? ⟨w.heap.size, 1, none⟩ = some (.slice a1 g.ns c1) ∧ Hid (w.heap.size < wr.heap.size) ∧ Hid (chkP g (g.np - k) k = z0)) (fun iv _ => g.np - (intOf iv).toNat)
  case atStart => exact ⟨0, rfl, by omega, Lib.hid ((Below.refl _ _).alloc (Nat.le_refl _) _), by rw [World.cell?_alloc_at _ _ _ _ rfl]; rfl, by rw [World.cell?_alloc_at _ _ _ _ rfl]; rfl, Lib.hid (by simp), HZ0⟩
  case round =>
    obtain ⟨k, rfl, hk, HB, b0, b1, HS, HX⟩ := hrel
    have hs := HS.out
    by_cases hlt : k < g.np
    · have t1 : decide ((k : Int) < (g.np : Int)) = true := by rw [decide_eq_true_eq]; omega
      obtain ⟨b, off, rfl, hbl, hc⟩ := (HG.out.r0.below HB.out (Nat.le_refl _)).here (by omega)
      have e0 : wr.cell? ⟨b, off + k * 2, none⟩ = some (.string (g.pn k)) := hc k hlt 0 (by omega)
      have e1 : wr.cell? ⟨b, off + k * 2 + 1, none⟩ = some (.int .i64 (g.pc k)) := hc k hlt 1 (by omega)
      have hx := HX.out
      rw [show g.np - k = (g.np - k - 1) + 1 by omega, chkP] at hx
      have HX2 := Lib.hid hx
      have hsz := HB.out.size
      have DN := Lib.hid (fun W => risName_any (g.pn k) W (HG.out.z0 k hlt))
      clear hx HX
      cases hnm : nameB (g.pn k)
      · rw [hnm] at DN HX2
        rw [if_pos rfl] at HX2
        generalize g.pn k = s at e0 DN
        clear hnm hc
        go_wp2_with fail
        refine (DN.out _).mono ?_
        rintro e w2 ⟨rfl, rfl⟩
        go_wp2_with fail
        go_ret
        exact ⟨ret_int (by rw [← HZZ.out, ← HX2.out] <;> simp), HB.out.alloc hsz _⟩
      · rw [hnm] at DN HX2
        rw [if_neg (by simp)] at HX2

        by_cases hk0 : 0 < k
        · obtain ⟨q, rfl⟩ : ∃ q, k = q + 1 := ⟨k - 1, by omega⟩
          have p0 : wr.cell? ⟨b, off + q * 2, none⟩ = some (.string (g.pn q)) := hc q (by omega) 0 (by omega)
          have hle := str_le (g.pn (q + 1)) (g.pn q)
          rw [show q + 1 - 1 = q from rfl] at HX2
          have g0 : decide ((0 : Int) < ((q + 1 : Nat) : Int)) = true := by rw [decide_eq_true_eq]; omega
          have g0' : decide (0 < q + 1) = true := by simp
          generalize g.pn (q + 1) = s at e0 DN hle HX2
          generalize g.pn q = s' at p0 hle HX2
          generalize g.pc (q + 1) = c at e1 HX2 
          clear hnm hc hk0
          cases hlt2 : strLt s' s
          · rw [hlt2] at hle HX2
            rw [if_pos ⟨by omega, rfl⟩] at HX2
            clear hlt2
            go_wp2_with fail
            refine (DN.out _).mono ?_
            rintro e w2 ⟨rfl, rfl⟩
            go_wp2_with fail
            go_quiet (fail)
            go_wp2_with fail
            go_ret
            exact ⟨ret_int (by rw [← HZZ.out, ← HX2.out] <;> simp), below_drewN (HB.out.alloc hsz _) _⟩
          · rw [hlt2] at hle HX2
            rw [if_neg (by simp)] at HX2
            clear hlt2
            have D := Lib.hid (fun W => rout_any c 0 1000000000 W)
            cases hb : inB c 0 1000000000
            · rw [hb] at D
              rw [if_pos (by unfold inB at hb; simp at hb; omega)] at HX2
              clear hb
              go_wp2_with fail
              refine (DN.out _).mono ?_
              rintro e w2 ⟨rfl, rfl⟩
              go_wp2_with fail
              go_quiet (fail)
              go_wp2_with fail
              refine (D.out _).mono ?_
              rintro e w2 ⟨rfl, rfl⟩
              go_wp2_with fail
              go_ret
              exact ⟨ret_int (by rw [← HZZ.out, ← HX2.out] <;> simp), below_drewN (HB.out.alloc hsz _) _⟩
            · rw [hb] at D
              rw [if_neg (by unfold inB at hb; simp at hb; omega)] at HX2
              clear hb
              go_wp2_with fail
              refine (DN.out _).mono ?_
              rintro e w2 ⟨rfl, rfl⟩
              go_wp2_with fail
              go_quiet (fail)
              go_wp2_with fail
              refine (D.out _).mono ?_
              rintro e w2 ⟨rfl, rfl⟩
              go_wp2_with fail
              go_roundw
              case rel => exact ⟨q + 1 + 1, by go_num, by omega, Lib.hid (below_drewN (HB.out.alloc hsz _) _), below_cell (below_ad _ _ _) b0, below_cell (below_ad _ _ _) b1, Lib.hid (by simp; omega), HX2⟩
              case measure => simp [intOf]; omega
        · obtain rfl : k = 0 := by omega
          rw [if_neg (by omega)] at HX2
          have g0 : decide ((0 : Int) < ((0 : Nat) : Int)) = false := by simp
          have g0' : decide ((0 : Int) < (0 : Int)) = false := by simp
          simp only [Nat.zero_mul, Nat.add_zero] at e0 e1
          generalize g.pn 0 = s at e0 DN
          generalize g.pc 0 = c at e1 HX2 
          clear hnm hc hk0
          have D := Lib.hid (fun W => rout_any c 0 1000000000 W)
          cases hb : inB c 0 1000000000
          · rw [hb] at D
            rw [if_pos (by unfold inB at hb; simp at hb; omega)] at HX2
            clear hb
            go_wp2_with fail
            refine (DN.out _).mono ?_
            rintro e w2 ⟨rfl, rfl⟩
            go_wp2_with fail
            go_quiet (fail)
            go_wp2_with fail
            refine (D.out _).mono ?_
            rintro e w2 ⟨rfl, rfl⟩
            go_wp2_with fail
            go_ret
            exact ⟨ret_int (by rw [← HZZ.out, ← HX2.out] <;> simp), below_drewN (HB.out.alloc hsz _) _⟩
          · rw [hb] at D
            rw [if_neg (by unfold inB at hb; simp at hb; omega)] at HX2
            clear hb
            go_wp2_with fail
            refine (DN.out _).mono ?_
            rintro e w2 ⟨rfl, rfl⟩
            go_wp2_with fail
            go_quiet (fail)
            go_wp2_with fail
            refine (D.out _).mono ?_
            rintro e w2 ⟨rfl, rfl⟩
            go_wp2_with fail
            go_roundw
            case rel => exact ⟨0 + 1, by go_num, by omega, Lib.hid (below_drewN (HB.out.alloc hsz _) _), below_cell (below_ad _ _ _) b0, below_cell (below_ad _ _ _) b1, Lib.hid (by simp; omega), HX2⟩
            case measure => simp [intOf]; omega
    · have t1 : decide ((k : Int) < (g.np : Int)) = false := by rw [decide_eq_false_iff_not]; omega
      have t1' : decide (k < g.np) = false := by simpa using hlt
      have hx := HX.out
      rw [show g.np - k = 0 by omega, chkP] at hx
      have HX2 := Lib.hid hx
      clear hx hlt HX
      have HZ : Hid (z0 = 0) := Lib.hid HX2.out.symm
      clear HX2 HZ0
      go_wp2_with fail
      obtain ⟨wo, rfl⟩ : ∃ wo : World, wo = wr := ⟨_, rfl⟩
      have HBo := HB
      have HSo := HS
      clear HB HS hs
      go_loopw [40] (fun iv wr => ∃ (k : Nat), iv = .int .i64 k ∧ k ≤ g.ns ∧ Hid (Below w.heap.size w wr) ∧ wr.cell? ⟨w.heap.size, 0, none⟩ = some (.slice a0 g.np c0) ∧ wr.cell? ⟨w.heap.size, 1, none⟩ = some (.slice a1 g.ns c1) ∧ Hid (w.heap.size < wr.heap.size) ∧ Hid (chkS g (g.ns - k) k = z1)) (fun iv _ => g.ns - (intOf iv).toNat)
      case atStart => exact ⟨0, rfl, by omega, HBo, by assumption, by assumption, HSo, HZ1⟩
      case round =>
        obtain ⟨k, rfl, hk, HB, b0, b1, HS, HX⟩ := hrel
        have hs := HS.out
        by_cases hlt : k < g.ns
        · have t1 : decide ((k : Int) < (g.ns : Int)) = true := by rw [decide_eq_true_eq]; omega
          obtain ⟨b, off, rfl, hbl, hc⟩ := (HG.out.r1.below HB.out (Nat.le_refl _)).here (by omega)
          have e0 : wr.cell? ⟨b, off + k * 2, none⟩ = some (.string (g.sn k)) := hc k hlt 0 (by omega)
          have e1 : wr.cell? ⟨b, off + k * 2 + 1, none⟩ = some (.string (g.sr k)) := hc k hlt 1 (by omega)
          have hx := HX.out
          rw [show g.ns - k = (g.ns - k - 1) + 1 by omega, chkS] at hx
          have HX2 := Lib.hid hx
          have hsz := HB.out.size
          have DN := Lib.hid (fun W => risName_any (g.sn k) W ((HG.out.z1 k hlt).1))
          clear hx HX
          cases hnm : nameB (g.sn k)
          · rw [hnm] at DN HX2
            rw [if_pos rfl] at HX2
            generalize g.sn k = s at e0 DN
            clear hnm hc
            go_wp2_with fail
            refine (DN.out _).mono ?_
            rintro e w2 ⟨rfl, rfl⟩
            go_wp2_with fail
            go_ret
            exact ⟨ret_int (by rw [← HZZ.out, if_neg (fun h => h HZ.out), ← HX2.out] <;> simp), HB.out.alloc hsz _⟩
          · rw [hnm] at DN HX2
            rw [if_neg (by simp)] at HX2
            have hrs := (HG.out.z1 k hlt).2
            by_cases hk0 : 0 < k
            · obtain ⟨q, rfl⟩ : ∃ q, k = q + 1 := ⟨k - 1, by omega⟩
              have p0 : wr.cell? ⟨b, off + q * 2, none⟩ = some (.string (g.sn q)) := hc q (by omega) 0 (by omega)
              have hle := str_le (g.sn (q + 1)) (g.sn q)
              rw [show q + 1 - 1 = q from rfl] at HX2
              have g0 : decide ((0 : Int) < ((q + 1 : Nat) : Int)) = true := by rw [decide_eq_true_eq]; omega
              have g0' : decide (0 < q + 1) = true := by simp
              generalize g.sn (q + 1) = s at e0 DN hle HX2
              generalize g.sn q = s' at p0 hle HX2
              generalize g.sr (q + 1) = c at e1 HX2 hrs
              clear hnm hc hk0
              cases hlt2 : strLt s' s
              · rw [hlt2] at hle HX2
                rw [if_pos ⟨by omega, rfl⟩] at HX2
                clear hlt2
                go_wp2_with fail
                refine (DN.out _).mono ?_
                rintro e w2 ⟨rfl, rfl⟩
                go_wp2_with fail
                go_quiet (fail)
                go_wp2_with fail
                go_ret
                exact ⟨ret_int (by rw [← HZZ.out, if_neg (fun h => h HZ.out), ← HX2.out] <;> simp), below_drewN (HB.out.alloc hsz _) _⟩
              · rw [hlt2] at hle HX2
                rw [if_neg (by simp)] at HX2
                clear hlt2
                have D := Lib.hid (fun W => risName_any c W hrs)
                cases hb : nameB c
                · rw [hb] at D
                  rw [if_pos (hb)] at HX2
                  clear hb
                  go_wp2_with fail
                  refine (DN.out _).mono ?_
                  rintro e w2 ⟨rfl, rfl⟩
                  go_wp2_with fail
                  go_quiet (fail)
                  go_wp2_with fail
                  refine (D.out _).mono ?_
                  rintro e w2 ⟨rfl, rfl⟩
                  go_wp2_with fail
                  go_ret
                  exact ⟨ret_int (by rw [← HZZ.out, if_neg (fun h => h HZ.out), ← HX2.out] <;> simp), below_drewN (HB.out.alloc hsz _) _⟩
                · rw [hb] at D
                  rw [if_neg (by rw [hb]; simp)] at HX2
                  clear hb
                  go_wp2_with fail
                  refine (DN.out _).mono ?_
                  rintro e w2 ⟨rfl, rfl⟩
                  go_wp2_with fail
                  go_quiet (fail)
                  go_wp2_with fail
                  refine (D.out _).mono ?_
                  rintro e w2 ⟨rfl, rfl⟩
                  go_wp2_with fail
                  go_roundw
                  case rel => exact ⟨q + 1 + 1, by go_num, by omega, Lib.hid (below_drewN (HB.out.alloc hsz _) _), below_cell (below_ad _ _ _) b0, below_cell (below_ad _ _ _) b1, Lib.hid (by simp; omega), HX2⟩
                  case measure => simp [intOf]; omega
            · obtain rfl : k = 0 := by omega
              rw [if_neg (by omega)] at HX2
              have g0 : decide ((0 : Int) < ((0 : Nat) : Int)) = false := by simp
              have g0' : decide ((0 : Int) < (0 : Int)) = false := by simp
              simp only [Nat.zero_mul, Nat.add_zero] at e0 e1
              generalize g.sn 0 = s at e0 DN
              generalize g.sr 0 = c at e1 HX2 hrs
              clear hnm hc hk0
              have D := Lib.hid (fun W => risName_any c W hrs)
              cases hb : nameB c
              · rw [hb] at D
                rw [if_pos (hb)] at HX2
                clear hb
                go_wp2_with fail
                refine (DN.out _).mono ?_
                rintro e w2 ⟨rfl, rfl⟩
                go_wp2_with fail
                go_quiet (fail)
                go_wp2_with fail
                refine (D.out _).mono ?_
                rintro e w2 ⟨rfl, rfl⟩
                go_wp2_with fail
                go_ret
                exact ⟨ret_int (by rw [← HZZ.out, if_neg (fun h => h HZ.out), ← HX2.out] <;> simp), below_drewN (HB.out.alloc hsz _) _⟩
              · rw [hb] at D
                rw [if_neg (by rw [hb]; simp)] at HX2
                clear hb
                go_wp2_with fail
                refine (DN.out _).mono ?_
                rintro e w2 ⟨rfl, rfl⟩
                go_wp2_with fail
                go_quiet (fail)
                go_wp2_with fail
                refine (D.out _).mono ?_
                rintro e w2 ⟨rfl, rfl⟩
                go_wp2_with fail
                go_roundw
                case rel => exact ⟨0 + 1, by go_num, by omega, Lib.hid (below_drewN (HB.out.alloc hsz _) _), below_cell (below_ad _ _ _) b0, below_cell (below_ad _ _ _) b1, Lib.hid (by simp; omega), HX2⟩
                case measure => simp [intOf]; omega
        · have t1 : decide ((k : Int) < (g.ns : Int)) = false := by rw [decide_eq_false_iff_not]; omega
          have t1' : decide (k < g.ns) = false := by simpa using hlt
          have hx := HX.out
          rw [show g.ns - k = 0 by omega, chkS] at hx
          have HX2 := Lib.hid hx
          clear hx hlt HX
          go_wp2_with fail
          go_ret
          exact ⟨ret_int (by rw [← HZZ.out, if_neg (fun h => h HZ.out), ← HX2.out]), HB.out⟩
end Go.Proofs.YthdmceeipmmhjaaGreatDoor

/- Gear: two mounts overlap (reference). -/
namespace Go.Proofs.YthdmceeipmmhjaaGreatDoor
open Go.RowKit Go.BigFrame
open Gar (endG)

def overM (s p s' p' : ByteArray) (f t f' t' : Int) : Bool := (decide (s = s') || decide (p = p')) && decide (max f f' < min (endG t) (endG t'))
set_option maxHeartbeats 2000000 in
set_option maxRecDepth 100000 in
theorem overlap_any (s p s' p' : ByteArray) (f t f' t' : Int) (w : World) :
    Calls Tryz.prog 65 #[mountV s p f t, mountV s' p' f' t'] w fun e w' => e = .returned (.bool (overM s p s' p' f t f' t')) ∧ Below w.heap.size w w' := by
  have D1 := Lib.hid (fun W => rend_any s p f t W)
  have D2 := Lib.hid (fun W => rend_any s' p' f' t' W)
  have h1 := str_eq s s'
  have h2 := str_eq p p'
  unfold overM
  unfold mountV at D1 D2 ⊢
  generalize endG t = en at D1 ⊢
  generalize endG t' = en' at D2 ⊢
  generalize decide (s = s') = b1 at h1 ⊢
  generalize decide (p = p') = b2 at h2 ⊢
  have HB := Lib.hid (((Below.refl w.heap.size w).alloc (Nat.le_refl _) (.cells #[.string s, .string p, .int .i64 f, .int .i64 t] 52)).alloc (by simp) (.cells #[.string s', .string p', .int .i64 f', .int .i64 t'] 52))
  obtain ⟨W, hW⟩ : ∃ W, ((w.alloc (.cells #[.string s, .string p, .int .i64 f, .int .i64 t] 52)).alloc (.cells #[.string s', .string p', .int .i64 f', .int .i64 t'] 52)) = W := ⟨_, rfl⟩
  have e0 : ∀ i v, (#[.string s, .string p, .int .i64 f, .int .i64 t] : Array Value)[i]? = some v → W.cell? ⟨w.heap.size, i, none⟩ = some v := by
    intro i v h
    rw [← hW, World.cell?_alloc_past _ _ _ (by simp), World.cell?_alloc_at _ _ _ _ rfl, h]
  have e1 : ∀ i v, (#[.string s', .string p', .int .i64 f', .int .i64 t'] : Array Value)[i]? = some v → W.cell? ⟨w.heap.size + 1, i, none⟩ = some v := by
    intro i v h
    rw [← hW, World.cell?_alloc_at _ _ _ _ (by simp), h]
  have E0 := Ext.ex (e0 0 _ rfl)
  have E1 := Ext.ex (e0 1 _ rfl)
  have E2 := Ext.ex (e0 2 _ rfl)
  have E3 := Ext.ex (e0 3 _ rfl)
  have F0 := Ext.ex (e1 0 _ rfl)
  have F1 := Ext.ex (e1 1 _ rfl)
  have F2 := Ext.ex (e1 2 _ rfl)
  have F3 := Ext.ex (e1 3 _ rfl)
  rw [hW] at HB
  have HW := Lib.hid hW
  clear e0 e1 hW
  cases b1 <;> cases b2
  all_goals
    go_enter Tryz.func65, Tryz.ntmps65
    go_wp2_with fail
    rw [HW.out]
    refine ext_wp fun X0 => ?_
    refine wp_region_ext X0 (by kernel_rfl) (by kernel_rfl) ?_
    repeat (first
      | go_big_quiet_step ((first
        | (go_at_call 63; with_reducible exact Ext.calls _ (D1.out _))
        | (go_at_call 63; with_reducible exact Ext.calls _ (D2.out _)))))
    refine wpQuiet_nil ?_
    intro _ hw'
    obtain ⟨X, rfl⟩ := hw'
    go_wp2_with fail
    go_ret
    exact ⟨ret_bool (by simp), HB.out.trans (X.2.mono HB.out.size)⟩
end Go.Proofs.YthdmceeipmmhjaaGreatDoor
